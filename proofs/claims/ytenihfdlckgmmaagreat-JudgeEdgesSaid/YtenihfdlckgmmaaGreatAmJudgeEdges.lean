/- 'coronerlaw33.JudgeEdges' is true, for every input. -/
import Derived.Test.YtenihfdlckgmmaaGreatRows
import Derived.Test.YtenihfdlckgmmaaGreatPart4
import Derived.Test.YtenihfdlckgmmaaGreatSort
import Derived.Test.YtenihfdlckgmmaaGreatTxn0
import Derived.Test.YtenihfdlckgmmaaGreatAmOpenS
import Derived.Test.YtenihfdlckgmmaaGreatAmSortX
import Derived.Test.YtenihfdlckgmmaaGreatAmSepO
import Derived.Test.YtenihfdlckgmmaaGreatAmClosed
import Derived.Test.YtenihfdlckgmmaaGreatAmRead
import Derived.WalkKit
import Derived.ProofKit
import Derived.OpenShut
import Derived.JoinedOf
import Derived.Handed
import Derived.SizedLaws
namespace Go.Proofs.YtenihfdlckgmmaaGreat.AmJudgeEdges
open Go.ChangeShapes Go.WideShapes Go.ChangeAt Go.RowKit Go.AM Go.AM.G Go.AMS
set_option linter.unusedVariables false
set_option linter.unusedSimpArgs false
set_option maxRecDepth 100000

theorem zgR:Is Tryz.prog zbb zcB:=by unfold Is;kernel_rfl
theorem zhJ:Is Tryz.prog zaZ zck:=by unfold Is;kernel_rfl
theorem zjh:Is Tryz.prog zaI zdb:=by unfold Is;kernel_rfl
theorem zfX:Is Tryz.prog zA zc1:=by unfold Is;kernel_rfl
theorem zii:Is Tryz.prog zbn zct:=by unfold Is;kernel_rfl
theorem zgV:Is Tryz.prog zbf zcS:=by unfold Is;kernel_rfl
theorem zj8:Is Tryz.prog zbs zbJ:=by unfold Is;kernel_rfl
theorem ziP:Is Tryz.prog zar zbT:=by unfold Is;kernel_rfl
theorem zhg:Is Tryz.prog zao zby:=by unfold Is;kernel_rfl
theorem zlN:Is Tryz.prog zu zcU:=by unfold Is;kernel_rfl
theorem zgM:Is Tryz.prog zm zcm:=by unfold Is;kernel_rfl
theorem zgO:Is Tryz.prog zae zb3:=by unfold Is;kernel_rfl
theorem zls:Is Tryz.prog zi zcn:=by unfold Is;kernel_rfl
theorem ziu:Is Tryz.prog z9 zbL:=by unfold Is;kernel_rfl
theorem zkX:Is Tryz.prog za3 zc7:=by unfold Is;kernel_rfl
theorem zi0:Is Tryz.prog zag zcp:=by unfold Is;kernel_rfl
theorem zgS:Is Tryz.prog zaK zcR:=by unfold Is;kernel_rfl
theorem zho:Is Tryz.prog zR zbZ:=by unfold Is;kernel_rfl
theorem zlw:Is Tryz.prog zy zaR:=by unfold Is;kernel_rfl
theorem zjY:Is Tryz.prog zad zde:=by unfold Is;kernel_rfl
theorem zlA:Is Tryz.prog zD zcI:=by unfold Is;kernel_rfl
theorem zlr:Is Tryz.prog z8 zdf:=by unfold Is;kernel_rfl
theorem zgI:Is Tryz.prog zbh zbO:=by unfold Is;kernel_rfl
theorem zh4:Is Tryz.prog zay zcN:=by unfold Is;kernel_rfl
theorem zkd:Is Tryz.prog za7 zbV:=by unfold Is;kernel_rfl
theorem zll:Is Tryz.prog zw zcK:=by unfold Is;kernel_rfl
theorem zh9:Is Tryz.prog zac zcg:=by unfold Is;kernel_rfl
theorem zjL:Is Tryz.prog zap zbw:=by unfold Is;kernel_rfl
theorem zld:Is Tryz.prog zaF zcH:=by unfold Is;kernel_rfl
theorem zhe:Is Tryz.prog zaa zcT:=by unfold Is;kernel_rfl
theorem zjO:Is Tryz.prog zB zcQ:=by unfold Is;kernel_rfl
theorem zjM:Is Tryz.prog zaS zce:=by unfold Is;kernel_rfl
theorem zj2:Is Tryz.prog zaE zbE:=by unfold Is;kernel_rfl
theorem zge:Is Tryz.prog zt zcl:=by unfold Is;kernel_rfl
theorem zg8:Is Tryz.prog zv zc4:=by unfold Is;kernel_rfl
theorem zkY:Is Tryz.prog zbp zbW:=by unfold Is;kernel_rfl
theorem zid:Is Tryz.prog zbc zbR:=by unfold Is;kernel_rfl
theorem ziw:Is Tryz.prog zV zco:=by unfold Is;kernel_rfl
theorem zhG:Is Tryz.prog zaL zcs:=by unfold Is;kernel_rfl
theorem zio:Is Tryz.prog zbu zc0:=by unfold Is;kernel_rfl
theorem zlg:Is Tryz.prog zK zcY:=by unfold Is;kernel_rfl
theorem zie:Is Tryz.prog zah zcC:=by unfold Is;kernel_rfl
theorem zg1:Is Tryz.prog zF zba:=by unfold Is;kernel_rfl
theorem zjp:Is Tryz.prog zM zdp:=by unfold Is;kernel_rfl
theorem zky:Is Tryz.prog zaG zc9:=by unfold Is;kernel_rfl
theorem zi9:Is Tryz.prog zaC zb8:=by unfold Is;kernel_rfl
theorem zg4:Is Tryz.prog zj zdq:=by unfold Is;kernel_rfl
theorem zhZ:Is Tryz.prog za0 zb6:=by unfold Is;kernel_rfl
theorem zke:Is Tryz.prog zaU zc5:=by unfold Is;kernel_rfl
theorem zj6:Is Tryz.prog zb zcO:=by unfold Is;kernel_rfl
theorem zhH:Is Tryz.prog zaV zbv:=by unfold Is;kernel_rfl
theorem zgt:Is Tryz.prog zz zbB:=by unfold Is;kernel_rfl
theorem zhy:Is Tryz.prog zaq zcq:=by unfold Is;kernel_rfl
theorem zgk:Is Tryz.prog zaY zdr:=by unfold Is;kernel_rfl
theorem zjB:Is Tryz.prog zcJ zcV:=by unfold Is;kernel_rfl
theorem zg9:Is Tryz.prog zas zb1:=by unfold Is;kernel_rfl
theorem zkP:Is Tryz.prog zai zcc:=by unfold Is;kernel_rfl
theorem zgP:Is Tryz.prog zaO zdd:=by unfold Is;kernel_rfl
theorem zks:Is Tryz.prog zaA zcZ:=by unfold Is;kernel_rfl
theorem ziF:Is Tryz.prog zaB zcd:=by unfold Is;kernel_rfl
theorem zjd:Is Tryz.prog zW zbI:=by unfold Is;kernel_rfl
theorem zkD:Is Tryz.prog za9 zci:=by unfold Is;kernel_rfl
theorem zh5:Is Tryz.prog za2 zch:=by unfold Is;kernel_rfl
theorem zjI:Is Tryz.prog zaQ zc8:=by unfold Is;kernel_rfl
theorem zhL:Is Tryz.prog zY zcE:=by unfold Is;kernel_rfl
theorem zjg:Is Tryz.prog zC zcW:=by unfold Is;kernel_rfl
theorem zjb:Is Tryz.prog zaw zbK:=by unfold Is;kernel_rfl
theorem zji:Is Tryz.prog zc zb4:=by unfold Is;kernel_rfl
theorem zlh:Is Tryz.prog zau zb7:=by unfold Is;kernel_rfl
theorem zhi:Is Tryz.prog zN zbP:=by unfold Is;kernel_rfl
theorem zg3:Is Tryz.prog zaf zcy:=by unfold Is;kernel_rfl
theorem zgr:Is Tryz.prog zak zdl:=by unfold Is;kernel_rfl
theorem zgU:Is Tryz.prog zbi zb5:=by unfold Is;kernel_rfl
theorem zi8:Is Tryz.prog zq zbN:=by unfold Is;kernel_rfl
theorem zgv:Is Tryz.prog zaM zcD:=by unfold Is;kernel_rfl
theorem ziC:Is Tryz.prog zT zbA:=by unfold Is;kernel_rfl
theorem zgX:Is Tryz.prog zbj zcP:=by unfold Is;kernel_rfl
theorem zj9:Is Tryz.prog zaJ zbC:=by unfold Is;kernel_rfl
theorem zgE:Is Tryz.prog zx zbD:=by unfold Is;kernel_rfl
theorem zhP:Is Tryz.prog za5 zbQ:=by unfold Is;kernel_rfl
theorem ziD:Is Tryz.prog zbo zcb:=by unfold Is;kernel_rfl
theorem zgb:Is Tryz.prog zL zbF:=by unfold Is;kernel_rfl
theorem zkg:Is Tryz.prog zbg zcu:=by unfold Is;kernel_rfl
theorem zfZ:Is Tryz.prog za6 zdo:=by unfold Is;kernel_rfl
theorem zgG:Is Tryz.prog zbm zcz:=by unfold Is;kernel_rfl
theorem zgy:Is Tryz.prog zbl zc6:=by unfold Is;kernel_rfl
theorem zkw:Is Tryz.prog zaT zds:=by unfold Is;kernel_rfl
theorem zlb:Is Tryz.prog za1 zbX:=by unfold Is;kernel_rfl
theorem zgl:Is Tryz.prog zaz zcf:=by unfold Is;kernel_rfl
theorem zjy:Is Tryz.prog za8 zbG:=by unfold Is;kernel_rfl
theorem zkh:Is Tryz.prog zam zdc:=by unfold Is;kernel_rfl
theorem zhc:Is Tryz.prog zd zdj:=by unfold Is;kernel_rfl
theorem zgn:Is Tryz.prog za4 zc2:=by unfold Is;kernel_rfl
theorem zgh:Is Tryz.prog zaj zcG:=by unfold Is;kernel_rfl
theorem zgF:Is Tryz.prog zS zcL:=by unfold Is;kernel_rfl
theorem zlf:Is Tryz.prog zbe zdm:=by unfold Is;kernel_rfl
theorem zhD:Is Tryz.prog zbt zcj:=by unfold Is;kernel_rfl
theorem zgQ:Is Tryz.prog zX zbY:=by unfold Is;kernel_rfl
theorem zgK:Is Tryz.prog zab zdn:=by unfold Is;kernel_rfl
theorem zkS:Is Tryz.prog zaX zcA:=by unfold Is;kernel_rfl
theorem zlJ:Is Tryz.prog zg zdg:=by unfold Is;kernel_rfl
theorem zkz:Is Tryz.prog zZ zdh:=by unfold Is;kernel_rfl
theorem zk3:Is Tryz.prog zaD zcx:=by unfold Is;kernel_rfl
theorem zg5:Is Tryz.prog zl zda:=by unfold Is;kernel_rfl
theorem zhI:Is Tryz.prog zaH zc3:=by unfold Is;kernel_rfl
theorem nopin:noPin Tryz.prog=true:=by kernel_rfl
section
open Go.Shelf Go.RowKit Go.Lib Go.Sort
set_option maxHeartbeats 1000000 in
theorem closureTxn (x y:M3) (W:World):Calls Tryz.prog 42 #[.agg #[.int .i64 x.id,x.a,x.b],.agg #[.int .i64 y.id,y.a,y.b]] W fun e w'=>e=.returned (.int .i64 (Lib.compareInt x.id y.id))∧∃ q os',w'=grow (W.drewN q) os':=by
  have hcon:=fun W'=>AnyG.cmp_Compare_int Tryz.cmpInt x.id y.id W'
  change ∀ W',Calls Tryz.prog 33 _ _ _ at hcon
  generalize Lib.compareInt x.id y.id=r at hcon ⊢
  go_enter Tryz.func42,Tryz.ntmps42
  go_wp2_with (go_at_call 33;refine (hcon _).mono ?_;rintro e w' ⟨rfl,rfl⟩)
  go_ret
  exact ⟨rfl,0,_,by rw [alloc_eq_grow,alloc_eq_grow,grow_grow];rfl⟩
theorem cmpLaysTxn (blk off size:Nat) (w:World):CmpLays Tryz.prog 42 #[] M3.enc 3 M3.cf blk off size w :=
  fun _ _ _ _ x y=>closureTxn x y _
theorem zfP (blk off cap:Nat) (d:Array M3) (w:World) (hH:HoldsK M3.enc 3 w blk off d) (hblk:blk < w.heap.size) (hsz:d.size < 4611686018427387904) :
    Calls Tryz.prog 41 #[.slice (some ⟨blk,off,none⟩) d.size cap,.func (.func 42) #[] #[]] w fun e w'=>e=.returned (.tuple #[])∧∃ d' n os,PermIn 0 d.size d d'∧SortedIn (ltOf M3.cf) 0 d.size d'∧w'=sortWorldK M3.enc 3 w blk off n d' os:=by
  have eg:∀ args w,(callFunc 42 args).run Tryz.prog w=.ok (.enter 42 args) w:=enters_of Tryz.func42 (by kernel_rfl) rfl
  exact AnyQ.slices_SortFunc Tryz.sortTxn 3 Tryz.isAgg64 Tryz.sizeOf64 M3.enc (fun _=>rfl) (fun x v hv=>by simp [M3.enc] at hv;rcases hv with rfl|rfl|rfl <;> first|rfl|exact x.ha|exact x.hb) M3.cf M3.swo 42 #[] blk off cap d w eg (cmpLaysTxn blk off d.size w) hH hblk hsz
theorem zfR (p:Option Addr) (cap:Nat) (fv:Value) (w:World):Calls Tryz.prog 41 #[.slice p 0 cap,fv] w fun e w'=>e=.returned (.tuple #[])∧w'=w:=AnyF.slices_SortFunc_none Tryz.sortTxn p cap fv w
end
noncomputable def tab0:List (Nat × ADef):=[(zaW,.oracle sortOI),(zbr,.oracle (sortXO zH))]
theorem ziW:ProgOk Tryz.prog (readP Tryz.prog tab0):=by
  refine read_ok ?_
  unfold tab0
  simp only [List.forall_mem_cons,List.not_mem_nil,false_implies,implies_true,and_true]
  exact ⟨⟨_,rfl,sortOI_ok (sort_ok ⟨_,Tryz.func84,rfl,rfl⟩ Tryz.slices_Sort_int Tryz.slices_Sort_int_none)⟩,⟨_,rfl,sortX_ok ⟨_,Tryz.func41,rfl,rfl⟩ zfP zfR⟩⟩

theorem zi1:(callV (readP Tryz.prog tab0) 200 (.func zG) [] Heap.empty).map (·.1)=some (.bool true):=by kernel_rfl
theorem zjF:OracleOk Tryz.prog zG (closedO (.bool true)):=by
  obtain ⟨⟨v,h⟩,h1,h2⟩:=Option.map_eq_some_iff.1 zi1
  simp only at h2;subst h2
  exact closed_ok ziW rfl h1
theorem zlC:ProgOk Tryz.prog (tabP tab1):=by
  refine tab_ok ?_
  unfold tab1
  simp only [List.forall_mem_cons,List.not_mem_nil,false_implies,implies_true,and_true]
  exact ⟨zgR,zhJ,zjh,zfX,zii,zgV,zj8,ziP,zhg,zlN,zgM,zgO,zls,ziu,zkX,zi0,zgS,zho,zlw,zjY,zlA,zlr,zgI,zh4,zkd,zll,zh9,zjL,zld,zhe,zjO,zjM,zj2,zge,zg8,zkY,zid,ziw,zhG,zio,zlg,zie,zg1,zjp,zky,zi9,zg4,zhZ,zke,zj6,zhH,zgt,zhy,zgk,zjB,zg9,zkP,zgP,zks,ziF,zjd,zkD,zh5,zjI,zhL,zjg,zjb,zji,zlh,zhi,zg3,zgr,zgU,zi8,zgv,ziC,zgX,zj9,zgE,zhP,ziD,zgb,zkg,zfZ,zgG,zgy,zkw,zlb,zgl,zjy,zkh,zhc,zgn,zgh,zgF,zlf,zhD,zgQ,zgK,zkS,zlJ,zkz,zk3,zg5,zhI,sort_ok ⟨_,Tryz.func84,rfl,rfl⟩ Tryz.slices_Sort_int Tryz.slices_Sort_int_none,sortX_ok ⟨_,Tryz.func41,rfl,rfl⟩ zfP zfR,zjF⟩

theorem own:ownKnob Tryz.prog.godebug=none:=by kernel_rfl
theorem laid:laidOutB Tryz.prog=true:=by kernel_rfl
theorem okp:(Tryz.f6.params.toList.all fun t=>Tryz.prog.readableRec t && decide (t < Tryz.prog.types.size))=true:=by kernel_rfl
theorem rt:Tryz.f6.resultTypes=#[4]:=by kernel_rfl
theorem ub:Tryz.prog.underlying 4=some .bool:=by kernel_rfl
theorem pt:Tryz.f6.params.toList=[32,24]:=by kernel_rfl
theorem b32:0 < Tryz.prog.bytesOf 32:=of_decide_eq_true (by kernel_rfl)
theorem c32:Tryz.prog.cellsOf 32=1:=by kernel_rfl
theorem u30:Tryz.prog.underlying 30=some (.slice 64):=by kernel_rfl
theorem b30:0 < Tryz.prog.bytesOf 30:=of_decide_eq_true (by kernel_rfl)
theorem c30:Tryz.prog.cellsOf 30=1:=by kernel_rfl
theorem b64:0 < Tryz.prog.bytesOf 64:=of_decide_eq_true (by kernel_rfl)
theorem c64:Tryz.prog.cellsOf 64=3:=by kernel_rfl
theorem u3:Tryz.prog.underlying 3=some (.int .i64):=by kernel_rfl
theorem b3:0 < Tryz.prog.bytesOf 3:=of_decide_eq_true (by kernel_rfl)
theorem c3:Tryz.prog.cellsOf 3=1:=by kernel_rfl
theorem u4:Tryz.prog.underlying 4=some (.bool):=by kernel_rfl
theorem b4:0 < Tryz.prog.bytesOf 4:=of_decide_eq_true (by kernel_rfl)
theorem c4:Tryz.prog.cellsOf 4=1:=by kernel_rfl
theorem u62:Tryz.prog.underlying 62=some (.slice 61):=by kernel_rfl
theorem b62:0 < Tryz.prog.bytesOf 62:=of_decide_eq_true (by kernel_rfl)
theorem c62:Tryz.prog.cellsOf 62=1:=by kernel_rfl
theorem b61:0 < Tryz.prog.bytesOf 61:=of_decide_eq_true (by kernel_rfl)
theorem c61:Tryz.prog.cellsOf 61=4:=by kernel_rfl
theorem u33:Tryz.prog.underlying 33=some (.slice 3):=by kernel_rfl
theorem b33:0 < Tryz.prog.bytesOf 33:=of_decide_eq_true (by kernel_rfl)
theorem c33:Tryz.prog.cellsOf 33=1:=by kernel_rfl
theorem b24:0 < Tryz.prog.bytesOf 24:=of_decide_eq_true (by kernel_rfl)
theorem c24:Tryz.prog.cellsOf 24=6:=by kernel_rfl
theorem fHi:fieldsOf Tryz.prog 32=[(30,0)]:=by kernel_rfl
theorem fTx:fieldsOf Tryz.prog 64=[(3,0),(4,1),(62,2)]:=by kernel_rfl
theorem fOp:fieldsOf Tryz.prog 61=[(4,0),(3,1),(3,2),(33,3)]:=by kernel_rfl
theorem fEd:fieldsOf Tryz.prog 24=[(3,0),(3,1),(3,2),(3,3),(3,4),(3,5)]:=by kernel_rfl
theorem arr6 {cs:Array Value} (h:cs.size=6):∃ a b c d e f,cs=#[a,b,c,d,e,f]:=by
  refine ⟨cs[0],cs[1],cs[2],cs[3],cs[4],cs[5],Array.ext (by simp [h]) fun i h1 h2=>?_⟩
  have h3:i=0∨i=1∨i=2∨i=3∨i=4∨i=5:=by omega
  rcases h3 with rfl|rfl|rfl|rfl|rfl|rfl <;> rfl

section
variable {H:Type} {enc:TypeId × Value→H}
theorem o32:Opens enc Tryz.prog 32 (kSl kHTx):=(opens_struct1 (K:=(kSl kHTx)) fHi c32 (opens_slice u30 c30 b64 (opens_struct3 (K:=kHTx) fTx c64 (opens_int u3 c3) (opens_bool u4 c4) (opens_slice u62 c62 b61 (opens_struct4 (K:=kHOp) fOp c61 (opens_bool u4 c4) (opens_int u3 c3) (opens_int u3 c3) (opens_slice u33 c33 b3 (opens_int u3 c3)) rfl rfl rfl rfl rfl (fun m v0 v1 v2 v3 a0 a1 a2 a3 h0 h1 h2 h3=>⟨⟨a0,a1,a2,a3⟩,v0,v1,v2,v3,rfl,h0,h1,h2,h3⟩))) rfl rfl rfl rfl (fun m v0 v1 v2 a0 a1 a2 h0 h1 h2=>⟨⟨a0,a1,a2⟩,v0,v1,v2,rfl,h0,h1,h2⟩))) rfl rfl (fun m v0 a0 h0=>⟨a0,h0⟩))
theorem o24:Opens enc Tryz.prog 24 kHEd:=(opens_struct6 (K:=kHEd) fEd c24 (opens_int u3 c3) (opens_int u3 c3) (opens_int u3 c3) (opens_int u3 c3) (opens_int u3 c3) (opens_int u3 c3) rfl rfl rfl rfl rfl rfl rfl (fun m v0 v1 v2 v3 v4 v5 a0 a1 a2 a3 a4 a5 h0 h1 h2 h3 h4 h5=>⟨⟨a0,a1,a2,a3,a4,a5⟩,v0,v1,v2,v3,v4,v5,rfl,h0,h1,h2,h3,h4,h5⟩))

theorem contract (W:World) (base:Nat) (args:Array Value) (ds gs:List (DataW H)) (before:List MemPlace)
    (hval:∀ (j:Nat) t v,Tryz.f6.params[j]? = some t→args[j]? = some v→Value.okWide Tryz.prog W .any base t v)
    (hW:DataW.Whole enc Tryz.prog Tryz.f6.params.toList Rows.judgeEdgesSpec.vars false W args.toList ds gs before)
    (hsz:(DataW.weightsEach Tryz.prog (Tryz.f6.params.toList++Rows.judgeEdgesSpec.plain.varTypes Tryz.prog) (ds++gs)).all (·≤reachBytes)=true) :
    Calls Tryz.prog 6 args W fun e W'=>∃ v,e=.returned v∧Rows.judgeEdgesSpec.post enc Tryz.prog Tryz.f6 false true false false W args v W':=by
  have hW':=hW
  obtain ⟨p,q,hA,hV,rfl,hfz,hnd⟩:=hW
  rw [pt] at hA
  rw [pt] at hsz
  obtain ⟨v0,vs0,d0,ds0,p0,q0,hargs,rfl,rfl,h0,r0⟩:=trodAll_cons hA
  obtain ⟨v1,vs1,d1,ds1,p1,q1,hargs1,rfl,rfl,h1,r1⟩:=trodAll_cons r0
  subst hargs1
  obtain ⟨rfl,rfl,rfl⟩:=trodAll_nil r1
  obtain ⟨rfl,rfl⟩:=trodVars_none hV
  obtain rfl:args=#[v0,v1]:=by cases args;simp_all
  have pt':Tryz.f6.params=#[32,24]:=by apply Array.ext';exact pt
  obtain ⟨fs0,uf0,_⟩:=fields_ex fHi
  obtain ⟨cs0,e0,z0⟩:=okWide_struct uf0 (hval 0 32 v0 (by rw [pt'];rfl) rfl)
  obtain ⟨u0,rfl⟩:∃ u,cs0=#[u]:=by
    rw [c32] at z0
    exact Array.size_eq_one_iff.1 z0
  subst e0
  clear z0
  obtain ⟨t0,ht0⟩:=h0
  obtain ⟨_,s0,l0,y0⟩:=o32.2 W t0 _ _ ht0 (wok_each hsz 0 _ _ rfl rfl)
  replace s0:=s0 u0 (by simp [Value.cells])
  obtain ⟨x0,y0,z0,m0⟩:=y0
  obtain rfl:norm u0=x0:=by simpa [Value.cells] using y0
  obtain ⟨b0,c0,g0⟩:=z0.form
  rw [g0] at z0
  obtain ⟨fs1,uf1,_⟩:=fields_ex fEd
  obtain ⟨cs1,e1,z1⟩:=okWide_struct uf1 (hval 1 24 v1 (by rw [pt'];rfl) rfl)
  rw [c24] at z1
  obtain ⟨ua1,ub1,uc1,ud1,ue1,ug1,rfl⟩:=arr6 z1
  subst e1
  clear z1
  obtain ⟨t1,ht1⟩:=h1
  obtain ⟨_,s1,l1,y1⟩:=o24.2 W t1 _ _ ht1 (wok_each hsz 1 _ _ rfl rfl)
  replace s1:∀ x ∈ [ua1,ub1,uc1,ud1,ue1,ug1],V (inj0 W) (norm x) x:=fun x hx=>s1 x (by simpa [Value.cells] using hx)
  obtain ⟨va1,vb1,vc1,vd1,ve1,vg1,hc1,qa1,qb1,qc1,qd1,qe1,qg1⟩:=y1
  replace hc1:[norm ua1,norm ub1,norm uc1,norm ud1,norm ue1,norm ug1]=[va1,vb1,vc1,vd1,ve1,vg1]:=by simpa [Value.cells] using hc1
  simp only [List.cons.injEq,and_true] at hc1
  obtain ⟨xa1,xb1,xc1,xd1,xe1,xg1⟩:=hc1
  have ga1:norm ua1=Value.int .i64 l1.src:=xa1.trans (List.cons.inj qa1.1).1
  have gb1:norm ub1=Value.int .i64 l1.dst:=xb1.trans (List.cons.inj qb1.1).1
  have gc1:norm uc1=Value.int .i64 l1.kind:=xc1.trans (List.cons.inj qc1.1).1
  have gd1:norm ud1=Value.int .i64 l1.key:=xd1.trans (List.cons.inj qd1.1).1
  have ge1:norm ue1=Value.int .i64 l1.left:=xe1.trans (List.cons.inj qe1.1).1
  have gg1:norm ug1=Value.int .i64 l1.right:=xg1.trans (List.cons.inj qg1.1).1
  obtain ⟨n,v,H1,h1,hr,_,rfl⟩:=((zlt (h:=l0) (x:=l1) ⟨qa1.2,qb1.2,qc1.2,qd1.2,qe1.2,qg1.2⟩).law (sat_arg (sat0 W) z0)).run
  try simp only [← g0,← ga1,← gb1,← gc1,← gd1,← ge1,← gg1] at hr
  exact contract_true zlC laid okp rt ub rfl W (pin_none nopin W) #[.agg #[u0],.agg #[ua1,ub1,uc1,ud1,ue1,ug1]] [d0,d1] [] _ hW' ⟨rfl,rfl,rfl⟩ (aargs:=[.agg #[norm u0],.agg #[norm ua1,norm ub1,norm uc1,norm ud1,norm ue1,norm ug1]]) (VL.cons (V.agg (l:=[norm u0]) (l':=[u0]) rfl (VL.cons s0 (VL.nil _)).2) (VL.cons (V.agg (l:=[norm ua1,norm ub1,norm uc1,norm ud1,norm ue1,norm ug1]) (l':=[ua1,ub1,uc1,ud1,ue1,ug1]) rfl (VL.cons (s1 _ (by simp)) (VL.cons (s1 _ (by simp)) (VL.cons (s1 _ (by simp)) (VL.cons (s1 _ (by simp)) (VL.cons (s1 _ (by simp)) (VL.cons (s1 _ (by simp)) (VL.nil _))))))).2) (VL.nil _))) hr
end

theorem lifted (os:Os) (started:os.Started) (H:Type) (enc:TypeId × Value→H) :
    ReturnsInHanded {} @Tryz.checked os 6 .any (Rows.judgeEdgesSpec.pre6 enc Tryz.prog Tryz.f6 Rows.judgeEdgesRow.domain false) (Rows.judgeEdgesSpec.post enc Tryz.prog Tryz.f6 false true false false):=by
  refine returnsInHanded_of_change_sized (C:=@Tryz.checked) own started (by kernel_rfl) @Tryz.func6
    (ChangeSpec.witness6 (enc:=enc) (C:=@Tryz.checked) false ⟨#[],#[.agg #[.slice none 0 0],.agg #[.int .i64 0,.int .i64 0,.int .i64 0,.int .i64 0,.int .i64 0,.int .i64 0]],[]⟩ 8 (by kernel_rfl) (by kernel_rfl) (by kernel_rfl) (by kernel_rfl)) ?_
  intro W base args ds gs before hval hW _ hsz _
  exact contract W base args ds gs before hval hW hsz

theorem over:Rows.judgeEdgesRow.holds @Tryz.pinned (OpenSpec.ofChange Rows.judgeEdgesSpec) :=
  OpenClaim.holds_of_wide 6 @Tryz.f6 rfl rfl rfl rfl rfl rfl rfl ⟨rfl,rfl,rfl,rfl,rfl⟩ rfl rfl rfl rfl rfl (by kernel_rfl) @Tryz.func6 (by kernel_rfl)
    (of_decide_eq_true (by kernel_rfl)) (by unfold Func.isWrapper;first|(rw [if_pos (by decide +kernel)];kernel_rfl)|(rw [if_neg (by decide +kernel)];exact ⟨rfl,rfl⟩))
    (fun os started H enc _=>lifted os started H enc)

theorem proved:Rows.JudgeEdgesSaid:=over
#print axioms proved
end Go.Proofs.YtenihfdlckgmmaaGreat.AmJudgeEdges
