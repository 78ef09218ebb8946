/- 'coronerlaw17.EdgesNamed' is true, for every input. -/
import Derived.Test.YtenihfdlckgmmaaGreatRows
import Derived.Test.YtenihfdlckgmmaaGreatPart3
import Derived.Test.YtenihfdlckgmmaaGreatSort
import Derived.Test.YtenihfdlckgmmaaGreatTxn0
import Derived.Test.YtenihfdlckgmmaaGreatEdg0
import Derived.Test.YtenihfdlckgmmaaGreatAmOpenS
import Derived.Test.YtenihfdlckgmmaaGreatAmSortX
import Derived.Test.YtenihfdlckgmmaaGreatAmSortE
import Derived.Test.YtenihfdlckgmmaaGreatAmSepO
import Derived.Test.YtenihfdlckgmmaaGreatAmClosed
import Derived.Test.YtenihfdlckgmmaaGreatAmRead
import Derived.WalkKit
import Derived.ProofKit
import Derived.OpenShut
import Derived.JoinedOf
import Derived.Handed
import Derived.SizedLaws
namespace Go.Proofs.YtenihfdlckgmmaaGreat.AmEdgesNamed
open Go.ChangeShapes Go.WideShapes Go.ChangeAt Go.RowKit Go.AM Go.AM.G Go.AMS
set_option linter.unusedVariables false
set_option linter.unusedSimpArgs false
set_option maxRecDepth 100000

theorem zfj:Is Tryz.prog zbf zbq:=by unfold Is;kernel_rfl
theorem zki:Is Tryz.prog zac zcB:=by unfold Is;kernel_rfl
theorem zet:Is Tryz.prog zm zq:=by unfold Is;kernel_rfl
theorem zii:Is Tryz.prog za2 zbY:=by unfold Is;kernel_rfl
theorem zjk:Is Tryz.prog zaW zbB:=by unfold Is;kernel_rfl
theorem zgF:Is Tryz.prog zai zcz:=by unfold Is;kernel_rfl
theorem zkt:Is Tryz.prog zag zcJ:=by unfold Is;kernel_rfl
theorem zia:Is Tryz.prog zt zbl:=by unfold Is;kernel_rfl
theorem zic:Is Tryz.prog za5 zcp:=by unfold Is;kernel_rfl
theorem zgz:Is Tryz.prog zan zcH:=by unfold Is;kernel_rfl
theorem zi9:Is Tryz.prog zaK zcD:=by unfold Is;kernel_rfl
theorem zgy:Is Tryz.prog zau zca:=by unfold Is;kernel_rfl
theorem zj1:Is Tryz.prog zS zbt:=by unfold Is;kernel_rfl
theorem zfk:Is Tryz.prog zO zbP:=by unfold Is;kernel_rfl
theorem zfX:Is Tryz.prog zN zb4:=by unfold Is;kernel_rfl
theorem zh4:Is Tryz.prog zax zcj:=by unfold Is;kernel_rfl
theorem zjQ:Is Tryz.prog zad zbC:=by unfold Is;kernel_rfl
theorem zf1:Is Tryz.prog zas zbj:=by unfold Is;kernel_rfl
theorem zjG:Is Tryz.prog zaj zbA:=by unfold Is;kernel_rfl
theorem zis:Is Tryz.prog zI za4:=by unfold Is;kernel_rfl
theorem zho:Is Tryz.prog zF zb8:=by unfold Is;kernel_rfl
theorem ziq:Is Tryz.prog zP zcC:=by unfold Is;kernel_rfl
theorem zjE:Is Tryz.prog zaw zcA:=by unfold Is;kernel_rfl
theorem zhQ:Is Tryz.prog zaq zbw:=by unfold Is;kernel_rfl
theorem zfR:Is Tryz.prog zav zcl:=by unfold Is;kernel_rfl
theorem zgh:Is Tryz.prog zbK zcG:=by unfold Is;kernel_rfl
theorem zkr:Is Tryz.prog za7 zco:=by unfold Is;kernel_rfl
theorem zhN:Is Tryz.prog zaH zcn:=by unfold Is;kernel_rfl
theorem zf0:Is Tryz.prog zh zby:=by unfold Is;kernel_rfl
theorem zdR:Is Tryz.prog zb zl:=by unfold Is;kernel_rfl
theorem zjF:Is Tryz.prog zbc zce:=by unfold Is;kernel_rfl
theorem zfY:Is Tryz.prog zZ zcm:=by unfold Is;kernel_rfl
theorem zf6:Is Tryz.prog zaa zbF:=by unfold Is;kernel_rfl
theorem zg5:Is Tryz.prog z8 zcs:=by unfold Is;kernel_rfl
theorem zeO:Is Tryz.prog zd zf:=by unfold Is;kernel_rfl
theorem ziW:Is Tryz.prog zr zcc:=by unfold Is;kernel_rfl
theorem zkj:Is Tryz.prog zaz zcv:=by unfold Is;kernel_rfl
theorem zgm:Is Tryz.prog zaJ zbV:=by unfold Is;kernel_rfl
theorem zfb:Is Tryz.prog z9 zbD:=by unfold Is;kernel_rfl
theorem zgT:Is Tryz.prog zaC zcM:=by unfold Is;kernel_rfl
theorem zjm:Is Tryz.prog za1 zbZ:=by unfold Is;kernel_rfl
theorem zgR:Is Tryz.prog zat zcL:=by unfold Is;kernel_rfl
theorem zfd:Is Tryz.prog zo zbJ:=by unfold Is;kernel_rfl
theorem zfI:Is Tryz.prog zaT zcx:=by unfold Is;kernel_rfl
theorem zkn:Is Tryz.prog zal zbx:=by unfold Is;kernel_rfl
theorem zjU:Is Tryz.prog zaG zcd:=by unfold Is;kernel_rfl
theorem ziK:Is Tryz.prog zK zcr:=by unfold Is;kernel_rfl
theorem zf9:Is Tryz.prog zaV zcf:=by unfold Is;kernel_rfl
theorem zgu:Is Tryz.prog za0 zb7:=by unfold Is;kernel_rfl
theorem zdF:Is Tryz.prog zc zE:=by unfold Is;kernel_rfl
theorem zhp:Is Tryz.prog zM zb1:=by unfold Is;kernel_rfl
theorem zjL:Is Tryz.prog zak zcN:=by unfold Is;kernel_rfl
theorem zgB:Is Tryz.prog zbd zbp:=by unfold Is;kernel_rfl
theorem zj8:Is Tryz.prog zaA zbE:=by unfold Is;kernel_rfl
theorem zio:Is Tryz.prog zaF zbM:=by unfold Is;kernel_rfl
theorem zf8:Is Tryz.prog zae zcP:=by unfold Is;kernel_rfl
theorem ziR:Is Tryz.prog zaZ zb2:=by unfold Is;kernel_rfl
theorem zkw:Is Tryz.prog zbb zbs:=by unfold Is;kernel_rfl
theorem zjY:Is Tryz.prog zX zcu:=by unfold Is;kernel_rfl
theorem zj0:Is Tryz.prog zz zbr:=by unfold Is;kernel_rfl
theorem zfG:Is Tryz.prog zC zcF:=by unfold Is;kernel_rfl
theorem zfq:Is Tryz.prog zaS zcS:=by unfold Is;kernel_rfl
theorem zgo:Is Tryz.prog zaE zcR:=by unfold Is;kernel_rfl
theorem zhA:Is Tryz.prog zah zct:=by unfold Is;kernel_rfl
theorem zgk:Is Tryz.prog zx zb0:=by unfold Is;kernel_rfl
theorem zhj:Is Tryz.prog zaM zcw:=by unfold Is;kernel_rfl
theorem zjn:Is Tryz.prog zV zbX:=by unfold Is;kernel_rfl
theorem ziT:Is Tryz.prog zar zbI:=by unfold Is;kernel_rfl
theorem zgX:Is Tryz.prog za8 zbN:=by unfold Is;kernel_rfl
theorem zhB:Is Tryz.prog zL zcK:=by unfold Is;kernel_rfl
theorem zfK:Is Tryz.prog zaD zbz:=by unfold Is;kernel_rfl
theorem zh2:Is Tryz.prog zaP zbL:=by unfold Is;kernel_rfl
theorem zfF:Is Tryz.prog zay zbQ:=by unfold Is;kernel_rfl
theorem zjB:Is Tryz.prog zaX zbH:=by unfold Is;kernel_rfl
theorem ziY:Is Tryz.prog za3 zbW:=by unfold Is;kernel_rfl
theorem zix:Is Tryz.prog zaL zbU:=by unfold Is;kernel_rfl
theorem zkA:Is Tryz.prog zbe zcb:=by unfold Is;kernel_rfl
theorem zjs:Is Tryz.prog ze zb9:=by unfold Is;kernel_rfl
theorem zhq:Is Tryz.prog zaf zbT:=by unfold Is;kernel_rfl
theorem ziD:Is Tryz.prog zi zcq:=by unfold Is;kernel_rfl
theorem zhs:Is Tryz.prog zR zck:=by unfold Is;kernel_rfl
theorem zjc:Is Tryz.prog zaN zbh:=by unfold Is;kernel_rfl
theorem ziv:Is Tryz.prog zao zbk:=by unfold Is;kernel_rfl
theorem ziU:Is Tryz.prog za6 zbR:=by unfold Is;kernel_rfl
theorem zjK:Is Tryz.prog zj zch:=by unfold Is;kernel_rfl
theorem zgd:Is Tryz.prog zab zcQ:=by unfold Is;kernel_rfl
theorem zjf:Is Tryz.prog zu zb5:=by unfold Is;kernel_rfl
theorem zfx:Is Tryz.prog zaB zbn:=by unfold Is;kernel_rfl
theorem nopin:noPin Tryz.prog=true:=by kernel_rfl
section
open Go.Shelf Go.RowKit Go.Lib Go.Sort
set_option maxHeartbeats 1000000 in
theorem closureTxn (x y:M3) (W:World):Calls Tryz.prog 42 #[.agg #[.int .i64 x.id,x.a,x.b],.agg #[.int .i64 y.id,y.a,y.b]] W fun e w'=>e=.returned (.int .i64 (Lib.compareInt x.id y.id))∧∃ q os',w'=grow (W.drewN q) os':=by
  have hcon:=fun W'=>AnyG.cmp_Compare_int Tryz.cmpInt x.id y.id W'
  change ∀ W',Calls Tryz.prog 33 _ _ _ at hcon
  generalize Lib.compareInt x.id y.id=r at hcon ⊢
  go_enter Tryz.func42,Tryz.ntmps42
  go_wp2_with (go_at_call 33;refine (hcon _).mono ?_;rintro e w' ⟨rfl,rfl⟩)
  go_ret
  exact ⟨rfl,0,_,by rw [alloc_eq_grow,alloc_eq_grow,grow_grow];rfl⟩
theorem cmpLaysTxn (blk off size:Nat) (w:World):CmpLays Tryz.prog 42 #[] M3.enc 3 M3.cf blk off size w :=
  fun _ _ _ _ x y=>closureTxn x y _
theorem zdO (blk off cap:Nat) (d:Array M3) (w:World) (hH:HoldsK M3.enc 3 w blk off d) (hblk:blk < w.heap.size) (hsz:d.size < 4611686018427387904) :
    Calls Tryz.prog 41 #[.slice (some ⟨blk,off,none⟩) d.size cap,.func (.func 42) #[] #[]] w fun e w'=>e=.returned (.tuple #[])∧∃ d' n os,PermIn 0 d.size d d'∧SortedIn (ltOf M3.cf) 0 d.size d'∧w'=sortWorldK M3.enc 3 w blk off n d' os:=by
  have eg:∀ args w,(callFunc 42 args).run Tryz.prog w=.ok (.enter 42 args) w:=enters_of Tryz.func42 (by kernel_rfl) rfl
  exact AnyQ.slices_SortFunc Tryz.sortTxn 3 Tryz.isAgg64 Tryz.sizeOf64 M3.enc (fun _=>rfl) (fun x v hv=>by simp [M3.enc] at hv;rcases hv with rfl|rfl|rfl <;> first|rfl|exact x.ha|exact x.hb) M3.cf M3.swo 42 #[] blk off cap d w eg (cmpLaysTxn blk off d.size w) hH hblk hsz
theorem zeN (p:Option Addr) (cap:Nat) (fv:Value) (w:World):Calls Tryz.prog 41 #[.slice p 0 cap,fv] w fun e w'=>e=.returned (.tuple #[])∧w'=w:=AnyF.slices_SortFunc_none Tryz.sortTxn p cap fv w
end
section
open Go.Shelf Go.RowKit Go.Lib Go.Sort
def tabC:List (Nat × ADef):=[(zd,.code zf),(zb,.code zl),(zm,.code zq),(zc,.code zE)]
theorem zhf:ProgOk Tryz.prog (tabP tabC):=by
  refine tab_ok ?_
  unfold tabC
  simp only [List.forall_mem_cons,List.not_mem_nil,false_implies,implies_true,and_true]
  exact ⟨zeO,zdR,zet,zdF⟩
theorem zfy (x y:M6):∃ n h',callV (tabP tabC) n (.func 10) [.agg x.enc.toArray,.agg y.enc.toArray] Heap.empty=some (.int .i64 (M6.cf x y),h'):=zj2 (prog:=tabP tabC) (by kernel_rfl) (by kernel_rfl) (by kernel_rfl) (by kernel_rfl) x y
theorem zfu (x:M6):x.enc.length=6:=by show (x6c x.l).length=6;unfold x6c;rw [List.length_map];exact x.h
theorem zft (x:M6) (v:Value) (hv:v ∈ x.enc):v.oneCell'=true:=by
  obtain ⟨n,_,rfl⟩:=List.mem_map.1 (show v ∈ x.l.map (Value.int .i64) from hv)
  rfl
set_option maxHeartbeats 1000000 in
theorem zeT (blk off cap:Nat) (d:Array M6) (w:World) (hH:HoldsK M6.enc 6 w blk off d) (hblk:blk < w.heap.size) (hsz:d.size < 4611686018427387904) :
    Calls Tryz.prog 35 #[.slice (some ⟨blk,off,none⟩) d.size cap,.func (.func 10) #[] #[]] w fun e w'=>e=.returned (.tuple #[])∧∃ n os,w'=sortWorldK M6.enc 6 w blk off n (d.toList.mergeSort fun x y=>!(ltOf M6.cf) y x).toArray os:=by
  have eg:∀ args w,(callFunc 10 args).run Tryz.prog w=.ok (.enter 10 args) w:=enters_of Tryz.func10 (by kernel_rfl) rfl
  exact AnyQ.slices_SortFunc_total Tryz.sortEdg 6 Tryz.isAgg24 Tryz.sizeOf24 M6.enc zfu zft M6.cf M6.swo 10 #[] blk off cap d w eg (cmp_lays zhf nopin zfy blk off d.size w) hH hblk hsz M6.tot
theorem zd4 (p:Option Addr) (cap:Nat) (fv:Value) (w:World):Calls Tryz.prog 35 #[.slice p 0 cap,fv] w fun e w'=>e=.returned (.tuple #[])∧w'=w:=AnyF.slices_SortFunc_none Tryz.sortEdg p cap fv w
end
noncomputable def tab0:List (Nat × ADef):=[(zaO,.oracle sortOI),(zaI,.oracle (sortXO zJ)),(zaR,.oracle (sortEO zc))]
theorem zjH:ProgOk Tryz.prog (readP Tryz.prog tab0):=by
  refine read_ok ?_
  unfold tab0
  simp only [List.forall_mem_cons,List.not_mem_nil,false_implies,implies_true,and_true]
  exact ⟨⟨_,rfl,sortOI_ok (sort_ok ⟨_,Tryz.func84,rfl,rfl⟩ Tryz.slices_Sort_int Tryz.slices_Sort_int_none)⟩,⟨_,rfl,sortX_ok ⟨_,Tryz.func41,rfl,rfl⟩ zdO zeN⟩,⟨_,rfl,sortE_ok ⟨_,Tryz.func35,rfl,rfl⟩ zeT zd4⟩⟩

theorem zhG:(callV (readP Tryz.prog tab0) 200 (.func zG) [] Heap.empty).map (·.1)=some (.bool true):=by kernel_rfl
theorem ziu:OracleOk Tryz.prog zG (closedO (.bool true)):=by
  obtain ⟨⟨v,h⟩,h1,h2⟩:=Option.map_eq_some_iff.1 zhG
  simp only at h2;subst h2
  exact closed_ok zjH rfl h1
theorem zjR:ProgOk Tryz.prog (tabP tab1):=by
  refine tab_ok ?_
  unfold tab1
  simp only [List.forall_mem_cons,List.not_mem_nil,false_implies,implies_true,and_true]
  exact ⟨zfj,zki,zet,zii,zjk,zgF,zkt,zia,zic,zgz,zi9,zgy,zj1,zfk,zfX,zh4,zjQ,zf1,zjG,zis,zho,ziq,zjE,zhQ,zfR,zgh,zkr,zhN,zf0,zdR,zjF,zfY,zf6,zg5,zeO,ziW,zkj,zgm,zfb,zgT,zjm,zgR,zfd,zfI,zkn,zjU,ziK,zf9,zgu,zdF,zhp,zjL,zgB,zj8,zio,zf8,ziR,zkw,zjY,zj0,zfG,zfq,zgo,zhA,zgk,zhj,zjn,ziT,zgX,zhB,zfK,zh2,zfF,zjB,ziY,zix,zkA,zjs,zhq,ziD,zhs,zjc,ziv,ziU,zjK,zgd,zjf,zfx,sort_ok ⟨_,Tryz.func84,rfl,rfl⟩ Tryz.slices_Sort_int Tryz.slices_Sort_int_none,sortX_ok ⟨_,Tryz.func41,rfl,rfl⟩ zdO zeN,sortE_ok ⟨_,Tryz.func35,rfl,rfl⟩ zeT zd4,ziu⟩

theorem own:ownKnob Tryz.prog.godebug=none:=by kernel_rfl
theorem laid:laidOutB Tryz.prog=true:=by kernel_rfl
theorem okp:(Tryz.f5.params.toList.all fun t=>Tryz.prog.readableRec t && decide (t < Tryz.prog.types.size))=true:=by kernel_rfl
theorem rt:Tryz.f5.resultTypes=#[4]:=by kernel_rfl
theorem ub:Tryz.prog.underlying 4=some .bool:=by kernel_rfl
theorem pt:Tryz.f5.params.toList=[32,3]:=by kernel_rfl
theorem b32:0 < Tryz.prog.bytesOf 32:=of_decide_eq_true (by kernel_rfl)
theorem c32:Tryz.prog.cellsOf 32=1:=by kernel_rfl
theorem u30:Tryz.prog.underlying 30=some (.slice 64):=by kernel_rfl
theorem b30:0 < Tryz.prog.bytesOf 30:=of_decide_eq_true (by kernel_rfl)
theorem c30:Tryz.prog.cellsOf 30=1:=by kernel_rfl
theorem b64:0 < Tryz.prog.bytesOf 64:=of_decide_eq_true (by kernel_rfl)
theorem c64:Tryz.prog.cellsOf 64=3:=by kernel_rfl
theorem u3:Tryz.prog.underlying 3=some (.int .i64):=by kernel_rfl
theorem b3:0 < Tryz.prog.bytesOf 3:=of_decide_eq_true (by kernel_rfl)
theorem c3:Tryz.prog.cellsOf 3=1:=by kernel_rfl
theorem u4:Tryz.prog.underlying 4=some (.bool):=by kernel_rfl
theorem b4:0 < Tryz.prog.bytesOf 4:=of_decide_eq_true (by kernel_rfl)
theorem c4:Tryz.prog.cellsOf 4=1:=by kernel_rfl
theorem u62:Tryz.prog.underlying 62=some (.slice 61):=by kernel_rfl
theorem b62:0 < Tryz.prog.bytesOf 62:=of_decide_eq_true (by kernel_rfl)
theorem c62:Tryz.prog.cellsOf 62=1:=by kernel_rfl
theorem b61:0 < Tryz.prog.bytesOf 61:=of_decide_eq_true (by kernel_rfl)
theorem c61:Tryz.prog.cellsOf 61=4:=by kernel_rfl
theorem u33:Tryz.prog.underlying 33=some (.slice 3):=by kernel_rfl
theorem b33:0 < Tryz.prog.bytesOf 33:=of_decide_eq_true (by kernel_rfl)
theorem c33:Tryz.prog.cellsOf 33=1:=by kernel_rfl
theorem fHi:fieldsOf Tryz.prog 32=[(30,0)]:=by kernel_rfl
theorem fTx:fieldsOf Tryz.prog 64=[(3,0),(4,1),(62,2)]:=by kernel_rfl
theorem fOp:fieldsOf Tryz.prog 61=[(4,0),(3,1),(3,2),(33,3)]:=by kernel_rfl

section
variable {H:Type} {enc:TypeId × Value→H}
theorem o32:Opens enc Tryz.prog 32 (kSl kHTx):=(opens_struct1 (K:=(kSl kHTx)) fHi c32 (opens_slice u30 c30 b64 (opens_struct3 (K:=kHTx) fTx c64 (opens_int u3 c3) (opens_bool u4 c4) (opens_slice u62 c62 b61 (opens_struct4 (K:=kHOp) fOp c61 (opens_bool u4 c4) (opens_int u3 c3) (opens_int u3 c3) (opens_slice u33 c33 b3 (opens_int u3 c3)) rfl rfl rfl rfl rfl (fun m v0 v1 v2 v3 a0 a1 a2 a3 h0 h1 h2 h3=>⟨⟨a0,a1,a2,a3⟩,v0,v1,v2,v3,rfl,h0,h1,h2,h3⟩))) rfl rfl rfl rfl (fun m v0 v1 v2 a0 a1 a2 h0 h1 h2=>⟨⟨a0,a1,a2⟩,v0,v1,v2,rfl,h0,h1,h2⟩))) rfl rfl (fun m v0 a0 h0=>⟨a0,h0⟩))
theorem o3:Opens enc Tryz.prog 3 (kInt .i64):=(opens_int u3 c3)

theorem contract (W:World) (base:Nat) (args:Array Value) (ds gs:List (DataW H)) (before:List MemPlace)
    (hval:∀ (j:Nat) t v,Tryz.f5.params[j]? = some t→args[j]? = some v→Value.okWide Tryz.prog W .any base t v)
    (hW:DataW.Whole enc Tryz.prog Tryz.f5.params.toList Rows.edgesNamedSpec.vars false W args.toList ds gs before)
    (hsz:(DataW.weightsEach Tryz.prog (Tryz.f5.params.toList++Rows.edgesNamedSpec.plain.varTypes Tryz.prog) (ds++gs)).all (·≤reachBytes)=true) :
    Calls Tryz.prog 5 args W fun e W'=>∃ v,e=.returned v∧Rows.edgesNamedSpec.post enc Tryz.prog Tryz.f5 false true false false W args v W':=by
  have hW':=hW
  obtain ⟨p,q,hA,hV,rfl,hfz,hnd⟩:=hW
  rw [pt] at hA
  rw [pt] at hsz
  obtain ⟨v0,vs0,d0,ds0,p0,q0,hargs,rfl,rfl,h0,r0⟩:=trodAll_cons hA
  obtain ⟨v1,vs1,d1,ds1,p1,q1,hargs1,rfl,rfl,h1,r1⟩:=trodAll_cons r0
  subst hargs1
  obtain ⟨rfl,rfl,rfl⟩:=trodAll_nil r1
  obtain ⟨rfl,rfl⟩:=trodVars_none hV
  obtain rfl:args=#[v0,v1]:=by cases args;simp_all
  have pt':Tryz.f5.params=#[32,3]:=by apply Array.ext';exact pt
  obtain ⟨fs0,uf0,_⟩:=fields_ex fHi
  obtain ⟨cs0,e0,z0⟩:=okWide_struct uf0 (hval 0 32 v0 (by rw [pt'];rfl) rfl)
  obtain ⟨u0,rfl⟩:∃ u,cs0=#[u]:=by
    rw [c32] at z0
    exact Array.size_eq_one_iff.1 z0
  subst e0
  clear z0
  obtain ⟨t0,ht0⟩:=h0
  obtain ⟨_,s0,l0,y0⟩:=o32.2 W t0 _ _ ht0 (wok_each hsz 0 _ _ rfl rfl)
  replace s0:=s0 u0 (by simp [Value.cells])
  obtain ⟨x0,y0,z0,m0⟩:=y0
  obtain rfl:norm u0=x0:=by simpa [Value.cells] using y0
  obtain ⟨b0,c0,g0⟩:=z0.form
  rw [g0] at z0
  obtain ⟨n1,e1⟩:=okWide_int u3 (hval 1 3 v1 (by rw [pt'];rfl) rfl)
  obtain ⟨s1,l1,y1⟩:=opens_arg1 o3 h1 (wok_each hsz 1 _ _ rfl rfl) (by rw [e1];rfl)
  have w1:=y1.2
  replace y1:norm v1=Value.int .i64 l1:=by have y:[norm v1]=_:=y1.1;simpa using y
  obtain ⟨n,v,H1,h1,hr,_,rfl⟩:=((zh5 (h:=l0) (key:=l1) w1).law (sat_arg (sat0 W) z0)).run
  try simp only [← g0,← y1] at hr
  exact contract_true zjR laid okp rt ub rfl W (pin_none nopin W) #[.agg #[u0],v1] [d0,d1] [] _ hW' ⟨rfl,rfl,rfl⟩ (aargs:=[.agg #[norm u0],norm v1]) (VL.cons (V.agg (l:=[norm u0]) (l':=[u0]) rfl (VL.cons s0 (VL.nil _)).2) (VL.cons s1 (VL.nil _))) hr
end

theorem lifted (os:Os) (started:os.Started) (H:Type) (enc:TypeId × Value→H) :
    ReturnsInHanded {} @Tryz.checked os 5 .any (Rows.edgesNamedSpec.pre6 enc Tryz.prog Tryz.f5 Rows.edgesNamedRow.domain false) (Rows.edgesNamedSpec.post enc Tryz.prog Tryz.f5 false true false false):=by
  refine returnsInHanded_of_change_sized (C:=@Tryz.checked) own started (by kernel_rfl) @Tryz.func5
    (ChangeSpec.witness6 (enc:=enc) (C:=@Tryz.checked) false ⟨#[],#[.agg #[.slice none 0 0],.int .i64 0],[]⟩ 8 (by kernel_rfl) (by kernel_rfl) (by kernel_rfl) (by kernel_rfl)) ?_
  intro W base args ds gs before hval hW _ hsz _
  exact contract W base args ds gs before hval hW hsz

theorem over:Rows.edgesNamedRow.holds @Tryz.pinned (OpenSpec.ofChange Rows.edgesNamedSpec) :=
  OpenClaim.holds_of_wide 5 @Tryz.f5 rfl rfl rfl rfl rfl rfl rfl ⟨rfl,rfl,rfl,rfl,rfl⟩ rfl rfl rfl rfl rfl (by kernel_rfl) @Tryz.func5 (by kernel_rfl)
    (of_decide_eq_true (by kernel_rfl)) (by unfold Func.isWrapper;first|(rw [if_pos (by decide +kernel)];kernel_rfl)|(rw [if_neg (by decide +kernel)];exact ⟨rfl,rfl⟩))
    (fun os started H enc _=>lifted os started H enc)

theorem proved:Rows.EdgesNamedSaid:=over
#print axioms proved
end Go.Proofs.YtenihfdlckgmmaaGreat.AmEdgesNamed
