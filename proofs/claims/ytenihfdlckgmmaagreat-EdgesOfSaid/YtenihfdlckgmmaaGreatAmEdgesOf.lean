/- 'coronerlaw17.EdgesOf' is true, for every input. -/
import Derived.Test.YtenihfdlckgmmaaGreatRows
import Derived.Test.YtenihfdlckgmmaaGreatPart4
import Derived.Test.YtenihfdlckgmmaaGreatSort
import Derived.Test.YtenihfdlckgmmaaGreatTxn0
import Derived.Test.YtenihfdlckgmmaaGreatEdg0
import Derived.Test.YtenihfdlckgmmaaGreatAmOpenS
import Derived.Test.YtenihfdlckgmmaaGreatAmSortX
import Derived.Test.YtenihfdlckgmmaaGreatAmSortE
import Derived.Test.YtenihfdlckgmmaaGreatAmSepP
import Derived.Test.YtenihfdlckgmmaaGreatAmLogic
import Derived.Test.YtenihfdlckgmmaaGreatAmRead
import Derived.WalkKit
import Derived.ProofKit
import Derived.OpenShut
import Derived.JoinedOf
import Derived.Handed
import Derived.SizedLaws
namespace Go.Proofs.YtenihfdlckgmmaaGreat.AmEdgesOf
open Go.ChangeShapes Go.WideShapes Go.ChangeAt Go.RowKit Go.AM Go.AM.G Go.AMS
set_option linter.unusedVariables false
set_option linter.unusedSimpArgs false
set_option maxRecDepth 100000

theorem zgH:Is Tryz.prog zcW zcC:=by unfold Is;kernel_rfl
theorem zk8:Is Tryz.prog zS zdl:=by unfold Is;kernel_rfl
theorem zkZ:Is Tryz.prog zaU zcg:=by unfold Is;kernel_rfl
theorem zeY:Is Tryz.prog zl zy:=by unfold Is;kernel_rfl
theorem zgb:Is Tryz.prog zaz zcX:=by unfold Is;kernel_rfl
theorem zgP:Is Tryz.prog za4 zco:=by unfold Is;kernel_rfl
theorem zi9:Is Tryz.prog zbi zb2:=by unfold Is;kernel_rfl
theorem zhv:Is Tryz.prog zba zcA:=by unfold Is;kernel_rfl
theorem zhM:Is Tryz.prog zP zbP:=by unfold Is;kernel_rfl
theorem zjH:Is Tryz.prog zbB zb6:=by unfold Is;kernel_rfl
theorem zgc:Is Tryz.prog zaX zcr:=by unfold Is;kernel_rfl
theorem zlf:Is Tryz.prog zaM zdt:=by unfold Is;kernel_rfl
theorem zkH:Is Tryz.prog za3 zcS:=by unfold Is;kernel_rfl
theorem zi7:Is Tryz.prog zab zbL:=by unfold Is;kernel_rfl
theorem zg0:Is Tryz.prog zR zdy:=by unfold Is;kernel_rfl
theorem ziN:Is Tryz.prog zC zc7:=by unfold Is;kernel_rfl
theorem zjt:Is Tryz.prog zU zc9:=by unfold Is;kernel_rfl
theorem zkm:Is Tryz.prog zbl zdh:=by unfold Is;kernel_rfl
theorem zi6:Is Tryz.prog zX zcE:=by unfold Is;kernel_rfl
theorem ziB:Is Tryz.prog zaW zcM:=by unfold Is;kernel_rfl
theorem zgm:Is Tryz.prog zY zdi:=by unfold Is;kernel_rfl
theorem zkB:Is Tryz.prog zF zaZ:=by unfold Is;kernel_rfl
theorem zl9:Is Tryz.prog zae zbJ:=by unfold Is;kernel_rfl
theorem zlZ:Is Tryz.prog zH zc6:=by unfold Is;kernel_rfl
theorem ziP:Is Tryz.prog zao zdc:=by unfold Is;kernel_rfl
theorem zhd:Is Tryz.prog za8 zcV:=by unfold Is;kernel_rfl
theorem zh3:Is Tryz.prog zbs zbQ:=by unfold Is;kernel_rfl
theorem zkE:Is Tryz.prog zau zcH:=by unfold Is;kernel_rfl
theorem zlk:Is Tryz.prog z9 zcB:=by unfold Is;kernel_rfl
theorem zk9:Is Tryz.prog zac zdu:=by unfold Is;kernel_rfl
theorem zgL:Is Tryz.prog zA zc5:=by unfold Is;kernel_rfl
theorem zfa:Is Tryz.prog zb zn:=by unfold Is;kernel_rfl
theorem zja:Is Tryz.prog zaR zbI:=by unfold Is;kernel_rfl
theorem ziF:Is Tryz.prog zad zcZ:=by unfold Is;kernel_rfl
theorem zgi:Is Tryz.prog zW zbT:=by unfold Is;kernel_rfl
theorem zic:Is Tryz.prog zbp zce:=by unfold Is;kernel_rfl
theorem ze6:Is Tryz.prog zd zi:=by unfold Is;kernel_rfl
theorem zlW:Is Tryz.prog zB zcs:=by unfold Is;kernel_rfl
theorem zjA:Is Tryz.prog zbx zc8:=by unfold Is;kernel_rfl
theorem zjN:Is Tryz.prog zax zcT:=by unfold Is;kernel_rfl
theorem zjI:Is Tryz.prog zaq zbM:=by unfold Is;kernel_rfl
theorem zlr:Is Tryz.prog zaE zc1:=by unfold Is;kernel_rfl
theorem zlo:Is Tryz.prog zbe zcb:=by unfold Is;kernel_rfl
theorem zhz:Is Tryz.prog zal zb8:=by unfold Is;kernel_rfl
theorem zjU:Is Tryz.prog zas zb7:=by unfold Is;kernel_rfl
theorem zi0:Is Tryz.prog zbh zdp:=by unfold Is;kernel_rfl
theorem zhk:Is Tryz.prog za2 zbZ:=by unfold Is;kernel_rfl
theorem zk0:Is Tryz.prog zbk zdd:=by unfold Is;kernel_rfl
theorem zln:Is Tryz.prog zq zcj:=by unfold Is;kernel_rfl
theorem zkY:Is Tryz.prog zbm zcl:=by unfold Is;kernel_rfl
theorem ziJ:Is Tryz.prog zbq zda:=by unfold Is;kernel_rfl
theorem zgK:Is Tryz.prog ze zdk:=by unfold Is;kernel_rfl
theorem ziG:Is Tryz.prog zaw zcd:=by unfold Is;kernel_rfl
theorem ziz:Is Tryz.prog zE zdf:=by unfold Is;kernel_rfl
theorem zg3:Is Tryz.prog zbA zci:=by unfold Is;kernel_rfl
theorem zj3:Is Tryz.prog zaG zcw:=by unfold Is;kernel_rfl
theorem zfT:Is Tryz.prog zc zO:=by unfold Is;kernel_rfl
theorem zhX:Is Tryz.prog zbD zcp:=by unfold Is;kernel_rfl
theorem zj0:Is Tryz.prog zT zbK:=by unfold Is;kernel_rfl
theorem zh6:Is Tryz.prog zaD zbW:=by unfold Is;kernel_rfl
theorem zk1:Is Tryz.prog zbf zcu:=by unfold Is;kernel_rfl
theorem zhY:Is Tryz.prog zbb zbV:=by unfold Is;kernel_rfl
theorem zk5:Is Tryz.prog zaA zdj:=by unfold Is;kernel_rfl
theorem zgD:Is Tryz.prog zan zbG:=by unfold Is;kernel_rfl
theorem zi4:Is Tryz.prog zaV zcm:=by unfold Is;kernel_rfl
theorem ziu:Is Tryz.prog zaN zck:=by unfold Is;kernel_rfl
theorem zla:Is Tryz.prog zar zbR:=by unfold Is;kernel_rfl
theorem zgk:Is Tryz.prog zM zcP:=by unfold Is;kernel_rfl
theorem zig:Is Tryz.prog zG zc3:=by unfold Is;kernel_rfl
theorem zkS:Is Tryz.prog zbn zcG:=by unfold Is;kernel_rfl
theorem zkl:Is Tryz.prog zg zc0:=by unfold Is;kernel_rfl
theorem ziW:Is Tryz.prog za0 zde:=by unfold Is;kernel_rfl
theorem zkx:Is Tryz.prog zQ zcL:=by unfold Is;kernel_rfl
theorem zk3:Is Tryz.prog za6 zdA:=by unfold Is;kernel_rfl
theorem zj4:Is Tryz.prog zx zcc:=by unfold Is;kernel_rfl
theorem zik:Is Tryz.prog zbw zcF:=by unfold Is;kernel_rfl
theorem zgd:Is Tryz.prog zaf zcJ:=by unfold Is;kernel_rfl
theorem zkF:Is Tryz.prog zaI zcf:=by unfold Is;kernel_rfl
theorem zgS:Is Tryz.prog zbc zcD:=by unfold Is;kernel_rfl
theorem zhB:Is Tryz.prog zD zb4:=by unfold Is;kernel_rfl
theorem ziS:Is Tryz.prog zaP zca:=by unfold Is;kernel_rfl
theorem zl0:Is Tryz.prog zbE zc2:=by unfold Is;kernel_rfl
theorem zlG:Is Tryz.prog z8 zdn:=by unfold Is;kernel_rfl
theorem zl4:Is Tryz.prog zaY zdr:=by unfold Is;kernel_rfl
theorem zgT:Is Tryz.prog zbv zcQ:=by unfold Is;kernel_rfl
theorem zhA:Is Tryz.prog zbd zch:=by unfold Is;kernel_rfl
theorem zlz:Is Tryz.prog zaF zcn:=by unfold Is;kernel_rfl
theorem zhn:Is Tryz.prog zaJ zbU:=by unfold Is;kernel_rfl
theorem zjS:Is Tryz.prog zbo zcK:=by unfold Is;kernel_rfl
theorem zlV:Is Tryz.prog zay zcq:=by unfold Is;kernel_rfl
theorem ziw:Is Tryz.prog za9 zb0:=by unfold Is;kernel_rfl
theorem zia:Is Tryz.prog zf zbO:=by unfold Is;kernel_rfl
theorem zgr:Is Tryz.prog zby zcY:=by unfold Is;kernel_rfl
theorem zkr:Is Tryz.prog zj zbY:=by unfold Is;kernel_rfl
theorem zi1:Is Tryz.prog zaa zdm:=by unfold Is;kernel_rfl
theorem zh2:Is Tryz.prog zam zdq:=by unfold Is;kernel_rfl
theorem zix:Is Tryz.prog zaL zdz:=by unfold Is;kernel_rfl
theorem zjP:Is Tryz.prog zbz zc4:=by unfold Is;kernel_rfl
theorem zkw:Is Tryz.prog zbj zcR:=by unfold Is;kernel_rfl
theorem zhC:Is Tryz.prog zp zdx:=by unfold Is;kernel_rfl
theorem zlS:Is Tryz.prog zag zbX:=by unfold Is;kernel_rfl
theorem zlw:Is Tryz.prog zaB zcy:=by unfold Is;kernel_rfl
theorem zkG:Is Tryz.prog zw zcI:=by unfold Is;kernel_rfl
theorem zls:Is Tryz.prog zaO zcx:=by unfold Is;kernel_rfl
theorem nopin:noPin Tryz.prog=true:=by kernel_rfl
section
open Go.Shelf Go.RowKit Go.Lib Go.Sort
set_option maxHeartbeats 1000000 in
theorem closureTxn (x y:M3) (W:World):Calls Tryz.prog 42 #[.agg #[.int .i64 x.id,x.a,x.b],.agg #[.int .i64 y.id,y.a,y.b]] W fun e w'=>e=.returned (.int .i64 (Lib.compareInt x.id y.id))∧∃ q os',w'=grow (W.drewN q) os':=by
  have hcon:=fun W'=>AnyG.cmp_Compare_int Tryz.cmpInt x.id y.id W'
  change ∀ W',Calls Tryz.prog 33 _ _ _ at hcon
  generalize Lib.compareInt x.id y.id=r at hcon ⊢
  go_enter Tryz.func42,Tryz.ntmps42
  go_wp2_with (go_at_call 33;refine (hcon _).mono ?_;rintro e w' ⟨rfl,rfl⟩)
  go_ret
  exact ⟨rfl,0,_,by rw [alloc_eq_grow,alloc_eq_grow,grow_grow];rfl⟩
theorem cmpLaysTxn (blk off size:Nat) (w:World):CmpLays Tryz.prog 42 #[] M3.enc 3 M3.cf blk off size w :=
  fun _ _ _ _ x y=>closureTxn x y _
theorem zfk (blk off cap:Nat) (d:Array M3) (w:World) (hH:HoldsK M3.enc 3 w blk off d) (hblk:blk < w.heap.size) (hsz:d.size < 4611686018427387904) :
    Calls Tryz.prog 41 #[.slice (some ⟨blk,off,none⟩) d.size cap,.func (.func 42) #[] #[]] w fun e w'=>e=.returned (.tuple #[])∧∃ d' n os,PermIn 0 d.size d d'∧SortedIn (ltOf M3.cf) 0 d.size d'∧w'=sortWorldK M3.enc 3 w blk off n d' os:=by
  have eg:∀ args w,(callFunc 42 args).run Tryz.prog w=.ok (.enter 42 args) w:=enters_of Tryz.func42 (by kernel_rfl) rfl
  exact AnyQ.slices_SortFunc Tryz.sortTxn 3 Tryz.isAgg64 Tryz.sizeOf64 M3.enc (fun _=>rfl) (fun x v hv=>by simp [M3.enc] at hv;rcases hv with rfl|rfl|rfl <;> first|rfl|exact x.ha|exact x.hb) M3.cf M3.swo 42 #[] blk off cap d w eg (cmpLaysTxn blk off d.size w) hH hblk hsz
theorem zeS (p:Option Addr) (cap:Nat) (fv:Value) (w:World):Calls Tryz.prog 41 #[.slice p 0 cap,fv] w fun e w'=>e=.returned (.tuple #[])∧w'=w:=AnyF.slices_SortFunc_none Tryz.sortTxn p cap fv w
end
section
open Go.Shelf Go.RowKit Go.Lib Go.Sort
def tabC:List (Nat × ADef):=[(zd,.code zi),(zb,.code zn),(zl,.code zy),(zc,.code zO)]
theorem zko:ProgOk Tryz.prog (tabP tabC):=by
  refine tab_ok ?_
  unfold tabC
  simp only [List.forall_mem_cons,List.not_mem_nil,false_implies,implies_true,and_true]
  exact ⟨ze6,zfa,zeY,zfT⟩
theorem zgM (x y:M6):∃ n h',callV (tabP tabC) n (.func 10) [.agg x.enc.toArray,.agg y.enc.toArray] Heap.empty=some (.int .i64 (M6.cf x y),h'):=zh5 (prog:=tabP tabC) (by kernel_rfl) (by kernel_rfl) (by kernel_rfl) (by kernel_rfl) x y
theorem zgR (x:M6):x.enc.length=6:=by show (x6c x.l).length=6;unfold x6c;rw [List.length_map];exact x.h
theorem zkq (x:M6) (v:Value) (hv:v ∈ x.enc):v.oneCell'=true:=by
  obtain ⟨n,_,rfl⟩:=List.mem_map.1 (show v ∈ x.l.map (Value.int .i64) from hv)
  rfl
set_option maxHeartbeats 1000000 in
theorem zfW (blk off cap:Nat) (d:Array M6) (w:World) (hH:HoldsK M6.enc 6 w blk off d) (hblk:blk < w.heap.size) (hsz:d.size < 4611686018427387904) :
    Calls Tryz.prog 35 #[.slice (some ⟨blk,off,none⟩) d.size cap,.func (.func 10) #[] #[]] w fun e w'=>e=.returned (.tuple #[])∧∃ n os,w'=sortWorldK M6.enc 6 w blk off n (d.toList.mergeSort fun x y=>!(ltOf M6.cf) y x).toArray os:=by
  have eg:∀ args w,(callFunc 10 args).run Tryz.prog w=.ok (.enter 10 args) w:=enters_of Tryz.func10 (by kernel_rfl) rfl
  exact AnyQ.slices_SortFunc_total Tryz.sortEdg 6 Tryz.isAgg24 Tryz.sizeOf24 M6.enc zgR zkq M6.cf M6.swo 10 #[] blk off cap d w eg (cmp_lays zko nopin zgM blk off d.size w) hH hblk hsz M6.tot
theorem zfj (p:Option Addr) (cap:Nat) (fv:Value) (w:World):Calls Tryz.prog 35 #[.slice p 0 cap,fv] w fun e w'=>e=.returned (.tuple #[])∧w'=w:=AnyF.slices_SortFunc_none Tryz.sortEdg p cap fv w
end
noncomputable def tab0:List (Nat × ADef):=[(zbg,.oracle sortOI),(zav,.oracle (sortXO zN)),(zaS,.oracle (sortEO zc))]
theorem zg2:ProgOk Tryz.prog (readP Tryz.prog tab0):=by
  refine read_ok ?_
  unfold tab0
  simp only [List.forall_mem_cons,List.not_mem_nil,false_implies,implies_true,and_true]
  exact ⟨⟨_,rfl,sortOI_ok (sort_ok ⟨_,Tryz.func84,rfl,rfl⟩ Tryz.slices_Sort_int Tryz.slices_Sort_int_none)⟩,⟨_,rfl,sortX_ok ⟨_,Tryz.func41,rfl,rfl⟩ zfk zeS⟩,⟨_,rfl,sortE_ok ⟨_,Tryz.func35,rfl,rfl⟩ zfW zfj⟩⟩

theorem zjE:(callV (readP Tryz.prog tab0) 200 (.func zI) [] Heap.empty).map (·.1)=some (.bool true):=by kernel_rfl
theorem zkf:OracleOk Tryz.prog zI (closedO (.bool true)):=by
  obtain ⟨⟨v,h⟩,h1,h2⟩:=Option.map_eq_some_iff.1 zjE
  simp only at h2;subst h2
  exact closed_ok zg2 rfl h1
theorem zhf:ProgOk Tryz.prog (tabP tab1):=by
  refine tab_ok ?_
  unfold tab1
  simp only [List.forall_mem_cons,List.not_mem_nil,false_implies,implies_true,and_true]
  exact ⟨zgH,zk8,zkZ,zeY,zgb,zgP,zi9,zhv,zhM,zjH,zgc,zlf,zkH,zi7,zg0,ziN,zjt,zkm,zi6,ziB,zgm,zkB,zl9,zlZ,ziP,zhd,zh3,zkE,zlk,zk9,zgL,zfa,zja,ziF,zgi,zic,ze6,zlW,zjA,zjN,zjI,zlr,zlo,zhz,zjU,zi0,zhk,zk0,zln,zkY,ziJ,zgK,ziG,ziz,zg3,zj3,zfT,zhX,zj0,zh6,zk1,zhY,zk5,zgD,zi4,ziu,zla,zgk,zig,zkS,zkl,ziW,zkx,zk3,zj4,zik,zgd,zkF,zgS,zhB,ziS,zl0,zlG,zl4,zgT,zhA,zlz,zhn,zjS,zlV,ziw,zia,zgr,zkr,zi1,zh2,zix,zjP,zkw,zhC,zlS,zlw,zkG,zls,sort_ok ⟨_,Tryz.func84,rfl,rfl⟩ Tryz.slices_Sort_int Tryz.slices_Sort_int_none,sortX_ok ⟨_,Tryz.func41,rfl,rfl⟩ zfk zeS,sortE_ok ⟨_,Tryz.func35,rfl,rfl⟩ zfW zfj,zkf⟩

theorem own:ownKnob Tryz.prog.godebug=none:=by kernel_rfl
theorem laid:laidOutB Tryz.prog=true:=by kernel_rfl
theorem okp:(Tryz.f4.params.toList.all fun t=>Tryz.prog.readableRec t && decide (t < Tryz.prog.types.size))=true:=by kernel_rfl
theorem rt:Tryz.f4.resultTypes=#[4]:=by kernel_rfl
theorem ub:Tryz.prog.underlying 4=some .bool:=by kernel_rfl
theorem pt:Tryz.f4.params.toList=[32,33]:=by kernel_rfl
theorem b32:0 < Tryz.prog.bytesOf 32:=of_decide_eq_true (by kernel_rfl)
theorem c32:Tryz.prog.cellsOf 32=1:=by kernel_rfl
theorem u30:Tryz.prog.underlying 30=some (.slice 64):=by kernel_rfl
theorem b30:0 < Tryz.prog.bytesOf 30:=of_decide_eq_true (by kernel_rfl)
theorem c30:Tryz.prog.cellsOf 30=1:=by kernel_rfl
theorem b64:0 < Tryz.prog.bytesOf 64:=of_decide_eq_true (by kernel_rfl)
theorem c64:Tryz.prog.cellsOf 64=3:=by kernel_rfl
theorem u3:Tryz.prog.underlying 3=some (.int .i64):=by kernel_rfl
theorem b3:0 < Tryz.prog.bytesOf 3:=of_decide_eq_true (by kernel_rfl)
theorem c3:Tryz.prog.cellsOf 3=1:=by kernel_rfl
theorem u4:Tryz.prog.underlying 4=some (.bool):=by kernel_rfl
theorem b4:0 < Tryz.prog.bytesOf 4:=of_decide_eq_true (by kernel_rfl)
theorem c4:Tryz.prog.cellsOf 4=1:=by kernel_rfl
theorem u62:Tryz.prog.underlying 62=some (.slice 61):=by kernel_rfl
theorem b62:0 < Tryz.prog.bytesOf 62:=of_decide_eq_true (by kernel_rfl)
theorem c62:Tryz.prog.cellsOf 62=1:=by kernel_rfl
theorem b61:0 < Tryz.prog.bytesOf 61:=of_decide_eq_true (by kernel_rfl)
theorem c61:Tryz.prog.cellsOf 61=4:=by kernel_rfl
theorem u33:Tryz.prog.underlying 33=some (.slice 3):=by kernel_rfl
theorem b33:0 < Tryz.prog.bytesOf 33:=of_decide_eq_true (by kernel_rfl)
theorem c33:Tryz.prog.cellsOf 33=1:=by kernel_rfl
theorem fHi:fieldsOf Tryz.prog 32=[(30,0)]:=by kernel_rfl
theorem fTx:fieldsOf Tryz.prog 64=[(3,0),(4,1),(62,2)]:=by kernel_rfl
theorem fOp:fieldsOf Tryz.prog 61=[(4,0),(3,1),(3,2),(33,3)]:=by kernel_rfl

section
variable {H:Type} {enc:TypeId × Value→H}
theorem o32:Opens enc Tryz.prog 32 (kSl kHTx):=(opens_struct1 (K:=(kSl kHTx)) fHi c32 (opens_slice u30 c30 b64 (opens_struct3 (K:=kHTx) fTx c64 (opens_int u3 c3) (opens_bool u4 c4) (opens_slice u62 c62 b61 (opens_struct4 (K:=kHOp) fOp c61 (opens_bool u4 c4) (opens_int u3 c3) (opens_int u3 c3) (opens_slice u33 c33 b3 (opens_int u3 c3)) rfl rfl rfl rfl rfl (fun m v0 v1 v2 v3 a0 a1 a2 a3 h0 h1 h2 h3=>⟨⟨a0,a1,a2,a3⟩,v0,v1,v2,v3,rfl,h0,h1,h2,h3⟩))) rfl rfl rfl rfl (fun m v0 v1 v2 a0 a1 a2 h0 h1 h2=>⟨⟨a0,a1,a2⟩,v0,v1,v2,rfl,h0,h1,h2⟩))) rfl rfl (fun m v0 a0 h0=>⟨a0,h0⟩))
theorem o33:Opens enc Tryz.prog 33 (kSl (kInt .i64)):=(opens_slice u33 c33 b3 (opens_int u3 c3))

theorem contract (W:World) (base:Nat) (args:Array Value) (ds gs:List (DataW H)) (before:List MemPlace)
    (hval:∀ (j:Nat) t v,Tryz.f4.params[j]? = some t→args[j]? = some v→Value.okWide Tryz.prog W .any base t v)
    (hW:DataW.Whole enc Tryz.prog Tryz.f4.params.toList Rows.edgesOfSpec.vars false W args.toList ds gs before)
    (hsz:(DataW.weightsEach Tryz.prog (Tryz.f4.params.toList++Rows.edgesOfSpec.plain.varTypes Tryz.prog) (ds++gs)).all (·≤reachBytes)=true) :
    Calls Tryz.prog 4 args W fun e W'=>∃ v,e=.returned v∧Rows.edgesOfSpec.post enc Tryz.prog Tryz.f4 false true false false W args v W':=by
  have hW':=hW
  obtain ⟨p,q,hA,hV,rfl,hfz,hnd⟩:=hW
  rw [pt] at hA
  rw [pt] at hsz
  obtain ⟨v0,vs0,d0,ds0,p0,q0,hargs,rfl,rfl,h0,r0⟩:=trodAll_cons hA
  obtain ⟨v1,vs1,d1,ds1,p1,q1,hargs1,rfl,rfl,h1,r1⟩:=trodAll_cons r0
  subst hargs1
  obtain ⟨rfl,rfl,rfl⟩:=trodAll_nil r1
  obtain ⟨rfl,rfl⟩:=trodVars_none hV
  obtain rfl:args=#[v0,v1]:=by cases args;simp_all
  have pt':Tryz.f4.params=#[32,33]:=by apply Array.ext';exact pt
  obtain ⟨fs0,uf0,_⟩:=fields_ex fHi
  obtain ⟨cs0,e0,z0⟩:=okWide_struct uf0 (hval 0 32 v0 (by rw [pt'];rfl) rfl)
  obtain ⟨u0,rfl⟩:∃ u,cs0=#[u]:=by
    rw [c32] at z0
    exact Array.size_eq_one_iff.1 z0
  subst e0
  clear z0
  obtain ⟨t0,ht0⟩:=h0
  obtain ⟨_,s0,l0,y0⟩:=o32.2 W t0 _ _ ht0 (wok_each hsz 0 _ _ rfl rfl)
  replace s0:=s0 u0 (by simp [Value.cells])
  obtain ⟨x0,y0,z0,m0⟩:=y0
  obtain rfl:norm u0=x0:=by simpa [Value.cells] using y0
  obtain ⟨b0,c0,g0⟩:=z0.form
  rw [g0] at z0
  obtain ⟨a1,n1,cc1,e1⟩:=okWide_slice u33 (hval 1 33 v1 (by rw [pt'];rfl) rfl)
  obtain ⟨s1,l1,y1⟩:=opens_arg1 o33 h1 (wok_each hsz 1 _ _ rfl rfl) (by rw [e1];rfl)
  obtain ⟨x1,y1,z1,m1⟩:=y1
  obtain rfl:norm v1=x1:=by simpa using y1
  obtain ⟨b1,c1,g1⟩:=z1.form
  rw [g1] at z1
  obtain ⟨n,v,H1,h1,hr,_,rfl⟩:=((zkK (h:=l0) (keys:=l1)).law (sat_arg (sat_arg (sat0 W) z1) z0)).run
  try simp only [← g0,← g1] at hr
  exact contract_true zhf laid okp rt ub rfl W (pin_none nopin W) #[.agg #[u0],v1] [d0,d1] [] _ hW' ⟨rfl,rfl,rfl⟩ (aargs:=[.agg #[norm u0],norm v1]) (VL.cons (V.agg (l:=[norm u0]) (l':=[u0]) rfl (VL.cons s0 (VL.nil _)).2) (VL.cons s1 (VL.nil _))) hr
end

theorem lifted (os:Os) (started:os.Started) (H:Type) (enc:TypeId × Value→H) :
    ReturnsInHanded {} @Tryz.checked os 4 .any (Rows.edgesOfSpec.pre6 enc Tryz.prog Tryz.f4 Rows.edgesOfRow.domain false) (Rows.edgesOfSpec.post enc Tryz.prog Tryz.f4 false true false false):=by
  refine returnsInHanded_of_change_sized (C:=@Tryz.checked) own started (by kernel_rfl) @Tryz.func4
    (ChangeSpec.witness6 (enc:=enc) (C:=@Tryz.checked) false ⟨#[],#[.agg #[.slice none 0 0],.slice none 0 0],[]⟩ 8 (by kernel_rfl) (by kernel_rfl) (by kernel_rfl) (by kernel_rfl)) ?_
  intro W base args ds gs before hval hW _ hsz _
  exact contract W base args ds gs before hval hW hsz

theorem over:Rows.edgesOfRow.holds @Tryz.pinned (OpenSpec.ofChange Rows.edgesOfSpec) :=
  OpenClaim.holds_of_wide 4 @Tryz.f4 rfl rfl rfl rfl rfl rfl rfl ⟨rfl,rfl,rfl,rfl,rfl⟩ rfl rfl rfl rfl rfl (by kernel_rfl) @Tryz.func4 (by kernel_rfl)
    (of_decide_eq_true (by kernel_rfl)) (by unfold Func.isWrapper;first|(rw [if_pos (by decide +kernel)];kernel_rfl)|(rw [if_neg (by decide +kernel)];exact ⟨rfl,rfl⟩))
    (fun os started H enc _=>lifted os started H enc)

theorem proved:Rows.EdgesOfSaid:=over
#print axioms proved
end Go.Proofs.YtenihfdlckgmmaaGreat.AmEdgesOf
