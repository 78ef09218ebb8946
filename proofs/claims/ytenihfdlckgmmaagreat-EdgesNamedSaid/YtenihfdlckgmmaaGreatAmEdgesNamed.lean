/- 'coronerlaw17.EdgesNamed' is true, for every input. -/
import Derived.Test.YtenihfdlckgmmaaGreatRows
import Derived.Test.YtenihfdlckgmmaaGreatPart3
import Derived.Test.YtenihfdlckgmmaaGreatSort
import Derived.Test.YtenihfdlckgmmaaGreatTxn0
import Derived.Test.YtenihfdlckgmmaaGreatEdg0
import Derived.Test.YtenihfdlckgmmaaGreatAmOpenS
import Derived.Test.YtenihfdlckgmmaaGreatAmSortX
import Derived.Test.YtenihfdlckgmmaaGreatAmSortE
import Derived.Test.YtenihfdlckgmmaaGreatAmSepP
import Derived.Test.YtenihfdlckgmmaaGreatAmLogic
import Derived.Test.YtenihfdlckgmmaaGreatAmRead
import Derived.WalkKit
import Derived.ProofKit
import Derived.OpenShut
import Derived.JoinedOf
import Derived.Handed
import Derived.SizedLaws
namespace Go.Proofs.YtenihfdlckgmmaaGreat.AmEdgesNamed
open Go.ChangeShapes Go.WideShapes Go.ChangeAt Go.RowKit Go.AM Go.AM.G Go.AMS
set_option linter.unusedVariables false
set_option linter.unusedSimpArgs false
set_option maxRecDepth 100000

theorem zkn:Is Tryz.prog za1 zbN:=by unfold Is;kernel_rfl
theorem ziv:Is Tryz.prog zad zb6:=by unfold Is;kernel_rfl
theorem zeV:Is Tryz.prog zj zp:=by unfold Is;kernel_rfl
theorem zjS:Is Tryz.prog zau zb7:=by unfold Is;kernel_rfl
theorem zhb:Is Tryz.prog zaK zcP:=by unfold Is;kernel_rfl
theorem zh7:Is Tryz.prog zan zbH:=by unfold Is;kernel_rfl
theorem zhw:Is Tryz.prog zaq zbi:=by unfold Is;kernel_rfl
theorem ziN:Is Tryz.prog zt zbv:=by unfold Is;kernel_rfl
theorem zjR:Is Tryz.prog zaj zcb:=by unfold Is;kernel_rfl
theorem zks:Is Tryz.prog zbe zcN:=by unfold Is;kernel_rfl
theorem zi2:Is Tryz.prog zaA zcS:=by unfold Is;kernel_rfl
theorem zg5:Is Tryz.prog zat zci:=by unfold Is;kernel_rfl
theorem zfg:Is Tryz.prog zW zcR:=by unfold Is;kernel_rfl
theorem zhc:Is Tryz.prog z9 zcq:=by unfold Is;kernel_rfl
theorem zhz:Is Tryz.prog zU zcu:=by unfold Is;kernel_rfl
theorem zhI:Is Tryz.prog zaz zbR:=by unfold Is;kernel_rfl
theorem zf4:Is Tryz.prog zM zbW:=by unfold Is;kernel_rfl
theorem zgL:Is Tryz.prog zaI zbO:=by unfold Is;kernel_rfl
theorem zhT:Is Tryz.prog zaD zbo:=by unfold Is;kernel_rfl
theorem zfw:Is Tryz.prog zC zam:=by unfold Is;kernel_rfl
theorem zge:Is Tryz.prog zF zbp:=by unfold Is;kernel_rfl
theorem zfD:Is Tryz.prog zaa zbr:=by unfold Is;kernel_rfl
theorem zik:Is Tryz.prog za7 zbL:=by unfold Is;kernel_rfl
theorem zg1:Is Tryz.prog zas zcf:=by unfold Is;kernel_rfl
theorem zf7:Is Tryz.prog zaV zbl:=by unfold Is;kernel_rfl
theorem ziy:Is Tryz.prog zch zbm:=by unfold Is;kernel_rfl
theorem zgD:Is Tryz.prog zaO zbx:=by unfold Is;kernel_rfl
theorem zjP:Is Tryz.prog zae zcy:=by unfold Is;kernel_rfl
theorem ziE:Is Tryz.prog zg zbk:=by unfold Is;kernel_rfl
theorem zdL:Is Tryz.prog zb zm:=by unfold Is;kernel_rfl
theorem zjM:Is Tryz.prog za9 zcp:=by unfold Is;kernel_rfl
theorem zjB:Is Tryz.prog zQ zbn:=by unfold Is;kernel_rfl
theorem zhD:Is Tryz.prog zT zcs:=by unfold Is;kernel_rfl
theorem zi8:Is Tryz.prog zZ zby:=by unfold Is;kernel_rfl
theorem zeC:Is Tryz.prog zd zf:=by unfold Is;kernel_rfl
theorem zix:Is Tryz.prog zr zbJ:=by unfold Is;kernel_rfl
theorem zjC:Is Tryz.prog zag zb1:=by unfold Is;kernel_rfl
theorem zfE:Is Tryz.prog zah zcz:=by unfold Is;kernel_rfl
theorem zgI:Is Tryz.prog zN zcM:=by unfold Is;kernel_rfl
theorem zje:Is Tryz.prog zaQ zcD:=by unfold Is;kernel_rfl
theorem zgk:Is Tryz.prog za8 zcn:=by unfold Is;kernel_rfl
theorem zhK:Is Tryz.prog zba zbV:=by unfold Is;kernel_rfl
theorem ziu:Is Tryz.prog zo zbC:=by unfold Is;kernel_rfl
theorem zfn:Is Tryz.prog zaR zb3:=by unfold Is;kernel_rfl
theorem zjD:Is Tryz.prog zaw zcO:=by unfold Is;kernel_rfl
theorem zgU:Is Tryz.prog zaW zcG:=by unfold Is;kernel_rfl
theorem zjz:Is Tryz.prog zL zbU:=by unfold Is;kernel_rfl
theorem ziq:Is Tryz.prog zbd zbw:=by unfold Is;kernel_rfl
theorem ziP:Is Tryz.prog za6 zbu:=by unfold Is;kernel_rfl
theorem zex:Is Tryz.prog zc zG:=by unfold Is;kernel_rfl
theorem zhM:Is Tryz.prog zR zce:=by unfold Is;kernel_rfl
theorem ziw:Is Tryz.prog zbf zcB:=by unfold Is;kernel_rfl
theorem zfc:Is Tryz.prog zaf zcj:=by unfold Is;kernel_rfl
theorem ziD:Is Tryz.prog zay zbA:=by unfold Is;kernel_rfl
theorem zgb:Is Tryz.prog zap zbh:=by unfold Is;kernel_rfl
theorem zhU:Is Tryz.prog zav zb2:=by unfold Is;kernel_rfl
theorem zjf:Is Tryz.prog zbc zbZ:=by unfold Is;kernel_rfl
theorem zhe:Is Tryz.prog zaE zb4:=by unfold Is;kernel_rfl
theorem zhL:Is Tryz.prog zac zbQ:=by unfold Is;kernel_rfl
theorem zjk:Is Tryz.prog zK zcl:=by unfold Is;kernel_rfl
theorem zj8:Is Tryz.prog zD zbs:=by unfold Is;kernel_rfl
theorem zig:Is Tryz.prog zak zbt:=by unfold Is;kernel_rfl
theorem zfU:Is Tryz.prog zaN zbj:=by unfold Is;kernel_rfl
theorem zh4:Is Tryz.prog zaP zbg:=by unfold Is;kernel_rfl
theorem zi5:Is Tryz.prog zv zbq:=by unfold Is;kernel_rfl
theorem zgB:Is Tryz.prog zaT zbS:=by unfold Is;kernel_rfl
theorem zjy:Is Tryz.prog z8 zcL:=by unfold Is;kernel_rfl
theorem zia:Is Tryz.prog zaZ zcF:=by unfold Is;kernel_rfl
theorem zh1:Is Tryz.prog zaF zbM:=by unfold Is;kernel_rfl
theorem zhn:Is Tryz.prog zA zbT:=by unfold Is;kernel_rfl
theorem zfi:Is Tryz.prog zaY zcv:=by unfold Is;kernel_rfl
theorem zjv:Is Tryz.prog za2 zcI:=by unfold Is;kernel_rfl
theorem zgg:Is Tryz.prog zaC zcd:=by unfold Is;kernel_rfl
theorem zgd:Is Tryz.prog zaH zcQ:=by unfold Is;kernel_rfl
theorem ziQ:Is Tryz.prog zaU zcA:=by unfold Is;kernel_rfl
theorem zhC:Is Tryz.prog za4 zbz:=by unfold Is;kernel_rfl
theorem zfp:Is Tryz.prog zar zct:=by unfold Is;kernel_rfl
theorem zji:Is Tryz.prog ze zcw:=by unfold Is;kernel_rfl
theorem zif:Is Tryz.prog zao zcr:=by unfold Is;kernel_rfl
theorem zj3:Is Tryz.prog zh zco:=by unfold Is;kernel_rfl
theorem zhv:Is Tryz.prog zab zbB:=by unfold Is;kernel_rfl
theorem zhq:Is Tryz.prog za0 zb9:=by unfold Is;kernel_rfl
theorem zfM:Is Tryz.prog zal zcH:=by unfold Is;kernel_rfl
theorem zhV:Is Tryz.prog zaB zcK:=by unfold Is;kernel_rfl
theorem zgV:Is Tryz.prog zn zbG:=by unfold Is;kernel_rfl
theorem zg7:Is Tryz.prog zX zcE:=by unfold Is;kernel_rfl
theorem zgs:Is Tryz.prog zu zck:=by unfold Is;kernel_rfl
theorem zfb:Is Tryz.prog zaJ zcJ:=by unfold Is;kernel_rfl
theorem nopin:noPin Tryz.prog=true:=by kernel_rfl
section
open Go.Shelf Go.RowKit Go.Lib Go.Sort
set_option maxHeartbeats 1000000 in
theorem closureTxn (x y:M3) (W:World):Calls Tryz.prog 42 #[.agg #[.int .i64 x.id,x.a,x.b],.agg #[.int .i64 y.id,y.a,y.b]] W fun e w'=>e=.returned (.int .i64 (Lib.compareInt x.id y.id))∧∃ q os',w'=grow (W.drewN q) os':=by
  have hcon:=fun W'=>AnyG.cmp_Compare_int Tryz.cmpInt x.id y.id W'
  change ∀ W',Calls Tryz.prog 33 _ _ _ at hcon
  generalize Lib.compareInt x.id y.id=r at hcon ⊢
  go_enter Tryz.func42,Tryz.ntmps42
  go_wp2_with (go_at_call 33;refine (hcon _).mono ?_;rintro e w' ⟨rfl,rfl⟩)
  go_ret
  exact ⟨rfl,0,_,by rw [alloc_eq_grow,alloc_eq_grow,grow_grow];rfl⟩
theorem cmpLaysTxn (blk off size:Nat) (w:World):CmpLays Tryz.prog 42 #[] M3.enc 3 M3.cf blk off size w :=
  fun _ _ _ _ x y=>closureTxn x y _
theorem zdR (blk off cap:Nat) (d:Array M3) (w:World) (hH:HoldsK M3.enc 3 w blk off d) (hblk:blk < w.heap.size) (hsz:d.size < 4611686018427387904) :
    Calls Tryz.prog 41 #[.slice (some ⟨blk,off,none⟩) d.size cap,.func (.func 42) #[] #[]] w fun e w'=>e=.returned (.tuple #[])∧∃ d' n os,PermIn 0 d.size d d'∧SortedIn (ltOf M3.cf) 0 d.size d'∧w'=sortWorldK M3.enc 3 w blk off n d' os:=by
  have eg:∀ args w,(callFunc 42 args).run Tryz.prog w=.ok (.enter 42 args) w:=enters_of Tryz.func42 (by kernel_rfl) rfl
  exact AnyQ.slices_SortFunc Tryz.sortTxn 3 Tryz.isAgg64 Tryz.sizeOf64 M3.enc (fun _=>rfl) (fun x v hv=>by simp [M3.enc] at hv;rcases hv with rfl|rfl|rfl <;> first|rfl|exact x.ha|exact x.hb) M3.cf M3.swo 42 #[] blk off cap d w eg (cmpLaysTxn blk off d.size w) hH hblk hsz
theorem ze8 (p:Option Addr) (cap:Nat) (fv:Value) (w:World):Calls Tryz.prog 41 #[.slice p 0 cap,fv] w fun e w'=>e=.returned (.tuple #[])∧w'=w:=AnyF.slices_SortFunc_none Tryz.sortTxn p cap fv w
end
section
open Go.Shelf Go.RowKit Go.Lib Go.Sort
def tabC:List (Nat × ADef):=[(zd,.code zf),(zb,.code zm),(zj,.code zp),(zc,.code zG)]
theorem zfZ:ProgOk Tryz.prog (tabP tabC):=by
  refine tab_ok ?_
  unfold tabC
  simp only [List.forall_mem_cons,List.not_mem_nil,false_implies,implies_true,and_true]
  exact ⟨zeC,zdL,zeV,zex⟩
theorem zhR (x y:M6):∃ n h',callV (tabP tabC) n (.func 10) [.agg x.enc.toArray,.agg y.enc.toArray] Heap.empty=some (.int .i64 (M6.cf x y),h'):=zjK (prog:=tabP tabC) (by kernel_rfl) (by kernel_rfl) (by kernel_rfl) (by kernel_rfl) x y
theorem zkh (x:M6):x.enc.length=6:=by show (x6c x.l).length=6;unfold x6c;rw [List.length_map];exact x.h
theorem zkg (x:M6) (v:Value) (hv:v ∈ x.enc):v.oneCell'=true:=by
  obtain ⟨n,_,rfl⟩:=List.mem_map.1 (show v ∈ x.l.map (Value.int .i64) from hv)
  rfl
set_option maxHeartbeats 1000000 in
theorem zem (blk off cap:Nat) (d:Array M6) (w:World) (hH:HoldsK M6.enc 6 w blk off d) (hblk:blk < w.heap.size) (hsz:d.size < 4611686018427387904) :
    Calls Tryz.prog 35 #[.slice (some ⟨blk,off,none⟩) d.size cap,.func (.func 10) #[] #[]] w fun e w'=>e=.returned (.tuple #[])∧∃ n os,w'=sortWorldK M6.enc 6 w blk off n (d.toList.mergeSort fun x y=>!(ltOf M6.cf) y x).toArray os:=by
  have eg:∀ args w,(callFunc 10 args).run Tryz.prog w=.ok (.enter 10 args) w:=enters_of Tryz.func10 (by kernel_rfl) rfl
  exact AnyQ.slices_SortFunc_total Tryz.sortEdg 6 Tryz.isAgg24 Tryz.sizeOf24 M6.enc zkh zkg M6.cf M6.swo 10 #[] blk off cap d w eg (cmp_lays zfZ nopin zhR blk off d.size w) hH hblk hsz M6.tot
theorem zeb (p:Option Addr) (cap:Nat) (fv:Value) (w:World):Calls Tryz.prog 35 #[.slice p 0 cap,fv] w fun e w'=>e=.returned (.tuple #[])∧w'=w:=AnyF.slices_SortFunc_none Tryz.sortEdg p cap fv w
end
noncomputable def tab0:List (Nat × ADef):=[(zaG,.oracle sortOI),(zaX,.oracle (sortXO zI)),(zai,.oracle (sortEO zc))]
theorem zjx:ProgOk Tryz.prog (readP Tryz.prog tab0):=by
  refine read_ok ?_
  unfold tab0
  simp only [List.forall_mem_cons,List.not_mem_nil,false_implies,implies_true,and_true]
  exact ⟨⟨_,rfl,sortOI_ok (sort_ok ⟨_,Tryz.func84,rfl,rfl⟩ Tryz.slices_Sort_int Tryz.slices_Sort_int_none)⟩,⟨_,rfl,sortX_ok ⟨_,Tryz.func41,rfl,rfl⟩ zdR ze8⟩,⟨_,rfl,sortE_ok ⟨_,Tryz.func35,rfl,rfl⟩ zem zeb⟩⟩

theorem zjs:(callV (readP Tryz.prog tab0) 200 (.func zJ) [] Heap.empty).map (·.1)=some (.bool true):=by kernel_rfl
theorem zh0:OracleOk Tryz.prog zJ (closedO (.bool true)):=by
  obtain ⟨⟨v,h⟩,h1,h2⟩:=Option.map_eq_some_iff.1 zjs
  simp only at h2;subst h2
  exact closed_ok zjx rfl h1
theorem zgW:ProgOk Tryz.prog (tabP tab1):=by
  refine tab_ok ?_
  unfold tab1
  simp only [List.forall_mem_cons,List.not_mem_nil,false_implies,implies_true,and_true]
  exact ⟨zkn,ziv,zeV,zjS,zhb,zh7,zhw,ziN,zjR,zks,zi2,zg5,zfg,zhc,zhz,zhI,zf4,zgL,zhT,zfw,zge,zfD,zik,zg1,zf7,ziy,zgD,zjP,ziE,zdL,zjM,zjB,zhD,zi8,zeC,zix,zjC,zfE,zgI,zje,zgk,zhK,ziu,zfn,zjD,zgU,zjz,ziq,ziP,zex,zhM,ziw,zfc,ziD,zgb,zhU,zjf,zhe,zhL,zjk,zj8,zig,zfU,zh4,zi5,zgB,zjy,zia,zh1,zhn,zfi,zjv,zgg,zgd,ziQ,zhC,zfp,zji,zif,zj3,zhv,zhq,zfM,zhV,zgV,zg7,zgs,zfb,sort_ok ⟨_,Tryz.func84,rfl,rfl⟩ Tryz.slices_Sort_int Tryz.slices_Sort_int_none,sortX_ok ⟨_,Tryz.func41,rfl,rfl⟩ zdR ze8,sortE_ok ⟨_,Tryz.func35,rfl,rfl⟩ zem zeb,zh0⟩

theorem own:ownKnob Tryz.prog.godebug=none:=by kernel_rfl
theorem laid:laidOutB Tryz.prog=true:=by kernel_rfl
theorem okp:(Tryz.f5.params.toList.all fun t=>Tryz.prog.readableRec t && decide (t < Tryz.prog.types.size))=true:=by kernel_rfl
theorem rt:Tryz.f5.resultTypes=#[4]:=by kernel_rfl
theorem ub:Tryz.prog.underlying 4=some .bool:=by kernel_rfl
theorem pt:Tryz.f5.params.toList=[32,3]:=by kernel_rfl
theorem b32:0 < Tryz.prog.bytesOf 32:=of_decide_eq_true (by kernel_rfl)
theorem c32:Tryz.prog.cellsOf 32=1:=by kernel_rfl
theorem u30:Tryz.prog.underlying 30=some (.slice 64):=by kernel_rfl
theorem b30:0 < Tryz.prog.bytesOf 30:=of_decide_eq_true (by kernel_rfl)
theorem c30:Tryz.prog.cellsOf 30=1:=by kernel_rfl
theorem b64:0 < Tryz.prog.bytesOf 64:=of_decide_eq_true (by kernel_rfl)
theorem c64:Tryz.prog.cellsOf 64=3:=by kernel_rfl
theorem u3:Tryz.prog.underlying 3=some (.int .i64):=by kernel_rfl
theorem b3:0 < Tryz.prog.bytesOf 3:=of_decide_eq_true (by kernel_rfl)
theorem c3:Tryz.prog.cellsOf 3=1:=by kernel_rfl
theorem u4:Tryz.prog.underlying 4=some (.bool):=by kernel_rfl
theorem b4:0 < Tryz.prog.bytesOf 4:=of_decide_eq_true (by kernel_rfl)
theorem c4:Tryz.prog.cellsOf 4=1:=by kernel_rfl
theorem u62:Tryz.prog.underlying 62=some (.slice 61):=by kernel_rfl
theorem b62:0 < Tryz.prog.bytesOf 62:=of_decide_eq_true (by kernel_rfl)
theorem c62:Tryz.prog.cellsOf 62=1:=by kernel_rfl
theorem b61:0 < Tryz.prog.bytesOf 61:=of_decide_eq_true (by kernel_rfl)
theorem c61:Tryz.prog.cellsOf 61=4:=by kernel_rfl
theorem u33:Tryz.prog.underlying 33=some (.slice 3):=by kernel_rfl
theorem b33:0 < Tryz.prog.bytesOf 33:=of_decide_eq_true (by kernel_rfl)
theorem c33:Tryz.prog.cellsOf 33=1:=by kernel_rfl
theorem fHi:fieldsOf Tryz.prog 32=[(30,0)]:=by kernel_rfl
theorem fTx:fieldsOf Tryz.prog 64=[(3,0),(4,1),(62,2)]:=by kernel_rfl
theorem fOp:fieldsOf Tryz.prog 61=[(4,0),(3,1),(3,2),(33,3)]:=by kernel_rfl

section
variable {H:Type} {enc:TypeId × Value→H}
theorem o32:Opens enc Tryz.prog 32 (kSl kHTx):=(opens_struct1 (K:=(kSl kHTx)) fHi c32 (opens_slice u30 c30 b64 (opens_struct3 (K:=kHTx) fTx c64 (opens_int u3 c3) (opens_bool u4 c4) (opens_slice u62 c62 b61 (opens_struct4 (K:=kHOp) fOp c61 (opens_bool u4 c4) (opens_int u3 c3) (opens_int u3 c3) (opens_slice u33 c33 b3 (opens_int u3 c3)) rfl rfl rfl rfl rfl (fun m v0 v1 v2 v3 a0 a1 a2 a3 h0 h1 h2 h3=>⟨⟨a0,a1,a2,a3⟩,v0,v1,v2,v3,rfl,h0,h1,h2,h3⟩))) rfl rfl rfl rfl (fun m v0 v1 v2 a0 a1 a2 h0 h1 h2=>⟨⟨a0,a1,a2⟩,v0,v1,v2,rfl,h0,h1,h2⟩))) rfl rfl (fun m v0 a0 h0=>⟨a0,h0⟩))
theorem o3:Opens enc Tryz.prog 3 (kInt .i64):=(opens_int u3 c3)

theorem contract (W:World) (base:Nat) (args:Array Value) (ds gs:List (DataW H)) (before:List MemPlace)
    (hval:∀ (j:Nat) t v,Tryz.f5.params[j]? = some t→args[j]? = some v→Value.okWide Tryz.prog W .any base t v)
    (hW:DataW.Whole enc Tryz.prog Tryz.f5.params.toList Rows.edgesNamedSpec.vars false W args.toList ds gs before)
    (hsz:(DataW.weightsEach Tryz.prog (Tryz.f5.params.toList++Rows.edgesNamedSpec.plain.varTypes Tryz.prog) (ds++gs)).all (·≤reachBytes)=true) :
    Calls Tryz.prog 5 args W fun e W'=>∃ v,e=.returned v∧Rows.edgesNamedSpec.post enc Tryz.prog Tryz.f5 false true false false W args v W':=by
  have hW':=hW
  obtain ⟨p,q,hA,hV,rfl,hfz,hnd⟩:=hW
  rw [pt] at hA
  rw [pt] at hsz
  obtain ⟨v0,vs0,d0,ds0,p0,q0,hargs,rfl,rfl,h0,r0⟩:=trodAll_cons hA
  obtain ⟨v1,vs1,d1,ds1,p1,q1,hargs1,rfl,rfl,h1,r1⟩:=trodAll_cons r0
  subst hargs1
  obtain ⟨rfl,rfl,rfl⟩:=trodAll_nil r1
  obtain ⟨rfl,rfl⟩:=trodVars_none hV
  obtain rfl:args=#[v0,v1]:=by cases args;simp_all
  have pt':Tryz.f5.params=#[32,3]:=by apply Array.ext';exact pt
  obtain ⟨fs0,uf0,_⟩:=fields_ex fHi
  obtain ⟨cs0,e0,z0⟩:=okWide_struct uf0 (hval 0 32 v0 (by rw [pt'];rfl) rfl)
  obtain ⟨u0,rfl⟩:∃ u,cs0=#[u]:=by
    rw [c32] at z0
    exact Array.size_eq_one_iff.1 z0
  subst e0
  clear z0
  obtain ⟨t0,ht0⟩:=h0
  obtain ⟨_,s0,l0,y0⟩:=o32.2 W t0 _ _ ht0 (wok_each hsz 0 _ _ rfl rfl)
  replace s0:=s0 u0 (by simp [Value.cells])
  obtain ⟨x0,y0,z0,m0⟩:=y0
  obtain rfl:norm u0=x0:=by simpa [Value.cells] using y0
  obtain ⟨b0,c0,g0⟩:=z0.form
  rw [g0] at z0
  obtain ⟨n1,e1⟩:=okWide_int u3 (hval 1 3 v1 (by rw [pt'];rfl) rfl)
  obtain ⟨s1,l1,y1⟩:=opens_arg1 o3 h1 (wok_each hsz 1 _ _ rfl rfl) (by rw [e1];rfl)
  have w1:=y1.2
  replace y1:norm v1=Value.int .i64 l1:=by have y:[norm v1]=_:=y1.1;simpa using y
  obtain ⟨n,v,H1,h1,hr,_,rfl⟩:=((zgC (h:=l0) (key:=l1) w1).law (sat_arg (sat0 W) z0)).run
  try simp only [← g0,← y1] at hr
  exact contract_true zgW laid okp rt ub rfl W (pin_none nopin W) #[.agg #[u0],v1] [d0,d1] [] _ hW' ⟨rfl,rfl,rfl⟩ (aargs:=[.agg #[norm u0],norm v1]) (VL.cons (V.agg (l:=[norm u0]) (l':=[u0]) rfl (VL.cons s0 (VL.nil _)).2) (VL.cons s1 (VL.nil _))) hr
end

theorem lifted (os:Os) (started:os.Started) (H:Type) (enc:TypeId × Value→H) :
    ReturnsInHanded {} @Tryz.checked os 5 .any (Rows.edgesNamedSpec.pre6 enc Tryz.prog Tryz.f5 Rows.edgesNamedRow.domain false) (Rows.edgesNamedSpec.post enc Tryz.prog Tryz.f5 false true false false):=by
  refine returnsInHanded_of_change_sized (C:=@Tryz.checked) own started (by kernel_rfl) @Tryz.func5
    (ChangeSpec.witness6 (enc:=enc) (C:=@Tryz.checked) false ⟨#[],#[.agg #[.slice none 0 0],.int .i64 0],[]⟩ 8 (by kernel_rfl) (by kernel_rfl) (by kernel_rfl) (by kernel_rfl)) ?_
  intro W base args ds gs before hval hW _ hsz _
  exact contract W base args ds gs before hval hW hsz

theorem over:Rows.edgesNamedRow.holds @Tryz.pinned (OpenSpec.ofChange Rows.edgesNamedSpec) :=
  OpenClaim.holds_of_wide 5 @Tryz.f5 rfl rfl rfl rfl rfl rfl rfl ⟨rfl,rfl,rfl,rfl,rfl⟩ rfl rfl rfl rfl rfl (by kernel_rfl) @Tryz.func5 (by kernel_rfl)
    (of_decide_eq_true (by kernel_rfl)) (by unfold Func.isWrapper;first|(rw [if_pos (by decide +kernel)];kernel_rfl)|(rw [if_neg (by decide +kernel)];exact ⟨rfl,rfl⟩))
    (fun os started H enc _=>lifted os started H enc)

theorem proved:Rows.EdgesNamedSaid:=over
#print axioms proved
end Go.Proofs.YtenihfdlckgmmaaGreat.AmEdgesNamed
