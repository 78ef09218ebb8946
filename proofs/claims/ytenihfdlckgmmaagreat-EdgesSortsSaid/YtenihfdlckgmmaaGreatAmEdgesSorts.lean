/- 'coronerlaw17.EdgesSorts' is true, for every input. -/
import Derived.Test.YtenihfdlckgmmaaGreatRows
import Derived.Test.YtenihfdlckgmmaaGreatPart1
import Derived.Test.YtenihfdlckgmmaaGreatSort
import Derived.Test.YtenihfdlckgmmaaGreatTxn0
import Derived.Test.YtenihfdlckgmmaaGreatEdg0
import Derived.Test.YtenihfdlckgmmaaGreatAmOpenS
import Derived.Test.YtenihfdlckgmmaaGreatAmSortX
import Derived.Test.YtenihfdlckgmmaaGreatAmSortE
import Derived.Test.YtenihfdlckgmmaaGreatAmSepP
import Derived.Test.YtenihfdlckgmmaaGreatAmLogic
import Derived.Test.YtenihfdlckgmmaaGreatAmRead
import Derived.WalkKit
import Derived.ProofKit
import Derived.OpenShut
import Derived.JoinedOf
import Derived.Handed
import Derived.SizedLaws
namespace Go.Proofs.YtenihfdlckgmmaaGreat.AmEdgesSorts
open Go.ChangeShapes Go.WideShapes Go.ChangeAt Go.RowKit Go.AM Go.AM.G Go.AMS
set_option linter.unusedVariables false
set_option linter.unusedSimpArgs false
set_option maxRecDepth 100000

theorem zaM:Is Tryz.prog zv zB:=by unfold Is;kernel_rfl
theorem zT:Is Tryz.prog zg zi:=by unfold Is;kernel_rfl
theorem zal:Is Tryz.prog zu zD:=by unfold Is;kernel_rfl
theorem zat:Is Tryz.prog zt zE:=by unfold Is;kernel_rfl
theorem z9:Is Tryz.prog zb zh:=by unfold Is;kernel_rfl
theorem z5:Is Tryz.prog zc ze:=by unfold Is;kernel_rfl
theorem zY:Is Tryz.prog za zn:=by unfold Is;kernel_rfl
theorem zaO:Is Tryz.prog zq zI:=by unfold Is;kernel_rfl
theorem zaZ:Is Tryz.prog zx zz:=by unfold Is;kernel_rfl
theorem zaC:Is Tryz.prog zH zC:=by unfold Is;kernel_rfl
theorem zam:Is Tryz.prog zk zJ:=by unfold Is;kernel_rfl
theorem nopin:noPin Tryz.prog=true:=by kernel_rfl
section
open Go.Shelf Go.RowKit Go.Lib Go.Sort
set_option maxHeartbeats 1000000 in
theorem closureTxn (x y:M3) (W:World):Calls Tryz.prog 42 #[.agg #[.int .i64 x.id,x.a,x.b],.agg #[.int .i64 y.id,y.a,y.b]] W fun e w'=>e=.returned (.int .i64 (Lib.compareInt x.id y.id))∧∃ q os',w'=grow (W.drewN q) os':=by
  have hcon:=fun W'=>AnyG.cmp_Compare_int Tryz.cmpInt x.id y.id W'
  change ∀ W',Calls Tryz.prog 33 _ _ _ at hcon
  generalize Lib.compareInt x.id y.id=r at hcon ⊢
  go_enter Tryz.func42,Tryz.ntmps42
  go_wp2_with (go_at_call 33;refine (hcon _).mono ?_;rintro e w' ⟨rfl,rfl⟩)
  go_ret
  exact ⟨rfl,0,_,by rw [alloc_eq_grow,alloc_eq_grow,grow_grow];rfl⟩
theorem cmpLaysTxn (blk off size:Nat) (w:World):CmpLays Tryz.prog 42 #[] M3.enc 3 M3.cf blk off size w :=
  fun _ _ _ _ x y=>closureTxn x y _
theorem zaK (blk off cap:Nat) (d:Array M3) (w:World) (hH:HoldsK M3.enc 3 w blk off d) (hblk:blk < w.heap.size) (hsz:d.size < 4611686018427387904) :
    Calls Tryz.prog 41 #[.slice (some ⟨blk,off,none⟩) d.size cap,.func (.func 42) #[] #[]] w fun e w'=>e=.returned (.tuple #[])∧∃ d' n os,PermIn 0 d.size d d'∧SortedIn (ltOf M3.cf) 0 d.size d'∧w'=sortWorldK M3.enc 3 w blk off n d' os:=by
  have eg:∀ args w,(callFunc 42 args).run Tryz.prog w=.ok (.enter 42 args) w:=enters_of Tryz.func42 (by kernel_rfl) rfl
  exact AnyQ.slices_SortFunc Tryz.sortTxn 3 Tryz.isAgg64 Tryz.sizeOf64 M3.enc (fun _=>rfl) (fun x v hv=>by simp [M3.enc] at hv;rcases hv with rfl|rfl|rfl <;> first|rfl|exact x.ha|exact x.hb) M3.cf M3.swo 42 #[] blk off cap d w eg (cmpLaysTxn blk off d.size w) hH hblk hsz
theorem zaT (p:Option Addr) (cap:Nat) (fv:Value) (w:World):Calls Tryz.prog 41 #[.slice p 0 cap,fv] w fun e w'=>e=.returned (.tuple #[])∧w'=w:=AnyF.slices_SortFunc_none Tryz.sortTxn p cap fv w
end
section
open Go.Shelf Go.RowKit Go.Lib Go.Sort
def tabC:List (Nat × ADef):=[(zc,.code ze),(zb,.code zh),(zg,.code zi),(za,.code zn)]
theorem zar:ProgOk Tryz.prog (tabP tabC):=by
  refine tab_ok ?_
  unfold tabC
  simp only [List.forall_mem_cons,List.not_mem_nil,false_implies,implies_true,and_true]
  exact ⟨z5,z9,zT,zY⟩
theorem zaX (x y:M6):∃ n h',callV (tabP tabC) n (.func 10) [.agg x.enc.toArray,.agg y.enc.toArray] Heap.empty=some (.int .i64 (M6.cf x y),h'):=zai (prog:=tabP tabC) (by kernel_rfl) (by kernel_rfl) (by kernel_rfl) (by kernel_rfl) x y
theorem za6 (x:M6):x.enc.length=6:=by show (x6c x.l).length=6;unfold x6c;rw [List.length_map];exact x.h
theorem zaz (x:M6) (v:Value) (hv:v ∈ x.enc):v.oneCell'=true:=by
  obtain ⟨n,_,rfl⟩:=List.mem_map.1 (show v ∈ x.l.map (Value.int .i64) from hv)
  rfl
set_option maxHeartbeats 1000000 in
theorem zQ (blk off cap:Nat) (d:Array M6) (w:World) (hH:HoldsK M6.enc 6 w blk off d) (hblk:blk < w.heap.size) (hsz:d.size < 4611686018427387904) :
    Calls Tryz.prog 35 #[.slice (some ⟨blk,off,none⟩) d.size cap,.func (.func 10) #[] #[]] w fun e w'=>e=.returned (.tuple #[])∧∃ n os,w'=sortWorldK M6.enc 6 w blk off n (d.toList.mergeSort fun x y=>!(ltOf M6.cf) y x).toArray os:=by
  have eg:∀ args w,(callFunc 10 args).run Tryz.prog w=.ok (.enter 10 args) w:=enters_of Tryz.func10 (by kernel_rfl) rfl
  exact AnyQ.slices_SortFunc_total Tryz.sortEdg 6 Tryz.isAgg24 Tryz.sizeOf24 M6.enc za6 zaz M6.cf M6.swo 10 #[] blk off cap d w eg (cmp_lays zar nopin zaX blk off d.size w) hH hblk hsz M6.tot
theorem zV (p:Option Addr) (cap:Nat) (fv:Value) (w:World):Calls Tryz.prog 35 #[.slice p 0 cap,fv] w fun e w'=>e=.returned (.tuple #[])∧w'=w:=AnyF.slices_SortFunc_none Tryz.sortEdg p cap fv w
end
noncomputable def tab0:List (Nat × ADef):=[(zaI,.oracle sortOI),(zau,.oracle (sortXO 42)),(zy,.oracle (sortEO za))]
theorem za0:ProgOk Tryz.prog (readP Tryz.prog tab0):=by
  refine read_ok ?_
  unfold tab0
  simp only [List.forall_mem_cons,List.not_mem_nil,false_implies,implies_true,and_true]
  exact ⟨⟨_,rfl,sortOI_ok (sort_ok ⟨_,Tryz.func84,rfl,rfl⟩ Tryz.slices_Sort_int Tryz.slices_Sort_int_none)⟩,⟨_,rfl,sortX_ok ⟨_,Tryz.func41,rfl,rfl⟩ zaK zaT⟩,⟨_,rfl,sortE_ok ⟨_,Tryz.func35,rfl,rfl⟩ zQ zV⟩⟩

theorem zbb:(callV (readP Tryz.prog tab0) 200 (.func zl) [] Heap.empty).map (·.1)=some (.bool true):=by kernel_rfl
theorem zav:OracleOk Tryz.prog zl (closedO (.bool true)):=by
  obtain ⟨⟨v,h⟩,h1,h2⟩:=Option.map_eq_some_iff.1 zbb
  simp only at h2;subst h2
  exact closed_ok za0 rfl h1
theorem zas:ProgOk Tryz.prog (tabP tab1):=by
  refine tab_ok ?_
  unfold tab1
  simp only [List.forall_mem_cons,List.not_mem_nil,false_implies,implies_true,and_true]
  exact ⟨zaM,zT,zal,zat,z9,z5,zY,zaO,zaZ,zaC,zam,sortE_ok ⟨_,Tryz.func35,rfl,rfl⟩ zQ zV,zav⟩

theorem own:ownKnob Tryz.prog.godebug=none:=by kernel_rfl
theorem laid:laidOutB Tryz.prog=true:=by kernel_rfl
theorem okp:(Tryz.f3.params.toList.all fun t=>Tryz.prog.readableRec t && decide (t < Tryz.prog.types.size))=true:=by kernel_rfl
theorem rt:Tryz.f3.resultTypes=#[4]:=by kernel_rfl
theorem ub:Tryz.prog.underlying 4=some .bool:=by kernel_rfl
theorem pt:Tryz.f3.params.toList=[22,24,24]:=by kernel_rfl
theorem u22:Tryz.prog.underlying 22=some (.slice 24):=by kernel_rfl
theorem b22:0 < Tryz.prog.bytesOf 22:=of_decide_eq_true (by kernel_rfl)
theorem c22:Tryz.prog.cellsOf 22=1:=by kernel_rfl
theorem b24:0 < Tryz.prog.bytesOf 24:=of_decide_eq_true (by kernel_rfl)
theorem c24:Tryz.prog.cellsOf 24=6:=by kernel_rfl
theorem u3:Tryz.prog.underlying 3=some (.int .i64):=by kernel_rfl
theorem b3:0 < Tryz.prog.bytesOf 3:=of_decide_eq_true (by kernel_rfl)
theorem c3:Tryz.prog.cellsOf 3=1:=by kernel_rfl
theorem fEd:fieldsOf Tryz.prog 24=[(3,0),(3,1),(3,2),(3,3),(3,4),(3,5)]:=by kernel_rfl
theorem arr6 {cs:Array Value} (h:cs.size=6):∃ a b c d e f,cs=#[a,b,c,d,e,f]:=by
  refine ⟨cs[0],cs[1],cs[2],cs[3],cs[4],cs[5],Array.ext (by simp [h]) fun i h1 h2=>?_⟩
  have h3:i=0∨i=1∨i=2∨i=3∨i=4∨i=5:=by omega
  rcases h3 with rfl|rfl|rfl|rfl|rfl|rfl <;> rfl

section
variable {H:Type} {enc:TypeId × Value→H}
theorem o22:Opens enc Tryz.prog 22 (kSl kHEd):=(opens_slice u22 c22 b24 (opens_struct6 (K:=kHEd) fEd c24 (opens_int u3 c3) (opens_int u3 c3) (opens_int u3 c3) (opens_int u3 c3) (opens_int u3 c3) (opens_int u3 c3) rfl rfl rfl rfl rfl rfl rfl (fun m v0 v1 v2 v3 v4 v5 a0 a1 a2 a3 a4 a5 h0 h1 h2 h3 h4 h5=>⟨⟨a0,a1,a2,a3,a4,a5⟩,v0,v1,v2,v3,v4,v5,rfl,h0,h1,h2,h3,h4,h5⟩)))
theorem o24:Opens enc Tryz.prog 24 kHEd:=(opens_struct6 (K:=kHEd) fEd c24 (opens_int u3 c3) (opens_int u3 c3) (opens_int u3 c3) (opens_int u3 c3) (opens_int u3 c3) (opens_int u3 c3) rfl rfl rfl rfl rfl rfl rfl (fun m v0 v1 v2 v3 v4 v5 a0 a1 a2 a3 a4 a5 h0 h1 h2 h3 h4 h5=>⟨⟨a0,a1,a2,a3,a4,a5⟩,v0,v1,v2,v3,v4,v5,rfl,h0,h1,h2,h3,h4,h5⟩))

theorem contract (W:World) (base:Nat) (args:Array Value) (ds gs:List (DataW H)) (before:List MemPlace)
    (hval:∀ (j:Nat) t v,Tryz.f3.params[j]? = some t→args[j]? = some v→Value.okWide Tryz.prog W .any base t v)
    (hW:DataW.Whole enc Tryz.prog Tryz.f3.params.toList Rows.edgesSortsSpec.vars false W args.toList ds gs before)
    (hsz:(DataW.weightsEach Tryz.prog (Tryz.f3.params.toList++Rows.edgesSortsSpec.plain.varTypes Tryz.prog) (ds++gs)).all (·≤reachBytes)=true) :
    Calls Tryz.prog 3 args W fun e W'=>∃ v,e=.returned v∧Rows.edgesSortsSpec.post enc Tryz.prog Tryz.f3 false true false false W args v W':=by
  have hW':=hW
  obtain ⟨p,q,hA,hV,rfl,hfz,hnd⟩:=hW
  rw [pt] at hA
  rw [pt] at hsz
  obtain ⟨v0,vs0,d0,ds0,p0,q0,hargs,rfl,rfl,h0,r0⟩:=trodAll_cons hA
  obtain ⟨v1,vs1,d1,ds1,p1,q1,hargs1,rfl,rfl,h1,r1⟩:=trodAll_cons r0
  subst hargs1
  obtain ⟨v2,vs2,d2,ds2,p2,q2,hargs2,rfl,rfl,h2,r2⟩:=trodAll_cons r1
  subst hargs2
  obtain ⟨rfl,rfl,rfl⟩:=trodAll_nil r2
  obtain ⟨rfl,rfl⟩:=trodVars_none hV
  obtain rfl:args=#[v0,v1,v2]:=by cases args;simp_all
  have pt':Tryz.f3.params=#[22,24,24]:=by apply Array.ext';exact pt
  obtain ⟨a0,n0,cc0,e0⟩:=okWide_slice u22 (hval 0 22 v0 (by rw [pt'];rfl) rfl)
  obtain ⟨s0,l0,y0⟩:=opens_arg1 o22 h0 (wok_each hsz 0 _ _ rfl rfl) (by rw [e0];rfl)
  obtain ⟨x0,y0,z0,m0⟩:=y0
  obtain rfl:norm v0=x0:=by simpa using y0
  obtain ⟨b0,c0,g0⟩:=z0.form
  rw [g0] at z0
  obtain ⟨fs1,uf1,_⟩:=fields_ex fEd
  obtain ⟨cs1,e1,z1⟩:=okWide_struct uf1 (hval 1 24 v1 (by rw [pt'];rfl) rfl)
  rw [c24] at z1
  obtain ⟨ua1,ub1,uc1,ud1,ue1,ug1,rfl⟩:=arr6 z1
  subst e1
  clear z1
  obtain ⟨t1,ht1⟩:=h1
  obtain ⟨_,s1,l1,y1⟩:=o24.2 W t1 _ _ ht1 (wok_each hsz 1 _ _ rfl rfl)
  replace s1:∀ x ∈ [ua1,ub1,uc1,ud1,ue1,ug1],V (inj0 W) (norm x) x:=fun x hx=>s1 x (by simpa [Value.cells] using hx)
  obtain ⟨va1,vb1,vc1,vd1,ve1,vg1,hc1,qa1,qb1,qc1,qd1,qe1,qg1⟩:=y1
  replace hc1:[norm ua1,norm ub1,norm uc1,norm ud1,norm ue1,norm ug1]=[va1,vb1,vc1,vd1,ve1,vg1]:=by simpa [Value.cells] using hc1
  simp only [List.cons.injEq,and_true] at hc1
  obtain ⟨xa1,xb1,xc1,xd1,xe1,xg1⟩:=hc1
  have ga1:norm ua1=Value.int .i64 l1.src:=xa1.trans (List.cons.inj qa1.1).1
  have gb1:norm ub1=Value.int .i64 l1.dst:=xb1.trans (List.cons.inj qb1.1).1
  have gc1:norm uc1=Value.int .i64 l1.kind:=xc1.trans (List.cons.inj qc1.1).1
  have gd1:norm ud1=Value.int .i64 l1.key:=xd1.trans (List.cons.inj qd1.1).1
  have ge1:norm ue1=Value.int .i64 l1.left:=xe1.trans (List.cons.inj qe1.1).1
  have gg1:norm ug1=Value.int .i64 l1.right:=xg1.trans (List.cons.inj qg1.1).1
  obtain ⟨fs2,uf2,_⟩:=fields_ex fEd
  obtain ⟨cs2,e2,z2⟩:=okWide_struct uf2 (hval 2 24 v2 (by rw [pt'];rfl) rfl)
  rw [c24] at z2
  obtain ⟨ua2,ub2,uc2,ud2,ue2,ug2,rfl⟩:=arr6 z2
  subst e2
  clear z2
  obtain ⟨t2,ht2⟩:=h2
  obtain ⟨_,s2,l2,y2⟩:=o24.2 W t2 _ _ ht2 (wok_each hsz 2 _ _ rfl rfl)
  replace s2:∀ x ∈ [ua2,ub2,uc2,ud2,ue2,ug2],V (inj0 W) (norm x) x:=fun x hx=>s2 x (by simpa [Value.cells] using hx)
  obtain ⟨va2,vb2,vc2,vd2,ve2,vg2,hc2,qa2,qb2,qc2,qd2,qe2,qg2⟩:=y2
  replace hc2:[norm ua2,norm ub2,norm uc2,norm ud2,norm ue2,norm ug2]=[va2,vb2,vc2,vd2,ve2,vg2]:=by simpa [Value.cells] using hc2
  simp only [List.cons.injEq,and_true] at hc2
  obtain ⟨xa2,xb2,xc2,xd2,xe2,xg2⟩:=hc2
  have ga2:norm ua2=Value.int .i64 l2.src:=xa2.trans (List.cons.inj qa2.1).1
  have gb2:norm ub2=Value.int .i64 l2.dst:=xb2.trans (List.cons.inj qb2.1).1
  have gc2:norm uc2=Value.int .i64 l2.kind:=xc2.trans (List.cons.inj qc2.1).1
  have gd2:norm ud2=Value.int .i64 l2.key:=xd2.trans (List.cons.inj qd2.1).1
  have ge2:norm ue2=Value.int .i64 l2.left:=xe2.trans (List.cons.inj qe2.1).1
  have gg2:norm ug2=Value.int .i64 l2.right:=xg2.trans (List.cons.inj qg2.1).1
  obtain ⟨n,v,H1,h1,hr,_,rfl⟩:=((zba (l:=l0) (a:=l1) (a2:=l2) ⟨qa1.2,qb1.2,qc1.2,qd1.2,qe1.2,qg1.2⟩ ⟨qa2.2,qb2.2,qc2.2,qd2.2,qe2.2,qg2.2⟩).law (sat_arg (sat0 W) z0)).run
  try simp only [← g0,← ga1,← gb1,← gc1,← gd1,← ge1,← gg1,← ga2,← gb2,← gc2,← gd2,← ge2,← gg2] at hr
  exact contract_true zas laid okp rt ub rfl W (pin_none nopin W) #[v0,.agg #[ua1,ub1,uc1,ud1,ue1,ug1],.agg #[ua2,ub2,uc2,ud2,ue2,ug2]] [d0,d1,d2] [] _ hW' ⟨rfl,rfl,rfl⟩ (aargs:=[norm v0,.agg #[norm ua1,norm ub1,norm uc1,norm ud1,norm ue1,norm ug1],.agg #[norm ua2,norm ub2,norm uc2,norm ud2,norm ue2,norm ug2]]) (VL.cons s0 (VL.cons (V.agg (l:=[norm ua1,norm ub1,norm uc1,norm ud1,norm ue1,norm ug1]) (l':=[ua1,ub1,uc1,ud1,ue1,ug1]) rfl (VL.cons (s1 _ (by simp)) (VL.cons (s1 _ (by simp)) (VL.cons (s1 _ (by simp)) (VL.cons (s1 _ (by simp)) (VL.cons (s1 _ (by simp)) (VL.cons (s1 _ (by simp)) (VL.nil _))))))).2) (VL.cons (V.agg (l:=[norm ua2,norm ub2,norm uc2,norm ud2,norm ue2,norm ug2]) (l':=[ua2,ub2,uc2,ud2,ue2,ug2]) rfl (VL.cons (s2 _ (by simp)) (VL.cons (s2 _ (by simp)) (VL.cons (s2 _ (by simp)) (VL.cons (s2 _ (by simp)) (VL.cons (s2 _ (by simp)) (VL.cons (s2 _ (by simp)) (VL.nil _))))))).2) (VL.nil _)))) hr
end

theorem lifted (os:Os) (started:os.Started) (H:Type) (enc:TypeId × Value→H) :
    ReturnsInHanded {} @Tryz.checked os 3 .any (Rows.edgesSortsSpec.pre6 enc Tryz.prog Tryz.f3 Rows.edgesSortsRow.domain false) (Rows.edgesSortsSpec.post enc Tryz.prog Tryz.f3 false true false false):=by
  refine returnsInHanded_of_change_sized (C:=@Tryz.checked) own started (by kernel_rfl) @Tryz.func3
    (ChangeSpec.witness6 (enc:=enc) (C:=@Tryz.checked) false ⟨#[],#[.slice none 0 0,.agg #[.int .i64 0,.int .i64 0,.int .i64 0,.int .i64 0,.int .i64 0,.int .i64 0],.agg #[.int .i64 0,.int .i64 0,.int .i64 0,.int .i64 0,.int .i64 0,.int .i64 0]],[]⟩ 8 (by kernel_rfl) (by kernel_rfl) (by kernel_rfl) (by kernel_rfl)) ?_
  intro W base args ds gs before hval hW _ hsz _
  exact contract W base args ds gs before hval hW hsz

theorem over:Rows.edgesSortsRow.holds @Tryz.pinned (OpenSpec.ofChange Rows.edgesSortsSpec) :=
  OpenClaim.holds_of_wide 3 @Tryz.f3 rfl rfl rfl rfl rfl rfl rfl ⟨rfl,rfl,rfl,rfl,rfl⟩ rfl rfl rfl rfl rfl (by kernel_rfl) @Tryz.func3 (by kernel_rfl)
    (of_decide_eq_true (by kernel_rfl)) (by unfold Func.isWrapper;first|(rw [if_pos (by decide +kernel)];kernel_rfl)|(rw [if_neg (by decide +kernel)];exact ⟨rfl,rfl⟩))
    (fun os started H enc _=>lifted os started H enc)

theorem proved:Rows.EdgesSortsSaid:=over
#print axioms proved
end Go.Proofs.YtenihfdlckgmmaaGreat.AmEdgesSorts
