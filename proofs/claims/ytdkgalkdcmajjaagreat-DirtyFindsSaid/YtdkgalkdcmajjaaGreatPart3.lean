/- What the functions do, part 3. -/
import Derived.Test.YtdkgalkdcmajjaaGreatPart2
import Derived.Test.YtdkgalkdcmajjaaGreatSetLaw
namespace Go.AMS
open Go.AM hiding Kt At WP WL Runs RunsY
open Go.AM.G
set_option linter.unusedVariables false
set_option linter.unusedSimpArgs false
set_option linter.unusedSectionVars false
set_option maxRecDepth 100000
set_option maxHeartbeats 1000000
attribute [local irreducible] AtS AtV AtC AtG FinA Spec Post LP G.At G.WP G.WL pt own fro rdl ro hx mp lrec elt sub

open Go.AM.G.Set
section
variable {h:List HTx} {T:Tb} {r:HRd}
theorem mem_rdsN {key:Int} {t:HTx} {r:HRd}:∀ n,r ∈ rdsN key t n→∃ j,j < n∧(t.ops.getD j default).read=true∧(t.ops.getD j default).key=key∧r=⟨t.id,(j:Nat),key,(t.ops.getD j default).list,aheadL t.ops key j⟩
 | 0,hr=>by cases hr
 | n + 1,hr=>by
  simp only [rdsN] at hr
  rcases List.mem_append.1 hr with hr|hr
  ·obtain ⟨j,h1,h2⟩:=mem_rdsN n hr
   exact ⟨j,by omega,h2⟩
  ·split at hr
   ·rename_i hc
    exact ⟨n,by omega,hc.1,hc.2,List.mem_singleton.1 hr⟩
   ·cases hr
/-- The reads of a key. -/
def rdK (h:List HTx) (key:Int):List HRd:=outR h key (setL (comm h))
theorem rdK_at (hk:OkH h) {key:Int} (hr:r ∈ rdK h key):∃ t ∈ h,t.ab=false∧∃ j,j < t.ops.length∧(t.ops.getD j default).read=true∧(t.ops.getD j default).key=key∧r=⟨t.id,(j:Nat),key,(t.ops.getD j default).list,aheadL t.ops key j⟩∧t.id ∈ setL (comm h):=by
 obtain ⟨x,hx,h1⟩:=List.mem_flatMap.1 hr
 obtain ⟨t,ht,hb,rfl⟩:=mem_comm.1 (mem_setL.1 hx)
 rw [txnOf_in hk.i ht] at h1
 obtain ⟨j,h2,h3,h4,h5⟩:=mem_rdsN _ h1
 exact ⟨t,ht,hb,j,h2,h3,h4,h5,hx⟩
theorem rdK_in (hf:FewH h 20 60) (hk:OkH h) {key:Int}:∀ r ∈ rdK h key,r.txn ∈ setL (comm h)∧0≤r.op∧r.op≤60:=fun r hr=>by
 obtain ⟨t,ht,hb,j,h1,h2,h3,rfl,h4⟩:=rdK_at hk hr
 have:=(txnOf_ok hf hk.m t.id (hk.m t ht).1).2.1
 rw [txnOf_in hk.i ht] at this
 exact ⟨h4,by dsimp only;omega,by dsimp only;omega⟩
theorem rdK_inj (hk:OkH h) {k1 k2:Int} {r s:HRd} (hr:r ∈ rdK h k1) (hs:s ∈ rdK h k2) (e1:r.txn=s.txn) (e2:r.op=s.op):r=s:=by
 obtain ⟨t,ht,hb,j,h1,h2,h3,rfl,h4⟩:=rdK_at hk hr
 obtain ⟨u,hu,gb,i,g1,g2,g3,rfl,g4⟩:=rdK_at hk hs
 have e:t=u:=by
  have a:=txnOf_in hk.i ht
  have b:=txnOf_in hk.i hu
  dsimp only at e1
  rw [e1,b] at a;exact a.symm
 subst e
 have e:j=i:=by dsimp only at e2;omega
 subst e
 have e:k1=k2:=h3.symm.trans g3
 subst e
 rfl
/-- What is asked, by its kind. -/
def askD (T:Tb) (kd:Int) (r:HRd):Option (Int × Int) :=
 if kd=7 then abL (wK T r.key) (frontL r) else if kd=8 then midL (wK T r.key) (fun id=>agl (id,r.key) T.ap) (frontL r) else tornP (wK T r.key) (fun id=>agl (id,r.key) T.ap) (frontL r)
def kdL:List Int:=[4,7,8]
noncomputable def findD (T:Tb):List Fd:=kdL.filterMap fun kd=>firstL (askD T kd) T kd
/-- The sound reads of all keys. -/
def sndT (T:Tb):List HRd:=T.keys.flatMap fun key=>soundL (wK T key) (agl key T.rd)
theorem firstL_isF (ask:HRd→Option (Int × Int)) (kd:Int):IsF ask kd (sndT T) (firstL ask T kd):=by
 have h:=isF_fold (ask:=ask) (kind:=kd) (sndT T) [] none (.inl ⟨rfl,fun _ q=>by cases q⟩)
 rw [List.nil_append] at h
 unfold sndT at h ⊢
 rw [← fold_flat] at h
 exact h
theorem sndT_at (hk:OkH h) (hr:r ∈ sndT (TH h)):r ∈ rdK h r.key∧r.key ∈ setL (keysH h)∧(kindL (wK (TH h) r.key) r).1=0:=by
 obtain ⟨k,hk1,h1⟩:=List.mem_flatMap.1 hr
 obtain ⟨h2,h3⟩:=List.mem_filter.1 h1
 have h2:r ∈ rdK h k:=by
  have:=rd_sort hk.i k
  unfold TH at h2
  rw [this] at h2;exact h2
 have e:r.key=k:=by
  obtain ⟨t,ht,hb,j,g1,g2,g3,rfl,g4⟩:=rdK_at hk h2
  rfl
 subst e
 unfold TH at hk1
 rw [keys_sort] at hk1
 exact ⟨h2,hk1,of_decide_eq_true h3⟩
theorem mem_sndT (hk:OkH h):r ∈ sndT (TH h) ↔ (∃ key ∈ setL (keysH h),r ∈ rdK h key)∧soundB (wK (TH h) r.key) r=true:=by
 constructor
 ·intro hr
  obtain ⟨h1,h2,h3⟩:=sndT_at hk hr
  exact ⟨⟨_,h2,h1⟩,decide_eq_true h3⟩
 ·rintro ⟨⟨k,h1,h2⟩,h3⟩
  have e:r.key=k:=by
   obtain ⟨t,ht,hb,j,g1,g2,g3,rfl,g4⟩:=rdK_at hk h2
   rfl
  subst e
  refine List.mem_flatMap.2 ⟨r.key,?_,List.mem_filter.2 ⟨?_,h3⟩⟩
  ·unfold TH;rw [keys_sort];exact h1
  ·have:=rd_sort hk.i r.key
   unfold TH;rw [this];exact h2
theorem abL_some {W:Wf}:∀ {l:List Int} {q:Int × Int},abL W l=some q→q.1 ∈ l∧∃ w,W q.1=some w∧w.txn=q.2∧w.ab=true
 | [],_,e=>by cases e
 | x::l,q,e=>by
  unfold abL at e
  split at e
  ·rename_i w hw
   split at e
   ·rename_i hb
    cases e
    exact ⟨List.mem_cons_self,w,hw,rfl,hb⟩
   ·obtain ⟨h1,h2⟩:=abL_some e
    exact ⟨List.mem_cons_of_mem _ h1,h2⟩
  ·obtain ⟨h1,h2⟩:=abL_some e
   exact ⟨List.mem_cons_of_mem _ h1,h2⟩
theorem midL_some {W:Wf} {A:Int→List Int} {l:List Int} {q:Int × Int} (e:midL W A l=some q):q.1 ∈ l∧∃ w,W q.1=some w∧w.txn=q.2∧w.ab=false:=by
 unfold midL at e
 split at e
 ·cases e
 ·rename_i x hx
  split at e
  ·cases e
  ·rename_i w hw
   split at e
   ·cases e
   ·rename_i hb
    split at e
    ·cases e
    ·cases e
     exact ⟨List.mem_of_getLast? hx,w,hw,rfl,by simpa using hb⟩
theorem torn_some {W:Wf} {A:Int→List Int} {l:List Int} {q:Int × Int} (e:tornP W A l=some q):q.1 ∈ l∧∃ w,W q.1=some w∧w.txn=q.2∧w.ab=false:=by
 obtain ⟨id,_,h1⟩:=List.exists_of_findSome?_eq_some e
 unfold tornF at h1
 split at h1
 ·rename_i i hi
  cases h1
  have hl:=wrongL_lt _ _ _ _ hi
  have hm:(mineL W l id).getD i 0 ∈ mineL W l id:=by
   rw [getD_lt (by omega)];exact List.getElem_mem _
  obtain ⟨h2,h3⟩:=List.mem_filter.1 hm
  refine ⟨h2,?_⟩
  dsimp only
  unfold mineB at h3
  split at h3
  ·rename_i w hw
   have h4:=Bool.and_eq_true_iff.1 h3
   exact ⟨w,hw,of_decide_eq_true h4.1,by simpa using h4.2⟩
  ·cases h3
 ·cases h1
theorem ask_some {kd:Int} {q:Int × Int} (e:askD T kd r=some q):q.1 ∈ frontL r∧∃ w,wK T r.key q.1=some w∧w.txn=q.2∧w.ab=decide (kd=7):=by
 unfold askD at e
 by_cases h7:kd=7
 ·rw [if_pos h7] at e
  rw [decide_eq_true h7]
  exact abL_some e
 ·rw [if_neg h7] at e
  rw [decide_eq_false h7]
  by_cases h8:kd=8
  ·rw [if_pos h8] at e
   exact midL_some e
  ·rw [if_neg h8] at e
   exact torn_some e
theorem kind_zero {W:Wf} (h0:(kindL W r).1=0):∀ x ∈ frontL r,txZ (W x)≠r.txn:=by
 have hi:innL W r=none:=by
  unfold kindL at h0
  split at h0
  ·cases h0
  ·split at h0
   ·cases h0
   ·split at h0
    ·cases h0
    ·assumption
 unfold innL at hi
 split at hi
 ·cases hi
 ·unfold innB at hi
  intro x hx e
  have:=List.find?_eq_none.1 hi x hx
  simp [e] at this
/-- What a finding names is there. -/
theorem findD_at (hk:OkH h) {f:Fd} (hm:f ∈ findD (TH h)):∃ w,aget (f.key,f.value) (TH h).wr=some w∧w.txn=f.other∧f.txn≠f.other∧w.ab=decide (f.kind=7)∧f.cyc=[]∧∃ r ∈ rdK h f.key,r.txn=f.txn∧r.op=f.op∧f.value ∈ r.list:=by
 obtain ⟨kd,_,h1⟩:=List.mem_filterMap.1 hm
 rcases firstL_isF (T:=TH h) (askD (TH h) kd) kd with ⟨h2,_⟩|⟨r,hr,q,h3,h4,_⟩
 ·rw [h1] at h2;cases h2
 ·rw [h1] at h4
  cases h4
  obtain ⟨g1,w,g2,g3,g4⟩:=ask_some h3
  obtain ⟨k1,k2,k3⟩:=sndT_at hk hr
  have k4:=kind_zero k3 q.1 g1
  rw [g2] at k4
  refine ⟨w,g2,g3,fun e=>k4 ?_,g4,rfl,r,k1,rfl,rfl,List.mem_of_mem_take g1⟩
  exact g3.trans e.symm
/-- The reference's findings. -/
def refD (h:List HTx):List Fd:=kdL.filterMap fun kd=>((allR (rdK h) (setL (keysH h)) (setL (comm h))).filter fun r=>soundB (wK (TH h) r.key) r).findSome? fun r=>(askD (TH h) kd r).map (mkFd kd r)
theorem findD_eq (hf:FewH h 20 60) (hk:OkH h):findD (TH h)=refD h:=by
 unfold findD refD
 congr 1
 funext kd
 have hp:((allR (rdK h) (setL (keysH h)) (setL (comm h))).filter fun r=>soundB (wK (TH h) r.key) r).Pairwise leR:=by
  refine (allR_pw ?_).filter _
  rw [comm_sort hk.i];exact comm_lt hk.i
 refine isF_eq (l:=sndT (TH h)) (fun r=>?_) (fun r hr s hs e1 e2=>?_) (firstL_isF _ kd) (isF_find hp)
 ·rw [mem_sndT hk,List.mem_filter,mem_allR fun key _ r hr=>rdK_in hf hk r hr]
 ·exact rdK_inj hk (sndT_at hk hr).1 (sndT_at hk hs).1 e1 e2
end
end Go.AMS

namespace Go.AMS
open Go.AM hiding Kt At WP WL Runs RunsY
open Go.AM.G
set_option linter.unusedVariables false
set_option linter.unusedSimpArgs false
set_option linter.unusedSectionVars false
set_option maxRecDepth 100000
set_option maxHeartbeats 1000000
attribute [local irreducible] AtS AtV AtC AtG FinA Spec Post LP G.At G.WP G.WL pt own fro rdl ro hx mp lrec elt sub

open Go.AM.G.Set
section
variable {T:Tb} {r:HRd} {p q p1 p2:Option Addr} {c d c1 c2 b mr mt:Nat}
def cFd (f:Fd):List Value:=[.int .i64 f.kind,.int .i64 f.txn,.int .i64 f.op,.int .i64 f.key,.int .i64 f.value,.int .i64 f.other,.slice none 0 0]
/-- The reads of a table are small. -/
def RdOk (T:Tb):Prop:=∀ key,(agl key T.rd).length≤100000∧∀ r ∈ agl key T.rd,(r.list.length≤100∧r.own.length≤100)∧r.key=key
theorem keyF_eq (ask:HRd→Option (Int × Int)) (kind key:Int) (st:Option Fd):keyF ask T kind st key=(soundL (wK T key) (agl key T.rd)).foldl (stepF ask kind) st:=rfl
theorem fold_take {α β:Type} (f:β→α→β) (l:List α) (b:β) {i:Nat} (hi:i < l.length):(l.take (i + 1)).foldl f b=f ((l.take i).foldl f b) l[i]:=by
 rw [List.take_succ_eq_append_getElem hi,List.foldl_append];rfl
/-- Questions. -/
structure Qd where
 n:Int
 fn:Nat
def kQd:Kind Qd:=⟨2,by decide,fun _ cs a=>cs=[.int .i64 a.n,.func (.func a.fn) #[] #[]],fun _ h=>h,fun h=>by rw [h];rfl,fun h=>by rw [h];rfl⟩
instance esz_Qd:Esz kQd 2:=⟨rfl⟩
instance cel_Qd:Cel kQd Unit (fun a _=>[.int .i64 a.n,.func (.func a.fn) #[] #[]]) (fun _ _=>[]) (fun _=>True):=⟨fun h=>⟨(),h,trivial,sat_nil0⟩⟩
noncomputable def qsL:List Qd:=[⟨4,n_dirty_Torn⟩,⟨7,n_dirty_Aborted⟩,⟨8,n_dirty_Middle⟩]
theorem dirty_questions_spec:Spec prog1 n_dirty_questions [] [] (fun R=>∀ x,R (.slice (some ⟨x,0,none⟩) 3 3) [pt x [.int .i64 4,.func (.func n_dirty_Torn) #[] #[],.int .i64 7,.func (.func n_dirty_Aborted) #[] #[],.int .i64 8,.func (.func n_dirty_Middle) #[] #[]] 2]):=by
 refine spec_code c_dirty_questions rfl ?_;intro n F R hR;unfold F_dirty_questions
 repeat' first|apply step|(apply g_op;·repeat first|exact Evs.nil|(apply Evs.cons;exact rfl))|refine Fa.mk fun _=>?_|refine g_fin ?_
 exact fin (hR _)
theorem qsL_ofs {Γ:List HP}:OfVs Γ kQd [.int .i64 4,.func (.func n_dirty_Torn) #[] #[],.int .i64 7,.func (.func n_dirty_Aborted) #[] #[],.int .i64 8,.func (.func n_dirty_Middle) #[] #[]] qsL True:=⟨fun _ _ _ _=>⟨[_,_],_,rfl,rfl,[_,_],_,rfl,rfl,[_,_],[],rfl,rfl,rfl⟩⟩
def bI (x:Int):Prop:=-9223372036854775808≤x∧x≤9223372036854775807
def bFd (f:Fd):Prop:=bI f.kind∧bI f.txn∧bI f.op∧bI f.key∧bI f.value∧bI f.other
structure FdOk (T:Tb):Prop where
 keys:T.keys.length≤1000000
 rd:RdOk T
 wr:∀ k x w,wK T k x=some w→bI w.txn∧0 < (agl (w.txn,k) T.ap).length
 ap:∀ x k,(agl (x,k) T.ap).length≤60
 fd:∀ f ∈ findD T,bFd f
noncomputable def findK (T:Tb) (k:Nat):List Fd:=(kdL.take k).filterMap fun kd=>firstL (askD T kd) T kd
theorem findK_next {k:Nat} (hk:k < qsL.length):findK T (k + 1)=findK T k++(firstL (askD T qsL[k].n) T qsL[k].n).toList:=by
 have h1:∀ l:List Int,∀ x,(l++[x]).filterMap (fun kd=>firstL (askD T kd) T kd)=l.filterMap (fun kd=>firstL (askD T kd) T kd)++(firstL (askD T x) T x).toList:=fun l x=>by
  rw [List.filterMap_append]
  cases h:firstL (askD T x) T x <;> simp [h]
 unfold findK
 match k,hk with
 | 0,_=>exact h1 [] 4
 | 1,_=>exact h1 [4] 7
 | 2,_=>exact h1 [4,7] 8
theorem findK_len (k:Nat):(findK T k).length≤3:=by
 refine Nat.le_trans (List.length_filterMap_le _ _) ?_
 rw [List.length_take]
 exact Nat.min_le_right _ _
theorem findK_sub {k:Nat}:∀ f ∈ findK T k,f ∈ findD T:=fun f hf=>by
 obtain ⟨x,h1,h2⟩:=List.mem_filterMap.1 hf
 exact List.mem_filterMap.2 ⟨x,List.mem_of_mem_take h1,h2⟩
end
end Go.AMS

namespace Go.AMS
open Go.AM hiding Kt At WP WL Runs RunsY
open Go.AM.G
set_option linter.unusedVariables false
set_option linter.unusedSimpArgs false
set_option linter.unusedSectionVars false
set_option maxRecDepth 100000
set_option maxHeartbeats 1000000
attribute [local irreducible] AtS AtV AtC AtG FinA Spec Post LP G.At G.WP G.WL pt own fro rdl ro hx mp lrec elt sub

open Go.AM.G.Set
section
variable {h:List HTx} {T:Tb} {p q p1 p2:Option Addr} {c d c1 c2 b mr mt:Nat}
theorem at_tabC {prog:AProg} {rr:Option Nat} {e:Env} {Q:Pst} {kk:List Kt} {n:Nat} {d:Bool} {r:List AI} {F:List HP} (w:∀ mr mt,AtS n prog rr (.o d r::kk) .norm e (tabC b T mr mt::mapF mr kI kHRd T.rd::mapL mt kI kHWr T.wt::F) Q):AtS n prog rr (.o d r::kk) .norm e (tab b T::F) Q:=by
 refine at_openP (tab b T) rfl ?_
 rintro ⟨⟨⟨pi,ci⟩,⟨pk,ck⟩⟩,⟨mw,ma,mr,mt⟩⟩ -
 dsimp only [List.cons_append,List.nil_append]
 refine at_openP (mapL mr kI kHRd T.rd) rfl ?_
 rintro Z hZ
 dsimp only [List.cons_append,List.nil_append]
 refine at_ent (Δ:=alls (ownE kHRd) Z::mp mr (amap kI slV Z)::_) (by repeat first|exact Ent.refl _|(apply Ent.more;· repeat first|exact Ent.keep|exact Ent.here|exact Ent.lend|exact ent_nil|apply Ent.there)|apply Ent.drop) ?_
 refine at_freezeA ?_
 refine at_foldP (mapF mr kI kHRd T.rd) rfl Z hZ ?_
 refine at_foldP (tabC b T mr mt) rfl (((pi,ci),(pk,ck)),(mw,ma)) trivial ?_
 exact w mr mt
theorem th_ok (hf:FewH h 20 60) (hk:OkH h):FdOk (TH h):=by
 have hrd:∀ key,agl key (TH h).rd=rdK h key:=fun key=>rd_sort hk.i key
 have hby:∀ x,mayN x→bI x:=fun x hx=>by unfold mayN at hx;unfold bI;omega
 refine ⟨?_,fun key=>?_,fun k x w hw=>?_,fun x k=>ap_le hf hk x k,fun f hm=>?_⟩
 ·have:=(tabS_smK hf).1
  unfold TH;omega
 ·rw [hrd]
  refine ⟨by have:=outR_len hf hk.m key;unfold rdK;omega,fun r hr=>?_⟩
  obtain ⟨t,ht,hb,j,h1,h2,h3,rfl,h4⟩:=rdK_at hk hr
  have h5:=txnOf_ok hf hk.m t.id (hk.m t ht).1
  rw [txnOf_in hk.i ht] at h5
  have h6:=aheadL_len t.ops key j
  rw [getD_lt h1]
  have h7:=h5.2.2.2 _ (List.getElem_mem h1)
  have h8:=h5.2.1
  exact ⟨⟨h7,by dsimp only;omega⟩,rfl⟩
 ·refine ⟨?_,apH_ne hk hw⟩
  obtain ⟨t,ht,i,hi,_,rfl⟩:=wr_at hk hw
  exact hby _ (hk.m t ht).1
 ·have h0:=findD_at hk hm
  obtain ⟨w,hw,hx,_,_,_,r,hr,e1,e2,e3⟩:=h0
  obtain ⟨t,ht,hb,j,h1,h2,h3,rfl,h4⟩:=rdK_at hk hr
  obtain ⟨kd,hkd,hfl⟩:=List.mem_filterMap.1 hm
  have hkk:f.kind=kd:=by
   rcases firstL_isF (T:=TH h) (askD (TH h) kd) kd with ⟨g1,_⟩|⟨r,_,q,_,g1,_⟩
   ·rw [hfl] at g1;cases g1
   ·rw [hfl] at g1;cases g1;rfl
  have h5:=txnOf_ok hf hk.m t.id (hk.m t ht).1
  rw [txnOf_in hk.i ht] at h5
  obtain ⟨u,hu,i,hi,⟨g1,g2,g3⟩,rfl⟩:=wr_at hk hw
  have hmo:=(hk.m u hu).2 _ (List.getElem_mem hi)
  unfold mayO at hmo
  rw [g1] at hmo
  refine ⟨?_,?_,?_,?_,?_,?_⟩
  ·rw [hkk]
   have:kd=4∨kd=7∨kd=8:=by simpa [kdL] using hkd
   unfold bI;omega
  ·rw [← e1];exact hby _ (hk.m t ht).1
  ·rw [← e2];unfold bI;dsimp only;omega
  ·rw [← g2];exact hby _ (by simpa using hmo.1)
  ·rw [← g3];exact hby _ (show mayN u.ops[i].value∧u.ops[i].list=[] by simpa using hmo.2).1
  ·rw [← hx];exact hby _ (hk.m u hu).1
end
end Go.AMS

namespace Go.AMS
open Go.AM hiding Kt At WP WL Runs RunsY
open Go.AM.G
set_option linter.unusedVariables false
set_option linter.unusedSimpArgs false
set_option linter.unusedSectionVars false
set_option maxRecDepth 100000
set_option maxHeartbeats 1000000
attribute [local irreducible] AtS AtV AtC AtG FinA Spec Post LP G.At G.WP G.WL pt own fro rdl ro hx mp lrec elt sub

open Go.AM.G.Set
section
variable {h:List HTx} {r:HRd} {p p1 p2 p3:Option Addr} {c c1 c2 c3:Nat}
theorem r13_Kind_spec (hf:FewH h 20 60) (hk:OkH h) (h1:r.list.length≤1000) (h2:r.own.length≤1000):Spec prog1 n_r13_Kind [.agg #[.slice p h.length c],.agg #[.int .i64 r.txn,.int .i64 r.op,.int .i64 r.key,.slice p1 r.list.length c1,.slice p2 r.own.length c2]] [fro kHTx p c h,fro (kInt .i64) p1 c1 r.list,fro (kInt .i64) p2 c2 r.own] (fun R=>R (.tuple #[.int .i64 (kindL (wK (TH h) r.key) r).1,.int .i64 (kindL (wK (TH h) r.key) r).2]) []):=by
 refine spec_code c_r13_Kind rfl ?_;intro n F R hR;unfold F_r13_Kind
 have hfl:=frontL_len r
 have hwr:∀ x,Spec prog1 n_r12_Writer [.agg #[.slice p h.length c],.int .i64 r.key,.int .i64 x] [fro kHTx p c h] (fun R=>R (wrO (wK (TH h) r.key x)) []):=fun x=>r12W_spec hf hk
 generalize wK (TH h) r.key=W at hR hwr
 unfold kindL at hR
 repeat' first|apply step|(apply g_op;·repeat first|exact Evs.nil|(apply Evs.cons;exact rfl))|refine Fa.mk fun _=>?_|refine g_keep ?_
 rename_i hb rb
 refine at_loopS (ι:=Nat) (E:=fun k=>[(2,.pointer (some ⟨hb,0,none⟩)),(3,.pointer (some ⟨rb,0,none⟩)),(6,.int .i64 (k:Int))]) (Δ:=fun k=>fro kHTx p c h::fro (kInt .i64) p1 c1 r.list::fro (kInt .i64) p2 c2 r.own::pt rb [.int .i64 r.txn,.int .i64 r.op,.int .i64 r.key,.slice p1 r.list.length c1,.slice p2 r.own.length c2] 0::pt hb [.slice p h.length c] 0::F) (P:=fun k=>k≤r.list.length∧twL (r.list.take k) (r.list.drop k)=twL [] r.list) (μ:=fun k=>r.list.length - k) 0 ⟨Nat.zero_le _,rfl⟩ ?_
 rintro k ⟨hk1,htw⟩
 try dsimp only
 rcases Nat.lt_or_ge k r.list.length with hlt|hge
 ·rw [twL_drop hlt] at htw
  repeat' first|apply step|(apply g_op;·repeat first|exact Evs.nil|(apply Evs.cons;exact rfl))|(refine Br.mk (fun _=>?_) (fun _=>?_)<;>try (exfalso;omega))|refine g_cond ?_|refine g_keep ?_
  refine at_loopS (ι:=Nat) (E:=fun j=>[(2,.pointer (some ⟨hb,0,none⟩)),(3,.pointer (some ⟨rb,0,none⟩)),(6,.int .i64 (k:Int)),(7,.int .i64 (j:Int))]) (Δ:=fun j=>fro kHTx p c h::fro (kInt .i64) p1 c1 r.list::fro (kInt .i64) p2 c2 r.own::pt rb [.int .i64 r.txn,.int .i64 r.op,.int .i64 r.key,.slice p1 r.list.length c1,.slice p2 r.own.length c2] 0::pt hb [.slice p h.length c] 0::F) (P:=fun j=>j≤k∧∀ i (hi:i < r.list.length),i < j→r.list[i]≠r.list[k]) (μ:=fun j=>k - j) 0 ⟨Nat.zero_le _,fun _ _ q=>absurd q (Nat.not_lt_zero _)⟩ ?_
  rintro j ⟨hj,hne⟩
  try dsimp only
  rcases Nat.lt_or_ge j k with hjk|hjk
  ·by_cases he:r.list[j]=r.list[k]
   ·rw [if_pos (he ▸ List.mem_take_iff_getElem.2 ⟨j,by omega,rfl⟩)] at htw
    rw [← htw] at hR
    repeat' first|apply step|(apply g_op;·repeat first|exact Evs.nil|(apply Evs.cons;exact rfl))|(refine Br.mk (fun _=>?_) (fun _=>?_)<;>try (exfalso;omega))|(refine Sd.mk ?_ ?_;·((repeat' apply And.intro)<;>first|omega|trivial|assumption|(simp;done)|(simp;omega)))|(refine Sx.mk ?_ ?_;·omega)|refine Im.mk fun _=>?_|refine g_cond ?_|refine g_keep ?_|refine g_fin ?_
    all_goals first|exact fin hR|(exfalso;omega)
   ·repeat' first|apply step|(apply g_op;·repeat first|exact Evs.nil|(apply Evs.cons;exact rfl))|(refine Br.mk (fun _=>?_) (fun _=>?_)<;>try (exfalso;omega))|(refine Sd.mk ?_ ?_;·((repeat' apply And.intro)<;>first|omega|trivial|assumption|(simp;done)|(simp;omega)))|(refine Sx.mk ?_ ?_;·omega)|refine Im.mk fun _=>?_|refine g_cond ?_|refine g_keep ?_
    all_goals first|(exfalso;omega)|exact lp_next (j + 1) ⟨by omega,fun i hi hij=>(Nat.lt_or_ge i j).elim (fun q=>hne i hi q) (fun q=>by have e:i=j:=(by omega);subst e;exact he)⟩ (by omega)
  ·rw [if_neg (fun q=>by obtain ⟨i,hi,e⟩:=List.mem_take_iff_getElem.1 q;exact hne i (by omega) (by omega) e)] at htw
   repeat' first|apply step|(apply g_op;·repeat first|exact Evs.nil|(apply Evs.cons;exact rfl))|(refine Br.mk (fun _=>?_) (fun _=>?_)<;>try (exfalso;omega))|(refine Sd.mk ?_ ?_;·((repeat' apply And.intro)<;>first|omega|trivial|assumption|(simp;done)|(simp;omega)))|refine g_cond ?_|refine g_keep ?_
   exact lp_next (k + 1) ⟨by omega,htw⟩ (by omega)
 rw [List.drop_eq_nil_of_le hge] at htw
 rw [← htw] at hR
 dsimp only [twL] at hR
 repeat' first|apply step|(apply g_op;·repeat first|exact Evs.nil|(apply Evs.cons;exact rfl))|(refine Br.mk (fun _=>?_) (fun _=>?_)<;>try (exfalso;omega))|refine g_cond ?_|refine g_keep ?_
 refine at_loopS (ι:=Nat) (E:=fun k=>[(2,.pointer (some ⟨hb,0,none⟩)),(3,.pointer (some ⟨rb,0,none⟩)),(8,.int .i64 (k:Int))]) (Δ:=fun k=>fro kHTx p c h::fro (kInt .i64) p1 c1 r.list::fro (kInt .i64) p2 c2 r.own::pt rb [.int .i64 r.txn,.int .i64 r.op,.int .i64 r.key,.slice p1 r.list.length c1,.slice p2 r.own.length c2] 0::pt hb [.slice p h.length c] 0::F) (P:=fun k=>k≤r.list.length∧bornL W (r.list.drop k)=bornL W r.list) (μ:=fun k=>r.list.length - k) 0 ⟨Nat.zero_le _,rfl⟩ ?_
 rintro k2 ⟨hk2,hd⟩
 try dsimp only
 rcases Nat.lt_or_ge k2 r.list.length with hlt|hge2
 ·rw [bornL_drop hlt] at hd
  have hrj:=hwr r.list[k2]
  repeat' first|apply step|(apply g_op;·repeat first|exact Evs.nil|(apply Evs.cons;exact rfl))|(refine Br.mk (fun _=>?_) (fun _=>?_)<;>try (exfalso;omega))|(refine Sd.mk ?_ ?_;·((repeat' apply And.intro)<;>first|omega|trivial|assumption|(simp;done)|(simp;omega)))|(refine Sx.mk ?_ ?_;·omega)|refine Im.mk fun _=>?_|refine g_cond ?_
  refine at_callR (hrj) ?_
  cases hw:W r.list[k2] with
  | none =>
   rw [hw] at hd
   dsimp only at hd
   rw [← hd] at hR
   unfold wrO
   repeat' first|apply step|(apply g_op;·repeat first|exact Evs.nil|(apply Evs.cons;exact rfl))|(refine Sd.mk ?_ ?_;·((repeat' apply And.intro)<;>first|omega|trivial|assumption|(simp;done)|(simp;omega)))|(refine Sx.mk ?_ ?_;·omega)|refine Fa.mk fun _=>?_|refine Im.mk fun _=>?_|apply Lw.go|refine g_cond ?_|refine g_keep ?_|refine g_fin ?_
   exact fin hR
  | some w =>
   rw [hw] at hd
   dsimp only at hd
   unfold wrO
   repeat' first|apply step|(apply g_op;·repeat first|exact Evs.nil|(apply Evs.cons;exact rfl))|(refine Sd.mk ?_ ?_;·((repeat' apply And.intro)<;>first|omega|trivial|assumption|(simp;done)|(simp;omega)))|refine Fa.mk fun _=>?_|apply Lw.go|refine g_cond ?_|refine g_keep ?_
   exact lp_next (k2 + 1) ⟨by omega,hd⟩ (by omega)
 rw [List.drop_eq_nil_of_le hge2] at hd
 rw [← hd] at hR
 dsimp only [bornL] at hR
 repeat' first|apply step|(apply g_op;·repeat first|exact Evs.nil|(apply Evs.cons;exact rfl))|(refine Br.mk (fun _=>?_) (fun _=>?_)<;>try (exfalso;omega))|(refine Sd.mk ?_ ?_;·((repeat' apply And.intro)<;>first|omega|trivial|assumption|(simp;done)|(simp;omega)))|refine g_cond ?_|refine g_keep ?_
 refine at_loopS (ι:=Nat) (E:=fun j=>[(2,.pointer (some ⟨hb,0,none⟩)),(3,.pointer (some ⟨rb,0,none⟩)),(11,.int .i64 ((r.list.length:Int) - (r.own.length:Int))),(12,.int .i64 (j:Int))]) (Δ:=fun k=>fro kHTx p c h::fro (kInt .i64) p1 c1 r.list::fro (kInt .i64) p2 c2 r.own::pt rb [.int .i64 r.txn,.int .i64 r.op,.int .i64 r.key,.slice p1 r.list.length c1,.slice p2 r.own.length c2] 0::pt hb [.slice p h.length c] 0::F) (P:=fun j=>j≤r.own.length∧innA r.list ((r.list.length:Int) - (r.own.length:Int)) (r.own.drop j) j=innA r.list ((r.list.length:Int) - (r.own.length:Int)) r.own 0) (μ:=fun j=>r.own.length - j) 0 ⟨Nat.zero_le _,rfl⟩ ?_
 rintro j ⟨hj,hd2⟩
 try dsimp only
 rcases Nat.lt_or_ge j r.own.length with hlt|hge3
 ·rw [innA_drop hlt] at hd2
  by_cases hneg:(r.list.length:Int) - (r.own.length:Int) + (j:Int) < 0
  ·rw [if_pos (.inl hneg)] at hd2
   unfold innL at hR
   rw [← hd2] at hR
   repeat' first|apply step|(apply g_op;·repeat first|exact Evs.nil|(apply Evs.cons;exact rfl))|(refine Br.mk (fun _=>?_) (fun _=>?_)<;>try (exfalso;omega))|(refine Sd.mk ?_ ?_;·((repeat' apply And.intro)<;>first|omega|trivial|assumption|(simp;done)|(simp;omega)))|(refine Sx.mk ?_ ?_;·omega)|refine Im.mk fun _=>?_|refine g_cond ?_|refine g_guard ?_|refine g_keep ?_|refine g_fin ?_
   all_goals first|exact fin hR|(exfalso;omega)
  ·have hix:((r.list.length:Int) - (r.own.length:Int) + (j:Int)).toNat < r.list.length:=by omega
   by_cases he:r.list[((r.list.length:Int) - (r.own.length:Int) + (j:Int)).toNat]'hix=r.own[j]
   ·rw [if_neg (fun q=>by rcases q with q|q;exact hneg q;exact q (by rw [List.getElem?_eq_getElem hix,he]))] at hd2
    repeat' first|apply step|(apply g_op;·repeat first|exact Evs.nil|(apply Evs.cons;exact rfl))|(refine Br.mk (fun _=>?_) (fun _=>?_)<;>try (exfalso;omega))|(refine Sd.mk ?_ ?_;·((repeat' apply And.intro)<;>first|omega|trivial|assumption|(simp;done)|(simp;omega)))|(refine Sx.mk ?_ ?_;·omega)|refine Im.mk fun _=>?_|refine g_cond ?_|refine g_guard ?_|refine g_keep ?_
    all_goals first|exact lp_next (j + 1) ⟨by omega,hd2⟩ (by omega)|(exfalso;omega)
   ·rw [if_pos (.inr (fun q=>he (Option.some.inj (by rw [← q,List.getElem?_eq_getElem hix]))))] at hd2
    unfold innL at hR
    rw [← hd2] at hR
    repeat' first|apply step|(apply g_op;·repeat first|exact Evs.nil|(apply Evs.cons;exact rfl))|(refine Br.mk (fun _=>?_) (fun _=>?_)<;>try (exfalso;omega))|(refine Sd.mk ?_ ?_;·((repeat' apply And.intro)<;>first|omega|trivial|assumption|(simp;done)|(simp;omega)))|(refine Sx.mk ?_ ?_;·omega)|refine Im.mk fun _=>?_|refine g_cond ?_|refine g_guard ?_|refine g_keep ?_|refine g_fin ?_
    all_goals first|exact fin hR|(exfalso;omega)
 rw [List.drop_eq_nil_of_le hge3] at hd2
 unfold innL at hR
 rw [← hd2] at hR
 dsimp only [innA] at hR
 unfold innB at hR
 repeat' first|apply step|(apply g_op;·repeat first|exact Evs.nil|(apply Evs.cons;exact rfl))|(refine Br.mk (fun _=>?_) (fun _=>?_)<;>try (exfalso;omega))|refine g_cond ?_|refine g_keep ?_
 refine at_callR (r13_Front_spec (r:=r) (by omega) (by omega)) ?_
 intro p3 c3
 generalize frontL r=l at hR hfl ⊢
 repeat' first|apply step|(apply g_op;·repeat first|exact Evs.nil|(apply Evs.cons;exact rfl))|apply Lw.go|refine g_keep ?_
 refine at_loopS (ι:=Nat) (E:=fun j=>[(2,.pointer (some ⟨hb,0,none⟩)),(3,.pointer (some ⟨rb,0,none⟩)),(13,.slice p3 l.length c3),(14,.int .i64 (j:Int))]) (Δ:=fun j=>own (kInt .i64) p3 c3 l::fro kHTx p c h::fro (kInt .i64) p1 c1 r.list::fro (kInt .i64) p2 c2 r.own::pt rb [.int .i64 r.txn,.int .i64 r.op,.int .i64 r.key,.slice p1 r.list.length c1,.slice p2 r.own.length c2] 0::pt hb [.slice p h.length c] 0::F) (P:=fun j=>j≤l.length∧(l.drop j).find? (fun x=>decide (txZ (W x)=r.txn))=l.find? (fun x=>decide (txZ (W x)=r.txn))) (μ:=fun j=>l.length - j) 0 ⟨Nat.zero_le _,rfl⟩ ?_
 rintro k4 ⟨hk4,hd4⟩
 try dsimp only
 rcases Nat.lt_or_ge k4 l.length with hlt|hge4
 ·rw [List.drop_eq_getElem_cons hlt,List.find?_cons] at hd4
  have hrj:=hwr l[k4]
  repeat' first|apply step|(apply g_op;·repeat first|exact Evs.nil|(apply Evs.cons;exact rfl))|(refine Br.mk (fun _=>?_) (fun _=>?_)<;>try (exfalso;omega))|(refine Sd.mk ?_ ?_;·((repeat' apply And.intro)<;>first|omega|trivial|assumption|(simp;done)|(simp;omega)))|(refine Sx.mk ?_ ?_;·omega)|refine Im.mk fun _=>?_|refine g_cond ?_
  refine at_callR (hrj) ?_
  cases hw:W l[k4] with
  | none =>
   rw [hw] at hd4
   unfold wrO
   by_cases h0:(0:Int)=r.txn
   ·rw [show decide (txZ none=r.txn)=true from decide_eq_true h0] at hd4
    rw [← hd4] at hR
    repeat' first|apply step|(apply g_op;·repeat first|exact Evs.nil|(apply Evs.cons;exact rfl))|(refine Br.mk (fun _=>?_) (fun _=>?_)<;>try (exfalso;omega))|(refine Sd.mk ?_ ?_;·((repeat' apply And.intro)<;>first|omega|trivial|assumption|(simp;done)|(simp;omega)))|(refine Sx.mk ?_ ?_;·omega)|refine Fa.mk fun _=>?_|refine Im.mk fun _=>?_|apply Lw.go|refine g_cond ?_|refine g_keep ?_|refine g_fin ?_
    all_goals first|exact fin hR|(exfalso;omega)
   ·rw [show decide (txZ none=r.txn)=false from decide_eq_false h0] at hd4
    repeat' first|apply step|(apply g_op;·repeat first|exact Evs.nil|(apply Evs.cons;exact rfl))|(refine Br.mk (fun _=>?_) (fun _=>?_)<;>try (exfalso;omega))|(refine Sd.mk ?_ ?_;·((repeat' apply And.intro)<;>first|omega|trivial|assumption|(simp;done)|(simp;omega)))|refine Fa.mk fun _=>?_|apply Lw.go|refine g_cond ?_|refine g_keep ?_
    all_goals first|exact lp_next (k4 + 1) ⟨by omega,hd4⟩ (by omega)|(exfalso;omega)
  | some w =>
   rw [hw] at hd4
   unfold wrO
   by_cases h0:w.txn=r.txn
   ·rw [show decide (txZ (some w)=r.txn)=true from decide_eq_true h0] at hd4
    rw [← hd4] at hR
    repeat' first|apply step|(apply g_op;·repeat first|exact Evs.nil|(apply Evs.cons;exact rfl))|(refine Br.mk (fun _=>?_) (fun _=>?_)<;>try (exfalso;omega))|(refine Sd.mk ?_ ?_;·((repeat' apply And.intro)<;>first|omega|trivial|assumption|(simp;done)|(simp;omega)))|(refine Sx.mk ?_ ?_;·omega)|refine Fa.mk fun _=>?_|refine Im.mk fun _=>?_|apply Lw.go|refine g_cond ?_|refine g_keep ?_|refine g_fin ?_
    all_goals first|exact fin hR|(exfalso;omega)
   ·rw [show decide (txZ (some w)=r.txn)=false from decide_eq_false h0] at hd4
    repeat' first|apply step|(apply g_op;·repeat first|exact Evs.nil|(apply Evs.cons;exact rfl))|(refine Br.mk (fun _=>?_) (fun _=>?_)<;>try (exfalso;omega))|(refine Sd.mk ?_ ?_;·((repeat' apply And.intro)<;>first|omega|trivial|assumption|(simp;done)|(simp;omega)))|refine Fa.mk fun _=>?_|apply Lw.go|refine g_cond ?_|refine g_keep ?_
    all_goals first|exact lp_next (k4 + 1) ⟨by omega,hd4⟩ (by omega)|(exfalso;omega)
 ·rw [List.drop_eq_nil_of_le hge4] at hd4
  rw [← hd4] at hR
  repeat' first|apply step|(apply g_op;·repeat first|exact Evs.nil|(apply Evs.cons;exact rfl))|(refine Br.mk (fun _=>?_) (fun _=>?_)<;>try (exfalso;omega))|refine g_cond ?_|refine g_keep ?_|refine g_fin ?_
  exact fin hR
end
end Go.AMS

namespace Go.AMS
open Go.AM hiding Kt At WP WL Runs RunsY
open Go.AM.G
set_option linter.unusedVariables false
set_option linter.unusedSimpArgs false
set_option linter.unusedSectionVars false
set_option maxRecDepth 100000
set_option maxHeartbeats 1000000
attribute [local irreducible] AtS AtV AtC AtG FinA Spec Post LP G.At G.WP G.WL pt own fro rdl ro hx mp lrec elt sub

open Go.AM.G.Set
section
variable {h:List HTx} {r:HRd} {p p1 p2 p3:Option Addr} {c c1 c2 c3:Nat}
def hitsN (R:Int→List HRd) (keys:List Int) (id:Int) (n:Nat):List HRd:=(List.range n).flatMap fun (op:Nat)=>hitL R keys id (op:Int)
theorem hitsN_next {R:Int→List HRd} {keys:List Int} {id:Int} {n:Nat}:hitsN R keys id (n + 1)=hitsN R keys id n++hitL R keys id (n:Int):=by
 unfold hitsN
 rw [List.range_succ,List.flatMap_append]
 congr 1
 simp
theorem allR_eq (R:Int→List HRd) (keys ids:List Int):allR R keys ids=ids.flatMap fun id=>hitsN R keys id 61:=rfl
/-- The reads of some keys that are of a kind. -/
def gK (R:Int→List HRd) (q:HRd→Bool) (l:List Int):List HRd:=l.flatMap fun key=>(R key).filter q
def qH (id op:Int) (r:HRd):Bool:=decide (r.txn=id∧r.op=op)
def qM (id op:Int) (r:HRd):Bool:=decide (r.txn=id∧op < r.op)
theorem gK_hit (R:Int→List HRd) (keys:List Int) (id op:Int):gK R (qH id op) keys=hitL R keys id op:=rfl
theorem gK_next {R:Int→List HRd} {q:HRd→Bool} {l:List Int} {j:Nat} (hj:j < l.length):gK R q (l.take (j + 1))=gK R q (l.take j)++(R l[j]).filter q:=by
 unfold gK
 rw [List.take_succ_eq_append_getElem hj,List.flatMap_append]
 congr 1
 simp
theorem filter_next {α:Type} {q:α→Bool} {l:List α} {i:Nat} (hi:i < l.length):(l.take (i + 1)).filter q=(l.take i).filter q++if q l[i]=true then [l[i]] else []:=by
 rw [List.take_succ_eq_append_getElem hi,List.filter_append]
 cases h:q l[i] <;> simp [h]
theorem flatL_len {α β:Type} (f:α→List β) (n:Nat) (hf:∀ x,(f x).length≤n):∀ l:List α,(l.flatMap f).length≤l.length * n
 | []=>Nat.zero_le _
 | x::l=>by
  have h1:=flatL_len f n hf l
  have h2:=hf x
  rw [List.flatMap_cons,List.length_append,List.length_cons,Nat.succ_mul];omega
theorem gK_len {R:Int→List HRd} {q:HRd→Bool} (hR:∀ key,(R key).length≤1200) (l:List Int):(gK R q l).length≤l.length * 1200:=flatL_len _ 1200 (fun x=>Nat.le_trans (List.length_filter_le _ _) (hR x)) l
theorem hitsN_len {R:Int→List HRd} {keys:List Int} (hR:∀ key,(R key).length≤1200) (hk:keys.length≤60) (id:Int) (n:Nat):(hitsN R keys id n).length≤n * 72000:=by
 have:=flatL_len (fun (op:Nat)=>hitL R keys id (op:Int)) 72000 (fun x=>by have:=gK_len (q:=qH id x) hR keys;rw [gK_hit] at this;omega) (List.range n)
 rw [List.length_range] at this
 exact this
theorem noMore {R:Int→List HRd} {keys:List Int} {id:Int} {n:Nat} (h1:gK R (qH id n) keys=[]) (h2:gK R (qM id n) keys=[]):∀ key ∈ keys,∀ r ∈ R key,r.txn=id→r.op < (n:Int):=fun key hk r hr e=>by
 have g1:r ∉ gK R (qH id n) keys:=by rw [h1];exact List.not_mem_nil
 have g2:r ∉ gK R (qM id n) keys:=by rw [h2];exact List.not_mem_nil
 rcases Int.lt_trichotomy r.op n with q|q|q
 ·exact q
 ·exact absurd (List.mem_flatMap.2 ⟨key,hk,List.mem_filter.2 ⟨hr,decide_eq_true ⟨e,q⟩⟩⟩) g1
 ·exact absurd (List.mem_flatMap.2 ⟨key,hk,List.mem_filter.2 ⟨hr,decide_eq_true ⟨e,q⟩⟩⟩) g2
theorem r13_All_spec (hf:FewH h 20 60) (hk:OkH h):Spec prog1 n_r13_All [.agg #[.slice p h.length c]] [fro kHTx p c h] (fun R=>∀ p' c',R (.slice p' (allR (rdK h) (setL (keysH h)) (setL (comm h))).length c') [own kHRd p' c' (allR (rdK h) (setL (keysH h)) (setL (comm h)))]):=by
 refine spec_code c_r13_All rfl ?_;intro n F R hR;unfold F_r13_All
 have hLR:∀ key,(rdK h key).length≤1200:=fun key=>outR_len hf hk.m key
 have hop:∀ key,∀ r ∈ rdK h key,r.op≤60:=fun key r hr=>(rdK_in hf hk r hr).2.2
 have hRd:∀ key,Spec prog1 n_r12_Reads [.agg #[.slice p h.length c],.int .i64 key] [fro kHTx p c h] (fun R=>∀ p' c',R (.slice p' (rdK h key).length c') [own kHRd p' c' (rdK h key)]):=fun key=>r12_Reads_spec (h:=h) (p:=p) (c:=c) (key:=key) hf hk.m
 have hil:(setL (comm h)).length≤20:=by have:=setL_le (comm h);have:=comm_le h;have:=hf.t;omega
 have hkl:(setL (keysH h)).length≤60:=by have:=(tabS_smK hf).1;rw [keys_sort] at this;exact this
 repeat' first|apply step|(apply g_op;·repeat first|exact Evs.nil|(apply Evs.cons;exact rfl))|refine Fa.mk fun _=>?_
 rename_i hb
 refine at_callR (r12_IDs_spec hf) ?_
 intro pi ci
 repeat' first|apply step|(apply g_op;·repeat first|exact Evs.nil|(apply Evs.cons;exact rfl))|apply Lw.go
 refine at_callR (r12_Keys_spec hf (fun t ht o ho=>by have:=(hk.m t ht).2 o ho;unfold mayO at this;split at this <;> exact this.1)) ?_
 intro pk ck
 generalize setL (comm h)=ids at hR hil ⊢
 generalize setL (keysH h)=keys at hR hkl ⊢
 generalize hRR:rdK h=RK at hR hLR hop hRd ⊢
 rw [allR_eq] at hR
 repeat' first|apply step|(apply g_op;·repeat first|exact Evs.nil|(apply Evs.cons;exact rfl))|apply Lw.go|refine g_keep ?_
 have hHl:∀ k,((ids.take k).flatMap fun id=>hitsN RK keys id 61).length≤87840000:=fun k=>by
  have h1:=flatL_len (fun id=>hitsN RK keys id 61) 4392000 (fun id=>by have:=hitsN_len hLR hkl id 61;omega) (ids.take k)
  have h2:(ids.take k).length≤20:=by rw [List.length_take];omega
  have h3:=Nat.mul_le_mul_right 4392000 h2
  omega
 refine at_loopS (ι:=Nat × (Option Addr × Nat)) (E:=fun z=>[(1,.pointer (some ⟨hb,0,none⟩)),(3,.slice z.2.1 ((ids.take z.1).flatMap fun id=>hitsN RK keys id 61).length z.2.2),(4,.slice pi ids.length ci),(5,.slice pk keys.length ck),(6,.int .i64 (z.1:Int))]) (Δ:=fun z=>own kHRd z.2.1 z.2.2 ((ids.take z.1).flatMap fun id=>hitsN RK keys id 61)::own (kInt .i64) pi ci ids::own (kInt .i64) pk ck keys::pt hb [.slice p h.length c] 0::fro kHTx p c h::F) (P:=fun z=>z.1≤ids.length) (μ:=fun z=>ids.length - z.1) (0,(none,0)) (Nat.zero_le _) ?_
 rintro ⟨k,p1,c1⟩ hk1
 dsimp only at hk1 ⊢
 have hO1:=hHl k
 rcases Nat.lt_or_ge k ids.length with hlt|hge
 ·have hnx:((ids.take (k + 1)).flatMap fun id=>hitsN RK keys id 61)=((ids.take k).flatMap fun id=>hitsN RK keys id 61)++hitsN RK keys ids[k] 61:=by
   rw [List.take_succ_eq_append_getElem hlt,List.flatMap_append]
   congr 1
   simp
  have hend:∀ n:Nat,(∀ key ∈ keys,∀ r ∈ RK key,r.txn=ids[k]→r.op < (n:Int))→hitsN RK keys ids[k] n=hitsN RK keys ids[k] 61:=fun n hn=>hits_end (fun key _ r hr=>hop key r hr) hn
  generalize ((ids.take k).flatMap fun id=>hitsN RK keys id 61)=O1 at hO1 hnx ⊢
  repeat' first|apply step|(apply g_op;·repeat first|exact Evs.nil|(apply Evs.cons;exact rfl))|(refine Br.mk (fun _=>?_) (fun _=>?_)<;>try (exfalso;omega))|refine g_cond ?_|refine g_keep ?_
  refine at_loopS (ι:=Nat × (Option Addr × Nat)) (E:=fun z=>[(1,.pointer (some ⟨hb,0,none⟩)),(3,.slice z.2.1 (O1++hitsN RK keys ids[k] z.1).length z.2.2),(4,.slice pi ids.length ci),(5,.slice pk keys.length ck),(6,.int .i64 (k:Int)),(7,.int .i64 (z.1:Int))]) (Δ:=fun z=>own kHRd z.2.1 z.2.2 (O1++hitsN RK keys ids[k] z.1)::own (kInt .i64) pi ci ids::own (kInt .i64) pk ck keys::pt hb [.slice p h.length c] 0::fro kHTx p c h::F) (P:=fun z=>z.1≤5000) (μ:=fun z=>5000 - z.1) (0,(p1,c1)) (Nat.zero_le _) ?_ (by dsimp only;rw [show hitsN RK keys ids[k] 0=[] from rfl,List.append_nil];rfl) (by dsimp only;rw [show hitsN RK keys ids[k] 0=[] from rfl,List.append_nil];repeat first|exact Ent.refl _|(apply Ent.more;· repeat first|exact Ent.keep|exact Ent.here|exact Ent.lend|exact ent_nil|apply Ent.there)|apply Ent.drop)
  rintro ⟨op,p2,c2⟩ hop1
  dsimp only at hop1 ⊢
  have hO2:(O1++hitsN RK keys ids[k] op).length≤450000000:=by have:=hitsN_len hLR hkl ids[k] op;rw [List.length_append];omega
  rcases Nat.lt_or_ge op 5000 with hl2|hg2
  ·have hnx2:O1++hitsN RK keys ids[k] (op + 1)=(O1++hitsN RK keys ids[k] op)++hitL RK keys ids[k] (op:Int):=by rw [hitsN_next,List.append_assoc]
   generalize hO2e:O1++hitsN RK keys ids[k] op=O2 at hO2 hnx2 ⊢
   repeat' first|apply step|(apply g_op;·repeat first|exact Evs.nil|(apply Evs.cons;exact rfl))|(refine Br.mk (fun _=>?_) (fun _=>?_)<;>try (exfalso;omega))|refine g_cond ?_|refine g_keep ?_
   refine at_loopS (ι:=Nat × (Option Addr × Nat) × (Bool × Bool)) (E:=fun z=>[(1,.pointer (some ⟨hb,0,none⟩)),(3,.slice z.2.1.1 (O2++gK RK (qH ids[k] op) (keys.take z.1)).length z.2.1.2),(4,.slice pi ids.length ci),(5,.slice pk keys.length ck),(6,.int .i64 (k:Int)),(7,.int .i64 (op:Int)),(8,.bool z.2.2.1),(9,.bool z.2.2.2),(10,.int .i64 (z.1:Int))]) (Δ:=fun z=>own kHRd z.2.1.1 z.2.1.2 (O2++gK RK (qH ids[k] op) (keys.take z.1))::own (kInt .i64) pi ci ids::own (kInt .i64) pk ck keys::pt hb [.slice p h.length c] 0::fro kHTx p c h::F) (P:=fun z=>z.1≤keys.length∧(z.2.2.1=false→gK RK (qH ids[k] op) (keys.take z.1)=[])∧(z.2.2.2=false→gK RK (qM ids[k] op) (keys.take z.1)=[])) (μ:=fun z=>keys.length - z.1) (0,(p2,c2),(false,false)) ⟨Nat.zero_le _,fun _=>rfl,fun _=>rfl⟩ ?_ (by dsimp only;rw [show gK RK (qH ids[k] op) (keys.take 0)=[] from rfl,List.append_nil];rfl) (by dsimp only;rw [show gK RK (qH ids[k] op) (keys.take 0)=[] from rfl,List.append_nil];repeat first|exact Ent.refl _|(apply Ent.more;· repeat first|exact Ent.keep|exact Ent.here|exact Ent.lend|exact ent_nil|apply Ent.there)|apply Ent.drop)
   rintro ⟨j,⟨p3,c3⟩,⟨fo,mo⟩⟩ ⟨hj,hfo,hmo⟩
   dsimp only at hj hfo hmo ⊢
   rcases Nat.lt_or_ge j keys.length with hl3|hg3
   ·have hn1:=gK_next (R:=RK) (q:=qH ids[k] op) hl3
    have hn2:=gK_next (R:=RK) (q:=qM ids[k] op) hl3
    have hO3:(O2++gK RK (qH ids[k] op) (keys.take j)).length≤450072000:=by
     have h1:=gK_len (q:=qH ids[k] op) hLR (keys.take j)
     have h2:(keys.take j).length≤60:=by rw [List.length_take];omega
     have h3:=Nat.mul_le_mul_right 1200 h2
     rw [List.length_append];omega
    have hLj:=hLR keys[j]
    repeat' first|apply step|(apply g_op;·repeat first|exact Evs.nil|(apply Evs.cons;exact rfl))|(refine Br.mk (fun _=>?_) (fun _=>?_)<;>try (exfalso;omega))|(refine Sd.mk ?_ ?_;·((repeat' apply And.intro)<;>first|omega|trivial|assumption|(simp;done)|(simp;omega)))|(refine Sx.mk ?_ ?_;·omega)|refine Im.mk fun _=>?_|refine g_cond ?_
    refine at_callS (hRd keys[j]) ?_
    intro p4 c4
    generalize RK keys[j]=L at hn1 hn2 hLj ⊢
    generalize gK RK (qM ids[k] op) (keys.take j)=Gm at hmo hn2
    generalize gK RK (qH ids[k] op) (keys.take j)=Gh at hfo hn1 hO3 ⊢
    repeat' first|apply step|(apply g_op;·repeat first|exact Evs.nil|(apply Evs.cons;exact rfl))|refine g_keep ?_
    refine at_loopS (ι:=Nat × (Option Addr × Nat) × (Bool × Bool)) (E:=fun z=>[(1,.pointer (some ⟨hb,0,none⟩)),(3,.slice z.2.1.1 (O2++(Gh++(L.take z.1).filter (qH ids[k] op))).length z.2.1.2),(4,.slice pi ids.length ci),(5,.slice pk keys.length ck),(6,.int .i64 (k:Int)),(7,.int .i64 (op:Int)),(8,.bool z.2.2.1),(9,.bool z.2.2.2),(10,.int .i64 (j:Int)),(11,.slice p4 L.length c4),(12,.int .i64 (z.1:Int))]) (Δ:=fun z=>own kHRd z.2.1.1 z.2.1.2 (O2++(Gh++(L.take z.1).filter (qH ids[k] op)))::own kHRd p4 c4 L::own (kInt .i64) pi ci ids::own (kInt .i64) pk ck keys::pt hb [.slice p h.length c] 0::fro kHTx p c h::F) (P:=fun z=>z.1≤L.length∧(z.2.2.1=false→Gh++(L.take z.1).filter (qH ids[k] op)=[])∧(z.2.2.2=false→Gm++(L.take z.1).filter (qM ids[k] op)=[])) (μ:=fun z=>L.length - z.1) (0,(p3,c3),(fo,mo)) ⟨Nat.zero_le _,fun q=>by rw [hfo q];rfl,fun q=>by rw [hmo q];rfl⟩ ?_ (by dsimp only;rw [List.take_zero,List.filter_nil,List.append_nil];rfl) (by dsimp only;rw [List.take_zero,List.filter_nil,List.append_nil];repeat first|exact Ent.refl _|(apply Ent.more;· repeat first|exact Ent.keep|exact Ent.here|exact Ent.lend|exact ent_nil|apply Ent.there)|apply Ent.drop)
    rintro ⟨i,⟨p5,c5⟩,⟨fu,mu⟩⟩ ⟨hi,hfu,hmu⟩
    dsimp only at hi hfu hmu ⊢
    rcases Nat.lt_or_ge i L.length with hl4|hg4
    ·have hf1:=filter_next (q:=qH ids[k] op) hl4
     have hf2:=filter_next (q:=qM ids[k] op) hl4
     have hO4:(O2++(Gh++(L.take i).filter (qH ids[k] op))).length≤450080000:=by
      have h1:=List.length_filter_le (qH ids[k] op) (L.take i)
      have h2:(L.take i).length≤1200:=by rw [List.length_take];omega
      rw [← List.append_assoc,List.length_append];omega
     by_cases hh:L[i].txn=ids[k]∧L[i].op=(op:Int)
     ·rw [if_pos (show qH ids[k] op L[i]=true from decide_eq_true hh)] at hf1
      rw [if_neg (show ¬ qM ids[k] op L[i]=true from fun q=>by have:=of_decide_eq_true q;omega),List.append_nil] at hf2
      have hnew:O2++(Gh++(L.take (i + 1)).filter (qH ids[k] op))=(O2++(Gh++(L.take i).filter (qH ids[k] op)))++[⟨L[i].txn,L[i].op,L[i].key,L[i].list,L[i].own⟩]:=by
       rw [hf1,List.append_assoc,List.append_assoc]
      cases mu with
      | true =>
       repeat' first|apply step|(apply g_op;·repeat first|exact Evs.nil|(apply Evs.cons;exact rfl))|(refine Br.mk (fun _=>?_) (fun _=>?_)<;>try (exfalso;omega))|(refine Sd.mk ?_ ?_;·((repeat' apply And.intro)<;>first|omega|trivial|assumption|(simp;done)|(simp;omega)))|(refine Sx.mk ?_ ?_;·omega)|refine Fa.mk fun _=>?_|refine Im.mk fun _=>?_|refine g_cond ?_|refine g_guard ?_|refine g_keep ?_
       all_goals first|(exfalso;omega)|exact lp_next (i + 1,(_,_),(true,true)) ⟨by dsimp only;omega,fun q=>(by cases q),fun q=>(by cases q)⟩ (by dsimp only;omega) (by dsimp only;rw [hnew]) (by dsimp only;rw [hnew];repeat first|exact Ent.refl _|(apply Ent.more;· repeat first|exact Ent.keep|exact Ent.here|exact Ent.lend|exact ent_nil|apply Ent.there)|apply Ent.drop)
      | false =>
       repeat' first|apply step|(apply g_op;·repeat first|exact Evs.nil|(apply Evs.cons;exact rfl))|(refine Br.mk (fun _=>?_) (fun _=>?_)<;>try (exfalso;omega))|(refine Sd.mk ?_ ?_;·((repeat' apply And.intro)<;>first|omega|trivial|assumption|(simp;done)|(simp;omega)))|(refine Sx.mk ?_ ?_;·omega)|refine Fa.mk fun _=>?_|refine Im.mk fun _=>?_|refine g_cond ?_|refine g_guard ?_|refine g_keep ?_
       all_goals first|(exfalso;omega)|exact lp_next (i + 1,(_,_),(true,false)) ⟨by dsimp only;omega,fun q=>(by cases q),fun q=>by dsimp only;rw [hf2];exact hmu rfl⟩ (by dsimp only;omega) (by dsimp only;rw [hnew]) (by dsimp only;rw [hnew];repeat first|exact Ent.refl _|(apply Ent.more;· repeat first|exact Ent.keep|exact Ent.here|exact Ent.lend|exact ent_nil|apply Ent.there)|apply Ent.drop)
     ·rw [if_neg (show ¬ qH ids[k] op L[i]=true from fun q=>hh (of_decide_eq_true q)),List.append_nil] at hf1
      cases mu with
      | true =>
       repeat' first|apply step|(apply g_op;·repeat first|exact Evs.nil|(apply Evs.cons;exact rfl))|(refine Br.mk (fun _=>?_) (fun _=>?_)<;>try (exfalso;omega))|(refine Sd.mk ?_ ?_;·((repeat' apply And.intro)<;>first|omega|trivial|assumption|(simp;done)|(simp;omega)))|(refine Sx.mk ?_ ?_;·omega)|refine Im.mk fun _=>?_|refine g_cond ?_|refine g_guard ?_|refine g_keep ?_
       all_goals first|(exfalso;omega)|exact lp_next (i + 1,(_,_),(fu,true)) ⟨by dsimp only;omega,fun q=>by dsimp only;rw [hf1];exact hfu q,fun q=>(by cases q)⟩ (by dsimp only;omega) (by dsimp only;rw [hf1]) (by dsimp only;rw [hf1];repeat first|exact Ent.refl _|(apply Ent.more;· repeat first|exact Ent.keep|exact Ent.here|exact Ent.lend|exact ent_nil|apply Ent.there)|apply Ent.drop)
      | false =>
       by_cases hm:L[i].txn=ids[k]∧(op:Int) < L[i].op
       ·repeat' first|apply step|(apply g_op;·repeat first|exact Evs.nil|(apply Evs.cons;exact rfl))|(refine Br.mk (fun _=>?_) (fun _=>?_)<;>try (exfalso;omega))|(refine Sd.mk ?_ ?_;·((repeat' apply And.intro)<;>first|omega|trivial|assumption|(simp;done)|(simp;omega)))|(refine Sx.mk ?_ ?_;·omega)|refine Im.mk fun _=>?_|refine g_cond ?_|refine g_guard ?_|refine g_keep ?_
        all_goals first|(exfalso;omega)|exact lp_next (i + 1,(_,_),(fu,true)) ⟨by dsimp only;omega,fun q=>by dsimp only;rw [hf1];exact hfu q,fun q=>(by cases q)⟩ (by dsimp only;omega) (by dsimp only;rw [hf1]) (by dsimp only;rw [hf1];repeat first|exact Ent.refl _|(apply Ent.more;· repeat first|exact Ent.keep|exact Ent.here|exact Ent.lend|exact ent_nil|apply Ent.there)|apply Ent.drop)
       ·rw [if_neg (show ¬ qM ids[k] op L[i]=true from fun q=>hm (of_decide_eq_true q)),List.append_nil] at hf2
        repeat' first|apply step|(apply g_op;·repeat first|exact Evs.nil|(apply Evs.cons;exact rfl))|(refine Br.mk (fun _=>?_) (fun _=>?_)<;>try (exfalso;omega))|(refine Sd.mk ?_ ?_;·((repeat' apply And.intro)<;>first|omega|trivial|assumption|(simp;done)|(simp;omega)))|(refine Sx.mk ?_ ?_;·omega)|refine Im.mk fun _=>?_|refine g_cond ?_|refine g_guard ?_|refine g_keep ?_
        all_goals first|(exfalso;omega)|exact lp_next (i + 1,(_,_),(fu,false)) ⟨by dsimp only;omega,fun q=>by dsimp only;rw [hf1];exact hfu q,fun q=>by dsimp only;rw [hf2];exact hmu rfl⟩ (by dsimp only;omega) (by dsimp only;rw [hf1]) (by dsimp only;rw [hf1];repeat first|exact Ent.refl _|(apply Ent.more;· repeat first|exact Ent.keep|exact Ent.here|exact Ent.lend|exact ent_nil|apply Ent.there)|apply Ent.drop)
    ·rw [List.take_of_length_le hg4] at hfu hmu ⊢
     rw [← hn1] at hfu ⊢
     rw [← hn2] at hmu
     repeat' first|apply step|(apply g_op;·repeat first|exact Evs.nil|(apply Evs.cons;exact rfl))|(refine Br.mk (fun _=>?_) (fun _=>?_)<;>try (exfalso;omega))|(refine Sd.mk ?_ ?_;·((repeat' apply And.intro)<;>first|omega|trivial|assumption|(simp;done)|(simp;omega)))|refine g_cond ?_|refine g_keep ?_
     exact lp_next (j + 1,(_,_),(fu,mu)) ⟨by dsimp only;omega,hfu,hmu⟩ (by dsimp only;omega)
   ·rw [List.take_of_length_le hg3] at hfo hmo ⊢
    have hfo2:fo=false→mo=false→hitsN RK keys ids[k] op=hitsN RK keys ids[k] 61:=fun q1 q2=>hend op (noMore (hfo q1) (hmo q2))
    rw [gK_hit] at hfo ⊢
    cases fo with
    | true =>
     rw [← hnx2]
     repeat' first|apply step|(apply g_op;·repeat first|exact Evs.nil|(apply Evs.cons;exact rfl))|(refine Br.mk (fun _=>?_) (fun _=>?_)<;>try (exfalso;omega))|(refine Sd.mk ?_ ?_;·((repeat' apply And.intro)<;>first|omega|trivial|assumption|(simp;done)|(simp;omega)))|refine g_cond ?_|refine g_guard ?_|refine g_keep ?_
     exact lp_next (op + 1,_,_) (by dsimp only;omega) (by dsimp only;omega)
    | false =>
     cases mo with
     | true =>
      rw [← hnx2]
      repeat' first|apply step|(apply g_op;·repeat first|exact Evs.nil|(apply Evs.cons;exact rfl))|(refine Br.mk (fun _=>?_) (fun _=>?_)<;>try (exfalso;omega))|(refine Sd.mk ?_ ?_;·((repeat' apply And.intro)<;>first|omega|trivial|assumption|(simp;done)|(simp;omega)))|refine g_cond ?_|refine g_guard ?_|refine g_keep ?_
      exact lp_next (op + 1,_,_) (by dsimp only;omega) (by dsimp only;omega)
     | false =>
      rw [hfo rfl,List.append_nil,← hO2e,hfo2 rfl rfl,← hnx]
      repeat' first|apply step|(apply g_op;·repeat first|exact Evs.nil|(apply Evs.cons;exact rfl))|(refine Br.mk (fun _=>?_) (fun _=>?_)<;>try (exfalso;omega))|(refine Sd.mk ?_ ?_;·((repeat' apply And.intro)<;>first|omega|trivial|assumption|(simp;done)|(simp;omega)))|refine g_cond ?_|refine g_guard ?_|refine g_keep ?_|refine g_pass ?_
      exact lp_next (k + 1,_,_) (by dsimp only;omega) (by dsimp only;omega)
  ·have e:op=5000:=by omega
   subst e
   rw [hend 5000 (fun key _ r hr _=>by have:=hop key r hr;omega),← hnx]
   repeat' first|apply step|(apply g_op;·repeat first|exact Evs.nil|(apply Evs.cons;exact rfl))|(refine Br.mk (fun _=>?_) (fun _=>?_)<;>try (exfalso;omega))|(refine Sd.mk ?_ ?_;·((repeat' apply And.intro)<;>first|omega|trivial|assumption|(simp;done)|(simp;omega)))|refine g_cond ?_|refine g_keep ?_
   exact lp_next (k + 1,_,_) (by dsimp only;omega) (by dsimp only;omega)
 ·rw [List.take_of_length_le hge]
  repeat' first|apply step|(apply g_op;·repeat first|exact Evs.nil|(apply Evs.cons;exact rfl))|(refine Br.mk (fun _=>?_) (fun _=>?_)<;>try (exfalso;omega))|refine g_cond ?_|refine g_keep ?_|refine g_fin ?_
  exact fin (hR p1 c1)
end
end Go.AMS

namespace Go.AMS
open Go.AM hiding Kt At WP WL Runs RunsY
open Go.AM.G
set_option linter.unusedVariables false
set_option linter.unusedSimpArgs false
set_option linter.unusedSectionVars false
set_option maxRecDepth 100000
set_option maxHeartbeats 1000000
attribute [local irreducible] AtS AtV AtC AtG FinA Spec Post LP G.At G.WP G.WL pt own fro rdl ro hx mp lrec elt sub

open Go.AM.G.Set
section
variable {h:List HTx} {T:Tb} {r:HRd} {p q p1 p2:Option Addr} {c d c1 c2 b mr mt:Nat}
theorem table_Table_Writer_specR {x y:Int}:Spec prog1 n_table_Table_Writer [.pointer (some ⟨b,0,none⟩),.int .i64 x,.int .i64 y] [ro (tabC b T mr mt)] (fun R=>R (wrO (aget (x,y) T.wr)) []):=by
 refine spec_code c_table_Table_Writer rfl ?_;intro n F R hR;unfold F_table_Table_Writer
 refine at_openRP (tabC b T mr mt) rfl ?_
 rintro ⟨⟨⟨pi,ci⟩,⟨pk,ck⟩⟩,⟨mw,ma⟩⟩ -
 try dsimp only [List.cons_append,List.nil_append]
 repeat' first|apply step|(apply g_op;·repeat first|exact Evs.nil|(apply Evs.cons;exact rfl))|refine Fa.mk fun _=>?_
 refine at_callR (table_Table_is_spec) ?_
 repeat' first|apply step|(apply g_op;·repeat first|exact Evs.nil|(apply Evs.cons;exact rfl))|apply Lw.go|refine g_cond ?_
 cases hq:aget (x,y) T.wr with
 | some w =>
  rw [hq] at hR
  refine av_look1 (enc:=kII) (vv:=wrV) (key:=(x,y)) inferInstance hq ?_
  repeat' first|apply step|(apply g_op;·repeat first|exact Evs.nil|(apply Evs.cons;exact rfl))|refine Fa.mk fun _=>?_|refine g_keep ?_|refine g_fin ?_
  exact fin hR
 | none =>
  rw [hq] at hR
  refine av_look0 (enc:=kII) (vv:=wrV) (key:=(x,y)) inferInstance hq ?_
  repeat' first|apply step|(apply g_op;·repeat first|exact Evs.nil|(apply Evs.cons;exact rfl))|refine Fa.mk fun _=>?_|refine g_keep ?_|refine g_fin ?_
  exact fin hR
theorem table_Table_Keys_specR (hl:T.keys.length≤1000000):Spec prog1 n_table_Table_Keys [.pointer (some ⟨b,0,none⟩)] [ro (tabC b T mr mt)] (fun R=>∀ p' c',R (.slice p' T.keys.length c') [own (kInt .i64) p' c' T.keys]):=by
 refine spec_code c_table_Table_Keys rfl ?_;intro n F R hR;unfold F_table_Table_Keys
 refine at_openRP (tabC b T mr mt) rfl ?_
 rintro ⟨⟨⟨pi,ci⟩,⟨pk,ck⟩⟩,⟨mw,ma⟩⟩ -
 dsimp only
 repeat' first|apply step|(apply g_op;·repeat first|exact Evs.nil|(apply Evs.cons;exact rfl))
 refine at_callR (table_Table_is_spec) ?_
 repeat' first|apply step|(apply g_op;·repeat first|exact Evs.nil|(apply Evs.cons;exact rfl))|apply Lw.go|refine g_cond ?_
 refine at_callR (slices_Clone_int_int_spec (l:=T.keys) (by omega)) ?_
 intro p1 c1
 repeat' first|apply step|(apply g_op;·repeat first|exact Evs.nil|(apply Evs.cons;exact rfl))|apply Lw.go|refine g_fin ?_
 exact fin (hR p1 c1)
theorem table_Table_Appends_specR {x y:Int} (hl:(agl (x,y) T.ap).length≤1000000):Spec prog1 n_table_Table_Appends [.pointer (some ⟨b,0,none⟩),.int .i64 x,.int .i64 y] [ro (tabC b T mr mt)] (fun R=>∀ p' c',R (.slice p' (agl (x,y) T.ap).length c') [own (kInt .i64) p' c' (agl (x,y) T.ap)]):=by
 refine spec_code c_table_Table_Appends rfl ?_;intro n F R hR;unfold F_table_Table_Appends
 refine at_openRP (tabC b T mr mt) rfl ?_
 rintro ⟨⟨⟨pi,ci⟩,⟨pk,ck⟩⟩,⟨mw,ma⟩⟩ -
 dsimp only
 apply step
 refine at_openRP (mapL ma kII (kInt .i64) T.ap) rfl ?_
 rintro Z hZ
 dsimp only
 have hal:=atE_agl (k:=(x,y)) hZ
 repeat' first|apply step|(apply g_op;·repeat first|exact Evs.nil|(apply Evs.cons;exact rfl))
 refine at_callR (table_Table_is_spec) ?_
 repeat' first|apply step|(apply g_op;·repeat first|exact Evs.nil|(apply Evs.cons;exact rfl))|apply Lw.go|refine g_cond ?_
 refine av_atE (enc:=kII) (k:=(x,y)) inferInstance ?_
 refine at_via (takeER (K:=kInt .i64) (k:=(x,y)) (Z:=Z)) ?_
 rw [hal]
 repeat' first|apply step|(apply g_op;·repeat first|exact Evs.nil|(apply Evs.cons;exact rfl))
 refine at_callR (slices_Clone_int_int_spec (l:=agl (x,y) T.ap) (by omega)) ?_
 intro p1 c1
 repeat' first|apply step|(apply g_op;·repeat first|exact Evs.nil|(apply Evs.cons;exact rfl))|apply Lw.go|refine g_keep ?_|refine g_fin ?_
 exact fin (hR p1 c1)
end
end Go.AMS

namespace Go.AMS
open Go.AM hiding Kt At WP WL Runs RunsY
open Go.AM.G
set_option linter.unusedVariables false
set_option linter.unusedSimpArgs false
set_option linter.unusedSectionVars false
set_option maxRecDepth 100000
set_option maxHeartbeats 1000000
attribute [local irreducible] AtS AtV AtC AtG FinA Spec Post LP G.At G.WP G.WL pt own fro rdl ro hx mp lrec elt sub

open Go.AM.G.Set
section
variable {h:List HTx} {T:Tb} {r:HRd} {p q p1 p2:Option Addr} {c d c1 c2 b mr mt:Nat}
theorem dirty_Aborted_specR (h1:r.list.length≤1000) (h2:r.own.length≤1000):Spec prog1 n_dirty_Aborted [.pointer (some ⟨b,0,none⟩),.agg #[.int .i64 r.txn,.int .i64 r.op,.int .i64 r.key,.slice p1 r.list.length c1,.slice p2 r.own.length c2]] [ro (tabC b T mr mt),fro (kInt .i64) p1 c1 r.list] (fun R=>R (triO (abL (wK T r.key) (frontL r))) []):=by
 refine spec_code c_dirty_Aborted rfl ?_;intro n F R hR;unfold F_dirty_Aborted
 have hfl:=frontL_len r
 repeat' first|apply step|(apply g_op;·repeat first|exact Evs.nil|(apply Evs.cons;exact rfl))|refine Fa.mk fun _=>?_
 refine at_callS (reads_Front_spec h1 h2) ?_
 intro p3 c3
 generalize hW:wK T r.key=W at hR ⊢
 generalize frontL r=l at hR hfl ⊢
 repeat' first|apply step|(apply g_op;·repeat first|exact Evs.nil|(apply Evs.cons;exact rfl))|refine g_keep ?_
 rename_i rb
 refine at_loopS (ι:=Nat) (E:=fun j=>[(0,.pointer (some ⟨b,0,none⟩)),(3,.pointer (some ⟨rb,0,none⟩)),(12,.slice p3 l.length c3),(13,.int .i64 (l.length:Int)),(14,.int .i64 (j:Int))]) (Δ:=fun j=>own (kInt .i64) p3 c3 l::ro (tabC b T mr mt)::pt rb [.int .i64 r.txn,.int .i64 r.op,.int .i64 r.key,.slice p1 r.list.length c1,.slice p2 r.own.length c2] 0::F) (P:=fun j=>j≤l.length∧abL W (l.drop j)=abL W l) (μ:=fun j=>l.length - j) 0 ⟨Nat.zero_le _,rfl⟩ ?_
 rintro j ⟨hj,hd⟩
 try dsimp only
 rcases Nat.lt_or_ge j l.length with hlt|hge
 ·rw [abL_drop hlt] at hd
  repeat' first|apply step|(apply g_op;·repeat first|exact Evs.nil|(apply Evs.cons;exact rfl))|(refine Br.mk (fun _=>?_) (fun _=>?_)<;>try (exfalso;omega))|(refine Sd.mk ?_ ?_;·((repeat' apply And.intro)<;>first|omega|trivial|assumption|(simp;done)|(simp;omega)))|(refine Sx.mk ?_ ?_;·omega)|refine Im.mk fun _=>?_|refine g_cond ?_
  refine at_callR (table_Table_Writer_specR (T:=T) (mr:=mr) (mt:=mt) (x:=r.key) (y:=l[j])) ?_
  rw [show aget (r.key,l[j]) T.wr=W l[j] by rw [← hW]]
  cases hw:W l[j] with
  | none =>
   rw [hw] at hd
   unfold wrO
   repeat' first|apply step|(apply g_op;·repeat first|exact Evs.nil|(apply Evs.cons;exact rfl))|(refine Sd.mk ?_ ?_;·((repeat' apply And.intro)<;>first|omega|trivial|assumption|(simp;done)|(simp;omega)))|refine Fa.mk fun _=>?_|apply Lw.go|refine g_cond ?_|refine g_guard ?_|refine g_keep ?_
   exact lp_next (j + 1) ⟨by omega,hd⟩ (by omega)
  | some w =>
   rw [hw] at hd
   dsimp only at hd
   unfold wrO
   cases hab:w.ab
   ·rw [hab] at hd
    repeat' first|rw [hab]|apply step|(apply g_op;·repeat first|exact Evs.nil|(apply Evs.cons;exact rfl))|(refine Sd.mk ?_ ?_;·((repeat' apply And.intro)<;>first|omega|trivial|assumption|(simp;done)|(simp;omega)))|refine Fa.mk fun _=>?_|apply Lw.go|refine g_cond ?_|refine g_guard ?_|refine g_keep ?_
    exact lp_next (j + 1) ⟨by omega,by simpa using hd⟩ (by omega)
   ·rw [hab,if_pos rfl] at hd
    rw [← hd] at hR
    repeat' first|rw [hab]|apply step|(apply g_op;·repeat first|exact Evs.nil|(apply Evs.cons;exact rfl))|refine Fa.mk fun _=>?_|apply Lw.go|refine g_cond ?_|refine g_guard ?_|refine g_keep ?_|refine g_fin ?_
    exact fin hR
 ·rw [List.drop_eq_nil_of_le hge] at hd
  rw [← hd] at hR
  repeat' first|apply step|(apply g_op;·repeat first|exact Evs.nil|(apply Evs.cons;exact rfl))|(refine Br.mk (fun _=>?_) (fun _=>?_)<;>try (exfalso;omega))|refine g_cond ?_|refine g_keep ?_|refine g_fin ?_
  exact fin hR
theorem dirty_Middle_specR (h1:r.list.length≤1000) (h2:r.own.length≤1000) (hap:∀ x w,wK T r.key x=some w→0 < (agl (w.txn,r.key) T.ap).length) (hal:∀ x,(agl (x,r.key) T.ap).length≤60):Spec prog1 n_dirty_Middle [.pointer (some ⟨b,0,none⟩),.agg #[.int .i64 r.txn,.int .i64 r.op,.int .i64 r.key,.slice p1 r.list.length c1,.slice p2 r.own.length c2]] [ro (tabC b T mr mt),fro (kInt .i64) p1 c1 r.list] (fun R=>R (triO (midL (wK T r.key) (fun id=>agl (id,r.key) T.ap) (frontL r))) []):=by
 refine spec_code c_dirty_Middle rfl ?_;intro n F R hR;unfold F_dirty_Middle
 have hfl:=frontL_len r
 repeat' first|apply step|(apply g_op;·repeat first|exact Evs.nil|(apply Evs.cons;exact rfl))|refine Fa.mk fun _=>?_
 refine at_callS (reads_Front_spec h1 h2) ?_
 intro p3 c3
 generalize hW:wK T r.key=W at hR hap ⊢
 generalize frontL r=l at hR hfl ⊢
 rcases Nat.eq_zero_or_pos l.length with h0|h0
 ·have:l=[]:=List.length_eq_zero_iff.1 h0
  subst this
  repeat' first|apply step|(apply g_op;·repeat first|exact Evs.nil|(apply Evs.cons;exact rfl))|(refine Br.mk (fun _=>?_) (fun _=>?_)<;>try (exfalso;omega))|refine g_cond ?_|refine g_fin ?_
  exact fin hR
 ·unfold midL at hR
  rw [getLast_at h0] at hR
  obtain ⟨x,hx⟩:∃ x,x=l[((l.length:Int) - 1).toNat]'(by omega):=⟨_,rfl⟩
  rw [← hx] at hR
  dsimp only at hR
  repeat' first|apply step|(apply g_op;·repeat first|exact Evs.nil|(apply Evs.cons;exact rfl))|(refine Br.mk (fun _=>?_) (fun _=>?_)<;>try (exfalso;omega))|(refine Sd.mk ?_ ?_;·((repeat' apply And.intro)<;>first|omega|trivial|assumption|(simp;done)|(simp;omega)))|(refine Sx.mk ?_ ?_;·omega)|refine Im.mk fun _=>?_|refine g_cond ?_|refine g_keep ?_
  rw [← hx]
  refine at_callR (table_Table_Writer_specR (T:=T) (mr:=mr) (mt:=mt) (x:=r.key) (y:=x)) ?_
  rw [show aget (r.key,x) T.wr=W x by rw [← hW]]
  cases hw:W x with
  | none =>
   rw [hw] at hR
   unfold wrO
   repeat' first|apply step|(apply g_op;·repeat first|exact Evs.nil|(apply Evs.cons;exact rfl))|refine Fa.mk fun _=>?_|apply Lw.go|refine g_cond ?_|refine g_guard ?_|refine g_keep ?_|refine g_fin ?_
   exact fin hR
  | some w =>
   rw [hw] at hR
   dsimp only at hR
   unfold wrO
   cases hab:w.ab
   ·rw [hab] at hR
    have hpos:=hap x w hw
    have hle:=hal w.txn
    simp only [Bool.false_eq_true,if_false] at hR
    rw [getLast_at hpos] at hR
    repeat' first|rw [hab]|apply step|(apply g_op;·repeat first|exact Evs.nil|(apply Evs.cons;exact rfl))|refine Fa.mk fun _=>?_|apply Lw.go|refine g_cond ?_|refine g_guard ?_|refine g_keep ?_
    refine at_callR (table_Table_Appends_specR (T:=T) (x:=w.txn) (y:=r.key) (by omega)) ?_
    intro p4 c4
    obtain ⟨y,hy⟩:∃ y,y=(agl (w.txn,r.key) T.ap)[(((agl (w.txn,r.key) T.ap).length:Int) - 1).toNat]'(by omega):=⟨_,rfl⟩
    rw [← hy] at hR
    by_cases hxy:y=x
    ·rw [if_pos (by rw [hxy])] at hR
     repeat' first|apply step|(apply g_op;·repeat first|exact Evs.nil|(apply Evs.cons;exact rfl))|(refine Br.mk (fun _=>?_) (fun _=>?_)<;>try (exfalso;omega))|(refine Sd.mk ?_ ?_;·((repeat' apply And.intro)<;>first|omega|trivial|assumption|(simp;done)|(simp;omega)))|(refine Sx.mk ?_ ?_;·omega)|refine Im.mk fun _=>?_|apply Lw.go|refine g_cond ?_|refine g_keep ?_|refine g_fin ?_
     all_goals first|exact fin hR|(exfalso;apply ‹¬ _›;rw [← hy];exact hxy)|(exfalso;omega)
    ·rw [if_neg (fun q=>hxy (Option.some.inj q))] at hR
     repeat' first|apply step|(apply g_op;·repeat first|exact Evs.nil|(apply Evs.cons;exact rfl))|(refine Br.mk (fun _=>?_) (fun _=>?_)<;>try (exfalso;omega))|(refine Sd.mk ?_ ?_;·((repeat' apply And.intro)<;>first|omega|trivial|assumption|(simp;done)|(simp;omega)))|(refine Sx.mk ?_ ?_;·omega)|refine Im.mk fun _=>?_|apply Lw.go|refine g_cond ?_|refine g_keep ?_|refine g_fin ?_
     all_goals first|exact fin hR|(exfalso;apply hxy;rw [hy];assumption)|(exfalso;omega)
   ·rw [hab] at hR
    simp only [if_true] at hR
    repeat' first|rw [hab]|apply step|(apply g_op;·repeat first|exact Evs.nil|(apply Evs.cons;exact rfl))|refine Fa.mk fun _=>?_|apply Lw.go|refine g_cond ?_|refine g_guard ?_|refine g_keep ?_|refine g_fin ?_
    exact fin hR
theorem dirty_Torn_specR (h1:r.list.length≤100) (h2:r.own.length≤100) (hb:∀ x w,wK T r.key x=some w→-9223372036854775808≤w.txn∧w.txn≤9223372036854775807) (hal:∀ x,(agl (x,r.key) T.ap).length≤60):Spec prog1 n_dirty_Torn [.pointer (some ⟨b,0,none⟩),.agg #[.int .i64 r.txn,.int .i64 r.op,.int .i64 r.key,.slice p1 r.list.length c1,.slice p2 r.own.length c2]] [ro (tabC b T mr mt),fro (kInt .i64) p1 c1 r.list] (fun R=>R (triO (tornP (wK T r.key) (fun id=>agl (id,r.key) T.ap) (frontL r))) []):=by
 refine spec_code c_dirty_Torn rfl ?_;intro n F R hR;unfold F_dirty_Torn
 have hfl:=frontL_len r
 repeat' first|apply step|(apply g_op;·repeat first|exact Evs.nil|(apply Evs.cons;exact rfl))|refine Fa.mk fun _=>?_
 refine at_callS (reads_Front_spec (r:=r) (by omega) (by omega)) ?_
 intro p3 c3
 generalize hW:wK T r.key=W at hR hb ⊢
 generalize frontL r=l at hR hfl ⊢
 repeat' first|apply step|(apply g_op;·repeat first|exact Evs.nil|(apply Evs.cons;exact rfl))|refine g_keep ?_
 rename_i rb ma
 refine at_via (mapL_new (enc:=kI) (K:=kInt .i64) (r:=ma)) ?_
 refine at_loopS (ι:=Nat × (Option Addr × Nat) × List (Int × List Int)) (E:=fun z=>[(0,.pointer (some ⟨b,0,none⟩)),(3,.pointer (some ⟨rb,0,none⟩)),(7,.slice z.2.1.1 (idsD W (l.take z.1)).length z.2.1.2),(8,.map (some ma)),(18,.slice p3 l.length c3),(19,.int .i64 (l.length:Int)),(20,.int .i64 (z.1:Int))]) (Δ:=fun z=>own (kInt .i64) z.2.1.1 z.2.1.2 (idsD W (l.take z.1))::mapL ma kI (kInt .i64) z.2.2::own (kInt .i64) p3 c3 l::ro (tabC b T mr mt)::pt rb [.int .i64 r.txn,.int .i64 r.op,.int .i64 r.key,.slice p1 r.list.length c1,.slice p2 r.own.length c2] 0::F) (P:=fun z=>z.1≤l.length∧∀ id,agl id z.2.2=mineL W (l.take z.1) id) (μ:=fun z=>l.length - z.1) (0,(none,0),[]) ⟨Nat.zero_le _,fun id=>rfl⟩ ?_
 rintro ⟨j,⟨pi,ci⟩,f⟩ ⟨hj,hm⟩
 dsimp only at hj hm ⊢
 have hil:=idsD_len W (l.take j)
 have hjl:(l.take j).length≤j:=List.length_take_le _ _
 rcases Nat.lt_or_ge j l.length with hlt|hge
 ·have hsn:=idsD_snoc W (l.take j) l[j]
  have hms:=fun id=>mineL_snoc W (l.take j) l[j] id
  rw [← List.take_succ_eq_append_getElem hlt] at hsn
  simp only [← List.take_succ_eq_append_getElem hlt] at hms
  repeat' first|apply step|(apply g_op;·repeat first|exact Evs.nil|(apply Evs.cons;exact rfl))|(refine Br.mk (fun _=>?_) (fun _=>?_)<;>try (exfalso;omega))|(refine Sd.mk ?_ ?_;·((repeat' apply And.intro)<;>first|omega|trivial|assumption|(simp;done)|(simp;omega)))|(refine Sx.mk ?_ ?_;·omega)|refine Im.mk fun _=>?_|refine g_cond ?_
  refine at_callR (table_Table_Writer_specR (T:=T) (mr:=mr) (mt:=mt) (x:=r.key) (y:=l[j])) ?_
  rw [show aget (r.key,l[j]) T.wr=W l[j] by rw [← hW]]
  cases hw:W l[j] with
  | none =>
   rw [hw] at hsn
   have hmb:∀ id,mineB W id l[j]=false:=fun id=>by unfold mineB;rw [hw]
   unfold wrO
   repeat' first|apply step|(apply g_op;·repeat first|exact Evs.nil|(apply Evs.cons;exact rfl))|(refine Sd.mk ?_ ?_;·((repeat' apply And.intro)<;>first|omega|trivial|assumption|(simp;done)|(simp;omega)))|refine Fa.mk fun _=>?_|apply Lw.go|refine g_cond ?_|refine g_guard ?_|refine g_keep ?_
   refine lp_next (j + 1,(pi,ci),f) ⟨by dsimp only;omega,fun id=>?_⟩ (by dsimp only;omega) (by dsimp only;rw [hsn]) (by dsimp only;rw [hsn];repeat first|exact Ent.refl _|(apply Ent.more;· repeat first|exact Ent.keep|exact Ent.here|exact Ent.lend|exact ent_nil|apply Ent.there)|apply Ent.drop)
   rw [hms,hmb,hm];simp
  | some w =>
   obtain ⟨hb1,hb2⟩:=hb _ _ hw
   rw [hw] at hsn
   dsimp only at hsn
   unfold wrO
   cases hab:w.ab
   ·have hmb:∀ id,mineB W id l[j]=decide (w.txn=id):=fun id=>by unfold mineB;rw [hw];simp [hab]
    rw [hab] at hsn
    have hj1:j + 1≤l.length:=by omega
    have hinv:∀ id,agl id (adl w.txn l[j] f)=mineL W (l.take (j + 1)) id:=fun id=>by
     rw [agl_adl,hm,hms,hmb]
     by_cases e:id=w.txn
     ·rw [if_pos e,e,decide_eq_true rfl,if_pos rfl]
     ·rw [if_neg e,decide_eq_false (fun q=>e q.symm)];simp
    have hmw:=hm w.txn
    have hml:=mineL_len W (l.take j) w.txn
    by_cases hin:w.txn ∈ idsD W (l.take j)
    ·have hne:=(mem_idsD W w.txn (l.take j)).1 hin
     rw [← hmw] at hne hml
     have hne2:(agl w.txn f).length≠0:=fun q=>hne (List.length_eq_zero_iff.1 q)
     rw [if_pos (.inr hin)] at hsn
     repeat' first|rw [hab]|apply step|(apply g_op;·repeat first|exact Evs.nil|(apply Evs.cons;exact rfl))|refine Fa.mk fun _=>?_|apply Lw.go|refine g_cond ?_|refine g_guard ?_|refine g_keep ?_
     rename_i wb
     refine av_openP (mapL ma kI (kInt .i64) f) rfl ?_
     rintro Z hZ
     dsimp only [List.cons_append,List.nil_append]
     have hal:=atE_agl (k:=w.txn) hZ
     refine av_atE (enc:=kI) (k:=w.txn) inferInstance ?_
     rw [hal]
     repeat' first|apply step|(apply g_op;·repeat first|exact Evs.nil|(apply Evs.cons;exact rfl))|(refine Br.mk (fun _=>?_) (fun _=>?_)<;>try (exfalso;omega))|refine g_cond ?_|refine g_keep ?_
     refine at_opsKS wb 9 (fun sz hsz=>?_)
     repeat' first|apply step|(apply g_op;·repeat first|exact Evs.nil|(apply Evs.cons;exact rfl))
     refine av_atE (enc:=kI) (k:=w.txn) inferInstance ?_
     refine at_via (takeE (K:=kInt .i64) (k:=w.txn) (Z:=Z)) ?_
     rw [hal]
     repeat' first|apply step|(apply g_op;·repeat first|exact Evs.nil|(apply Evs.cons;exact rfl))|refine Fa.mk fun _=>?_
     refine kp1 wb ?_ hsz
     repeat' first|apply step|(apply g_op;·repeat first|exact Evs.nil|(apply Evs.cons;exact rfl))|(refine Sd.mk ?_ ?_;·((repeat' apply And.intro)<;>first|omega|trivial|assumption|(simp;done)|(simp;omega)))|refine Fa.mk fun _=>?_
     refine kp2 ?_
     rename_i p5 c5
     repeat' first|apply step|(apply g_op;·repeat first|exact Evs.nil|(apply Evs.cons;exact rfl))
     refine av_put (d:=true) (bar:=true) (s:=.one 1) (m:=ma) (l:=Z) (enc:=kI) (vv:=slV) (key:=w.txn) (val:=(agl w.txn f++[l[j]],(p5,c5))) rfl inferInstance ?_
     refine at_via2 (putE (K:=kInt .i64) (k:=w.txn) (Z:=Z)) ?_
     refine at_foldP (mapL ma kI (kInt .i64) (adl w.txn l[j] f)) rfl (aset w.txn (agl w.txn f++[l[j]],(p5,c5)) Z) (by rw [aset_fst2,hZ];rfl) ?_
     repeat' first|apply step|(apply g_op;·repeat first|exact Evs.nil|(apply Evs.cons;exact rfl))|(refine Sd.mk ?_ ?_;·((repeat' apply And.intro)<;>first|omega|trivial|assumption|(simp;done)|(simp;omega)))|refine g_keep ?_
     exact lp_next (j + 1,(pi,ci),adl w.txn l[j] f) ⟨hj1,hinv⟩ (by dsimp only;omega) (by dsimp only;rw [hsn]) (by dsimp only;rw [hsn];repeat first|exact Ent.refl _|(apply Ent.more;· repeat first|exact Ent.keep|exact Ent.here|exact Ent.lend|exact ent_nil|apply Ent.there)|apply Ent.drop)
    ·have hne:mineL W (l.take j) w.txn=[]:=Classical.byContradiction fun q=>hin ((mem_idsD W w.txn (l.take j)).2 q)
     rw [← hmw] at hne hml
     have hne2:(agl w.txn f).length=0:=by rw [hne];rfl
     rw [if_neg (fun q=>by rcases q with q|q;cases q;exact hin q)] at hsn
     repeat' first|rw [hab]|apply step|(apply g_op;·repeat first|exact Evs.nil|(apply Evs.cons;exact rfl))|refine Fa.mk fun _=>?_|apply Lw.go|refine g_cond ?_|refine g_guard ?_|refine g_keep ?_
     rename_i wb
     refine av_openP (mapL ma kI (kInt .i64) f) rfl ?_
     rintro Z hZ
     dsimp only [List.cons_append,List.nil_append]
     have hal:=atE_agl (k:=w.txn) hZ
     refine av_atE (enc:=kI) (k:=w.txn) inferInstance ?_
     rw [hal]
     repeat' first|apply step|(apply g_op;·repeat first|exact Evs.nil|(apply Evs.cons;exact rfl))|(refine Br.mk (fun _=>?_) (fun _=>?_)<;>try (exfalso;omega))|(refine Sd.mk ?_ ?_;·((repeat' apply And.intro)<;>first|omega|trivial|assumption|(simp;done)|(simp;omega)))|refine Fa.mk fun _=>?_|refine g_cond ?_|refine g_keep ?_
     refine at_opsKS wb 9 (fun sz hsz=>?_)
     repeat' first|apply step|(apply g_op;·repeat first|exact Evs.nil|(apply Evs.cons;exact rfl))
     refine av_atE (enc:=kI) (k:=w.txn) inferInstance ?_
     refine at_via (takeE (K:=kInt .i64) (k:=w.txn) (Z:=Z)) ?_
     rw [hal]
     repeat' first|apply step|(apply g_op;·repeat first|exact Evs.nil|(apply Evs.cons;exact rfl))|refine Fa.mk fun _=>?_
     refine kp1 wb ?_ hsz
     repeat' first|apply step|(apply g_op;·repeat first|exact Evs.nil|(apply Evs.cons;exact rfl))|(refine Sd.mk ?_ ?_;·((repeat' apply And.intro)<;>first|omega|trivial|assumption|(simp;done)|(simp;omega)))|refine Fa.mk fun _=>?_
     refine kp2 ?_
     rename_i p5 c5
     repeat' first|apply step|(apply g_op;·repeat first|exact Evs.nil|(apply Evs.cons;exact rfl))
     refine av_put (d:=true) (bar:=true) (s:=.one 1) (m:=ma) (l:=Z) (enc:=kI) (vv:=slV) (key:=w.txn) (val:=(agl w.txn f++[l[j]],(p5,c5))) rfl inferInstance ?_
     refine at_via2 (putE (K:=kInt .i64) (k:=w.txn) (Z:=Z)) ?_
     refine at_foldP (mapL ma kI (kInt .i64) (adl w.txn l[j] f)) rfl (aset w.txn (agl w.txn f++[l[j]],(p5,c5)) Z) (by rw [aset_fst2,hZ];rfl) ?_
     repeat' first|apply step|(apply g_op;·repeat first|exact Evs.nil|(apply Evs.cons;exact rfl))|(refine Sd.mk ?_ ?_;·((repeat' apply And.intro)<;>first|omega|trivial|assumption|(simp;done)|(simp;omega)))|refine g_keep ?_
     exact lp_next (j + 1,(_,_),adl w.txn l[j] f) ⟨hj1,hinv⟩ (by dsimp only;omega) (by dsimp only;rw [hsn]) (by dsimp only;rw [hsn];repeat first|exact Ent.refl _|(apply Ent.more;· repeat first|exact Ent.keep|exact Ent.here|exact Ent.lend|exact ent_nil|apply Ent.there)|apply Ent.drop)
   ·have hmb:∀ id,mineB W id l[j]=false:=fun id=>by unfold mineB;rw [hw];simp [hab]
    rw [if_pos (.inl hab)] at hsn
    repeat' first|rw [hab]|apply step|(apply g_op;·repeat first|exact Evs.nil|(apply Evs.cons;exact rfl))|(refine Sd.mk ?_ ?_;·((repeat' apply And.intro)<;>first|omega|trivial|assumption|(simp;done)|(simp;omega)))|refine Fa.mk fun _=>?_|apply Lw.go|refine g_cond ?_|refine g_guard ?_|refine g_keep ?_
    refine lp_next (j + 1,(pi,ci),f) ⟨by dsimp only;omega,fun id=>?_⟩ (by dsimp only;omega) (by dsimp only;rw [hsn]) (by dsimp only;rw [hsn];repeat first|exact Ent.refl _|(apply Ent.more;· repeat first|exact Ent.keep|exact Ent.here|exact Ent.lend|exact ent_nil|apply Ent.there)|apply Ent.drop)
    rw [hms,hmb,hm];simp
 ·have e:l.take j=l:=List.take_of_length_le hge
  rw [e] at hil hm ⊢
  have hml:=fun id=>mineL_len W l id
  have htf:∀ id,tornF W (fun id=>agl (id,r.key) T.ap) l id=match wrongL (agl id f) (agl (id,r.key) T.ap) 0 with
   | some i=>some ((agl id f).getD i 0,id)
   | none=>none:=fun id=>by rw [hm];rfl
  have hfl2:∀ id,(agl id f).length≤100:=fun id=>by rw [hm];have:=hml id;omega
  unfold tornP at hR
  generalize tornF W (fun id=>agl (id,r.key) T.ap) l=tf at hR htf
  generalize idsD W l=D at hR hil ⊢
  repeat' first|apply step|(apply g_op;·repeat first|exact Evs.nil|(apply Evs.cons;exact rfl))|(refine Br.mk (fun _=>?_) (fun _=>?_)<;>try (exfalso;omega))|refine g_cond ?_|refine g_keep ?_
  refine at_loopS (ι:=Nat) (E:=fun k=>[(0,.pointer (some ⟨b,0,none⟩)),(3,.pointer (some ⟨rb,0,none⟩)),(8,.map (some ma)),(60,.slice pi D.length ci),(61,.int .i64 (D.length:Int)),(62,.int .i64 (k:Int))]) (Δ:=fun k=>own (kInt .i64) pi ci D::mapL ma kI (kInt .i64) f::ro (tabC b T mr mt)::pt rb [.int .i64 r.txn,.int .i64 r.op,.int .i64 r.key,.slice p1 r.list.length c1,.slice p2 r.own.length c2] 0::F) (P:=fun k=>k≤D.length∧(D.drop k).findSome? tf=D.findSome? tf) (μ:=fun k=>D.length - k) 0 ⟨Nat.zero_le _,rfl⟩ ?_
  rintro k ⟨hk,hd⟩
  try dsimp only
  rcases Nat.lt_or_ge k D.length with hlt|hge2
  ·rw [List.drop_eq_getElem_cons hlt,List.findSome?_cons,htf] at hd
   have hall:=hal D[k]
   have hgl:=hfl2 D[k]
   repeat' first|apply step|(apply g_op;·repeat first|exact Evs.nil|(apply Evs.cons;exact rfl))|(refine Br.mk (fun _=>?_) (fun _=>?_)<;>try (exfalso;omega))|(refine Sd.mk ?_ ?_;·((repeat' apply And.intro)<;>first|omega|trivial|assumption|(simp;done)|(simp;omega)))|(refine Sx.mk ?_ ?_;·omega)|refine Im.mk fun _=>?_|refine g_cond ?_
   refine av_openP (mapL ma kI (kInt .i64) f) rfl ?_
   rintro Z hZ
   try dsimp only [List.cons_append,List.nil_append]
   have hat:=atE_agl (k:=D[k]) hZ
   refine av_atE (enc:=kI) (k:=D[k]) inferInstance ?_
   refine at_via (takeE (K:=kInt .i64) (k:=D[k]) (Z:=Z)) ?_
   rw [hat]
   repeat' first|apply step|(apply g_op;·repeat first|exact Evs.nil|(apply Evs.cons;exact rfl))
   refine at_callR (table_Table_Appends_specR (T:=T) (x:=D[k]) (y:=r.key) (by omega)) ?_
   intro p4 c4
   repeat' first|apply step|(apply g_op;·repeat first|exact Evs.nil|(apply Evs.cons;exact rfl))|apply Lw.go
   refine at_callR (dirty_wrong_spec (l:=agl D[k] f) (all:=agl (D[k],r.key) T.ap) (by omega) (by omega)) ?_
   have hlt2:=wrongL_lt (agl D[k] f) (agl (D[k],r.key) T.ap) 0
   cases hq:wrongL (agl D[k] f) (agl (D[k],r.key) T.ap) 0 with
   | none =>
    rw [hq] at hd
    unfold wrI
    repeat' first|apply step|(apply g_op;·repeat first|exact Evs.nil|(apply Evs.cons;exact rfl))|(refine Br.mk (fun _=>?_) (fun _=>?_)<;>try (exfalso;omega))|(refine Sd.mk ?_ ?_;·((repeat' apply And.intro)<;>first|omega|trivial|assumption|(simp;done)|(simp;omega)))|apply Lw.go|refine g_cond ?_|refine g_keep ?_
    rw [← hat]
    refine at_via2 (backE (K:=kInt .i64) (k:=D[k]) (Z:=Z)) ?_
    refine at_foldP (mapL ma kI (kInt .i64) f) rfl Z hZ ?_
    exact lp_next (k + 1) ⟨by omega,hd⟩ (by omega)
   | some i =>
    have hil2:=hlt2 i hq
    rw [hq] at hd
    dsimp only at hd
    rw [← hd,getD_lt (by omega:i < (agl D[k] f).length)] at hR
    unfold wrI
    repeat' first|apply step|(apply g_op;·repeat first|exact Evs.nil|(apply Evs.cons;exact rfl))|(refine Br.mk (fun _=>?_) (fun _=>?_)<;>try (exfalso;omega))|apply Lw.go|refine g_cond ?_|refine g_keep ?_
    refine av_atE (enc:=kI) (k:=D[k]) inferInstance ?_
    rw [hat]
    repeat' first|apply step|(apply g_op;·repeat first|exact Evs.nil|(apply Evs.cons;exact rfl))|(refine Sd.mk ?_ ?_;·((repeat' apply And.intro)<;>first|omega|trivial|assumption|(simp;done)|(simp;omega)))|(refine Sx.mk ?_ ?_;·omega)|refine Im.mk fun _=>?_|refine g_keep ?_|refine g_fin ?_
    exact fin hR
  ·rw [List.drop_eq_nil_of_le hge2] at hd
   rw [← hd] at hR
   repeat' first|apply step|(apply g_op;·repeat first|exact Evs.nil|(apply Evs.cons;exact rfl))|(refine Br.mk (fun _=>?_) (fun _=>?_)<;>try (exfalso;omega))|refine g_cond ?_|refine g_keep ?_|refine g_fin ?_
   exact fin hR
theorem reads_unborn_specR (h1:r.list.length≤1000):Spec prog1 n_reads_unborn [.pointer (some ⟨b,0,none⟩),.agg #[.int .i64 r.txn,.int .i64 r.op,.int .i64 r.key,.slice p1 r.list.length c1,.slice p2 r.own.length c2]] [ro (tabC b T mr mt),fro (kInt .i64) p1 c1 r.list] (fun R=>R (twoV (bornL (wK T r.key) r.list)) []):=by
 refine spec_code c_reads_unborn rfl ?_;intro n F R hR;unfold F_reads_unborn
 generalize hW:wK T r.key=W at hR ⊢
 repeat' first|apply step|(apply g_op;·repeat first|exact Evs.nil|(apply Evs.cons;exact rfl))|refine Fa.mk fun _=>?_|refine g_keep ?_
 rename_i rb
 refine at_loopS (ι:=Nat) (E:=fun j=>[(0,.pointer (some ⟨b,0,none⟩)),(3,.pointer (some ⟨rb,0,none⟩)),(11,.slice p1 r.list.length c1),(12,.int .i64 (r.list.length:Int)),(13,.int .i64 (j:Int))]) (Δ:=fun j=>ro (tabC b T mr mt)::fro (kInt .i64) p1 c1 r.list::pt rb [.int .i64 r.txn,.int .i64 r.op,.int .i64 r.key,.slice p1 r.list.length c1,.slice p2 r.own.length c2] 0::F) (P:=fun j=>j≤r.list.length∧bornL W (r.list.drop j)=bornL W r.list) (μ:=fun j=>r.list.length - j) 0 ⟨Nat.zero_le _,rfl⟩ ?_
 rintro j ⟨hj,hd⟩
 try dsimp only
 rcases Nat.lt_or_ge j r.list.length with hlt|hge
 ·rw [bornL_drop hlt] at hd
  repeat' first|apply step|(apply g_op;·repeat first|exact Evs.nil|(apply Evs.cons;exact rfl))|(refine Br.mk (fun _=>?_) (fun _=>?_)<;>try (exfalso;omega))|(refine Sd.mk ?_ ?_;·((repeat' apply And.intro)<;>first|omega|trivial|assumption|(simp;done)|(simp;omega)))|(refine Sx.mk ?_ ?_;·omega)|refine Im.mk fun _=>?_|refine g_cond ?_
  refine at_callR (table_Table_Writer_specR (T:=T) (mr:=mr) (mt:=mt) (x:=r.key) (y:=r.list[j])) ?_
  rw [show aget (r.key,r.list[j]) T.wr=W r.list[j] by rw [← hW]]
  cases hw:W r.list[j] with
  | none =>
   rw [hw] at hd
   dsimp only at hd
   rw [← hd] at hR
   unfold wrO
   repeat' first|apply step|(apply g_op;·repeat first|exact Evs.nil|(apply Evs.cons;exact rfl))|refine Fa.mk fun _=>?_|apply Lw.go|refine g_cond ?_|refine g_keep ?_|refine g_fin ?_
   exact fin hR
  | some w =>
   rw [hw] at hd
   dsimp only at hd
   unfold wrO
   repeat' first|apply step|(apply g_op;·repeat first|exact Evs.nil|(apply Evs.cons;exact rfl))|(refine Sd.mk ?_ ?_;·((repeat' apply And.intro)<;>first|omega|trivial|assumption|(simp;done)|(simp;omega)))|refine Fa.mk fun _=>?_|apply Lw.go|refine g_cond ?_|refine g_keep ?_
   exact lp_next (j + 1) ⟨by omega,hd⟩ (by omega)
 ·rw [List.drop_eq_nil_of_le hge] at hd
  rw [← hd] at hR
  repeat' first|apply step|(apply g_op;·repeat first|exact Evs.nil|(apply Evs.cons;exact rfl))|(refine Br.mk (fun _=>?_) (fun _=>?_)<;>try (exfalso;omega))|refine g_cond ?_|refine g_keep ?_|refine g_fin ?_
  exact fin hR
theorem reads_inner_specR (h1:r.list.length≤1000) (h2:r.own.length≤1000):Spec prog1 n_reads_inner [.pointer (some ⟨b,0,none⟩),.agg #[.int .i64 r.txn,.int .i64 r.op,.int .i64 r.key,.slice p1 r.list.length c1,.slice p2 r.own.length c2]] [ro (tabC b T mr mt),fro (kInt .i64) p1 c1 r.list,fro (kInt .i64) p2 c2 r.own] (fun R=>R (twoV (innL (wK T r.key) r)) []):=by
 refine spec_code c_reads_inner rfl ?_;intro n F R hR;unfold F_reads_inner
 have hfl:=frontL_len r
 repeat' first|apply step|(apply g_op;·repeat first|exact Evs.nil|(apply Evs.cons;exact rfl))|(refine Sd.mk ?_ ?_;·((repeat' apply And.intro)<;>first|omega|trivial|assumption|(simp;done)|(simp;omega)))|refine Fa.mk fun _=>?_|refine g_keep ?_
 rename_i rb
 refine at_loopS (ι:=Nat) (E:=fun j=>[(0,.pointer (some ⟨b,0,none⟩)),(3,.pointer (some ⟨rb,0,none⟩)),(6,.int .i64 ((r.list.length:Int) - (r.own.length:Int))),(21,.slice p2 r.own.length c2),(22,.int .i64 (r.own.length:Int)),(23,.int .i64 (j:Int))]) (Δ:=fun j=>ro (tabC b T mr mt)::fro (kInt .i64) p1 c1 r.list::fro (kInt .i64) p2 c2 r.own::pt rb [.int .i64 r.txn,.int .i64 r.op,.int .i64 r.key,.slice p1 r.list.length c1,.slice p2 r.own.length c2] 0::F) (P:=fun j=>j≤r.own.length∧innA r.list ((r.list.length:Int) - (r.own.length:Int)) (r.own.drop j) j=innA r.list ((r.list.length:Int) - (r.own.length:Int)) r.own 0) (μ:=fun j=>r.own.length - j) 0 ⟨Nat.zero_le _,rfl⟩ ?_
 rintro j ⟨hj,hd⟩
 try dsimp only
 rcases Nat.lt_or_ge j r.own.length with hlt|hge
 ·rw [innA_drop hlt] at hd
  by_cases hneg:(r.list.length:Int) - (r.own.length:Int) + (j:Int) < 0
  ·rw [if_pos (.inl hneg)] at hd
   unfold innL at hR
   rw [← hd] at hR
   repeat' first|apply step|(apply g_op;·repeat first|exact Evs.nil|(apply Evs.cons;exact rfl))|(refine Br.mk (fun _=>?_) (fun _=>?_)<;>try (exfalso;omega))|(refine Sd.mk ?_ ?_;·((repeat' apply And.intro)<;>first|omega|trivial|assumption|(simp;done)|(simp;omega)))|(refine Sx.mk ?_ ?_;·omega)|refine Im.mk fun _=>?_|refine g_cond ?_|refine g_guard ?_|refine g_keep ?_|refine g_fin ?_
   all_goals first|exact fin hR|(exfalso;omega)
  ·have hix:((r.list.length:Int) - (r.own.length:Int) + (j:Int)).toNat < r.list.length:=by omega
   by_cases he:r.list[((r.list.length:Int) - (r.own.length:Int) + (j:Int)).toNat]'hix=r.own[j]
   ·rw [if_neg (fun q=>by rcases q with q|q;exact hneg q;exact q (by rw [List.getElem?_eq_getElem hix,he]))] at hd
    repeat' first|apply step|(apply g_op;·repeat first|exact Evs.nil|(apply Evs.cons;exact rfl))|(refine Br.mk (fun _=>?_) (fun _=>?_)<;>try (exfalso;omega))|(refine Sd.mk ?_ ?_;·((repeat' apply And.intro)<;>first|omega|trivial|assumption|(simp;done)|(simp;omega)))|(refine Sx.mk ?_ ?_;·omega)|refine Im.mk fun _=>?_|refine g_cond ?_|refine g_guard ?_|refine g_keep ?_
    all_goals first|exact lp_next (j + 1) ⟨by omega,hd⟩ (by omega)|(exfalso;omega)
   ·rw [if_pos (.inr (fun q=>he (Option.some.inj (by rw [← q,List.getElem?_eq_getElem hix]))))] at hd
    unfold innL at hR
    rw [← hd] at hR
    repeat' first|apply step|(apply g_op;·repeat first|exact Evs.nil|(apply Evs.cons;exact rfl))|(refine Br.mk (fun _=>?_) (fun _=>?_)<;>try (exfalso;omega))|(refine Sd.mk ?_ ?_;·((repeat' apply And.intro)<;>first|omega|trivial|assumption|(simp;done)|(simp;omega)))|(refine Sx.mk ?_ ?_;·omega)|refine Im.mk fun _=>?_|refine g_cond ?_|refine g_guard ?_|refine g_keep ?_|refine g_fin ?_
    all_goals first|exact fin hR|(exfalso;omega)
 ·rw [List.drop_eq_nil_of_le hge] at hd
  unfold innL at hR
  rw [← hd] at hR
  dsimp only [innA] at hR
  unfold innB at hR
  repeat' first|apply step|(apply g_op;·repeat first|exact Evs.nil|(apply Evs.cons;exact rfl))|(refine Br.mk (fun _=>?_) (fun _=>?_)<;>try (exfalso;omega))|refine g_cond ?_|refine g_keep ?_
  refine at_callS (reads_Front_spec (r:=r) (by omega) (by omega)) ?_
  intro p3 c3
  generalize hW:wK T r.key=W at hR ⊢
  generalize frontL r=l at hR hfl ⊢
  repeat' first|apply step|(apply g_op;·repeat first|exact Evs.nil|(apply Evs.cons;exact rfl))|refine g_keep ?_
  refine at_loopS (ι:=Nat) (E:=fun j=>[(0,.pointer (some ⟨b,0,none⟩)),(3,.pointer (some ⟨rb,0,none⟩)),(46,.slice p3 l.length c3),(47,.int .i64 (l.length:Int)),(48,.int .i64 (j:Int))]) (Δ:=fun j=>own (kInt .i64) p3 c3 l::ro (tabC b T mr mt)::pt rb [.int .i64 r.txn,.int .i64 r.op,.int .i64 r.key,.slice p1 r.list.length c1,.slice p2 r.own.length c2] 0::F) (P:=fun j=>j≤l.length∧(l.drop j).find? (fun x=>decide (txZ (W x)=r.txn))=l.find? (fun x=>decide (txZ (W x)=r.txn))) (μ:=fun j=>l.length - j) 0 ⟨Nat.zero_le _,rfl⟩ ?_
  rintro k ⟨hk,hd2⟩
  try dsimp only
  rcases Nat.lt_or_ge k l.length with hlt|hge2
  ·rw [List.drop_eq_getElem_cons hlt,List.find?_cons] at hd2
   repeat' first|apply step|(apply g_op;·repeat first|exact Evs.nil|(apply Evs.cons;exact rfl))|(refine Br.mk (fun _=>?_) (fun _=>?_)<;>try (exfalso;omega))|(refine Sd.mk ?_ ?_;·((repeat' apply And.intro)<;>first|omega|trivial|assumption|(simp;done)|(simp;omega)))|(refine Sx.mk ?_ ?_;·omega)|refine Im.mk fun _=>?_|refine g_cond ?_
   refine at_callR (table_Table_Writer_specR (T:=T) (mr:=mr) (mt:=mt) (x:=r.key) (y:=l[k])) ?_
   rw [show aget (r.key,l[k]) T.wr=W l[k] by rw [← hW]]
   cases hw:W l[k] with
   | none =>
    rw [hw] at hd2
    unfold wrO
    by_cases h0:(0:Int)=r.txn
    ·rw [show decide (txZ none=r.txn)=true from decide_eq_true h0] at hd2
     rw [← hd2] at hR
     repeat' first|apply step|(apply g_op;·repeat first|exact Evs.nil|(apply Evs.cons;exact rfl))|(refine Br.mk (fun _=>?_) (fun _=>?_)<;>try (exfalso;omega))|refine Fa.mk fun _=>?_|apply Lw.go|refine g_cond ?_|refine g_keep ?_|refine g_fin ?_
     all_goals first|exact fin hR|(exfalso;omega)
    ·rw [show decide (txZ none=r.txn)=false from decide_eq_false h0] at hd2
     repeat' first|apply step|(apply g_op;·repeat first|exact Evs.nil|(apply Evs.cons;exact rfl))|(refine Br.mk (fun _=>?_) (fun _=>?_)<;>try (exfalso;omega))|(refine Sd.mk ?_ ?_;·((repeat' apply And.intro)<;>first|omega|trivial|assumption|(simp;done)|(simp;omega)))|refine Fa.mk fun _=>?_|apply Lw.go|refine g_cond ?_|refine g_keep ?_
     all_goals first|exact lp_next (k + 1) ⟨by omega,hd2⟩ (by omega)|(exfalso;omega)
   | some w =>
    rw [hw] at hd2
    unfold wrO
    by_cases h0:w.txn=r.txn
    ·rw [show decide (txZ (some w)=r.txn)=true from decide_eq_true h0] at hd2
     rw [← hd2] at hR
     repeat' first|apply step|(apply g_op;·repeat first|exact Evs.nil|(apply Evs.cons;exact rfl))|(refine Br.mk (fun _=>?_) (fun _=>?_)<;>try (exfalso;omega))|refine Fa.mk fun _=>?_|apply Lw.go|refine g_cond ?_|refine g_keep ?_|refine g_fin ?_
     all_goals first|exact fin hR|(exfalso;omega)
    ·rw [show decide (txZ (some w)=r.txn)=false from decide_eq_false h0] at hd2
     repeat' first|apply step|(apply g_op;·repeat first|exact Evs.nil|(apply Evs.cons;exact rfl))|(refine Br.mk (fun _=>?_) (fun _=>?_)<;>try (exfalso;omega))|(refine Sd.mk ?_ ?_;·((repeat' apply And.intro)<;>first|omega|trivial|assumption|(simp;done)|(simp;omega)))|refine Fa.mk fun _=>?_|apply Lw.go|refine g_cond ?_|refine g_keep ?_
     all_goals first|exact lp_next (k + 1) ⟨by omega,hd2⟩ (by omega)|(exfalso;omega)
  ·rw [List.drop_eq_nil_of_le hge2] at hd2
   rw [← hd2] at hR
   repeat' first|apply step|(apply g_op;·repeat first|exact Evs.nil|(apply Evs.cons;exact rfl))|(refine Br.mk (fun _=>?_) (fun _=>?_)<;>try (exfalso;omega))|refine g_cond ?_|refine g_keep ?_|refine g_fin ?_
   exact fin hR
theorem reads_Kind_specR (h1:r.list.length≤1000) (h2:r.own.length≤1000):Spec prog1 n_reads_Kind [.pointer (some ⟨b,0,none⟩),.agg #[.int .i64 r.txn,.int .i64 r.op,.int .i64 r.key,.slice p1 r.list.length c1,.slice p2 r.own.length c2]] [ro (tabC b T mr mt),fro (kInt .i64) p1 c1 r.list,fro (kInt .i64) p2 c2 r.own] (fun R=>R (.tuple #[.int .i64 (kindL (wK T r.key) r).1,.int .i64 (kindL (wK T r.key) r).2]) []):=by
 refine spec_code c_reads_Kind rfl ?_;intro n F R hR;unfold F_reads_Kind
 unfold kindL at hR
 repeat' first|apply step|(apply g_op;·repeat first|exact Evs.nil|(apply Evs.cons;exact rfl))|refine Fa.mk fun _=>?_
 refine at_callR (reads_twice_spec (l:=r.list) h1) ?_
 cases ht:twL [] r.list with
 | some x =>
  rw [ht] at hR
  unfold twoV
  repeat' first|apply step|(apply g_op;·repeat first|exact Evs.nil|(apply Evs.cons;exact rfl))|apply Lw.go|refine g_cond ?_|refine g_keep ?_|refine g_fin ?_
  exact fin hR
 | none =>
  rw [ht] at hR
  unfold twoV
  repeat' first|apply step|(apply g_op;·repeat first|exact Evs.nil|(apply Evs.cons;exact rfl))|apply Lw.go|refine g_cond ?_|refine g_keep ?_
  refine at_callR (reads_unborn_specR (T:=T) (r:=r) h1) ?_
  cases hb:bornL (wK T r.key) r.list with
  | some x =>
   rw [hb] at hR
   unfold twoV
   repeat' first|apply step|(apply g_op;·repeat first|exact Evs.nil|(apply Evs.cons;exact rfl))|apply Lw.go|refine g_cond ?_|refine g_keep ?_|refine g_fin ?_
   exact fin hR
  | none =>
   rw [hb] at hR
   unfold twoV
   repeat' first|apply step|(apply g_op;·repeat first|exact Evs.nil|(apply Evs.cons;exact rfl))|apply Lw.go|refine g_cond ?_|refine g_keep ?_
   refine at_callR (reads_inner_specR (T:=T) (r:=r) h1 h2) ?_
   cases hi:innL (wK T r.key) r with
   | some x =>
    rw [hi] at hR
    unfold twoV
    repeat' first|apply step|(apply g_op;·repeat first|exact Evs.nil|(apply Evs.cons;exact rfl))|apply Lw.go|refine g_cond ?_|refine g_keep ?_|refine g_fin ?_
    exact fin hR
   | none =>
    rw [hi] at hR
    unfold twoV
    repeat' first|apply step|(apply g_op;·repeat first|exact Evs.nil|(apply Evs.cons;exact rfl))|apply Lw.go|refine g_cond ?_|refine g_keep ?_|refine g_fin ?_
    exact fin hR
end
end Go.AMS

namespace Go.AMS
open Go.AM hiding Kt At WP WL Runs RunsY
open Go.AM.G
open Go.AM.G.Set
set_option linter.unusedVariables false
set_option linter.unusedSectionVars false
set_option linter.unusedSimpArgs false
section
variable {α κ:Type} [DecidableEq κ] {K:Kind α} {k:κ} {Z:List (LE κ α)} {Γ F:List HP}
theorem ro_fro {p:Option Addr} {c:Nat} {l:List α}:Ent (ro (fro K p c l)::Γ) (fro K p c l::Γ):=.one fun h s ⟨⟨s',h1,hf⟩,hs⟩=>⟨s,⟨h1.1,hs⟩,fun b hb=>hb⟩
theorem takeFR:Ent (ro (alls (froE K) Z)::Γ) (fro K (atE k Z).2.1 (atE k Z).2.2 (atE k Z).1::Γ):=(ro_ent takeF).trans ro_fro
end
end Go.AMS

namespace Go.AMS
open Go.AM hiding Kt At WP WL Runs RunsY
open Go.AM.G
set_option linter.unusedVariables false
set_option linter.unusedSimpArgs false
set_option linter.unusedSectionVars false
set_option maxRecDepth 100000
set_option maxHeartbeats 1000000
attribute [local irreducible] AtS AtV AtC AtG FinA Spec Post LP G.At G.WP G.WL pt own fro rdl ro hx mp lrec elt sub

open Go.AM.G.Set
section
variable {T:Tb} {p q:Option Addr} {c d b mr mt:Nat}
theorem table_Table_Reads_specL {y:Int}:Spec prog1 n_table_Table_Reads [.pointer (some ⟨b,0,none⟩),.int .i64 y] [ro (tabC b T mr mt),ro (mapF mr kI kHRd T.rd)] (fun R=>∀ x p' c',R (.func (.func n_table_goes_table_Read_c1) #[] #[.pointer (some ⟨x,0,none⟩)]) [pt x [.slice p' (agl y T.rd).length c'] 0,fro kHRd p' c' (agl y T.rd)]):=by
 refine spec_code c_table_Table_Reads rfl ?_;intro n F R hR;unfold F_table_Table_Reads
 refine at_openRP (tabC b T mr mt) rfl ?_
 rintro ⟨⟨⟨pi,ci⟩,⟨pk,ck⟩⟩,⟨mw,ma⟩⟩ -
 try dsimp only
 refine at_openRP (mapF mr kI kHRd T.rd) rfl ?_
 rintro Z hZ
 try dsimp only
 have hal:=atE_agl (k:=y) hZ
 repeat' first|apply step|(apply g_op;·repeat first|exact Evs.nil|(apply Evs.cons;exact rfl))
 refine at_callR (table_Table_is_spec) ?_
 repeat' first|apply step|(apply g_op;·repeat first|exact Evs.nil|(apply Evs.cons;exact rfl))|apply Lw.go|refine g_cond ?_
 refine av_atE (enc:=kI) (k:=y) inferInstance ?_
 refine at_via (takeFR (K:=kHRd) (k:=y) (Z:=Z)) ?_
 rw [hal]
 repeat' first|apply step|(apply g_op;·repeat first|exact Evs.nil|(apply Evs.cons;exact rfl))
 refine at_callS (table_goes_table_Read_spec) ?_
 intro x
 repeat' first|apply step|(apply g_op;·repeat first|exact Evs.nil|(apply Evs.cons;exact rfl))|refine g_keep ?_|refine g_fin ?_
 exact fin (hR _ _ _)
theorem reads_Sound_c1_specL {L:List HRd} {key:Int} {x y ly:Nat} {A:Nat→HP} {B:AX→HP} (hL:agl key T.rd=L) (hll:L.length≤100000) (hl:∀ r ∈ L,(r.list.length≤1000∧r.own.length≤1000)∧r.key=key) (hy:∀ i,i < (soundL (wK T key) L).length→∀ w:wR,YSpec prog1 ly (vaRead w (soundL (wK T key) L)[i]?) (A i::paRead w (soundL (wK T key) L)[i]?) (fun R=>R (.bool true) [A (i + 1)]∧∀ x,x≠.norm→R (.bool false) [B x])) :
  Spec prog1 n_reads_Sound_c1 [.func (.yield ly) #[] #[],.pointer (some ⟨x,0,none⟩),.pointer (some ⟨y,0,none⟩)] [A 0,pt x [.pointer (some ⟨b,0,none⟩)] 0,pt y [.int .i64 key] 0,ro (tabC b T mr mt),ro (mapF mr kI kHRd T.rd)] (fun R=>(∀ v,R v [A (soundL (wK T key) L).length])∧∀ x v,x≠.norm→R v [B x]):=by
 refine spec_code c_reads_Sound_c1 rfl ?_;intro n F R hR;unfold F_reads_Sound_c1
 generalize hW:wK T key=W at hR hy
 repeat' first|apply step|(apply g_op;·repeat first|exact Evs.nil|(apply Evs.cons;exact rfl))|refine Fa.mk fun _=>?_
 refine at_callR (table_Table_Reads_specL (T:=T) (mr:=mr) (mt:=mt) (y:=key)) ?_
 intro xr pr cr
 rw [hL]
 repeat' first|apply step|apply Lw.go
 rename_i fb
 obtain ⟨I,hI⟩:∃ I:Nat→HP,∀ i,I i=hx fun (_:Unit)=>(True,[A (soundL W (L.take i)).length,ro (tabC b T mr mt),pt x [.pointer (some ⟨b,0,none⟩)] 0,pt fb [.func (.yield ly) #[] #[]] 0]):=⟨_,fun _=>rfl⟩
 obtain ⟨J,hJ⟩:∃ J:AX→HP,∀ ax,J ax=hx fun (x0:AX)=>(ax=.ret∧x0≠.norm,[B x0]):=⟨_,fun _=>rfl⟩
 refine at_foldP (I 0) (hI 0) () trivial ?_
 refine at_rfunSD (I:=I) (J:=J) (Po:=[]) L.length (fun i (d:wR)=>vaRead d L[i]?) (fun i d=>paRead d L[i]?) (fun ly A B h=>table_goes_table_Read_c1_spec (l:=L) (by omega) h) (fun i hi d=>by rw [List.getElem?_eq_getElem hi];rfl) ?_ ?_ ?_
 ·intro i hi d ly2 m F'
  rw [List.getElem?_eq_getElem hi]
  obtain ⟨⟨k1,k2⟩,k3⟩:=hl L[i] (List.getElem_mem hi)
  have hnx:=soundL_next (W:=W) hi
  have hWr:wK T L[i].key=W:=by rw [k3,hW]
  dsimp only [vaRead,paRead,List.cons_append,List.nil_append]
  refine at_openP (I i) (hI i) ?_
  intro u hu
  dsimp only [List.cons_append,List.nil_append]
  repeat' first|apply step|(apply g_op;·repeat first|exact Evs.nil|(apply Evs.cons;exact rfl))|refine Fa.mk fun _=>?_
  refine at_callR (reads_Kind_specR (T:=T) (mr:=mr) (mt:=mt) (r:=L[i]) k1 k2) ?_
  rw [hWr]
  by_cases hs:(kindL W L[i]).1=0
  ·have hsb:soundB W L[i]=true:=decide_eq_true hs
   rw [if_pos hsb] at hnx
   have hat:=soundL_at hi hsb
   have hyi:=hy (soundL W (L.take i)).length (List.getElem?_eq_some_iff.1 hat).1 d
   rw [hat] at hyi
   dsimp only [vaRead,paRead] at hyi
   have hlen:(soundL W (L.take (i + 1))).length=(soundL W (L.take i)).length + 1:=by rw [hnx,List.length_append];rfl
   repeat' first|apply step|(apply g_op;·repeat first|exact Evs.nil|(apply Evs.cons;exact rfl))|(refine Br.mk (fun _=>?_) (fun _=>?_)<;>try (exfalso;omega))|apply Lw.go|refine g_guard ?_|refine g_keep ?_
   refine at_callY hyi ⟨?_,fun x0 hx0=>?_⟩
   ·repeat' first|apply step|(apply g_op;·repeat first|exact Evs.nil|(apply Evs.cons;exact rfl))|refine g_cond ?_|refine g_guard ?_|refine g_keep ?_
    rw [← hlen]
    refine at_foldP (I (i + 1)) (hI _) () trivial ?_
    exact y_next
   ·repeat' first|apply step|(apply g_op;·repeat first|exact Evs.nil|(apply Evs.cons;exact rfl))|refine g_cond ?_|refine g_guard ?_|refine g_keep ?_
    refine at_foldP (J .ret) (hJ _) x0 ⟨rfl,hx0⟩ ?_
    exact y_exit
  ·have hsb:soundB W L[i]=false:=decide_eq_false hs
   rw [hsb] at hnx
   simp only [Bool.false_eq_true,if_false,List.append_nil] at hnx
   repeat' first|apply step|(apply g_op;·repeat first|exact Evs.nil|(apply Evs.cons;exact rfl))|(refine Br.mk (fun _=>?_) (fun _=>?_)<;>try (exfalso;omega))|apply Lw.go|refine g_cond ?_|refine g_guard ?_|refine g_keep ?_
   rw [← hnx]
   refine at_foldP (I (i + 1)) (hI _) () trivial ?_
   exact y_next
 ·refine at_openP (I _) (hI _) ?_
  intro u hu
  dsimp only [List.cons_append,List.nil_append]
  rw [List.take_length]
  repeat' first|apply step|refine g_fin ?_
  exact fin (hR.1 _)
 ·intro ax hax
  refine at_openP (J ax) (hJ ax) ?_
  rintro x0 ⟨hx1,hx2⟩
  dsimp only [List.cons_append,List.nil_append]
  subst hx1
  repeat' first|apply step|refine g_fin ?_
  exact fin (hR.2 x0 _ hx2)
end
end Go.AMS

namespace Go.AMS
open Go.AM hiding Kt At WP WL Runs RunsY
open Go.AM.G
set_option linter.unusedVariables false
set_option linter.unusedSimpArgs false
set_option linter.unusedSectionVars false
set_option maxRecDepth 100000
set_option maxHeartbeats 1000000
attribute [local irreducible] AtS AtV AtC AtG FinA Spec Post LP G.At G.WP G.WL pt own fro rdl ro hx mp lrec elt sub

open Go.AM.G.Set
section
variable {T:Tb} {r:HRd} {p q p1 p2:Option Addr} {c d c1 c2 b mr mt:Nat}
theorem dirty_question_first_specL {gn:Nat} {kind:Int} {ask:HRd→Option (Int × Int)} (hkl:T.keys.length≤1000000) (hrd:RdOk T) (hask:∀ r,r ∈ agl r.key T.rd→∀ p1 c1 p2 c2,Spec prog1 gn [.pointer (some ⟨b,0,none⟩),.agg #[.int .i64 r.txn,.int .i64 r.op,.int .i64 r.key,.slice p1 r.list.length c1,.slice p2 r.own.length c2]] [ro (tabC b T mr mt),fro (kInt .i64) p1 c1 r.list] (fun R=>R (triO (ask r)) [])) :
  Spec prog1 n_dirty_question_first [.agg #[.int .i64 kind,.func (.func gn) #[] #[]],.pointer (some ⟨b,0,none⟩)] [ro (tabC b T mr mt),ro (mapF mr kI kHRd T.rd)] (fun R=>R (.tuple #[vFd ((firstL ask T kind).getD zFd),.bool (firstL ask T kind).isSome]) []):=by
 refine spec_code c_dirty_question_first rfl ?_;intro n F R hR;unfold F_dirty_question_first
 repeat' first|apply step|(apply g_op;·repeat first|exact Evs.nil|(apply Evs.cons;exact rfl))|refine Fa.mk fun _=>?_
 rename_i qb tb ob fb gb
 refine at_callR (table_Table_Keys_specR (T:=T) (mr:=mr) (mt:=mt) hkl) ?_
 intro pk ck
 repeat' first|apply step|(apply g_op;·repeat first|exact Evs.nil|(apply Evs.cons;exact rfl))|apply Lw.go|refine g_keep ?_
 refine at_loopS (ι:=Nat) (E:=fun j=>[(2,.pointer (some ⟨qb,0,none⟩)),(3,.pointer (some ⟨tb,0,none⟩)),(4,.pointer (some ⟨ob,0,none⟩)),(5,.bool false),(6,.pointer (some ⟨fb,0,none⟩)),(7,.pointer (some ⟨gb,0,none⟩)),(15,.slice pk T.keys.length ck),(16,.int .i64 (T.keys.length:Int)),(17,.int .i64 (j:Int))]) (Δ:=fun j=>own (kInt .i64) pk ck T.keys::ro (tabC b T mr mt)::ro (mapF mr kI kHRd T.rd)::pt qb [.int .i64 kind,.func (.func gn) #[] #[]] 0::pt tb [.pointer (some ⟨b,0,none⟩)] 0::pt ob (cFd zFd) 0::pt fb (cFd (((T.keys.take j).foldl (keyF ask T kind) none).getD zFd)) 0::pt gb [.bool ((T.keys.take j).foldl (keyF ask T kind) none).isSome] 0::F) (P:=fun j=>j≤T.keys.length) (μ:=fun j=>T.keys.length - j) 0 (Nat.zero_le _) ?_
 rintro j hj
 try dsimp only
 rcases Nat.lt_or_ge j T.keys.length with hlt|hge
 ·have hnx:=fold_take (keyF ask T kind) T.keys none hlt
  obtain ⟨hn1,hn2⟩:=hrd T.keys[j]
  rw [keyF_eq] at hnx
  generalize (T.keys.take j).foldl (keyF ask T kind) none=st at hnx ⊢
  repeat' first|apply step|(apply g_op;·repeat first|exact Evs.nil|(apply Evs.cons;exact rfl))|(refine Br.mk (fun _=>?_) (fun _=>?_)<;>try (exfalso;omega))|(refine Sd.mk ?_ ?_;·((repeat' apply And.intro)<;>first|omega|trivial|assumption|(simp;done)|(simp;omega)))|(refine Sx.mk ?_ ?_;·omega)|refine Fa.mk fun _=>?_|refine Im.mk fun _=>?_|refine g_cond ?_
  rename_i kb
  refine at_callS (reads_Sound_spec (b:=b) (key:=T.keys[j])) ?_
  intro x y
  generalize hL:agl T.keys[j] T.rd=L0 at hn1 hn2 hnx
  generalize hK:T.keys[j]=key at hL hn2 hnx ⊢
  generalize hL2:soundL (wK T key) L0=L at hnx
  have hmem:∀ r ∈ L,r ∈ L0:=fun r hr=>by rw [← hL2] at hr;exact (List.mem_filter.1 hr).1
  repeat' first|apply step
  obtain ⟨I,hI⟩:∃ I:Nat→HP,∀ i,I i=hx fun (_:Unit)=>(True,[ro (tabC b T mr mt),pt qb [.int .i64 kind,.func (.func gn) #[] #[]] 0,pt tb [.pointer (some ⟨b,0,none⟩)] 0,pt kb [.int .i64 key] 0,pt fb (cFd (((L.take i).foldl (stepF ask kind) st).getD zFd)) 0,pt gb [.bool ((L.take i).foldl (stepF ask kind) st).isSome] 0]):=⟨_,fun _=>rfl⟩
  obtain ⟨J,hJ⟩:∃ J:AX→HP,∀ ax,J ax=hx fun (_:Unit)=>(False,[]):=⟨_,fun _=>rfl⟩
  refine at_foldP (I 0) (hI 0) () trivial ?_
  refine at_rfunSD (I:=I) (J:=J) (Po:=[]) (Ps:=[pt x [.pointer (some ⟨b,0,none⟩)] 0,pt y [.int .i64 key] 0,ro (tabC b T mr mt),ro (mapF mr kI kHRd T.rd)]) L.length (fun i (d:wR)=>vaRead d L[i]?) (fun i d=>paRead d L[i]?) (fun ly A B h=>?_) (fun i hi d=>by rw [List.getElem?_eq_getElem hi];rfl) ?_ ?_ ?_
  ·subst hL2
   exact reads_Sound_c1_specL (L:=L0) (key:=key) (x:=x) (y:=y) hL (by omega) (fun r hr=>⟨⟨by have:=(hn2 r hr).1.1;omega,by have:=(hn2 r hr).1.2;omega⟩,(hn2 r hr).2⟩) h
  ·intro i hi d ly m F'
   have hn3:=fold_take (stepF ask kind) L st hi
   have hr0:=hmem _ (List.getElem_mem hi)
   obtain ⟨⟨k1,k2⟩,k3⟩:=hn2 _ hr0
   rw [List.getElem?_eq_getElem hi]
   have hIi:=hI i
   have hIn:=hI (i + 1)
   rw [hn3] at hIn
   generalize (L.take i).foldl (stepF ask kind) st=s0 at hIi hIn
   dsimp only [vaRead,paRead,List.cons_append,List.nil_append]
   have hak:=hask L[i] (by rw [k3,hL];exact hr0)
   cases hq:ask L[i] with
   | none =>
    have e:stepF ask kind s0 L[i]=s0:=by unfold stepF;rw [hq]
    rw [e] at hIn
    refine at_openP (I i) hIi ?_
    intro u hu
    dsimp only [List.cons_append,List.nil_append]
    repeat' first|apply step|(apply g_op;·repeat first|exact Evs.nil|(apply Evs.cons;exact rfl))|refine Fa.mk fun _=>?_
    refine at_callR (hak _ _ _ _) ?_
    rw [hq]
    unfold triO
    repeat' first|apply step|(apply g_op;·repeat first|exact Evs.nil|(apply Evs.cons;exact rfl))|apply Lw.go|refine g_cond ?_|refine g_guard ?_|refine g_keep ?_
    refine at_foldP (I (i + 1)) hIn () trivial ?_
    exact y_next
   | some v =>
    cases s0 with
    | none =>
     have e:stepF ask kind none L[i]=some ⟨kind,L[i].txn,L[i].op,L[i].key,v.1,v.2,[]⟩:=by unfold stepF;rw [hq]
     rw [e,k3] at hIn
     dsimp only [Option.getD,Option.isSome,cFd,zFd] at hIi hIn
     refine at_openP (I i) hIi ?_
     intro u hu
     dsimp only [List.cons_append,List.nil_append]
     repeat' first|apply step|(apply g_op;·repeat first|exact Evs.nil|(apply Evs.cons;exact rfl))|refine Fa.mk fun _=>?_
     refine at_callR (hak _ _ _ _) ?_
     rw [hq]
     unfold triO
     repeat' first|apply step|(apply g_op;·repeat first|exact Evs.nil|(apply Evs.cons;exact rfl))|apply Lw.go|refine g_cond ?_|refine g_guard ?_|refine g_keep ?_
     refine at_foldP (I (i + 1)) hIn () trivial ?_
     exact y_next
    | some f =>
     by_cases he:earlB L[i] f
     ·have e:stepF ask kind (some f) L[i]=some ⟨kind,L[i].txn,L[i].op,L[i].key,v.1,v.2,[]⟩:=by unfold stepF;rw [hq];exact if_pos he
      rw [e,k3] at hIn
      dsimp only [Option.getD,Option.isSome,cFd] at hIi hIn
      refine at_openP (I i) hIi ?_
      intro u hu
      dsimp only [List.cons_append,List.nil_append]
      repeat' first|apply step|(apply g_op;·repeat first|exact Evs.nil|(apply Evs.cons;exact rfl))|refine Fa.mk fun _=>?_
      refine at_callR (hak _ _ _ _) ?_
      rw [hq]
      unfold triO
      repeat' first|apply step|(apply g_op;·repeat first|exact Evs.nil|(apply Evs.cons;exact rfl))|apply Lw.go|refine g_guard ?_|refine g_keep ?_
      refine at_callS (dirty_earlier_spec (r:=L[i]) (f:=f)) ?_
      refine ⟨fun _=>?_,fun q=>absurd he q⟩
      repeat' first|apply step|(apply g_op;·repeat first|exact Evs.nil|(apply Evs.cons;exact rfl))|refine g_cond ?_|refine g_guard ?_|refine g_keep ?_
      refine at_foldP (I (i + 1)) hIn () trivial ?_
      exact y_next
     ·have e:stepF ask kind (some f) L[i]=some f:=by unfold stepF;rw [hq];exact if_neg he
      rw [e] at hIn
      dsimp only [Option.getD,Option.isSome,cFd] at hIi hIn
      refine at_openP (I i) hIi ?_
      intro u hu
      dsimp only [List.cons_append,List.nil_append]
      repeat' first|apply step|(apply g_op;·repeat first|exact Evs.nil|(apply Evs.cons;exact rfl))|refine Fa.mk fun _=>?_
      refine at_callR (hak _ _ _ _) ?_
      rw [hq]
      unfold triO
      repeat' first|apply step|(apply g_op;·repeat first|exact Evs.nil|(apply Evs.cons;exact rfl))|apply Lw.go|refine g_guard ?_|refine g_keep ?_
      refine at_callS (dirty_earlier_spec (r:=L[i]) (f:=f)) ?_
      refine ⟨fun q=>absurd q he,fun _=>?_⟩
      repeat' first|apply step|(apply g_op;·repeat first|exact Evs.nil|(apply Evs.cons;exact rfl))|refine g_cond ?_|refine g_guard ?_|refine g_keep ?_
      refine at_foldP (I (i + 1)) hIn () trivial ?_
      exact y_next
  ·refine at_openP (I L.length) (hI _) ?_
   intro u hu
   dsimp only [List.cons_append,List.nil_append]
   rw [List.take_length,← hnx]
   repeat' first|apply step|(apply g_op;·repeat first|exact Evs.nil|(apply Evs.cons;exact rfl))|(refine Sd.mk ?_ ?_;·((repeat' apply And.intro)<;>first|omega|trivial|assumption|(simp;done)|(simp;omega)))|refine g_keep ?_
   exact lp_next (j + 1) (by omega) (by omega)
  ·intro ax hax
   refine at_openP (J ax) (hJ ax) ?_
   intro u hu
   exact (show False from hu).elim
 ·have hfl:firstL ask T kind=(T.keys.take j).foldl (keyF ask T kind) none:=by rw [List.take_of_length_le hge];rfl
  rw [hfl] at hR
  generalize (T.keys.take j).foldl (keyF ask T kind) none=st at hR ⊢
  generalize st.getD zFd=f at hR ⊢
  unfold vFd at hR
  unfold cFd
  repeat' first|apply step|(apply g_op;·repeat first|exact Evs.nil|(apply Evs.cons;exact rfl))|(refine Br.mk (fun _=>?_) (fun _=>?_)<;>try (exfalso;omega))|refine g_cond ?_|refine g_keep ?_
  refine at_opsA3 gb ob (fun sz hsz hne=>?_)
  repeat' first|apply step|(apply g_op;·repeat first|exact Evs.nil|(apply Evs.cons;exact rfl))
  refine g_ap3 rfl rfl hsz hne ?_
  repeat' first|apply step|refine g_fin ?_
  exact fin hR
theorem qs_askL (ho:FdOk T):∀ k (hk:k < qsL.length),∀ r,r ∈ agl r.key T.rd→∀ p1 c1 p2 c2,Spec prog1 qsL[k].fn [.pointer (some ⟨b,0,none⟩),.agg #[.int .i64 r.txn,.int .i64 r.op,.int .i64 r.key,.slice p1 r.list.length c1,.slice p2 r.own.length c2]] [ro (tabC b T mr mt),fro (kInt .i64) p1 c1 r.list] (fun R=>R (triO (askD T qsL[k].n r)) []):=fun k hk r hr p1 c1 p2 c2=>by
 obtain ⟨h1,h2⟩:=((ho.rd r.key).2 r hr).1
 match k,hk with
 | 0,_=>exact dirty_Torn_specR (by omega) (by omega) (fun x w q=>(ho.wr _ x w q).1) (fun x=>ho.ap x _)
 | 1,_=>exact dirty_Aborted_specR (by omega) (by omega)
 | 2,_=>exact dirty_Middle_specR (by omega) (by omega) (fun x w q=>(ho.wr _ x w q).2) (fun x=>ho.ap x _)
theorem dirty_Find_specL (ho:FdOk T):Spec prog1 n_dirty_Find [.pointer (some ⟨b,0,none⟩)] [ro (tabC b T mr mt),ro (mapF mr kI kHRd T.rd)] (fun R=>∀ p' c',R (.slice p' (findD T).length c') [own kFd p' c' (findD T)]):=by
 refine spec_code c_dirty_Find rfl ?_;intro n F R hR;unfold F_dirty_Find
 have hq3:qsL.length=3:=rfl
 repeat' first|apply step|(apply g_op;·repeat first|exact Evs.nil|(apply Evs.cons;exact rfl))
 refine at_callS (dirty_questions_spec) ?_
 intro x
 refine at_ent (pt_own (K:=kQd) (l:=qsL) (cap:=3) rfl qsL_ofs trivial) ?_
 refine at_freezeO ?_
 repeat' first|apply step|(apply g_op;·repeat first|exact Evs.nil|(apply Evs.cons;exact rfl))|refine g_keep ?_
 refine at_loopS (ι:=Nat × (Option Addr × Nat)) (E:=fun z=>[(0,.pointer (some ⟨b,0,none⟩)),(3,.slice z.2.1 (findK T z.1).length z.2.2),(8,.slice (some ⟨x,0,none⟩) 3 3),(9,.int .i64 3),(10,.int .i64 (z.1:Int))]) (Δ:=fun z=>own kFd z.2.1 z.2.2 (findK T z.1)::fro kQd (some ⟨x,0,none⟩) 3 qsL::ro (tabC b T mr mt)::ro (mapF mr kI kHRd T.rd)::F) (P:=fun z=>z.1≤3) (μ:=fun z=>3 - z.1) (0,(none,0)) (Nat.zero_le _) ?_
 rintro ⟨k,p1,c1⟩ hk
 dsimp only at hk ⊢
 have hlen:=findK_len (T:=T) k
 rcases Nat.lt_or_ge k 3 with hlt|hge
 ·have hlq:k < qsL.length:=by omega
  have hnx:=findK_next (T:=T) hlq
  have hak:=qs_askL (b:=b) (mr:=mr) (mt:=mt) ho k hlq
  have hsub:=findK_sub (T:=T) (k:=k + 1)
  have hisf:=firstL_isF (T:=T) (askD T qsL[k].n) qsL[k].n
  generalize findK T k=O at hnx hlen ⊢
  rw [hnx] at hsub
  repeat' first|apply step|(apply g_op;·repeat first|exact Evs.nil|(apply Evs.cons;exact rfl))|(refine Br.mk (fun _=>?_) (fun _=>?_)<;>try (exfalso;omega))|(refine Sd.mk ?_ ?_;·((repeat' apply And.intro)<;>first|omega|trivial|assumption|(simp;done)|(simp;omega)))|(refine Sx.mk ?_ ?_;·omega)|refine Fa.mk fun _=>?_|refine Im.mk fun _=>?_|refine g_cond ?_
  generalize qsL[k].n=kd at hnx hak hsub hisf ⊢
  generalize qsL[k].fn=gn at hak ⊢
  refine at_callR (dirty_question_first_specL (T:=T) (mr:=mr) (mt:=mt) (gn:=gn) (kind:=kd) (ask:=askD T kd) ho.keys ho.rd hak) ?_
  rcases hisf with ⟨h0,_⟩|⟨r,_,q,_,h0,_⟩
  ·rw [h0] at hnx ⊢
   unfold vFd
   dsimp only [Option.getD,Option.isSome]
   rw [show O++(none:Option Fd).toList=O from List.append_nil _] at hnx
   repeat' first|apply step|(apply g_op;·repeat first|exact Evs.nil|(apply Evs.cons;exact rfl))|(refine Sd.mk ?_ ?_;·((repeat' apply And.intro)<;>first|omega|trivial|assumption|(simp;done)|(simp;omega)))|refine Fa.mk fun _=>?_|apply Lw.go|refine g_cond ?_|refine g_keep ?_
   exact lp_next (k + 1,_,_) (by dsimp only;omega) (by dsimp only;omega) (by dsimp only;rw [hnx]) (by dsimp only;rw [hnx];repeat first|exact Ent.refl _|(apply Ent.more;· repeat first|exact Ent.keep|exact Ent.here|exact Ent.lend|exact ent_nil|apply Ent.there)|apply Ent.drop)
  ·rw [h0] at hnx hsub ⊢
   obtain ⟨⟨b1,b2⟩,⟨b3,b4⟩,⟨b5,b6⟩,⟨b7,b8⟩,⟨b9,b10⟩,⟨b11,b12⟩⟩:=ho.fd _ (hsub _ (List.mem_append.2 (.inr List.mem_cons_self)))
   dsimp only [mkFd] at b1 b2 b3 b4 b5 b6 b7 b8 b9 b10 b11 b12
   rw [show (some (mkFd kd r q)).toList=[mkFd kd r q] from rfl] at hnx
   unfold mkFd at hnx
   unfold vFd mkFd
   dsimp only [Option.getD,Option.isSome]
   repeat' first|apply step|(apply g_op;·repeat first|exact Evs.nil|(apply Evs.cons;exact rfl))|(refine Sd.mk ?_ ?_;·((repeat' apply And.intro)<;>first|omega|trivial|assumption|(simp;done)|(simp;omega)))|refine Fa.mk fun _=>?_|apply Lw.go|refine g_cond ?_|refine g_keep ?_
   exact lp_next (k + 1,_,_) (by dsimp only;omega) (by dsimp only;omega) (by dsimp only;rw [hnx]) (by dsimp only;rw [hnx];repeat first|exact Ent.refl _|(apply Ent.more;· repeat first|exact Ent.keep|exact Ent.here|exact Ent.lend|exact ent_nil|apply Ent.there)|apply Ent.drop)
 ·have e:findK T k=findD T:=by
   unfold findK findD
   rw [List.take_of_length_le (show kdL.length≤k from hge)]
  rw [e]
  repeat' first|apply step|(apply g_op;·repeat first|exact Evs.nil|(apply Evs.cons;exact rfl))|(refine Br.mk (fun _=>?_) (fun _=>?_)<;>try (exfalso;omega))|refine g_cond ?_|refine g_keep ?_|refine g_fin ?_
  exact fin (hR p1 c1)
end
end Go.AMS

namespace Go.AMS
open Go.AM hiding Kt At WP WL Runs RunsY
open Go.AM.G
set_option linter.unusedVariables false
set_option linter.unusedSimpArgs false
set_option linter.unusedSectionVars false
set_option maxRecDepth 100000
set_option maxHeartbeats 1000000
attribute [local irreducible] AtS AtV AtC AtG FinA Spec Post LP G.At G.WP G.WL pt own fro rdl ro hx mp lrec elt sub

open Go.AM.G.Set
section
variable {h:List HTx} {T:Tb} {r:HRd} {p q p1 p2 p3:Option Addr} {c d c1 c2 c3 b:Nat}
theorem ask_bI (hk:OkH h) {kd:Int} {q:Int × Int} (e:askD (TH h) kd r=some q):bI q.1∧bI q.2:=by
 obtain ⟨_,w,hw,h1,_⟩:=ask_some e
 obtain ⟨u,hu,i,hi,⟨g1,g2,g3⟩,rfl⟩:=wr_at hk hw
 have hmo:=(hk.m u hu).2 _ (List.getElem_mem hi)
 have hid:=(hk.m u hu).1
 unfold mayO at hmo
 rw [g1] at hmo
 have h2:mayN u.ops[i].value∧u.ops[i].list=[]:=by simpa using hmo.2
 rw [← h1,← g3]
 unfold mayN at hid h2
 unfold bI
 exact ⟨by omega,by dsimp only;omega⟩
def refN (h:List HTx) (l:List HRd) (kd:Int):Option Fd:=(l.filter fun r=>soundB (wK (TH h) r.key) r).findSome? fun r=>(askD (TH h) kd r).map (mkFd kd r)
theorem refD_eq:refD h=kdL.filterMap (refN h (allR (rdK h) (setL (keysH h)) (setL (comm h)))):=rfl
theorem refN_drop {l:List HRd} {k:Nat} (hk:k < l.length) (kd:Int):refN h (l.drop k) kd=if soundB (wK (TH h) l[k].key) l[k]=true then (match askD (TH h) kd l[k] with|some q=>some (mkFd kd l[k] q)|none=>refN h (l.drop (k + 1)) kd) else refN h (l.drop (k + 1)) kd:=by
 unfold refN
 rw [List.drop_eq_getElem_cons hk,List.filter_cons]
 split
 ·rw [List.findSome?_cons]
  cases askD (TH h) kd l[k] <;> rfl
 ·rfl
theorem filterMap_next {α β:Type} (f:α→Option β) {l:List α} {n:Nat} (hn:n < l.length):(l.take (n + 1)).filterMap f=(l.take n).filterMap f++(f l[n]).toList:=by
 rw [List.take_succ_eq_append_getElem hn,List.filterMap_append]
 cases h:f l[n] <;> simp [h]
theorem kdL_at:∀ n (hn:n < kdL.length),kdL[n]=4∨kdL[n]=7∨kdL[n]=8:=fun n hn=>match n,hn with
 | 0,_=>.inl rfl
 | 1,_=>.inr (.inl rfl)
 | 2,_=>.inr (.inr rfl)
theorem r14_Find_spec (hf:FewH h 20 60) (hk:OkH h):Spec prog1 n_r14_Find [.agg #[.slice p h.length c]] [fro kHTx p c h] (fun R=>∀ p' c',R (.slice p' (refD h).length c') [own kFd p' c' (refD h)]):=by
 refine spec_code c_r14_Find rfl ?_;intro n F R hR;unfold F_r14_Find
 have hq3:kdL.length=3:=rfl
 rw [refD_eq] at hR
 have hll:∀ r ∈ allR (rdK h) (setL (keysH h)) (setL (comm h)),r.list.length≤100∧r.own.length≤100:=fun r hr=>by
  obtain ⟨key,_,h1⟩:=(mem_allR fun key _ r hr=>rdK_in hf hk r hr).1 hr
  have hrd:agl key (TH h).rd=rdK h key:=rd_sort hk.i key
  exact (((th_ok hf hk).rd key).2 r (by rw [hrd];exact h1)).1
 have hlen:(allR (rdK h) (setL (keysH h)) (setL (comm h))).length≤87840000:=by
  have hLR:∀ key,(rdK h key).length≤1200:=fun key=>outR_len hf hk.m key
  have hkl:(setL (keysH h)).length≤60:=by have:=(tabS_smK hf).1;rw [keys_sort] at this;exact this
  have hil:(setL (comm h)).length≤20:=by have:=setL_le (comm h);have:=comm_le h;have:=hf.t;omega
  rw [allR_eq]
  have h1:=flatL_len (fun id=>hitsN (rdK h) (setL (keysH h)) id 61) 4392000 (fun id=>by have:=hitsN_len hLR hkl id 61;omega) (setL (comm h))
  have h3:=Nat.mul_le_mul_right 4392000 hil
  omega
 repeat' first|apply step|(apply g_op;·repeat first|exact Evs.nil|(apply Evs.cons;exact rfl))|refine Fa.mk fun _=>?_
 rename_i hb
 refine at_callR (r13_All_spec hf hk) ?_
 intro pa ca
 generalize allR (rdK h) (setL (keysH h)) (setL (comm h))=l at hR hll hlen ⊢
 repeat' first|apply step|(apply g_op;·repeat first|exact Evs.nil|(apply Evs.cons;exact rfl))|refine Fa.mk fun _=>?_|apply Lw.go|refine g_keep ?_
 rename_i x
 refine at_ent (pt_own (K:=kInt .i64) (l:=kdL) (cap:=3) (φ:=_∧_∧_) rfl (show OfVs _ (kInt .i64) [.int .i64 4,.int .i64 7,.int .i64 8] [4,7,8] _ from inferInstance) ⟨by omega,by omega,by omega⟩) ?_
 refine at_loopS (ι:=Nat × (Option Addr × Nat)) (E:=fun z=>[(1,.pointer (some ⟨hb,0,none⟩)),(3,.slice z.2.1 ((kdL.take z.1).filterMap (refN h l)).length z.2.2),(4,.slice pa l.length ca),(5,.slice (some ⟨x,0,none⟩) 3 3),(6,.int .i64 (z.1:Int))]) (Δ:=fun z=>own kFd z.2.1 z.2.2 ((kdL.take z.1).filterMap (refN h l))::own kHRd pa ca l::own (kInt .i64) (some ⟨x,0,none⟩) 3 kdL::pt hb [.slice p h.length c] 0::fro kHTx p c h::F) (P:=fun z=>z.1≤3) (μ:=fun z=>3 - z.1) (0,(none,0)) (Nat.zero_le _) ?_
 rintro ⟨n1,p1,c1⟩ hn1
 dsimp only at hn1 ⊢
 have hO:((kdL.take n1).filterMap (refN h l)).length≤3:=Nat.le_trans (List.length_filterMap_le _ _) (by rw [List.length_take];omega)
 rcases Nat.lt_or_ge n1 3 with hlt|hge
 ·have hnx:=filterMap_next (refN h l) (l:=kdL) (n:=n1) (by omega)
  have hkd:=kdL_at n1 (by omega)
  generalize hke:kdL[n1]=kd at hnx hkd
  generalize (kdL.take n1).filterMap (refN h l)=O at hnx hO ⊢
  repeat' first|apply step|(apply g_op;·repeat first|exact Evs.nil|(apply Evs.cons;exact rfl))|(refine Br.mk (fun _=>?_) (fun _=>?_)<;>try (exfalso;omega))|refine g_cond ?_|refine g_keep ?_
  refine at_loopS (ι:=Nat) (E:=fun k=>[(1,.pointer (some ⟨hb,0,none⟩)),(3,.slice p1 O.length c1),(4,.slice pa l.length ca),(5,.slice (some ⟨x,0,none⟩) 3 3),(6,.int .i64 (n1:Int)),(7,.int .i64 (k:Int))]) (Δ:=fun k=>own kFd p1 c1 O::own kHRd pa ca l::own (kInt .i64) (some ⟨x,0,none⟩) 3 kdL::pt hb [.slice p h.length c] 0::fro kHTx p c h::F) (P:=fun k=>k≤l.length∧refN h (l.drop k) kd=refN h l kd) (μ:=fun k=>l.length - k) 0 ⟨Nat.zero_le _,rfl⟩ ?_
  rintro k ⟨hk1,hd⟩
  try dsimp only
  rcases Nat.lt_or_ge k l.length with hlk|hgk
  ·rw [refN_drop hlk] at hd
   obtain ⟨k1,k2⟩:=hll l[k] (List.getElem_mem _)
   repeat' first|apply step|(apply g_op;·repeat first|exact Evs.nil|(apply Evs.cons;exact rfl))|(refine Br.mk (fun _=>?_) (fun _=>?_)<;>try (exfalso;omega))|(refine Sd.mk ?_ ?_;·((repeat' apply And.intro)<;>first|omega|trivial|assumption|(simp;done)|(simp;omega)))|(refine Sx.mk ?_ ?_;·omega)|refine Fa.mk fun _=>?_|refine Im.mk fun _=>?_|refine g_cond ?_
   refine at_callS (r13_Kind_spec (r:=l[k]) hf hk (by omega) (by omega)) ?_
   by_cases hs:(kindL (wK (TH h) l[k].key) l[k]).1=0
   ·rw [if_pos (show soundB (wK (TH h) l[k].key) l[k]=true from decide_eq_true hs)] at hd
    repeat' first|apply step|(apply g_op;·repeat first|exact Evs.nil|(apply Evs.cons;exact rfl))|(refine Br.mk (fun _=>?_) (fun _=>?_)<;>try (exfalso;omega))|(refine Sd.mk ?_ ?_;·((repeat' apply And.intro)<;>first|omega|trivial|assumption|(simp;done)|(simp;omega)))|(refine Sx.mk ?_ ?_;·omega)|refine Fa.mk fun _=>?_|refine Im.mk fun _=>?_|refine g_cond ?_|refine g_keep ?_
    refine at_callS (r14_Torn_spec (r:=l[k]) hf hk k1 k2) ?_
    have htr:tornR (wK (TH h) l[k].key) (fun id=>agl (id,l[k].key) (TH h).ap) (frontL l[k])=askD (TH h) 4 l[k]:=(torn_eq _ (wr_con hk)).symm
    rw [htr,triO_eq]
    rcases hkd with hkk|hkk|hkk
    ·have hst:True:=trivial
     have hbq:=fun q (e:askD (TH h) kd l[k]=some q)=>ask_bI hk e
     subst hkk
     cases ho:askD (TH h) 4 l[k] with
     | none =>
      rw [ho] at hd
      dsimp only [t1,t2,Option.isSome]
      repeat' first|apply step|(apply g_op;·repeat first|exact Evs.nil|(apply Evs.cons;exact rfl))|(refine Br.mk (fun _=>?_) (fun _=>?_)<;>try (exfalso;omega))|(refine Sd.mk ?_ ?_;·((repeat' apply And.intro)<;>first|omega|trivial|assumption|(simp;done)|(simp;omega)))|(refine Sx.mk ?_ ?_;·omega)|refine Im.mk fun _=>?_|refine g_cond ?_|refine g_keep ?_
      all_goals first|(exfalso;omega)|exact lp_next (k + 1) ⟨by omega,hd⟩ (by omega)
     | some q =>
      rw [ho] at hd
      obtain ⟨⟨b1,b2⟩,b3,b4⟩:=hbq q ho
      rw [← hd] at hnx
      rw [show (some (mkFd 4 l[k] q)).toList=[⟨kdL[n1],l[k].txn,l[k].op,l[k].key,q.1,q.2,[]⟩] from by rw [hke];rfl] at hnx
      dsimp only [t1,t2,Option.isSome]
      repeat' first|apply step|(apply g_op;·repeat first|exact Evs.nil|(apply Evs.cons;exact rfl))|(refine Br.mk (fun _=>?_) (fun _=>?_)<;>try (exfalso;omega))|(refine Sd.mk ?_ ?_;·((repeat' apply And.intro)<;>first|omega|trivial|assumption|(simp;done)|(simp;omega)))|(refine Sx.mk ?_ ?_;·omega)|refine Fa.mk fun _=>?_|refine Im.mk fun _=>?_|refine g_cond ?_|refine g_keep ?_|refine g_pass ?_
      all_goals first|(exfalso;omega)|exact lp_next (n1 + 1,_,_) (by dsimp only;omega) (by dsimp only;omega) (by dsimp only;rw [hnx];first|done|rfl) (by dsimp only;rw [hnx];repeat first|exact Ent.refl _|(apply Ent.more;· repeat first|exact Ent.keep|exact Ent.here|exact Ent.lend|exact ent_nil|apply Ent.there)|apply Ent.drop)
    ·repeat' first|apply step|(apply g_op;·repeat first|exact Evs.nil|(apply Evs.cons;exact rfl))|(refine Br.mk (fun _=>?_) (fun _=>?_)<;>try (exfalso;omega))|(refine Sd.mk ?_ ?_;·((repeat' apply And.intro)<;>first|omega|trivial|assumption|(simp;done)|(simp;omega)))|(refine Sx.mk ?_ ?_;·omega)|refine Fa.mk fun _=>?_|refine Im.mk fun _=>?_|refine g_cond ?_|refine g_keep ?_
     all_goals try (exfalso;omega)
     refine at_callS (r14_Aborted_spec (r:=l[k]) hf hk (by omega) (by omega)) ?_
     rw [show abL (wK (TH h) l[k].key) (frontL l[k])=askD (TH h) 7 l[k] from rfl,triO_eq]
     have hbq:=fun q (e:askD (TH h) kd l[k]=some q)=>ask_bI hk e
     subst hkk
     cases ho:askD (TH h) 7 l[k] with
     | none =>
      rw [ho] at hd
      dsimp only [t1,t2,Option.isSome]
      repeat' first|apply step|(apply g_op;·repeat first|exact Evs.nil|(apply Evs.cons;exact rfl))|(refine Br.mk (fun _=>?_) (fun _=>?_)<;>try (exfalso;omega))|(refine Sd.mk ?_ ?_;·((repeat' apply And.intro)<;>first|omega|trivial|assumption|(simp;done)|(simp;omega)))|(refine Sx.mk ?_ ?_;·omega)|refine Im.mk fun _=>?_|refine g_cond ?_|refine g_keep ?_
      all_goals first|(exfalso;omega)|exact lp_next (k + 1) ⟨by omega,hd⟩ (by omega)
     | some q =>
      rw [ho] at hd
      obtain ⟨⟨b1,b2⟩,b3,b4⟩:=hbq q ho
      rw [← hd] at hnx
      rw [show (some (mkFd 7 l[k] q)).toList=[⟨kdL[n1],l[k].txn,l[k].op,l[k].key,q.1,q.2,[]⟩] from by rw [hke];rfl] at hnx
      dsimp only [t1,t2,Option.isSome]
      repeat' first|apply step|(apply g_op;·repeat first|exact Evs.nil|(apply Evs.cons;exact rfl))|(refine Br.mk (fun _=>?_) (fun _=>?_)<;>try (exfalso;omega))|(refine Sd.mk ?_ ?_;·((repeat' apply And.intro)<;>first|omega|trivial|assumption|(simp;done)|(simp;omega)))|(refine Sx.mk ?_ ?_;·omega)|refine Fa.mk fun _=>?_|refine Im.mk fun _=>?_|refine g_cond ?_|refine g_keep ?_|refine g_pass ?_
      all_goals first|(exfalso;omega)|exact lp_next (n1 + 1,_,_) (by dsimp only;omega) (by dsimp only;omega) (by dsimp only;rw [hnx];first|done|rfl) (by dsimp only;rw [hnx];repeat first|exact Ent.refl _|(apply Ent.more;· repeat first|exact Ent.keep|exact Ent.here|exact Ent.lend|exact ent_nil|apply Ent.there)|apply Ent.drop)
    ·repeat' first|apply step|(apply g_op;·repeat first|exact Evs.nil|(apply Evs.cons;exact rfl))|(refine Br.mk (fun _=>?_) (fun _=>?_)<;>try (exfalso;omega))|(refine Sd.mk ?_ ?_;·((repeat' apply And.intro)<;>first|omega|trivial|assumption|(simp;done)|(simp;omega)))|(refine Sx.mk ?_ ?_;·omega)|refine Fa.mk fun _=>?_|refine Im.mk fun _=>?_|refine g_cond ?_|refine g_keep ?_
     all_goals try (exfalso;omega)
     refine at_callS (r14_Middle_spec (r:=l[k]) hf hk (by omega) (by omega)) ?_
     rw [show midL (wK (TH h) l[k].key) (fun id=>agl (id,l[k].key) (TH h).ap) (frontL l[k])=askD (TH h) 8 l[k] from rfl,triO_eq]
     have hbq:=fun q (e:askD (TH h) kd l[k]=some q)=>ask_bI hk e
     subst hkk
     cases ho:askD (TH h) 8 l[k] with
     | none =>
      rw [ho] at hd
      dsimp only [t1,t2,Option.isSome]
      repeat' first|apply step|(apply g_op;·repeat first|exact Evs.nil|(apply Evs.cons;exact rfl))|(refine Sd.mk ?_ ?_;·((repeat' apply And.intro)<;>first|omega|trivial|assumption|(simp;done)|(simp;omega)))|refine g_cond ?_|refine g_keep ?_
      all_goals first|(exfalso;omega)|exact lp_next (k + 1) ⟨by omega,hd⟩ (by omega)
     | some q =>
      rw [ho] at hd
      obtain ⟨⟨b1,b2⟩,b3,b4⟩:=hbq q ho
      rw [← hd] at hnx
      rw [show (some (mkFd 8 l[k] q)).toList=[⟨kdL[n1],l[k].txn,l[k].op,l[k].key,q.1,q.2,[]⟩] from by rw [hke];rfl] at hnx
      dsimp only [t1,t2,Option.isSome]
      repeat' first|apply step|(apply g_op;·repeat first|exact Evs.nil|(apply Evs.cons;exact rfl))|(refine Sd.mk ?_ ?_;·((repeat' apply And.intro)<;>first|omega|trivial|assumption|(simp;done)|(simp;omega)))|(refine Sx.mk ?_ ?_;·omega)|refine Fa.mk fun _=>?_|refine Im.mk fun _=>?_|refine g_cond ?_|refine g_keep ?_|refine g_pass ?_
      all_goals first|(exfalso;omega)|exact lp_next (n1 + 1,_,_) (by dsimp only;omega) (by dsimp only;omega) (by dsimp only;rw [hnx];first|done|rfl) (by dsimp only;rw [hnx];repeat first|exact Ent.refl _|(apply Ent.more;· repeat first|exact Ent.keep|exact Ent.here|exact Ent.lend|exact ent_nil|apply Ent.there)|apply Ent.drop)
   ·rw [if_neg (show ¬ soundB (wK (TH h) l[k].key) l[k]=true from fun q=>hs (of_decide_eq_true q))] at hd
    repeat' first|apply step|(apply g_op;·repeat first|exact Evs.nil|(apply Evs.cons;exact rfl))|(refine Br.mk (fun _=>?_) (fun _=>?_)<;>try (exfalso;omega))|(refine Sd.mk ?_ ?_;·((repeat' apply And.intro)<;>first|omega|trivial|assumption|(simp;done)|(simp;omega)))|refine g_cond ?_|refine g_keep ?_
    exact lp_next (k + 1) ⟨by omega,hd⟩ (by omega)
  ·rw [List.drop_eq_nil_of_le hgk] at hd
   have hd0:refN h l kd=none:=hd.symm
   rw [hd0,show (none:Option Fd).toList=[] from rfl,List.append_nil] at hnx
   repeat' first|apply step|(apply g_op;·repeat first|exact Evs.nil|(apply Evs.cons;exact rfl))|(refine Br.mk (fun _=>?_) (fun _=>?_)<;>try (exfalso;omega))|(refine Sd.mk ?_ ?_;·((repeat' apply And.intro)<;>first|omega|trivial|assumption|(simp;done)|(simp;omega)))|refine g_cond ?_|refine g_keep ?_
   exact lp_next (n1 + 1,_,_) (by dsimp only;omega) (by dsimp only;omega) (by dsimp only;rw [hnx];first|done|rfl) (by dsimp only;rw [hnx];repeat first|exact Ent.refl _|(apply Ent.more;· repeat first|exact Ent.keep|exact Ent.here|exact Ent.lend|exact ent_nil|apply Ent.there)|apply Ent.drop)
 ·rw [List.take_of_length_le (show kdL.length≤n1 from hge)]
  repeat' first|apply step|(apply g_op;·repeat first|exact Evs.nil|(apply Evs.cons;exact rfl))|(refine Br.mk (fun _=>?_) (fun _=>?_)<;>try (exfalso;omega))|refine g_cond ?_|refine g_keep ?_|refine g_fin ?_
  exact fin (hR p1 c1)
end
end Go.AMS

namespace Go.AMS
open Go.AM hiding Kt At WP WL Runs RunsY
open Go.AM.G
set_option linter.unusedVariables false
set_option linter.unusedSimpArgs false
set_option linter.unusedSectionVars false
set_option maxRecDepth 100000
set_option maxHeartbeats 1000000
attribute [local irreducible] AtS AtV AtC AtG FinA Spec Post LP G.At G.WP G.WL pt own fro rdl ro hx mp lrec elt sub

open Go.AM.G.Set
section
variable {h:List HTx} {T:Tb} {r:HRd} {f:Fd} {p q p1 p2 p3:Option Addr} {c d c1 c2 c3 b:Nat}
theorem r13_SameEdges_spec {n1:Nat} (hn:n1=0):Spec prog1 n_r13_SameEdges [.slice p n1 c,.slice q n1 d] [] (fun R=>R (.bool true) []):=by
 refine spec_code c_r13_SameEdges rfl ?_;intro n F R hR;unfold F_r13_SameEdges
 repeat' first|apply step|(apply g_op;·repeat first|exact Evs.nil|(apply Evs.cons;exact rfl))|(refine Br.mk (fun _=>?_) (fun _=>?_)<;>try (exfalso;omega))|refine g_cond ?_|refine g_keep ?_
 refine at_loopS (ι:=Nat) (E:=fun j=>[(0,.slice p n1 c),(1,.slice q n1 d),(5,.int .i64 (j:Int))]) (Δ:=fun _=>F) (P:=fun j=>j=0) (μ:=fun j=>0) 0 rfl ?_
 rintro j hj
 try dsimp only
 repeat' first|apply step|(apply g_op;·repeat first|exact Evs.nil|(apply Evs.cons;exact rfl))|(refine Br.mk (fun _=>?_) (fun _=>?_)<;>try (exfalso;omega))|refine g_cond ?_|refine g_keep ?_|refine g_fin ?_
 all_goals first|(exfalso;omega)|exact fin hR
theorem r13_SameFinding_spec (hc:f.cyc=[]):Spec prog1 n_r13_SameFinding [.agg #[.int .i64 f.kind,.int .i64 f.txn,.int .i64 f.op,.int .i64 f.key,.int .i64 f.value,.int .i64 f.other,.slice p1 f.cyc.length c1],.agg #[.int .i64 f.kind,.int .i64 f.txn,.int .i64 f.op,.int .i64 f.key,.int .i64 f.value,.int .i64 f.other,.slice p2 f.cyc.length c2]] [] (fun R=>R (.bool true) []):=by
 refine spec_code c_r13_SameFinding rfl ?_;intro n F R hR;unfold F_r13_SameFinding
 have hl:f.cyc.length=0:=by rw [hc];rfl
 repeat' first|apply step|(apply g_op;·repeat first|exact Evs.nil|(apply Evs.cons;exact rfl))|(refine Br.mk (fun _=>?_) (fun _=>?_)<;>try (exfalso;omega))|refine Fa.mk fun _=>?_|refine g_guard ?_
 refine at_callS (r13_SameEdges_spec hl) ?_
 repeat' first|apply step|(apply g_op;·repeat first|exact Evs.nil|(apply Evs.cons;exact rfl))|refine g_keep ?_|refine g_fin ?_
 exact fin hR
theorem r13_SameFindings_spec {l:List Fd} (hl:l.length≤1000) (hc:∀ f ∈ l,f.cyc=[]):Spec prog1 n_r13_SameFindings [.slice p l.length c,.slice q l.length d] [rdl kFd p l,rdl kFd q l] (fun R=>R (.bool true) []):=by
 refine spec_code c_r13_SameFindings rfl ?_;intro n F R hR;unfold F_r13_SameFindings
 repeat' first|apply step|(apply g_op;·repeat first|exact Evs.nil|(apply Evs.cons;exact rfl))|(refine Br.mk (fun _=>?_) (fun _=>?_)<;>try (exfalso;omega))|refine g_cond ?_|refine g_keep ?_
 refine at_loopS (ι:=Nat) (E:=fun j=>[(0,.slice p l.length c),(1,.slice q l.length d),(5,.int .i64 (j:Int))]) (Δ:=fun j=>rdl kFd p l::rdl kFd q l::F) (P:=fun j=>j≤l.length) (μ:=fun j=>l.length - j) 0 (Nat.zero_le _) ?_
 rintro j hj
 try dsimp only
 rcases Nat.lt_or_ge j l.length with hlt|hge
 ·repeat' first|apply step|(apply g_op;·repeat first|exact Evs.nil|(apply Evs.cons;exact rfl))|(refine Br.mk (fun _=>?_) (fun _=>?_)<;>try (exfalso;omega))|(refine Sd.mk ?_ ?_;·((repeat' apply And.intro)<;>first|omega|trivial|assumption|(simp;done)|(simp;omega)))|(refine Sx.mk ?_ ?_;·omega)|refine Fa.mk fun _=>?_|refine Im.mk fun _=>?_|refine g_cond ?_
  refine at_callS (r13_SameFinding_spec (f:=l[j]) (hc _ (List.getElem_mem _))) ?_
  repeat' first|apply step|(apply g_op;·repeat first|exact Evs.nil|(apply Evs.cons;exact rfl))|(refine Sd.mk ?_ ?_;·((repeat' apply And.intro)<;>first|omega|trivial|assumption|(simp;done)|(simp;omega)))|refine g_cond ?_|refine g_keep ?_
  exact lp_next (j + 1) (by omega) (by omega)
 ·repeat' first|apply step|(apply g_op;·repeat first|exact Evs.nil|(apply Evs.cons;exact rfl))|(refine Br.mk (fun _=>?_) (fun _=>?_)<;>try (exfalso;omega))|refine g_cond ?_|refine g_keep ?_|refine g_fin ?_
  exact fin hR
theorem l14_DirtyFinds_spec:Spec prog1 n_l14_DirtyFinds [.agg #[.slice p h.length c]] [fro kHTx p c h] (fun R=>R (.bool true) []):=by
 refine spec_code c_l14_DirtyFinds rfl ?_;intro n F R hR;unfold F_l14_DirtyFinds
 repeat' first|apply step|(apply g_op;·repeat first|exact Evs.nil|(apply Evs.cons;exact rfl))|refine Fa.mk fun _=>?_
 rename_i hb
 refine at_callS (l14_few_spec (h:=h)) ?_
 refine ⟨fun hf hc=>?_,?_⟩
 ·have hk:=chkH_ok hc
  have hok:=th_ok hf hk
  have heq:=findD_eq hf hk
  have hl3:(findD (TH h)).length≤3:=List.length_filterMap_le _ _
  have hcy:∀ f ∈ findD (TH h),f.cyc=[]:=fun f hm=>by
   obtain ⟨w,_,_,_,_,e,_⟩:=findD_at hk hm
   exact e
  repeat' first|apply step|(apply g_op;·repeat first|exact Evs.nil|(apply Evs.cons;exact rfl))|refine g_cond ?_
  refine at_callS (table_New_spec hf) ?_
  refine ⟨fun hc2=>absurd hc hc2,fun _ b=>?_⟩
  change AtS _ _ _ _ _ _ (tab b (TH h)::(pt hb [.slice p h.length c] 0::fro kHTx p c h::F)) _
  refine at_tabC (fun mr mt=>?_)
  repeat' first|apply step|(apply g_op;·repeat first|exact Evs.nil|(apply Evs.cons;exact rfl))|(refine Br.mk (fun _=>?_) (fun _=>?_)<;>try (exfalso;omega))|refine g_cond ?_|refine g_guard ?_|refine g_keep ?_
  refine at_callR (dirty_Find_specL (T:=TH h) (b:=b) (mr:=mr) (mt:=mt) hok) ?_
  intro p1 c1
  repeat' first|apply step|(apply g_op;·repeat first|exact Evs.nil|(apply Evs.cons;exact rfl))|apply Lw.go
  refine at_callS (r14_Find_spec hf hk) ?_
  intro p2 c2
  rw [← heq]
  generalize findD (TH h)=l at hl3 hcy ⊢
  repeat' first|apply step|(apply g_op;·repeat first|exact Evs.nil|(apply Evs.cons;exact rfl))
  refine at_callR (r13_SameFindings_spec (l:=l) (by omega) hcy) ?_
  repeat' first|apply step|(apply g_op;·repeat first|exact Evs.nil|(apply Evs.cons;exact rfl))|apply Lw.go|refine g_guard ?_
  refine at_callS (l14_works_spec) ?_
  repeat' first|apply step|(apply g_op;·repeat first|exact Evs.nil|(apply Evs.cons;exact rfl))|refine g_keep ?_|refine g_fin ?_
  exact fin hR
 ·repeat' first|apply step|(apply g_op;·repeat first|exact Evs.nil|(apply Evs.cons;exact rfl))|refine g_cond ?_
  refine at_callS (l14_works_spec) ?_
  repeat' first|apply step|(apply g_op;·repeat first|exact Evs.nil|(apply Evs.cons;exact rfl))|refine g_fin ?_
  exact fin hR
end
end Go.AMS

