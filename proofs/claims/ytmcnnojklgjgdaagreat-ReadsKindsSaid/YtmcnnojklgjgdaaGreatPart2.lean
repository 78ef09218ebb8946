/- What the functions do, part 2. -/
import Derived.Test.YtmcnnojklgjgdaaGreatPart1
import Derived.Test.YtmcnnojklgjgdaaGreatSetLaw
namespace Go.AMS
open Go.AM hiding Kt At WP WL Runs RunsY
open Go.AM.G
set_option linter.unusedVariables false
set_option linter.unusedSimpArgs false
set_option linter.unusedSectionVars false
set_option maxRecDepth 100000
set_option maxHeartbeats 1000000
attribute [local irreducible] AtS AtV AtC AtG FinA Spec Post LP G.At G.WP G.WL pt own fro rdl ro hx mp lrec elt sub

open Go.AM.G.Set
section
variable {b:Nat} {T:Tb} {p q:Option Addr} {c d:Nat}
theorem cmp_isNaN_int_spec {x:Int}:Spec prog1 n_cmp_isNaN_int [.int .i64 x] [] (fun R=>R (.bool false) []):=by
 refine spec_code c_cmp_isNaN_int rfl ?_;intro n F R hR;unfold F_cmp_isNaN_int
 repeat' first|apply step|(apply g_op;·repeat first|exact Evs.nil|(apply Evs.cons;exact rfl))|(refine Br.mk (fun _=>?_) (fun _=>?_)<;>try (exfalso;omega))|refine g_fin ?_
 all_goals first|exact fin hR|(exfalso;omega)
theorem slices_isNaN_int_spec {x:Int}:Spec prog1 n_slices_isNaN_int [.int .i64 x] [] (fun R=>R (.bool false) []):=by
 refine spec_code c_slices_isNaN_int rfl ?_;intro n F R hR;unfold F_slices_isNaN_int
 repeat' first|apply step|(apply g_op;·repeat first|exact Evs.nil|(apply Evs.cons;exact rfl))|(refine Br.mk (fun _=>?_) (fun _=>?_)<;>try (exfalso;omega))|refine g_fin ?_
 all_goals first|exact fin hR|(exfalso;omega)
theorem cmp_Less_int_spec {x y:Int}:Spec prog1 n_cmp_Less_int [.int .i64 x,.int .i64 y] [] (fun R=>(x < y→R (.bool true) [])∧(¬ x < y→R (.bool false) [])):=by
 refine spec_code c_cmp_Less_int rfl ?_;intro n F R hR;unfold F_cmp_Less_int
 repeat' first|apply step|(apply g_op;·repeat first|exact Evs.nil|(apply Evs.cons;exact rfl))
 refine at_callS (cmp_isNaN_int_spec) ?_
 repeat' first|apply step|(apply g_op;·repeat first|exact Evs.nil|(apply Evs.cons;exact rfl))|(refine Br.mk (fun _=>?_) (fun _=>?_)<;>try (exfalso;omega))|refine g_guard ?_|refine g_keep ?_|refine g_fin ?_
 ·exact fin (hR.1 ‹_›)
 ·exact fin (hR.2 ‹_›)
theorem slices_BinarySearch_int_int_spec {l:List Int} {x:Int} (hl:l.length≤1000000000) (hs:l.Pairwise (fun a b=>a < b)):Spec prog1 n_slices_BinarySearch_int_int [.slice p l.length c,.int .i64 x] [rdl (kInt .i64) p l] (fun R=>(∀ k (hk:k < l.length),l[k]=x→R (.tuple #[.int .i64 (k:Int),.bool true]) [])∧(x ∉ l→∀ k:Int,R (.tuple #[.int .i64 k,.bool false]) [])):=by
 refine spec_code c_slices_BinarySearch_int_int rfl ?_;intro n F R hR;unfold F_slices_BinarySearch_int_int
 repeat' first|apply step|(apply g_op;·repeat first|exact Evs.nil|(apply Evs.cons;exact rfl))|refine g_keep ?_
 refine at_loopS (ι:=Nat × Nat) (E:=fun j=>[(0,.slice p l.length c),(1,.int .i64 x),(6,.int .i64 (l.length:Int)),(7,.int .i64 (j.1:Int)),(8,.int .i64 (j.2:Int))]) (Δ:=fun j=>rdl (kInt .i64) p l::F) (P:=fun j=>(j.1≤j.2∧j.2≤l.length)∧(∀ i (h:i < l.length),i < j.1→l[i] < x)∧(∀ i (h:i < l.length),j.2≤i→x≤l[i])) (μ:=fun j=>j.2 - j.1) (0,l.length) ⟨⟨Nat.zero_le _,Nat.le_refl _⟩,fun i h q=>by omega,fun i h q=>by omega⟩ ?_
 rintro ⟨i,j⟩ ⟨⟨h1,h2⟩,h3,h4⟩
 try dsimp only at h1 h2 h3 h4 ⊢
 rcases Nat.lt_or_ge i j with hlt|hge
 ·have hm:(i + j) / 2 < l.length:=by omega
  have mono:∀ (a b:Nat) (ha:a < l.length) (hb:b < l.length),a≤b→l[a]≤l[b]:=fun a b ha hb hab=>by
   rcases Nat.lt_or_ge a b with q|q
   ·exact Int.le_of_lt (List.pairwise_iff_getElem.1 hs a b ha hb q)
   ·have:a=b:=by omega
    subst this;exact Int.le_refl _
  repeat' first|apply step|(apply g_op;·repeat first|exact Evs.nil|(apply Evs.cons;exact rfl))|(refine Br.mk (fun _=>?_) (fun _=>?_)<;>try (exfalso;omega))|(refine Sd.mk ?_ ?_;·((repeat' apply And.intro)<;>first|omega|trivial|assumption|(simp;done)|(simp;omega)))|(refine Sx.mk ?_ ?_;·omega)|refine Im.mk fun _=>?_|refine g_cond ?_|refine g_keep ?_
  refine at_callS (cmp_Less_int_spec) ?_
  refine ⟨fun hq=>?_,fun hq=>?_⟩
  ·repeat' first|apply step|(apply g_op;·repeat first|exact Evs.nil|(apply Evs.cons;exact rfl))|(refine Sd.mk ?_ ?_;·((repeat' apply And.intro)<;>first|omega|trivial|assumption|(simp;done)|(simp;omega)))|refine g_cond ?_|refine g_keep ?_
   refine lp_next ((i + j) / 2 + 1,j) ⟨⟨by dsimp only;omega,h2⟩,fun a ha q=>?_,h4⟩ (by dsimp only;omega)
   dsimp only at q
   have:=mono a ((i + j) / 2) ha hm (by omega)
   omega
  ·repeat' first|apply step|(apply g_op;·repeat first|exact Evs.nil|(apply Evs.cons;exact rfl))|refine g_cond ?_|refine g_keep ?_
   refine lp_next (i,(i + j) / 2) ⟨⟨by dsimp only;omega,by dsimp only;omega⟩,h3,fun a ha q=>?_⟩ (by dsimp only;omega)
   dsimp only at q
   have:=mono ((i + j) / 2) a hm ha (by omega)
   omega
 ·have:i=j:=by omega
  subst this
  have hno:(∀ h:i < l.length,l[i]≠x)→x ∉ l:=fun h hx=>by
   obtain ⟨a,ha,e⟩:=List.mem_iff_getElem.1 hx
   rcases Nat.lt_trichotomy a i with q|q|q
   ·have:=h3 a ha q;omega
   ·subst q;exact h ha e
   ·have hi:i < l.length:=by omega
    have h5:=h4 i hi (Nat.le_refl _)
    have h6:=List.pairwise_iff_getElem.1 hs i a hi ha q
    exact h hi (by omega)
  repeat' first|apply step|(apply g_op;·repeat first|exact Evs.nil|(apply Evs.cons;exact rfl))|(refine Br.mk (fun _=>?_) (fun _=>?_)<;>try (exfalso;omega))|(refine Sd.mk ?_ ?_;·((repeat' apply And.intro)<;>first|omega|trivial|assumption|(simp;done)|(simp;omega)))|(refine Sx.mk ?_ ?_;·omega)|refine Im.mk fun _=>?_|refine g_cond ?_|refine g_guard ?_|refine g_keep ?_|refine g_fin ?_
  ·exact fin (hR.1 _ _ ‹_›)
  ·refine at_callS (slices_isNaN_int_spec) ?_
   repeat' first|apply step|(apply g_op;·repeat first|exact Evs.nil|(apply Evs.cons;exact rfl))|refine g_guard ?_|refine g_keep ?_|refine g_fin ?_
   exact fin (hR.2 (hno fun _=>‹_›) _)
  ·exact fin (hR.2 (hno fun h=>by omega) _)
def wrO:Option HWr→Value
 | some w=>.tuple #[wrV w,.bool true]
 | none=>.tuple #[zWr,.bool false]
theorem table_Table_Writer_spec {x y:Int}:Spec prog1 n_table_Table_Writer [.pointer (some ⟨b,0,none⟩),.int .i64 x,.int .i64 y] [tab b T] (fun R=>R (wrO (aget (x,y) T.wr)) [tab b T]):=by
 refine spec_code c_table_Table_Writer rfl ?_;intro n F R hR;unfold F_table_Table_Writer
 refine at_openP (tab b T) rfl ?_
 rintro ⟨⟨⟨pi,ci⟩,⟨pk,ck⟩⟩,⟨mw,ma,mr,mt⟩⟩ -
 dsimp only [List.cons_append,List.nil_append]
 repeat' first|apply step|(apply g_op;·repeat first|exact Evs.nil|(apply Evs.cons;exact rfl))|refine Fa.mk fun _=>?_
 refine at_callR (table_Table_is_spec) ?_
 repeat' first|apply step|(apply g_op;·repeat first|exact Evs.nil|(apply Evs.cons;exact rfl))|apply Lw.go|refine g_cond ?_
 cases hq:aget (x,y) T.wr with
 | some w =>
  rw [hq] at hR
  refine av_look1 (enc:=kII) (vv:=wrV) (key:=(x,y)) inferInstance hq ?_
  repeat' first|apply step|(apply g_op;·repeat first|exact Evs.nil|(apply Evs.cons;exact rfl))|refine Fa.mk fun _=>?_|refine g_keep ?_|refine g_fin ?_
  refine fin_foldP (tab b T) rfl (((pi,ci),(pk,ck)),(mw,ma,mr,mt)) trivial ?_
  exact fin hR
 | none =>
  rw [hq] at hR
  refine av_look0 (enc:=kII) (vv:=wrV) (key:=(x,y)) inferInstance hq ?_
  repeat' first|apply step|(apply g_op;·repeat first|exact Evs.nil|(apply Evs.cons;exact rfl))|refine Fa.mk fun _=>?_|refine g_keep ?_|refine g_fin ?_
  refine fin_foldP (tab b T) rfl (((pi,ci),(pk,ck)),(mw,ma,mr,mt)) trivial ?_
  exact fin hR
end
end Go.AMS

namespace Go.AMS
open Go.AM hiding Kt At WP WL Runs RunsY
open Go.AM.G
set_option linter.unusedVariables false
set_option linter.unusedSimpArgs false
set_option linter.unusedSectionVars false
set_option maxRecDepth 100000
set_option maxHeartbeats 1000000
attribute [local irreducible] AtS AtV AtC AtG FinA Spec Post LP G.At G.WP G.WL pt own fro rdl ro hx mp lrec elt sub

open Go.AM.G.Set
section
variable {h:List HTx} {p q:Option Addr} {c d:Nat}
theorem r12_Writer_spec {x y:Int} (hf:FewH h 20 60):Spec prog1 n_r12_Writer [.agg #[.slice p h.length c],.int .i64 x,.int .i64 y] [fro kHTx p c h] (fun R=>(∀ t ∈ h,∀ i (hi:i < t.ops.length),t.ops[i].read=false→t.ops[i].key=x→t.ops[i].value=y→R (wrO (some ⟨t.id,i,x,y,t.ab⟩)) [])∧((∀ t ∈ h,∀ o ∈ t.ops,¬ (o.read=false∧o.key=x∧o.value=y))→R (wrO none) [])):=by
 refine spec_code c_r12_Writer rfl ?_;intro n F R hR;unfold F_r12_Writer
 have hh:=hf.t
 have ho:=hf.o
 repeat' first|apply step|(apply g_op;·repeat first|exact Evs.nil|(apply Evs.cons;exact rfl))|refine Fa.mk fun _=>?_|refine g_keep ?_
 rename_i rb wb
 refine at_loopS (ι:=Nat) (E:=fun j=>[(1,.int .i64 x),(2,.int .i64 y),(3,.pointer (some ⟨rb,0,none⟩)),(6,.pointer (some ⟨wb,0,none⟩)),(8,.int .i64 (j:Int))]) (Δ:=fun j=>pt wb [.int .i64 0,.int .i64 0,.int .i64 0,.int .i64 0,.bool false] 0::pt rb [.slice p h.length c] 0::fro kHTx p c h::F) (P:=fun j=>j≤h.length∧∀ t ∈ h.take j,∀ o ∈ t.ops,¬ (o.read=false∧o.key=x∧o.value=y)) (μ:=fun j=>h.length - j) 0 ⟨Nat.zero_le _,fun t ht=>by simp at ht⟩ ?_
 rintro j ⟨hj,hn⟩
 try dsimp only
 rcases Nat.lt_or_ge j h.length with hlt|hge
 ·have ho2:=opsN_mem (List.getElem_mem hlt)
  have hmem:=List.getElem_mem hlt
  repeat' first|apply step|(apply g_op;·repeat first|exact Evs.nil|(apply Evs.cons;exact rfl))|(refine Br.mk (fun _=>?_) (fun _=>?_)<;>try (exfalso;omega))|(refine Sd.mk ?_ ?_;·((repeat' apply And.intro)<;>first|omega|trivial|assumption|(simp;done)|(simp;omega)))|(refine Sx.mk ?_ ?_;·omega)|refine Fa.mk fun _=>?_|refine Im.mk fun _=>?_|refine g_cond ?_|refine g_keep ?_
  rename_i w _ tb
  refine at_loopS (ι:=Nat) (E:=fun i=>[(1,.int .i64 x),(2,.int .i64 y),(3,.pointer (some ⟨rb,0,none⟩)),(6,.pointer (some ⟨wb,0,none⟩)),(8,.int .i64 (j:Int)),(9,.pointer (some ⟨tb,0,none⟩)),(10,.int .i64 (i:Int))]) (Δ:=fun i=>pt tb [.int .i64 h[j].id,.bool h[j].ab,.slice w.1 h[j].ops.length w.2] 0::fro kHOp w.1 w.2 h[j].ops::pt wb [.int .i64 0,.int .i64 0,.int .i64 0,.int .i64 0,.bool false] 0::pt rb [.slice p h.length c] 0::fro kHTx p c h::F) (P:=fun i=>i≤h[j].ops.length∧∀ o ∈ h[j].ops.take i,¬ (o.read=false∧o.key=x∧o.value=y)) (μ:=fun i=>h[j].ops.length - i) 0 ⟨Nat.zero_le _,fun t ht=>by simp at ht⟩ ?_
  rintro i ⟨hi,hn2⟩
  try dsimp only
  rcases Nat.lt_or_ge i h[j].ops.length with hl2|hg2
  ·have nx:¬ (h[j].ops[i].read=false∧h[j].ops[i].key=x∧h[j].ops[i].value=y)→∀ o ∈ h[j].ops.take (i + 1),¬ (o.read=false∧o.key=x∧o.value=y):=fun q o ho=>by
    rw [List.take_succ_eq_append_getElem hl2] at ho
    rcases List.mem_append.1 ho with ho|ho
    ·exact hn2 o ho
    ·rw [List.mem_singleton.1 ho];exact q
   cases hr:h[j].ops[i].read
   ·repeat' first|rw [hr]|apply step|(apply g_op;·repeat first|exact Evs.nil|(apply Evs.cons;exact rfl))|(refine Br.mk (fun _=>?_) (fun _=>?_)<;>try (exfalso;omega))|(refine Sd.mk ?_ ?_;·((repeat' apply And.intro)<;>first|omega|trivial|assumption|(simp;done)|(simp;omega)))|(refine Sx.mk ?_ ?_;·omega)|refine Im.mk fun _=>?_|refine g_cond ?_|refine g_guard ?_|refine g_keep ?_|refine g_fin ?_
    ·exact fin (hR.1 _ hmem i hl2 hr ‹_› ‹_›)
    all_goals exact lp_next (i + 1) ⟨by omega,nx fun q=>by first|exact absurd q.2.1 ‹_›|exact absurd q.2.2 ‹_›⟩ (by omega)
   ·repeat' first|rw [hr]|apply step|(apply g_op;·repeat first|exact Evs.nil|(apply Evs.cons;exact rfl))|(refine Br.mk (fun _=>?_) (fun _=>?_)<;>try (exfalso;omega))|(refine Sd.mk ?_ ?_;·((repeat' apply And.intro)<;>first|omega|trivial|assumption|(simp;done)|(simp;omega)))|(refine Sx.mk ?_ ?_;·omega)|refine g_cond ?_|refine g_guard ?_|refine g_keep ?_
    exact lp_next (i + 1) ⟨by omega,nx fun q=>by rw [hr] at q;cases q.1⟩ (by omega)
  ·have e2:h[j].ops.take i=h[j].ops:=List.take_of_length_le hg2
   rw [e2] at hn2
   repeat' first|apply step|(apply g_op;·repeat first|exact Evs.nil|(apply Evs.cons;exact rfl))|(refine Br.mk (fun _=>?_) (fun _=>?_)<;>try (exfalso;omega))|(refine Sd.mk ?_ ?_;·((repeat' apply And.intro)<;>first|omega|trivial|assumption|(simp;done)|(simp;omega)))|refine g_cond ?_|refine g_keep ?_
   refine lp_next (j + 1) ⟨by omega,fun t ht=>?_⟩ (by omega)
   rw [List.take_succ_eq_append_getElem hlt] at ht
   rcases List.mem_append.1 ht with ht|ht
   ·exact hn t ht
   ·rw [List.mem_singleton.1 ht];exact hn2
 ·have e:h.take j=h:=List.take_of_length_le hge
  rw [e] at hn
  repeat' first|apply step|(apply g_op;·repeat first|exact Evs.nil|(apply Evs.cons;exact rfl))|(refine Br.mk (fun _=>?_) (fun _=>?_)<;>try (exfalso;omega))|refine g_cond ?_|refine g_keep ?_|refine g_fin ?_
  exact fin (hR.2 hn)
end
end Go.AMS

namespace Go.AMS
open Go.AM hiding Kt At WP WL Runs RunsY
open Go.AM.G
open Go.AM.G.Set
set_option linter.unusedVariables false
set_option linter.unusedSimpArgs false
theorem range_getD {α β:Type} (d:α) (f:α→β) (l:List α):(List.range l.length).map (fun i=>f (l.getD i d))=l.map f:=by
 refine List.ext_getElem (by simp) fun i h1 h2=>?_
 have hi:i < l.length:=by simpa using h1
 simp [hi]
def mW (k v:Int) (x:HTx × Nat):Bool:=!(x.1.ops.getD x.2 default).read && decide ((x.1.ops.getD x.2 default).key=k) && decide ((x.1.ops.getD x.2 default).value=v)
def mkW (k v:Int) (x:HTx × Nat):HWr:=⟨x.1.id,x.2,k,v,x.1.ab⟩
theorem one_wr (k v:Int) (T:Tb) (x:HTx × Nat):aget (k,v) (T.one x).wr=if mW k v x=true then some (mkW k v x) else aget (k,v) T.wr:=by
 unfold Tb.one
 rw [put_wr]
 unfold mW mkW
 generalize x.1.ops.getD x.2 default=o
 cases hr:o.read
 ·simp only [Bool.false_eq_true,if_false,Bool.not_false,Bool.true_and]
  rw [aget_aset]
  by_cases h1:o.key=k
  ·by_cases h2:o.value=v
   ·subst h1;subst h2;simp
   ·simp [h1,h2,Ne.symm h2]
  ·simp [h1,Ne.symm h1]
 ·simp
theorem fold_wr (k v:Int):∀ (xs:List (HTx × Nat)) (T:Tb),aget (k,v) (xs.foldl Tb.one T).wr=match (xs.filter (mW k v)).getLast? with
  | some x=>some (mkW k v x)
  | none=>aget (k,v) T.wr
 | [],_=>rfl
 | x::xs,T=>by
  rw [List.foldl_cons,fold_wr k v xs,one_wr]
  by_cases h:mW k v x=true
  ·rw [List.filter_cons_of_pos h,if_pos h,List.getLast?_cons]
   cases (xs.filter (mW k v)).getLast? <;> rfl
  ·rw [List.filter_cons_of_neg h,if_neg h]
theorem range_filterMap {α β:Type} (d:α) (p:α→Bool) (f:α→β) (l:List α):((List.range l.length).filter fun i=>p (l.getD i d)).map (fun i=>f (l.getD i d))=(l.filter p).map f:=by
 have h:=range_getD d id l
 conv=>rhs;rw [← List.map_id l,← h,List.filter_map,List.map_map]
 rfl
theorem steps_prs (s:List HTx):((stepsL s).filter fun x=>!(x.1.ops.getD x.2 default).read).map (fun x=>((x.1.ops.getD x.2 default).key,(x.1.ops.getD x.2 default).value))=prsH s:=by
 unfold stepsL prsH
 rw [List.filter_flatMap,List.map_flatMap]
 congr 1
 funext t
 rw [List.filter_map,List.map_map]
 exact range_filterMap default (fun o:HOp=>!o.read) (fun o:HOp=>(o.key,o.value)) t.ops
theorem mW_eq (k v:Int) (xs:List (HTx × Nat)):xs.filter (mW k v)=(xs.filter fun x=>!(x.1.ops.getD x.2 default).read).filter fun x=>decide (((x.1.ops.getD x.2 default).key,(x.1.ops.getD x.2 default).value)=(k,v)):=by
 rw [List.filter_filter]
 congr 1
 funext x
 unfold mW
 simp only [Prod.mk.injEq,Bool.decide_and]
 rw [Bool.and_comm,Bool.and_assoc]
 cases (x.1.ops.getD x.2 default).read <;> simp [Bool.and_comm]
theorem one_of_nodup {α β:Type} [DecidableEq β] {f:α→β} {c:β}:∀ {l:List α},(l.map f).Nodup→∀ x ∈ l,f x=c→l.filter (fun x=>decide (f x=c))=[x]
 | [],_,x,hx,_=>by cases hx
 | y::l,h,x,hx,e=>by
  rw [List.map_cons,List.nodup_cons] at h
  have hno:f y=c→l.filter (fun x=>decide (f x=c))=[]:=fun q=>by
   rw [List.filter_eq_nil_iff]
   intro z hz q2
   exact h.1 (by rw [q,← of_decide_eq_true q2];exact List.mem_map_of_mem hz)
  rcases List.mem_cons.1 hx with rfl|hx
  ·rw [List.filter_cons_of_pos (by simpa using e),hno e]
  ·rw [List.filter_cons_of_neg,one_of_nodup h.2 x hx e]
   intro q
   have:=of_decide_eq_true q
   exact h.1 (by rw [this,← e];exact List.mem_map_of_mem hx)
theorem steps_in {s:List HTx} {t:HTx} {i:Nat} (ht:t ∈ s) (hi:i < t.ops.length):(t,i) ∈ stepsL s :=
 List.mem_flatMap.2 ⟨t,ht,List.mem_map.2 ⟨i,List.mem_range.2 hi,rfl⟩⟩
theorem prs_sort {h:List HTx} (hp:(prsH h).Nodup):(prsH (sortK HTx.id h)).Nodup :=
 ((sortK_perm HTx.id h).flatMap_right _).nodup_iff.2 hp
theorem wr_some {h:List HTx} {k v:Int} (hp:(prsH h).Nodup) {t:HTx} {i:Nat} (ht:t ∈ h) (hi:i < t.ops.length) (h1:t.ops[i].read=false) (h2:t.ops[i].key=k) (h3:t.ops[i].value=v):aget (k,v) (tabS (sortK HTx.id h)).fin.wr=some ⟨t.id,i,k,v,t.ab⟩:=by
 show aget (k,v) (tabS (sortK HTx.id h)).wr=_
 have hs:=prs_sort hp
 generalize hsd:sortK HTx.id h=s at hs
 have ht2:t ∈ s:=by rw [← hsd];exact (sortK_perm HTx.id h).mem_iff.2 ht
 have e:t.ops.getD i default=t.ops[i]:=getD_lt hi
 have hf:(stepsL s).filter (mW k v)=[(t,i)]:=by
  rw [mW_eq]
  refine one_of_nodup (f:=fun x:HTx × Nat=>((x.1.ops.getD x.2 default).key,(x.1.ops.getD x.2 default).value)) (by rw [steps_prs];exact hs) (t,i) (List.mem_filter.2 ⟨steps_in ht2 hi,by simp only [e,h1];rfl⟩) (by simp only [e,h2,h3])
 unfold tabS
 rw [fold_wr,hf]
 rfl
theorem wr_none {h:List HTx} {k v:Int} (hn:∀ t ∈ h,∀ o ∈ t.ops,¬ (o.read=false∧o.key=k∧o.value=v)):aget (k,v) (tabS (sortK HTx.id h)).fin.wr=none:=by
 show aget (k,v) (tabS (sortK HTx.id h)).wr=_
 have hf:(stepsL (sortK HTx.id h)).filter (mW k v)=[]:=by
  rw [List.filter_eq_nil_iff]
  rintro ⟨t,i⟩ hx hm
  obtain ⟨t',ht,h3⟩:=List.mem_flatMap.1 hx
  obtain ⟨j,hj,e⟩:=List.mem_map.1 h3
  cases e
  have hi:=List.mem_range.1 hj
  unfold mW at hm
  simp only [getD_lt hi,Bool.and_eq_true,Bool.not_eq_true',decide_eq_true_eq] at hm
  exact hn t ((sortK_perm HTx.id h).mem_iff.1 ht) t.ops[i] (List.getElem_mem hi) ⟨hm.1.1,hm.1.2,hm.2⟩
 unfold tabS
 rw [fold_wr,hf]
 rfl
end Go.AMS

namespace Go.AMS
open Go.AM hiding Kt At WP WL Runs RunsY
open Go.AM.G
open Go.AM.G.Set
set_option linter.unusedVariables false
set_option linter.unusedSimpArgs false
def frontL (r:HRd):List Int:=r.list.take (r.list.length - r.own.length)
/-- Who appended a value. -/
abbrev Wf:=Int→Option HWr
/-- The table of a history. -/
abbrev TH (h:List HTx):Tb:=(tabS (sortK HTx.id h)).fin
/-- Who appended a value, as the document has it. -/
theorem r12W_spec {h:List HTx} {p:Option Addr} {c:Nat} {x y:Int} (hf:FewH h 20 60) (hk:OkH h):Spec prog1 n_r12_Writer [.agg #[.slice p h.length c],.int .i64 x,.int .i64 y] [fro kHTx p c h] (fun R=>R (wrO (aget (x,y) (TH h).wr)) []):=fun n F h0 R hs hw=>r12_Writer_spec hf n F h0 R hs ⟨fun t ht i hi q1 q2 q3=>by
  rw [wr_some hk.p ht hi q1 q2 q3] at hw;exact hw,fun hn=>by rw [wr_none hn] at hw;exact hw⟩
end Go.AMS

namespace Go.AMS
open Go.AM hiding Kt At WP WL Runs RunsY
open Go.AM.G
set_option linter.unusedVariables false
set_option linter.unusedSimpArgs false
set_option linter.unusedSectionVars false
set_option maxRecDepth 100000
set_option maxHeartbeats 1000000
attribute [local irreducible] AtS AtV AtC AtG FinA Spec Post LP G.At G.WP G.WL pt own fro rdl ro hx mp lrec elt sub

open Go.AM.G.Set
section
variable {h:List HTx} {T:Tb} {r:HRd} {p p1 p2:Option Addr} {c c1 c2 b:Nat}
theorem frontL_len (r:HRd):(frontL r).length=r.list.length - r.own.length:=by
 unfold frontL;rw [List.length_take];omega
theorem r13_Front_spec (h1:r.list.length≤1000) (h2:r.own.length≤1000):Spec prog1 n_r13_Front [.agg #[.int .i64 r.txn,.int .i64 r.op,.int .i64 r.key,.slice p1 r.list.length c1,.slice p2 r.own.length c2]] [fro (kInt .i64) p1 c1 r.list] (fun R=>∀ p' c',R (.slice p' (frontL r).length c') [own (kInt .i64) p' c' (frontL r)]):=by
 refine spec_code c_r13_Front rfl ?_;intro n F R hR;unfold F_r13_Front
 have hfl:=frontL_len r
 rcases Nat.lt_or_ge r.own.length r.list.length with hlt|hge
 ·repeat' first|apply step|(apply g_op;·repeat first|exact Evs.nil|(apply Evs.cons;exact rfl))|(refine Br.mk (fun _=>?_) (fun _=>?_)<;>try (exfalso;omega))|(refine Sd.mk ?_ ?_;·((repeat' apply And.intro)<;>first|omega|trivial|assumption|(simp;done)|(simp;omega)))|refine Fa.mk fun _=>?_|refine g_cond ?_|refine g_keep ?_|refine g_fin ?_
  rw [show r.list.take ((r.list.length:Int) - (r.own.length:Int)).toNat=frontL r by unfold frontL;rw [show ((r.list.length:Int) - (r.own.length:Int)).toNat=r.list.length - r.own.length by omega]]
  exact fin (hR _ _)
 ·have e:frontL r=[]:=List.length_eq_zero_iff.1 (by omega)
  rw [e] at hR
  repeat' first|apply step|(apply g_op;·repeat first|exact Evs.nil|(apply Evs.cons;exact rfl))|(refine Br.mk (fun _=>?_) (fun _=>?_)<;>try (exfalso;omega))|(refine Sd.mk ?_ ?_;·((repeat' apply And.intro)<;>first|omega|trivial|assumption|(simp;done)|(simp;omega)))|refine Fa.mk fun _=>?_|refine g_cond ?_|refine g_keep ?_|refine g_fin ?_
  exact fin (hR none 0)
theorem reads_Front_spec (h1:r.list.length≤1000) (h2:r.own.length≤1000):Spec prog1 n_reads_Front [.agg #[.int .i64 r.txn,.int .i64 r.op,.int .i64 r.key,.slice p1 r.list.length c1,.slice p2 r.own.length c2]] [fro (kInt .i64) p1 c1 r.list] (fun R=>∀ p' c',R (.slice p' (frontL r).length c') [own (kInt .i64) p' c' (frontL r)]):=by
 refine spec_code c_reads_Front rfl ?_;intro n F R hR;unfold F_reads_Front
 have hfl:=frontL_len r
 refine at_via (fro_head (K:=kInt .i64) (p:=p1) (c:=c1) (l:=r.list) (i:=r.list.length - r.own.length) (by omega)) ?_
 change AtS _ _ _ _ _ _ (fro (kInt .i64) p1 (r.list.length - r.own.length) (frontL r)::_) _
 rcases Nat.lt_or_ge r.own.length r.list.length with hlt|hge
 ·repeat' first|apply step|(apply g_op;·repeat first|exact Evs.nil|(apply Evs.cons;exact rfl))|(refine Br.mk (fun _=>?_) (fun _=>?_)<;>try (exfalso;omega))|(refine Sd.mk ?_ ?_;·((repeat' apply And.intro)<;>first|omega|trivial|assumption|(simp;done)|(simp;omega)))|refine Fa.mk fun _=>?_
  rw [show ((r.list.length:Int) - (r.own.length:Int)).toNat=(frontL r).length by omega]
  refine at_callR (slices_Clone_int_int_spec (l:=frontL r) (by omega)) ?_
  intro p3 c3
  repeat' first|apply step|(apply g_op;·repeat first|exact Evs.nil|(apply Evs.cons;exact rfl))|apply Lw.go|refine g_keep ?_|refine g_fin ?_
  exact fin (hR p3 c3)
 ·have e:frontL r=[]:=List.length_eq_zero_iff.1 (by omega)
  rw [e] at hR ⊢
  repeat' first|apply step|(apply g_op;·repeat first|exact Evs.nil|(apply Evs.cons;exact rfl))|(refine Br.mk (fun _=>?_) (fun _=>?_)<;>try (exfalso;omega))|(refine Sd.mk ?_ ?_;·((repeat' apply And.intro)<;>first|omega|trivial|assumption|(simp;done)|(simp;omega)))|refine Fa.mk fun _=>?_
  refine at_callR (slices_Clone_int_int_spec (l:=[]) (by simp)) ?_
  intro p3 c3
  repeat' first|apply step|(apply g_op;·repeat first|exact Evs.nil|(apply Evs.cons;exact rfl))|apply Lw.go|refine g_keep ?_|refine g_fin ?_
  exact fin (hR p3 c3)
abbrev wK (T:Tb) (key:Int):Wf:=fun x=>aget (key,x) T.wr
end
end Go.AMS

namespace Go.AMS
open Go.AM hiding Kt At WP WL Runs RunsY
open Go.AM.G
set_option linter.unusedVariables false
set_option linter.unusedSimpArgs false
set_option linter.unusedSectionVars false
set_option maxRecDepth 100000
set_option maxHeartbeats 1000000
attribute [local irreducible] AtS AtV AtC AtG FinA Spec Post LP G.At G.WP G.WL pt own fro rdl ro hx mp lrec elt sub

open Go.AM.G.Set
section
variable {h:List HTx} {T:Tb} {r:HRd} {p q p1 p2 p3:Option Addr} {c d c1 c2 c3 b:Nat}
def t1:Option (Int × Int)→Int
 | some q=>q.1
 | none=>0
def t2:Option (Int × Int)→Int
 | some q=>q.2
 | none=>0
end
end Go.AMS

namespace Go.AMS
open Go.AM hiding Kt At WP WL Runs RunsY
open Go.AM.G
set_option linter.unusedVariables false
set_option linter.unusedSectionVars false
set_option linter.unusedSimpArgs false
section
variable {prog:AProg} {rr:Option Nat} {e e1 e2:Env} {Q:Pst} {k:List Kt} {n:Nat} {Γ Γ1 Γ2 F F':List HP} {l l1 l2:List AI} {c:AI} {ks ap:List (Nat × Nat)} {sz:Nat}
theorem at_opsKS5 {z cc:Nat} {cs:List Value} {α:Type} {K:Kind α} {li:List α} (b:Nat) (p:Option Addr) (j:Nat) [s:Splt l j l1 c l2] [a:LkW Γ b cs z F] [o:LkO F p K cc li F'] (w:∀ sz,b < sz→(∀ x,p=some x→x.block≠b)→AtS n prog rr [.o true l1] .norm e Γ (KP1 prog rr c l2 ks ap k sz Q)) (hk:ks.all (fun x=>x.1 == j)=true:=by rfl):AtS n prog rr (.c (.opsK ks ap l)::k) .norm e Γ Q:=fun h hs=>by
 have hne:∀ x,p=some x→x.block≠b:=by
  have h1:=a.ent.sat hs
  obtain ⟨S,⟨s1,s2,k1,k2,k3,k4⟩,k5⟩:=h1.s
  obtain ⟨S',⟨t1,t2,j1,j2,j3,j4⟩,j5⟩:=o.ent h s2 k2
  intro x hx e
  rcases j1 with ⟨j1,_⟩|⟨b',cs',j1,_,_,_,rfl⟩
  ·rw [j1] at hx;cases hx
  ·rw [j1] at hx
   cases hx
   have hb:=k1.2.2
   dsimp only at e
   subst e
   refine k3 b' (by rw [hb]) (j5 b' ?_)
   exact (j4 b').2 (.inl rfl)
 rw [s.eq]
 refine at_opsK (fun x hx=>?_) ?_
 ·have:=List.all_eq_true.1 hk x hx
  rw [s.len];simpa using this
 ·have h1:=w h.size (lkw_get a hs).1 hne h hs
  exact wl_mono h1 (fun e1 h1 hq=>hq.2)
def KP0 (prog:AProg) (rr:Option Nat) (l2:List AI) (ap:List (Nat × Nat)) (k:List Kt) (sz:Nat) (Q:Pst):Pst:=fun x e2 h2=>x=.norm∧G.At prog rr (.o true l2::.ap sz ap::k) .norm e2 h2 Q
theorem kp01 (w:AtS n prog rr [.o true [c]] .norm e1 Γ1 (KP0 prog rr l2 ap k sz Q)) (hk:∀ x ∈ ks,Env.get e1 x.2=none):AtS n prog rr [] .norm e1 Γ1 (KP1 prog rr c l2 ks ap k sz Q):=fun h1 hs1 =>
 ⟨rfl,wl_mono (w h1 hs1) (fun e2 h2 hq=>⟨fun x hx p hp=>(by rw [hk x hx] at hp;cases hp),hq.2⟩)⟩
theorem kp02 (w:AtS n prog rr (.o true l2::.ap sz ap::k) .norm e2 Γ2 Q):AtS n prog rr [] .norm e2 Γ2 (KP0 prog rr l2 ap k sz Q):=fun h2 hs2=>⟨rfl,w h2 hs2⟩
end
end Go.AMS

namespace Go.AMS
open Go.AM hiding Kt At WP WL Runs RunsY
open Go.AM.G
set_option linter.unusedVariables false
set_option linter.unusedSimpArgs false
set_option linter.unusedSectionVars false
set_option maxRecDepth 100000
set_option maxHeartbeats 1000000
attribute [local irreducible] AtS AtV AtC AtG FinA Spec Post LP G.At G.WP G.WL pt own fro rdl ro hx mp lrec elt sub

open Go.AM.G.Set
section
variable {p q:Option Addr} {c d:Nat} {l m:List Int}
theorem sorted_Set_int_place_spec {x:Int} (hl:l.length≤1000000000) (hs:l.Pairwise (fun a b=>a < b)):Spec prog1 n_sorted_Set_int_place [.agg #[.slice p l.length c],.int .i64 x] [rdl (kInt .i64) p l] (fun R=>(∀ k (hk:k < l.length),l[k]=x→R (.tuple #[.int .i64 (k:Int),.bool true]) [])∧(x ∉ l→∀ k:Int,R (.tuple #[.int .i64 k,.bool false]) [])):=by
 refine spec_code c_sorted_Set_int_place rfl ?_;intro n F R hR;unfold F_sorted_Set_int_place
 repeat' first|apply step|(apply g_op;·repeat first|exact Evs.nil|(apply Evs.cons;exact rfl))|refine Fa.mk fun _=>?_
 refine at_callR (slices_BinarySearch_int_int_spec (l:=l) hl hs) ?_
 refine ⟨fun k hk e=>?_,fun hn k=>?_⟩
 ·repeat' first|apply step|(apply g_op;·repeat first|exact Evs.nil|(apply Evs.cons;exact rfl))|apply Lw.go|refine g_keep ?_|refine g_fin ?_
  exact fin (hR.1 k hk e)
 ·repeat' first|apply step|(apply g_op;·repeat first|exact Evs.nil|(apply Evs.cons;exact rfl))|apply Lw.go|refine g_keep ?_|refine g_fin ?_
  exact fin (hR.2 hn k)
theorem sorted_Set_int_Has_spec {x:Int} (hl:l.length≤1000000000) (hs:l.Pairwise (fun a b=>a < b)):Spec prog1 n_sorted_Set_int_Has [.agg #[.slice p l.length c],.int .i64 x] [rdl (kInt .i64) p l] (fun R=>(x ∈ l→R (.bool true) [])∧(x ∉ l→R (.bool false) [])):=by
 refine spec_code c_sorted_Set_int_Has rfl ?_;intro n F R hR;unfold F_sorted_Set_int_Has
 repeat' first|apply step|(apply g_op;·repeat first|exact Evs.nil|(apply Evs.cons;exact rfl))|refine Fa.mk fun _=>?_
 refine at_callR (sorted_Set_int_place_spec (l:=l) (x:=x) hl hs) ?_
 refine ⟨fun k hk e=>?_,fun hn k=>?_⟩
 ·repeat' first|apply step|(apply g_op;·repeat first|exact Evs.nil|(apply Evs.cons;exact rfl))|apply Lw.go|refine g_keep ?_|refine g_fin ?_
  exact fin (hR.1 (by rw [← e];exact List.getElem_mem _))
 ·repeat' first|apply step|(apply g_op;·repeat first|exact Evs.nil|(apply Evs.cons;exact rfl))|apply Lw.go|refine g_keep ?_|refine g_fin ?_
  exact fin (hR.2 hn)
theorem cmp_Compare_int_spec {x y:Int}:Spec prog1 n_cmp_Compare_int [.int .i64 x,.int .i64 y] [] (fun R=>(x < y→R (.int .i64 (-1)) [])∧(x=y→R (.int .i64 0) [])∧(y < x→R (.int .i64 1) [])):=by
 refine spec_code c_cmp_Compare_int rfl ?_;intro n F R hR;unfold F_cmp_Compare_int
 repeat' first|apply step|(apply g_op;·repeat first|exact Evs.nil|(apply Evs.cons;exact rfl))
 refine at_callS (cmp_isNaN_int_spec) ?_
 repeat' first|apply step|(apply g_op;·repeat first|exact Evs.nil|(apply Evs.cons;exact rfl))
 refine at_callS (cmp_isNaN_int_spec) ?_
 repeat' first|apply step|(apply g_op;·repeat first|exact Evs.nil|(apply Evs.cons;exact rfl))|(refine Br.mk (fun _=>?_) (fun _=>?_)<;>try (exfalso;omega))|refine g_cond ?_|refine g_fin ?_
 ·exact fin (hR.1 ‹_›)
 ·exact fin (hR.2.2 ‹_›)
 ·exact fin (hR.2.1 (by omega))
/-- What is in one of both, on the way: a row that rises, of what was gone through, below what comes. -/
structure OrI (l m o:List Int) (i j:Nat):Prop where
 hi:i≤l.length
 hj:j≤m.length
 hs:o.Pairwise (fun a b=>a < b)
 hl:∀ x ∈ o,∀ k (h:k < l.length),i≤k→x < l[k]
 hm:∀ x ∈ o,∀ k (h:k < m.length),j≤k→x < m[k]
 he:∀ x,x ∈ o ↔ x ∈ l.take i∨x ∈ m.take j
theorem pw_at {l:List Int} (hs:l.Pairwise (fun a b=>a < b)) {a b:Nat} (ha:a < l.length) (hb:b < l.length) (h:a < b):l[a] < l[b]:=List.pairwise_iff_getElem.1 hs a b ha hb h
theorem pw_snoc {o:List Int} {x:Int} (h:o.Pairwise (fun a b=>a < b)) (hx:∀ y ∈ o,y < x):(o++[x]).Pairwise (fun a b=>a < b) :=
 List.pairwise_append.2 ⟨h,List.pairwise_singleton _ _,fun a ha b hb=>by rw [List.mem_singleton.1 hb];exact hx a ha⟩
theorem OrI.less {o:List Int} {i j:Nat} (h:OrI l m o i j) (sl:l.Pairwise (fun a b=>a < b)) (sm:m.Pairwise (fun a b=>a < b)) (hi:i < l.length) (hj:j < m.length) (q:l[i] < m[j]):OrI l m (o++[l[i]]) (i + 1) j:=by
 refine ⟨hi,h.hj,pw_snoc h.hs fun y hy=>h.hl y hy i hi (Nat.le_refl _),fun x hx k hk hik=>?_,fun x hx k hk hjk=>?_,fun x=>?_⟩
 ·rcases List.mem_append.1 hx with hx|hx
  ·exact h.hl x hx k hk (by omega)
  ·rw [List.mem_singleton.1 hx];exact pw_at sl hi hk (by omega)
 ·rcases List.mem_append.1 hx with hx|hx
  ·exact h.hm x hx k hk hjk
  ·rw [List.mem_singleton.1 hx]
   rcases Nat.lt_or_ge j k with r|r
   ·have:=pw_at sm hj hk r;omega
   ·have:k=j:=by omega
    subst this;exact q
 ·rw [List.mem_append,h.he,List.take_succ_eq_append_getElem hi,List.mem_append,or_right_comm]
theorem OrI.more {o:List Int} {i j:Nat} (h:OrI l m o i j) (sl:l.Pairwise (fun a b=>a < b)) (sm:m.Pairwise (fun a b=>a < b)) (hi:i < l.length) (hj:j < m.length) (q:m[j] < l[i]):OrI l m (o++[m[j]]) i (j + 1):=by
 refine ⟨h.hi,hj,pw_snoc h.hs fun y hy=>h.hm y hy j hj (Nat.le_refl _),fun x hx k hk hik=>?_,fun x hx k hk hjk=>?_,fun x=>?_⟩
 ·rcases List.mem_append.1 hx with hx|hx
  ·exact h.hl x hx k hk hik
  ·rw [List.mem_singleton.1 hx]
   rcases Nat.lt_or_ge i k with r|r
   ·have:=pw_at sl hi hk r;omega
   ·have:k=i:=by omega
    subst this;exact q
 ·rcases List.mem_append.1 hx with hx|hx
  ·exact h.hm x hx k hk (by omega)
  ·rw [List.mem_singleton.1 hx];exact pw_at sm hj hk (by omega)
 ·rw [List.mem_append,h.he,List.take_succ_eq_append_getElem hj,List.mem_append,or_assoc]
theorem OrI.same {o:List Int} {i j:Nat} (h:OrI l m o i j) (sl:l.Pairwise (fun a b=>a < b)) (sm:m.Pairwise (fun a b=>a < b)) (hi:i < l.length) (hj:j < m.length) (q:l[i]=m[j]):OrI l m (o++[l[i]]) (i + 1) (j + 1):=by
 refine ⟨hi,hj,pw_snoc h.hs fun y hy=>h.hl y hy i hi (Nat.le_refl _),fun x hx k hk hik=>?_,fun x hx k hk hjk=>?_,fun x=>?_⟩
 ·rcases List.mem_append.1 hx with hx|hx
  ·exact h.hl x hx k hk (by omega)
  ·rw [List.mem_singleton.1 hx];exact pw_at sl hi hk (by omega)
 ·rcases List.mem_append.1 hx with hx|hx
  ·exact h.hm x hx k hk (by omega)
  ·rw [List.mem_singleton.1 hx,q];exact pw_at sm hj hk (by omega)
 ·rw [List.mem_append,h.he,List.take_succ_eq_append_getElem hi,List.take_succ_eq_append_getElem hj,List.mem_append,List.mem_append,← q]
  constructor
  ·rintro ((a|a)|a)
   ·exact .inl (.inl a)
   ·exact .inr (.inl a)
   ·exact .inl (.inr a)
  ·rintro ((a|a)|(a|a))
   ·exact .inl (.inl a)
   ·exact .inr a
   ·exact .inl (.inr a)
   ·exact .inr a
theorem pw_drop {l:List Int} (h:l.Pairwise (fun a b=>a < b)) (i:Nat):(l.drop i).Pairwise (fun a b=>a < b):=h.sublist (List.drop_sublist _ _)
theorem mem_dropI {l:List Int} {i:Nat} {x:Int} (h:x ∈ l.drop i):∃ k,∃ hk:k < l.length,i≤k∧l[k]=x:=by
 obtain ⟨k,hk,e⟩:=List.mem_iff_getElem.1 h
 rw [List.length_drop] at hk
 rw [List.getElem_drop] at e
 exact ⟨i + k,by omega,by omega,e⟩
theorem OrI.fin {o:List Int} {i j:Nat} (h:OrI l m o i j) (sl:l.Pairwise (fun a b=>a < b)) (sm:m.Pairwise (fun a b=>a < b)) (e:i=l.length∨j=m.length):(o++l.drop i++m.drop j).Pairwise (fun a b=>a < b)∧∀ x,x ∈ o++l.drop i++m.drop j ↔ x ∈ l∨x ∈ m:=by
 constructor
 ·refine List.pairwise_append.2 ⟨List.pairwise_append.2 ⟨h.hs,pw_drop sl i,fun a ha b hb=>?_⟩,pw_drop sm j,fun a ha b hb=>?_⟩
  ·obtain ⟨k,hk,hik,rfl⟩:=mem_dropI hb
   exact h.hl a ha k hk hik
  ·obtain ⟨k,hk,hjk,rfl⟩:=mem_dropI hb
   rcases List.mem_append.1 ha with ha|ha
   ·exact h.hm a ha k hk hjk
   ·rcases e with e|e
    ·rw [e,List.drop_length] at ha;cases ha
    ·omega
 ·intro x
  rw [List.mem_append,List.mem_append,h.he]
  conv=>rhs;rw [← List.take_append_drop i l,← List.take_append_drop j m,List.mem_append,List.mem_append]
  constructor
  ·rintro (((a|a)|a)|a)
   ·exact .inl (.inl a)
   ·exact .inr (.inl a)
   ·exact .inl (.inr a)
   ·exact .inr (.inr a)
  ·rintro ((a|a)|(a|a))
   ·exact .inl (.inl (.inl a))
   ·exact .inl (.inr a)
   ·exact .inl (.inl (.inr a))
   ·exact .inr a
theorem sorted_Set_int_Or_spec (hl:l.length≤1000000) (hm:m.length≤1000000) (hsl:l.Pairwise (fun a b=>a < b)) (hsm:m.Pairwise (fun a b=>a < b)):Spec prog1 n_sorted_Set_int_Or [.agg #[.slice p l.length c],.agg #[.slice q m.length d]] [rdl (kInt .i64) p l,rdl (kInt .i64) q m] (fun R=>∀ p' c' z,z.Pairwise (fun a b=>a < b)→(∀ x,x ∈ z ↔ x ∈ l∨x ∈ m)→z.length≤l.length + m.length→R (.agg #[.slice p' z.length c']) [own (kInt .i64) p' c' z]):=by
 refine spec_code c_sorted_Set_int_Or rfl ?_;intro n F R hR;unfold F_sorted_Set_int_Or
 repeat' first|apply step|(apply g_op;·repeat first|exact Evs.nil|(apply Evs.cons;exact rfl))|(refine Sd.mk ?_ ?_;·((repeat' apply And.intro)<;>first|omega|trivial|assumption|(simp;done)|(simp;omega)))|refine Fa.mk fun _=>?_|refine g_keep ?_
 rename_i lb mb rb ob
 refine at_loopS (ι:=Nat × Nat × (Option Addr × Nat) × List Int) (E:=fun z=>[(2,.pointer (some ⟨lb,0,none⟩)),(3,.pointer (some ⟨mb,0,none⟩)),(4,.pointer (some ⟨rb,0,none⟩)),(5,.slice z.2.2.1.1 z.2.2.2.length z.2.2.1.2),(6,.int .i64 (z.1:Int)),(7,.int .i64 (z.2.1:Int))]) (Δ:=fun z=>own (kInt .i64) z.2.2.1.1 z.2.2.1.2 z.2.2.2::pt rb [.slice none 0 0] 0::pt mb [.slice q m.length d] 0::pt lb [.slice p l.length c] 0::rdl (kInt .i64) p l::rdl (kInt .i64) q m::F) (P:=fun z=>OrI l m z.2.2.2 z.1 z.2.1∧z.2.2.2.length≤z.1 + z.2.1) (μ:=fun z=>(l.length - z.1) + (m.length - z.2.1)) (0,0,(some ⟨ob,0,none⟩,l.length + m.length),[]) ⟨⟨Nat.zero_le _,Nat.zero_le _,List.Pairwise.nil,by simp,by simp,by simp⟩,Nat.zero_le _⟩ ?_
 rintro ⟨i,j,⟨po,co⟩,o⟩ ⟨ho,hol⟩
 dsimp only at ho hol ⊢
 have hi:=ho.hi
 have hj:=ho.hj
 by_cases hin:i < l.length∧j < m.length
 ·obtain ⟨hi2,hj2⟩:=hin
  repeat' first|apply step|(apply g_op;·repeat first|exact Evs.nil|(apply Evs.cons;exact rfl))|(refine Br.mk (fun _=>?_) (fun _=>?_)<;>try (exfalso;omega))|(refine Sd.mk ?_ ?_;·((repeat' apply And.intro)<;>first|omega|trivial|assumption|(simp;done)|(simp;omega)))|(refine Sx.mk ?_ ?_;·omega)|refine Im.mk fun _=>?_|refine g_cond ?_|refine g_guard ?_|refine g_keep ?_
  refine at_callS (cmp_Compare_int_spec) ?_
  refine ⟨fun h1=>?_,fun h1=>?_,fun h1=>?_⟩
  ·repeat' first|apply step|(apply g_op;·repeat first|exact Evs.nil|(apply Evs.cons;exact rfl))|(refine Br.mk (fun _=>?_) (fun _=>?_)<;>try (exfalso;omega))|(refine Sd.mk ?_ ?_;·((repeat' apply And.intro)<;>first|omega|trivial|assumption|(simp;done)|(simp;omega)))|(refine Sx.mk ?_ ?_;·omega)|refine Fa.mk fun _=>?_|refine Im.mk fun _=>?_|refine g_cond ?_|refine g_keep ?_
   exact lp_next (i + 1,j,(_,_),_) ⟨ho.less hsl hsm hi2 hj2 h1,by simp;omega⟩ (by dsimp only;omega)
  ·repeat' first|apply step|(apply g_op;·repeat first|exact Evs.nil|(apply Evs.cons;exact rfl))|(refine Br.mk (fun _=>?_) (fun _=>?_)<;>try (exfalso;omega))|(refine Sd.mk ?_ ?_;·((repeat' apply And.intro)<;>first|omega|trivial|assumption|(simp;done)|(simp;omega)))|(refine Sx.mk ?_ ?_;·omega)|refine Fa.mk fun _=>?_|refine Im.mk fun _=>?_|refine g_cond ?_|refine g_keep ?_
   exact lp_next (i + 1,j + 1,(_,_),_) ⟨ho.same hsl hsm hi2 hj2 h1,by simp;omega⟩ (by dsimp only;omega)
  ·repeat' first|apply step|(apply g_op;·repeat first|exact Evs.nil|(apply Evs.cons;exact rfl))|(refine Br.mk (fun _=>?_) (fun _=>?_)<;>try (exfalso;omega))|(refine Sd.mk ?_ ?_;·((repeat' apply And.intro)<;>first|omega|trivial|assumption|(simp;done)|(simp;omega)))|(refine Sx.mk ?_ ?_;·omega)|refine Fa.mk fun _=>?_|refine Im.mk fun _=>?_|refine g_cond ?_|refine g_keep ?_
   exact lp_next (i,j + 1,(_,_),_) ⟨ho.more hsl hsm hi2 hj2 h1,by simp;omega⟩ (by dsimp only;omega)
 ·have hfin:=ho.fin hsl hsm (by omega)
  repeat' first|apply step|(apply g_op;·repeat first|exact Evs.nil|(apply Evs.cons;exact rfl))|(refine Br.mk (fun _=>?_) (fun _=>?_)<;>try (exfalso;omega))|refine g_cond ?_|refine g_guard ?_|refine g_keep ?_
  ·refine at_opsKS5 mb po 5 (fun sz hsz hne=>?_)
   repeat' first|apply step|(apply g_op;·repeat first|exact Evs.nil|(apply Evs.cons;exact rfl))|(refine Sd.mk ?_ ?_;·((repeat' apply And.intro)<;>first|omega|trivial|assumption|(simp;done)|(simp;omega)))
   refine kp01 ?_ (fun x hx=>by simp only [List.mem_singleton] at hx;subst hx;rfl)
   repeat' first|apply step|(apply g_op;·repeat first|exact Evs.nil|(apply Evs.cons;exact rfl))|(refine Sd.mk ?_ ?_;·((repeat' apply And.intro)<;>first|omega|trivial|assumption|(simp;done)|(simp;omega)))|refine Fa.mk fun _=>?_
   refine kp02 ?_
   repeat' first|apply step|(apply g_op;·repeat first|exact Evs.nil|(apply Evs.cons;exact rfl))|(refine Sd.mk ?_ ?_;·((repeat' apply And.intro)<;>first|omega|trivial|assumption|(simp;done)|(simp;omega)))|refine Fa.mk fun _=>?_
   refine g_ap4 rfl rfl hsz hne ?_
   rw [show (l.drop i).take (l.length - i)=l.drop i from List.take_of_length_le (by simp),show (m.drop j).take (m.length - j)=m.drop j from List.take_of_length_le (by simp)]
   repeat' first|apply step|refine g_keep ?_|refine g_fin ?_
   exact fin (hR _ _ _ hfin.1 hfin.2 (by simp only [List.length_append,List.length_drop];omega))
  ·refine at_opsKS5 mb po 5 (fun sz hsz hne=>?_)
   repeat' first|apply step|(apply g_op;·repeat first|exact Evs.nil|(apply Evs.cons;exact rfl))|(refine Sd.mk ?_ ?_;·((repeat' apply And.intro)<;>first|omega|trivial|assumption|(simp;done)|(simp;omega)))
   refine kp01 ?_ (fun x hx=>by simp only [List.mem_singleton] at hx;subst hx;rfl)
   repeat' first|apply step|(apply g_op;·repeat first|exact Evs.nil|(apply Evs.cons;exact rfl))|(refine Sd.mk ?_ ?_;·((repeat' apply And.intro)<;>first|omega|trivial|assumption|(simp;done)|(simp;omega)))|refine Fa.mk fun _=>?_
   refine kp02 ?_
   repeat' first|apply step|(apply g_op;·repeat first|exact Evs.nil|(apply Evs.cons;exact rfl))|(refine Sd.mk ?_ ?_;·((repeat' apply And.intro)<;>first|omega|trivial|assumption|(simp;done)|(simp;omega)))|refine Fa.mk fun _=>?_
   refine g_ap4 rfl rfl hsz hne ?_
   rw [show (l.drop i).take (l.length - i)=l.drop i from List.take_of_length_le (by simp),show (m.drop j).take (m.length - j)=m.drop j from List.take_of_length_le (by simp)]
   repeat' first|apply step|refine g_keep ?_|refine g_fin ?_
   exact fin (hR _ _ _ hfin.1 hfin.2 (by simp only [List.length_append,List.length_drop];omega))
theorem sorted_Set_int_With_spec (hl:l.length≤1000000) (hm:m.length≤1000000) (hsl:l.Pairwise (fun a b=>a < b)):Spec prog1 n_sorted_Set_int_With [.agg #[.slice p l.length c],.slice q m.length d] [rdl (kInt .i64) p l,rdl (kInt .i64) q m] (fun R=>∀ p' c' z,z.Pairwise (fun a b=>a < b)→(∀ x,x ∈ z ↔ x ∈ l∨x ∈ m)→z.length≤l.length + m.length→R (.agg #[.slice p' z.length c']) [own (kInt .i64) p' c' z]):=by
 refine spec_code c_sorted_Set_int_With rfl ?_;intro n F R hR;unfold F_sorted_Set_int_With
 have hse:=setL_le m
 repeat' first|apply step|(apply g_op;·repeat first|exact Evs.nil|(apply Evs.cons;exact rfl))|refine Fa.mk fun _=>?_
 refine at_callR (sorted_Of_int_spec (l:=m) (by omega)) ?_
 intro p1 c1
 repeat' first|apply step|(apply g_op;·repeat first|exact Evs.nil|(apply Evs.cons;exact rfl))|apply Lw.go
 refine at_callR (sorted_Set_int_Or_spec (l:=l) (m:=setL m) hl (by omega) hsl (setL_lt m)) ?_
 intro p2 c2 z hz1 hz2 hz3
 repeat' first|apply step|(apply g_op;·repeat first|exact Evs.nil|(apply Evs.cons;exact rfl))|apply Lw.go|refine g_fin ?_
 exact fin (hR p2 c2 z hz1 (fun x=>by rw [hz2,mem_setL]) (by omega))
/-- The first value that stood ahead already. -/
def twL:List Int→List Int→Option Int
 | _,[]=>none
 | s,x::l=>if x ∈ s then some x else twL (s++[x]) l
def twoV:Option Int→Value
 | some x=>.tuple #[.int .i64 x,.bool true]
 | none=>.tuple #[.int .i64 0,.bool false]
theorem twL_drop {l:List Int} {j:Nat} (hj:j < l.length):twL (l.take j) (l.drop j)=if l[j] ∈ l.take j then some l[j] else twL (l.take (j + 1)) (l.drop (j + 1)):=by
 rw [List.drop_eq_getElem_cons hj,List.take_succ_eq_append_getElem hj];rfl
theorem reads_twice_spec (hl:l.length≤1000):Spec prog1 n_reads_twice [.slice p l.length c] [rdl (kInt .i64) p l] (fun R=>R (twoV (twL [] l)) []):=by
 refine spec_code c_reads_twice rfl ?_;intro n F R hR;unfold F_reads_twice
 repeat' first|apply step|(apply g_op;·repeat first|exact Evs.nil|(apply Evs.cons;exact rfl))|refine Fa.mk fun _=>?_|refine g_keep ?_
 rename_i sb
 obtain ⟨I,hI⟩:∃ I:Nat→HP,∀ j,I j=hx fun (w:Option Addr × Nat × List Int)=>((w.2.2.Pairwise (fun a b=>a < b)∧w.2.2.length≤j)∧(∀ x,x ∈ w.2.2 ↔ x ∈ l.take j),[pt sb [.slice w.1 w.2.2.length w.2.1] 0,own (kInt .i64) w.1 w.2.1 w.2.2]):=⟨_,fun _=>rfl⟩
 refine at_foldP (I 0) (hI 0) (none,0,[]) ⟨⟨List.Pairwise.nil,Nat.le_refl _⟩,fun x=>by simp⟩ ?_
 refine at_loopS (ι:=Nat) (E:=fun j=>[(4,.pointer (some ⟨sb,0,none⟩)),(7,.slice p l.length c),(8,.int .i64 (l.length:Int)),(9,.int .i64 (j:Int))]) (Δ:=fun j=>I j::rdl (kInt .i64) p l::F) (P:=fun j=>j≤l.length∧twL (l.take j) (l.drop j)=twL [] l) (μ:=fun j=>l.length - j) 0 ⟨Nat.zero_le _,rfl⟩ ?_
 rintro j ⟨hj,hd⟩
 try dsimp only
 rcases Nat.lt_or_ge j l.length with hlt|hge
 ·rw [twL_drop hlt] at hd
  refine at_openP (I j) (hI j) ?_
  rintro ⟨ps,cs,s⟩ ⟨⟨hs1,hs2⟩,hs3⟩
  dsimp only [List.cons_append,List.nil_append] at hs1 hs2 hs3 ⊢
  repeat' first|apply step|(apply g_op;·repeat first|exact Evs.nil|(apply Evs.cons;exact rfl))|(refine Br.mk (fun _=>?_) (fun _=>?_)<;>try (exfalso;omega))|(refine Sd.mk ?_ ?_;·((repeat' apply And.intro)<;>first|omega|trivial|assumption|(simp;done)|(simp;omega)))|(refine Sx.mk ?_ ?_;·omega)|refine Im.mk fun _=>?_|refine g_cond ?_
  refine at_callR (sorted_Set_int_Has_spec (l:=s) (x:=l[j]) (by omega) hs1) ?_
  refine ⟨fun hin=>?_,fun hout=>?_⟩
  ·rw [if_pos ((hs3 _).1 hin)] at hd
   rw [← hd] at hR
   repeat' first|apply step|(apply g_op;·repeat first|exact Evs.nil|(apply Evs.cons;exact rfl))|apply Lw.go|refine g_cond ?_|refine g_fin ?_
   exact fin hR
  ·rw [if_neg (fun q=>hout ((hs3 _).2 q))] at hd
   repeat' first|apply step|(apply g_op;·repeat first|exact Evs.nil|(apply Evs.cons;exact rfl))|refine Fa.mk fun _=>?_|apply Lw.go|refine g_cond ?_
   rename_i hbj xb
   refine av_lits (K:=kInt .i64) (l:=[l[j]]) xb 1 inferInstance (by exact hbj) rfl ?_
   refine at_callR (sorted_Set_int_With_spec (l:=s) (m:=[l[j]]) (by omega) (by simp) hs1) ?_
   intro p5 c5 z hz1 hz2 hz3
   repeat' first|apply step|(apply g_op;·repeat first|exact Evs.nil|(apply Evs.cons;exact rfl))|(refine Sd.mk ?_ ?_;·((repeat' apply And.intro)<;>first|omega|trivial|assumption|(simp;done)|(simp;omega)))|apply Lw.go|refine g_keep ?_
   refine at_foldP (I (j + 1)) (hI _) (p5,c5,z) ⟨⟨hz1,by simp only [List.length_singleton] at hz3;dsimp only;omega⟩,fun x=>by rw [hz2,hs3,List.take_succ_eq_append_getElem hlt,List.mem_append]⟩ ?_
   exact lp_next (j + 1) ⟨by omega,hd⟩ (by omega)
 ·rw [List.drop_eq_nil_of_le hge,List.take_of_length_le hge] at hd
  rw [← hd] at hR
  refine at_openP (I j) (hI j) ?_
  rintro ⟨ps,cs,s⟩ -
  repeat' first|apply step|(apply g_op;·repeat first|exact Evs.nil|(apply Evs.cons;exact rfl))|(refine Br.mk (fun _=>?_) (fun _=>?_)<;>try (exfalso;omega))|refine g_cond ?_|refine g_keep ?_|refine g_fin ?_
  exact fin hR
end
end Go.AMS

namespace Go.AMS
open Go.AM hiding Kt At WP WL Runs RunsY
open Go.AM.G
set_option linter.unusedVariables false
set_option linter.unusedSimpArgs false
set_option linter.unusedSectionVars false
set_option maxRecDepth 100000
set_option maxHeartbeats 1000000
attribute [local irreducible] AtS AtV AtC AtG FinA Spec Post LP G.At G.WP G.WL pt own fro rdl ro hx mp lrec elt sub

open Go.AM.G.Set
section
variable {h:List HTx} {T:Tb} {r:HRd} {p q p1 p2 p3:Option Addr} {c d c1 c2 c3 b:Nat}
def bornL (W:Wf):List Int→Option Int
 | []=>none
 | x::l=>match W x with
  | some _=>bornL W l
  | none=>some x
theorem bornL_drop {W:Wf} {l:List Int} {j:Nat} (hj:j < l.length):bornL W (l.drop j)=match W l[j] with
  | some w=>bornL W (l.drop (j + 1))
  | none=>some l[j]:=by
 rw [List.drop_eq_getElem_cons hj];rfl
theorem reads_unborn_spec (h1:r.list.length≤1000):Spec prog1 n_reads_unborn [.pointer (some ⟨b,0,none⟩),.agg #[.int .i64 r.txn,.int .i64 r.op,.int .i64 r.key,.slice p1 r.list.length c1,.slice p2 r.own.length c2]] [tab b T,fro (kInt .i64) p1 c1 r.list] (fun R=>R (twoV (bornL (wK T r.key) r.list)) [tab b T]):=by
 refine spec_code c_reads_unborn rfl ?_;intro n F R hR;unfold F_reads_unborn
 generalize hW:wK T r.key=W at hR ⊢
 repeat' first|apply step|(apply g_op;·repeat first|exact Evs.nil|(apply Evs.cons;exact rfl))|refine Fa.mk fun _=>?_|refine g_keep ?_
 rename_i rb
 refine at_loopS (ι:=Nat) (E:=fun j=>[(0,.pointer (some ⟨b,0,none⟩)),(3,.pointer (some ⟨rb,0,none⟩)),(11,.slice p1 r.list.length c1),(12,.int .i64 (r.list.length:Int)),(13,.int .i64 (j:Int))]) (Δ:=fun j=>tab b T::fro (kInt .i64) p1 c1 r.list::pt rb [.int .i64 r.txn,.int .i64 r.op,.int .i64 r.key,.slice p1 r.list.length c1,.slice p2 r.own.length c2] 0::F) (P:=fun j=>j≤r.list.length∧bornL W (r.list.drop j)=bornL W r.list) (μ:=fun j=>r.list.length - j) 0 ⟨Nat.zero_le _,rfl⟩ ?_
 rintro j ⟨hj,hd⟩
 try dsimp only
 rcases Nat.lt_or_ge j r.list.length with hlt|hge
 ·rw [bornL_drop hlt] at hd
  repeat' first|apply step|(apply g_op;·repeat first|exact Evs.nil|(apply Evs.cons;exact rfl))|(refine Br.mk (fun _=>?_) (fun _=>?_)<;>try (exfalso;omega))|(refine Sd.mk ?_ ?_;·((repeat' apply And.intro)<;>first|omega|trivial|assumption|(simp;done)|(simp;omega)))|(refine Sx.mk ?_ ?_;·omega)|refine Im.mk fun _=>?_|refine g_cond ?_
  refine at_callS (table_Table_Writer_spec (T:=T) (x:=r.key) (y:=r.list[j])) ?_
  rw [show aget (r.key,r.list[j]) T.wr=W r.list[j] by rw [← hW]]
  cases hw:W r.list[j] with
  | none =>
   rw [hw] at hd
   dsimp only at hd
   rw [← hd] at hR
   unfold wrO
   repeat' first|apply step|(apply g_op;·repeat first|exact Evs.nil|(apply Evs.cons;exact rfl))|refine Fa.mk fun _=>?_|refine g_cond ?_|refine g_keep ?_|refine g_fin ?_
   exact fin hR
  | some w =>
   rw [hw] at hd
   dsimp only at hd
   unfold wrO
   repeat' first|apply step|(apply g_op;·repeat first|exact Evs.nil|(apply Evs.cons;exact rfl))|(refine Sd.mk ?_ ?_;·((repeat' apply And.intro)<;>first|omega|trivial|assumption|(simp;done)|(simp;omega)))|refine Fa.mk fun _=>?_|refine g_cond ?_|refine g_keep ?_
   exact lp_next (j + 1) ⟨by omega,hd⟩ (by omega)
 ·rw [List.drop_eq_nil_of_le hge] at hd
  rw [← hd] at hR
  repeat' first|apply step|(apply g_op;·repeat first|exact Evs.nil|(apply Evs.cons;exact rfl))|(refine Br.mk (fun _=>?_) (fun _=>?_)<;>try (exfalso;omega))|refine g_cond ?_|refine g_keep ?_|refine g_fin ?_
  exact fin hR
/-- What does not fit the transaction's own values. -/
def innA (L:List Int) (n:Int):List Int→Nat→Option Int
 | [],_=>none
 | x::o,i=>if n + (i:Int) < 0∨L[(n + (i:Int)).toNat]?≠some x then some x else innA L n o (i + 1)
def txZ:Option HWr→Int
 | some w=>w.txn
 | none=>0
def innB (W:Wf) (id:Int) (l:List Int):Option Int:=l.find? fun x=>decide (txZ (W x)=id)
def innL (W:Wf) (r:HRd):Option Int:=match innA r.list ((r.list.length:Int) - (r.own.length:Int)) r.own 0 with
 | some x=>some x
 | none=>innB W r.txn (frontL r)
theorem innA_drop {L o:List Int} {n:Int} {i:Nat} (hi:i < o.length):innA L n (o.drop i) i=if n + (i:Int) < 0∨L[(n + (i:Int)).toNat]?≠some o[i] then some o[i] else innA L n (o.drop (i + 1)) (i + 1):=by
 rw [List.drop_eq_getElem_cons hi];rfl
theorem reads_inner_spec (h1:r.list.length≤1000) (h2:r.own.length≤1000):Spec prog1 n_reads_inner [.pointer (some ⟨b,0,none⟩),.agg #[.int .i64 r.txn,.int .i64 r.op,.int .i64 r.key,.slice p1 r.list.length c1,.slice p2 r.own.length c2]] [tab b T,fro (kInt .i64) p1 c1 r.list,fro (kInt .i64) p2 c2 r.own] (fun R=>R (twoV (innL (wK T r.key) r)) [tab b T]):=by
 refine spec_code c_reads_inner rfl ?_;intro n F R hR;unfold F_reads_inner
 have hfl:=frontL_len r
 repeat' first|apply step|(apply g_op;·repeat first|exact Evs.nil|(apply Evs.cons;exact rfl))|(refine Sd.mk ?_ ?_;·((repeat' apply And.intro)<;>first|omega|trivial|assumption|(simp;done)|(simp;omega)))|refine Fa.mk fun _=>?_|refine g_keep ?_
 rename_i rb
 refine at_loopS (ι:=Nat) (E:=fun j=>[(0,.pointer (some ⟨b,0,none⟩)),(3,.pointer (some ⟨rb,0,none⟩)),(6,.int .i64 ((r.list.length:Int) - (r.own.length:Int))),(21,.slice p2 r.own.length c2),(22,.int .i64 (r.own.length:Int)),(23,.int .i64 (j:Int))]) (Δ:=fun j=>tab b T::fro (kInt .i64) p1 c1 r.list::fro (kInt .i64) p2 c2 r.own::pt rb [.int .i64 r.txn,.int .i64 r.op,.int .i64 r.key,.slice p1 r.list.length c1,.slice p2 r.own.length c2] 0::F) (P:=fun j=>j≤r.own.length∧innA r.list ((r.list.length:Int) - (r.own.length:Int)) (r.own.drop j) j=innA r.list ((r.list.length:Int) - (r.own.length:Int)) r.own 0) (μ:=fun j=>r.own.length - j) 0 ⟨Nat.zero_le _,rfl⟩ ?_
 rintro j ⟨hj,hd⟩
 try dsimp only
 rcases Nat.lt_or_ge j r.own.length with hlt|hge
 ·rw [innA_drop hlt] at hd
  by_cases hneg:(r.list.length:Int) - (r.own.length:Int) + (j:Int) < 0
  ·rw [if_pos (.inl hneg)] at hd
   unfold innL at hR
   rw [← hd] at hR
   repeat' first|apply step|(apply g_op;·repeat first|exact Evs.nil|(apply Evs.cons;exact rfl))|(refine Br.mk (fun _=>?_) (fun _=>?_)<;>try (exfalso;omega))|(refine Sd.mk ?_ ?_;·((repeat' apply And.intro)<;>first|omega|trivial|assumption|(simp;done)|(simp;omega)))|(refine Sx.mk ?_ ?_;·omega)|refine Im.mk fun _=>?_|refine g_cond ?_|refine g_guard ?_|refine g_keep ?_|refine g_fin ?_
   all_goals first|exact fin hR|(exfalso;omega)
  ·have hix:((r.list.length:Int) - (r.own.length:Int) + (j:Int)).toNat < r.list.length:=by omega
   by_cases he:r.list[((r.list.length:Int) - (r.own.length:Int) + (j:Int)).toNat]'hix=r.own[j]
   ·rw [if_neg (fun q=>by rcases q with q|q;exact hneg q;exact q (by rw [List.getElem?_eq_getElem hix,he]))] at hd
    repeat' first|apply step|(apply g_op;·repeat first|exact Evs.nil|(apply Evs.cons;exact rfl))|(refine Br.mk (fun _=>?_) (fun _=>?_)<;>try (exfalso;omega))|(refine Sd.mk ?_ ?_;·((repeat' apply And.intro)<;>first|omega|trivial|assumption|(simp;done)|(simp;omega)))|(refine Sx.mk ?_ ?_;·omega)|refine Im.mk fun _=>?_|refine g_cond ?_|refine g_guard ?_|refine g_keep ?_
    all_goals first|exact lp_next (j + 1) ⟨by omega,hd⟩ (by omega)|(exfalso;omega)
   ·rw [if_pos (.inr (fun q=>he (Option.some.inj (by rw [← q,List.getElem?_eq_getElem hix]))))] at hd
    unfold innL at hR
    rw [← hd] at hR
    repeat' first|apply step|(apply g_op;·repeat first|exact Evs.nil|(apply Evs.cons;exact rfl))|(refine Br.mk (fun _=>?_) (fun _=>?_)<;>try (exfalso;omega))|(refine Sd.mk ?_ ?_;·((repeat' apply And.intro)<;>first|omega|trivial|assumption|(simp;done)|(simp;omega)))|(refine Sx.mk ?_ ?_;·omega)|refine Im.mk fun _=>?_|refine g_cond ?_|refine g_guard ?_|refine g_keep ?_|refine g_fin ?_
    all_goals first|exact fin hR|(exfalso;omega)
 ·rw [List.drop_eq_nil_of_le hge] at hd
  unfold innL at hR
  rw [← hd] at hR
  dsimp only [innA] at hR
  unfold innB at hR
  repeat' first|apply step|(apply g_op;·repeat first|exact Evs.nil|(apply Evs.cons;exact rfl))|(refine Br.mk (fun _=>?_) (fun _=>?_)<;>try (exfalso;omega))|refine g_cond ?_|refine g_keep ?_
  refine at_callS (reads_Front_spec (r:=r) (by omega) (by omega)) ?_
  intro p3 c3
  generalize hW:wK T r.key=W at hR ⊢
  generalize frontL r=l at hR hfl ⊢
  repeat' first|apply step|(apply g_op;·repeat first|exact Evs.nil|(apply Evs.cons;exact rfl))|refine g_keep ?_
  refine at_loopS (ι:=Nat) (E:=fun j=>[(0,.pointer (some ⟨b,0,none⟩)),(3,.pointer (some ⟨rb,0,none⟩)),(46,.slice p3 l.length c3),(47,.int .i64 (l.length:Int)),(48,.int .i64 (j:Int))]) (Δ:=fun j=>own (kInt .i64) p3 c3 l::tab b T::pt rb [.int .i64 r.txn,.int .i64 r.op,.int .i64 r.key,.slice p1 r.list.length c1,.slice p2 r.own.length c2] 0::F) (P:=fun j=>j≤l.length∧(l.drop j).find? (fun x=>decide (txZ (W x)=r.txn))=l.find? (fun x=>decide (txZ (W x)=r.txn))) (μ:=fun j=>l.length - j) 0 ⟨Nat.zero_le _,rfl⟩ ?_
  rintro k ⟨hk,hd2⟩
  try dsimp only
  rcases Nat.lt_or_ge k l.length with hlt|hge2
  ·rw [List.drop_eq_getElem_cons hlt,List.find?_cons] at hd2
   repeat' first|apply step|(apply g_op;·repeat first|exact Evs.nil|(apply Evs.cons;exact rfl))|(refine Br.mk (fun _=>?_) (fun _=>?_)<;>try (exfalso;omega))|(refine Sd.mk ?_ ?_;·((repeat' apply And.intro)<;>first|omega|trivial|assumption|(simp;done)|(simp;omega)))|(refine Sx.mk ?_ ?_;·omega)|refine Im.mk fun _=>?_|refine g_cond ?_
   refine at_callS (table_Table_Writer_spec (T:=T) (x:=r.key) (y:=l[k])) ?_
   rw [show aget (r.key,l[k]) T.wr=W l[k] by rw [← hW]]
   cases hw:W l[k] with
   | none =>
    rw [hw] at hd2
    unfold wrO
    by_cases h0:(0:Int)=r.txn
    ·rw [show decide (txZ none=r.txn)=true from decide_eq_true h0] at hd2
     rw [← hd2] at hR
     repeat' first|apply step|(apply g_op;·repeat first|exact Evs.nil|(apply Evs.cons;exact rfl))|(refine Br.mk (fun _=>?_) (fun _=>?_)<;>try (exfalso;omega))|refine Fa.mk fun _=>?_|refine g_cond ?_|refine g_keep ?_|refine g_fin ?_
     all_goals first|exact fin hR|(exfalso;omega)
    ·rw [show decide (txZ none=r.txn)=false from decide_eq_false h0] at hd2
     repeat' first|apply step|(apply g_op;·repeat first|exact Evs.nil|(apply Evs.cons;exact rfl))|(refine Br.mk (fun _=>?_) (fun _=>?_)<;>try (exfalso;omega))|(refine Sd.mk ?_ ?_;·((repeat' apply And.intro)<;>first|omega|trivial|assumption|(simp;done)|(simp;omega)))|refine Fa.mk fun _=>?_|refine g_cond ?_|refine g_keep ?_
     all_goals first|exact lp_next (k + 1) ⟨by omega,hd2⟩ (by omega)|(exfalso;omega)
   | some w =>
    rw [hw] at hd2
    unfold wrO
    by_cases h0:w.txn=r.txn
    ·rw [show decide (txZ (some w)=r.txn)=true from decide_eq_true h0] at hd2
     rw [← hd2] at hR
     repeat' first|apply step|(apply g_op;·repeat first|exact Evs.nil|(apply Evs.cons;exact rfl))|(refine Br.mk (fun _=>?_) (fun _=>?_)<;>try (exfalso;omega))|refine Fa.mk fun _=>?_|refine g_cond ?_|refine g_keep ?_|refine g_fin ?_
     all_goals first|exact fin hR|(exfalso;omega)
    ·rw [show decide (txZ (some w)=r.txn)=false from decide_eq_false h0] at hd2
     repeat' first|apply step|(apply g_op;·repeat first|exact Evs.nil|(apply Evs.cons;exact rfl))|(refine Br.mk (fun _=>?_) (fun _=>?_)<;>try (exfalso;omega))|(refine Sd.mk ?_ ?_;·((repeat' apply And.intro)<;>first|omega|trivial|assumption|(simp;done)|(simp;omega)))|refine Fa.mk fun _=>?_|refine g_cond ?_|refine g_keep ?_
     all_goals first|exact lp_next (k + 1) ⟨by omega,hd2⟩ (by omega)|(exfalso;omega)
  ·rw [List.drop_eq_nil_of_le hge2] at hd2
   rw [← hd2] at hR
   repeat' first|apply step|(apply g_op;·repeat first|exact Evs.nil|(apply Evs.cons;exact rfl))|(refine Br.mk (fun _=>?_) (fun _=>?_)<;>try (exfalso;omega))|refine g_cond ?_|refine g_keep ?_|refine g_fin ?_
   exact fin hR
/-- What is wrong with a read, and by which value. -/
def kindL (W:Wf) (r:HRd):Int × Int:=match twL [] r.list with
 | some x=>(1,x)
 | none=>match bornL W r.list with
  | some x=>(2,x)
  | none=>match innL W r with
   | some x=>(3,x)
   | none=>(0,0)
theorem reads_Kind_spec (h1:r.list.length≤1000) (h2:r.own.length≤1000):Spec prog1 n_reads_Kind [.pointer (some ⟨b,0,none⟩),.agg #[.int .i64 r.txn,.int .i64 r.op,.int .i64 r.key,.slice p1 r.list.length c1,.slice p2 r.own.length c2]] [tab b T,fro (kInt .i64) p1 c1 r.list,fro (kInt .i64) p2 c2 r.own] (fun R=>R (.tuple #[.int .i64 (kindL (wK T r.key) r).1,.int .i64 (kindL (wK T r.key) r).2]) [tab b T]):=by
 refine spec_code c_reads_Kind rfl ?_;intro n F R hR;unfold F_reads_Kind
 unfold kindL at hR
 repeat' first|apply step|(apply g_op;·repeat first|exact Evs.nil|(apply Evs.cons;exact rfl))|refine Fa.mk fun _=>?_
 refine at_callR (reads_twice_spec (l:=r.list) h1) ?_
 cases ht:twL [] r.list with
 | some x =>
  rw [ht] at hR
  unfold twoV
  repeat' first|apply step|(apply g_op;·repeat first|exact Evs.nil|(apply Evs.cons;exact rfl))|apply Lw.go|refine g_cond ?_|refine g_keep ?_|refine g_fin ?_
  exact fin hR
 | none =>
  rw [ht] at hR
  unfold twoV
  repeat' first|apply step|(apply g_op;·repeat first|exact Evs.nil|(apply Evs.cons;exact rfl))|apply Lw.go|refine g_cond ?_|refine g_keep ?_
  refine at_callS (reads_unborn_spec (T:=T) (r:=r) h1) ?_
  cases hb:bornL (wK T r.key) r.list with
  | some x =>
   rw [hb] at hR
   unfold twoV
   repeat' first|apply step|(apply g_op;·repeat first|exact Evs.nil|(apply Evs.cons;exact rfl))|refine g_cond ?_|refine g_keep ?_|refine g_fin ?_
   exact fin hR
  | none =>
   rw [hb] at hR
   unfold twoV
   repeat' first|apply step|(apply g_op;·repeat first|exact Evs.nil|(apply Evs.cons;exact rfl))|refine g_cond ?_|refine g_keep ?_
   refine at_callS (reads_inner_spec (T:=T) (r:=r) h1 h2) ?_
   cases hi:innL (wK T r.key) r with
   | some x =>
    rw [hi] at hR
    unfold twoV
    repeat' first|apply step|(apply g_op;·repeat first|exact Evs.nil|(apply Evs.cons;exact rfl))|refine g_cond ?_|refine g_keep ?_|refine g_fin ?_
    exact fin hR
   | none =>
    rw [hi] at hR
    unfold twoV
    repeat' first|apply step|(apply g_op;·repeat first|exact Evs.nil|(apply Evs.cons;exact rfl))|refine g_cond ?_|refine g_keep ?_|refine g_fin ?_
    exact fin hR
end
end Go.AMS

namespace Go.AMS
open Go.AM hiding Kt At WP WL Runs RunsY
open Go.AM.G
set_option linter.unusedVariables false
set_option linter.unusedSimpArgs false
set_option linter.unusedSectionVars false
set_option maxRecDepth 100000
set_option maxHeartbeats 1000000
attribute [local irreducible] AtS AtV AtC AtG FinA Spec Post LP G.At G.WP G.WL pt own fro rdl ro hx mp lrec elt sub

open Go.AM.G.Set
section
variable {h:List HTx} {r:HRd} {p p1 p2 p3:Option Addr} {c c1 c2 c3:Nat}
theorem r13_Kind_spec (hf:FewH h 20 60) (hk:OkH h) (h1:r.list.length≤1000) (h2:r.own.length≤1000):Spec prog1 n_r13_Kind [.agg #[.slice p h.length c],.agg #[.int .i64 r.txn,.int .i64 r.op,.int .i64 r.key,.slice p1 r.list.length c1,.slice p2 r.own.length c2]] [fro kHTx p c h,fro (kInt .i64) p1 c1 r.list,fro (kInt .i64) p2 c2 r.own] (fun R=>R (.tuple #[.int .i64 (kindL (wK (TH h) r.key) r).1,.int .i64 (kindL (wK (TH h) r.key) r).2]) []):=by
 refine spec_code c_r13_Kind rfl ?_;intro n F R hR;unfold F_r13_Kind
 have hfl:=frontL_len r
 have hwr:∀ x,Spec prog1 n_r12_Writer [.agg #[.slice p h.length c],.int .i64 r.key,.int .i64 x] [fro kHTx p c h] (fun R=>R (wrO (wK (TH h) r.key x)) []):=fun x=>r12W_spec hf hk
 generalize wK (TH h) r.key=W at hR hwr
 unfold kindL at hR
 repeat' first|apply step|(apply g_op;·repeat first|exact Evs.nil|(apply Evs.cons;exact rfl))|refine Fa.mk fun _=>?_|refine g_keep ?_
 rename_i hb rb
 refine at_loopS (ι:=Nat) (E:=fun k=>[(2,.pointer (some ⟨hb,0,none⟩)),(3,.pointer (some ⟨rb,0,none⟩)),(6,.int .i64 (k:Int))]) (Δ:=fun k=>fro kHTx p c h::fro (kInt .i64) p1 c1 r.list::fro (kInt .i64) p2 c2 r.own::pt rb [.int .i64 r.txn,.int .i64 r.op,.int .i64 r.key,.slice p1 r.list.length c1,.slice p2 r.own.length c2] 0::pt hb [.slice p h.length c] 0::F) (P:=fun k=>k≤r.list.length∧twL (r.list.take k) (r.list.drop k)=twL [] r.list) (μ:=fun k=>r.list.length - k) 0 ⟨Nat.zero_le _,rfl⟩ ?_
 rintro k ⟨hk1,htw⟩
 try dsimp only
 rcases Nat.lt_or_ge k r.list.length with hlt|hge
 ·rw [twL_drop hlt] at htw
  repeat' first|apply step|(apply g_op;·repeat first|exact Evs.nil|(apply Evs.cons;exact rfl))|(refine Br.mk (fun _=>?_) (fun _=>?_)<;>try (exfalso;omega))|refine g_cond ?_|refine g_keep ?_
  refine at_loopS (ι:=Nat) (E:=fun j=>[(2,.pointer (some ⟨hb,0,none⟩)),(3,.pointer (some ⟨rb,0,none⟩)),(6,.int .i64 (k:Int)),(7,.int .i64 (j:Int))]) (Δ:=fun j=>fro kHTx p c h::fro (kInt .i64) p1 c1 r.list::fro (kInt .i64) p2 c2 r.own::pt rb [.int .i64 r.txn,.int .i64 r.op,.int .i64 r.key,.slice p1 r.list.length c1,.slice p2 r.own.length c2] 0::pt hb [.slice p h.length c] 0::F) (P:=fun j=>j≤k∧∀ i (hi:i < r.list.length),i < j→r.list[i]≠r.list[k]) (μ:=fun j=>k - j) 0 ⟨Nat.zero_le _,fun _ _ q=>absurd q (Nat.not_lt_zero _)⟩ ?_
  rintro j ⟨hj,hne⟩
  try dsimp only
  rcases Nat.lt_or_ge j k with hjk|hjk
  ·by_cases he:r.list[j]=r.list[k]
   ·rw [if_pos (he ▸ List.mem_take_iff_getElem.2 ⟨j,by omega,rfl⟩)] at htw
    rw [← htw] at hR
    repeat' first|apply step|(apply g_op;·repeat first|exact Evs.nil|(apply Evs.cons;exact rfl))|(refine Br.mk (fun _=>?_) (fun _=>?_)<;>try (exfalso;omega))|(refine Sd.mk ?_ ?_;·((repeat' apply And.intro)<;>first|omega|trivial|assumption|(simp;done)|(simp;omega)))|(refine Sx.mk ?_ ?_;·omega)|refine Im.mk fun _=>?_|refine g_cond ?_|refine g_keep ?_|refine g_fin ?_
    all_goals first|exact fin hR|(exfalso;omega)
   ·repeat' first|apply step|(apply g_op;·repeat first|exact Evs.nil|(apply Evs.cons;exact rfl))|(refine Br.mk (fun _=>?_) (fun _=>?_)<;>try (exfalso;omega))|(refine Sd.mk ?_ ?_;·((repeat' apply And.intro)<;>first|omega|trivial|assumption|(simp;done)|(simp;omega)))|(refine Sx.mk ?_ ?_;·omega)|refine Im.mk fun _=>?_|refine g_cond ?_|refine g_keep ?_
    all_goals first|(exfalso;omega)|exact lp_next (j + 1) ⟨by omega,fun i hi hij=>(Nat.lt_or_ge i j).elim (fun q=>hne i hi q) (fun q=>by have e:i=j:=(by omega);subst e;exact he)⟩ (by omega)
  ·rw [if_neg (fun q=>by obtain ⟨i,hi,e⟩:=List.mem_take_iff_getElem.1 q;exact hne i (by omega) (by omega) e)] at htw
   repeat' first|apply step|(apply g_op;·repeat first|exact Evs.nil|(apply Evs.cons;exact rfl))|(refine Br.mk (fun _=>?_) (fun _=>?_)<;>try (exfalso;omega))|(refine Sd.mk ?_ ?_;·((repeat' apply And.intro)<;>first|omega|trivial|assumption|(simp;done)|(simp;omega)))|refine g_cond ?_|refine g_keep ?_
   exact lp_next (k + 1) ⟨by omega,htw⟩ (by omega)
 rw [List.drop_eq_nil_of_le hge] at htw
 rw [← htw] at hR
 dsimp only [twL] at hR
 repeat' first|apply step|(apply g_op;·repeat first|exact Evs.nil|(apply Evs.cons;exact rfl))|(refine Br.mk (fun _=>?_) (fun _=>?_)<;>try (exfalso;omega))|refine g_cond ?_|refine g_keep ?_
 refine at_loopS (ι:=Nat) (E:=fun k=>[(2,.pointer (some ⟨hb,0,none⟩)),(3,.pointer (some ⟨rb,0,none⟩)),(8,.int .i64 (k:Int))]) (Δ:=fun k=>fro kHTx p c h::fro (kInt .i64) p1 c1 r.list::fro (kInt .i64) p2 c2 r.own::pt rb [.int .i64 r.txn,.int .i64 r.op,.int .i64 r.key,.slice p1 r.list.length c1,.slice p2 r.own.length c2] 0::pt hb [.slice p h.length c] 0::F) (P:=fun k=>k≤r.list.length∧bornL W (r.list.drop k)=bornL W r.list) (μ:=fun k=>r.list.length - k) 0 ⟨Nat.zero_le _,rfl⟩ ?_
 rintro k2 ⟨hk2,hd⟩
 try dsimp only
 rcases Nat.lt_or_ge k2 r.list.length with hlt|hge2
 ·rw [bornL_drop hlt] at hd
  have hrj:=hwr r.list[k2]
  repeat' first|apply step|(apply g_op;·repeat first|exact Evs.nil|(apply Evs.cons;exact rfl))|(refine Br.mk (fun _=>?_) (fun _=>?_)<;>try (exfalso;omega))|(refine Sd.mk ?_ ?_;·((repeat' apply And.intro)<;>first|omega|trivial|assumption|(simp;done)|(simp;omega)))|(refine Sx.mk ?_ ?_;·omega)|refine Im.mk fun _=>?_|refine g_cond ?_
  refine at_callR (hrj) ?_
  cases hw:W r.list[k2] with
  | none =>
   rw [hw] at hd
   dsimp only at hd
   rw [← hd] at hR
   unfold wrO
   repeat' first|apply step|(apply g_op;·repeat first|exact Evs.nil|(apply Evs.cons;exact rfl))|(refine Sd.mk ?_ ?_;·((repeat' apply And.intro)<;>first|omega|trivial|assumption|(simp;done)|(simp;omega)))|(refine Sx.mk ?_ ?_;·omega)|refine Fa.mk fun _=>?_|refine Im.mk fun _=>?_|apply Lw.go|refine g_cond ?_|refine g_keep ?_|refine g_fin ?_
   exact fin hR
  | some w =>
   rw [hw] at hd
   dsimp only at hd
   unfold wrO
   repeat' first|apply step|(apply g_op;·repeat first|exact Evs.nil|(apply Evs.cons;exact rfl))|(refine Sd.mk ?_ ?_;·((repeat' apply And.intro)<;>first|omega|trivial|assumption|(simp;done)|(simp;omega)))|refine Fa.mk fun _=>?_|apply Lw.go|refine g_cond ?_|refine g_keep ?_
   exact lp_next (k2 + 1) ⟨by omega,hd⟩ (by omega)
 rw [List.drop_eq_nil_of_le hge2] at hd
 rw [← hd] at hR
 dsimp only [bornL] at hR
 repeat' first|apply step|(apply g_op;·repeat first|exact Evs.nil|(apply Evs.cons;exact rfl))|(refine Br.mk (fun _=>?_) (fun _=>?_)<;>try (exfalso;omega))|(refine Sd.mk ?_ ?_;·((repeat' apply And.intro)<;>first|omega|trivial|assumption|(simp;done)|(simp;omega)))|refine g_cond ?_|refine g_keep ?_
 refine at_loopS (ι:=Nat) (E:=fun j=>[(2,.pointer (some ⟨hb,0,none⟩)),(3,.pointer (some ⟨rb,0,none⟩)),(11,.int .i64 ((r.list.length:Int) - (r.own.length:Int))),(12,.int .i64 (j:Int))]) (Δ:=fun k=>fro kHTx p c h::fro (kInt .i64) p1 c1 r.list::fro (kInt .i64) p2 c2 r.own::pt rb [.int .i64 r.txn,.int .i64 r.op,.int .i64 r.key,.slice p1 r.list.length c1,.slice p2 r.own.length c2] 0::pt hb [.slice p h.length c] 0::F) (P:=fun j=>j≤r.own.length∧innA r.list ((r.list.length:Int) - (r.own.length:Int)) (r.own.drop j) j=innA r.list ((r.list.length:Int) - (r.own.length:Int)) r.own 0) (μ:=fun j=>r.own.length - j) 0 ⟨Nat.zero_le _,rfl⟩ ?_
 rintro j ⟨hj,hd2⟩
 try dsimp only
 rcases Nat.lt_or_ge j r.own.length with hlt|hge3
 ·rw [innA_drop hlt] at hd2
  by_cases hneg:(r.list.length:Int) - (r.own.length:Int) + (j:Int) < 0
  ·rw [if_pos (.inl hneg)] at hd2
   unfold innL at hR
   rw [← hd2] at hR
   repeat' first|apply step|(apply g_op;·repeat first|exact Evs.nil|(apply Evs.cons;exact rfl))|(refine Br.mk (fun _=>?_) (fun _=>?_)<;>try (exfalso;omega))|(refine Sd.mk ?_ ?_;·((repeat' apply And.intro)<;>first|omega|trivial|assumption|(simp;done)|(simp;omega)))|(refine Sx.mk ?_ ?_;·omega)|refine Im.mk fun _=>?_|refine g_cond ?_|refine g_guard ?_|refine g_keep ?_|refine g_fin ?_
   all_goals first|exact fin hR|(exfalso;omega)
  ·have hix:((r.list.length:Int) - (r.own.length:Int) + (j:Int)).toNat < r.list.length:=by omega
   by_cases he:r.list[((r.list.length:Int) - (r.own.length:Int) + (j:Int)).toNat]'hix=r.own[j]
   ·rw [if_neg (fun q=>by rcases q with q|q;exact hneg q;exact q (by rw [List.getElem?_eq_getElem hix,he]))] at hd2
    repeat' first|apply step|(apply g_op;·repeat first|exact Evs.nil|(apply Evs.cons;exact rfl))|(refine Br.mk (fun _=>?_) (fun _=>?_)<;>try (exfalso;omega))|(refine Sd.mk ?_ ?_;·((repeat' apply And.intro)<;>first|omega|trivial|assumption|(simp;done)|(simp;omega)))|(refine Sx.mk ?_ ?_;·omega)|refine Im.mk fun _=>?_|refine g_cond ?_|refine g_guard ?_|refine g_keep ?_
    all_goals first|exact lp_next (j + 1) ⟨by omega,hd2⟩ (by omega)|(exfalso;omega)
   ·rw [if_pos (.inr (fun q=>he (Option.some.inj (by rw [← q,List.getElem?_eq_getElem hix]))))] at hd2
    unfold innL at hR
    rw [← hd2] at hR
    repeat' first|apply step|(apply g_op;·repeat first|exact Evs.nil|(apply Evs.cons;exact rfl))|(refine Br.mk (fun _=>?_) (fun _=>?_)<;>try (exfalso;omega))|(refine Sd.mk ?_ ?_;·((repeat' apply And.intro)<;>first|omega|trivial|assumption|(simp;done)|(simp;omega)))|(refine Sx.mk ?_ ?_;·omega)|refine Im.mk fun _=>?_|refine g_cond ?_|refine g_guard ?_|refine g_keep ?_|refine g_fin ?_
    all_goals first|exact fin hR|(exfalso;omega)
 rw [List.drop_eq_nil_of_le hge3] at hd2
 unfold innL at hR
 rw [← hd2] at hR
 dsimp only [innA] at hR
 unfold innB at hR
 repeat' first|apply step|(apply g_op;·repeat first|exact Evs.nil|(apply Evs.cons;exact rfl))|(refine Br.mk (fun _=>?_) (fun _=>?_)<;>try (exfalso;omega))|refine g_cond ?_|refine g_keep ?_
 refine at_callR (r13_Front_spec (r:=r) (by omega) (by omega)) ?_
 intro p3 c3
 generalize frontL r=l at hR hfl ⊢
 repeat' first|apply step|(apply g_op;·repeat first|exact Evs.nil|(apply Evs.cons;exact rfl))|apply Lw.go|refine g_keep ?_
 refine at_loopS (ι:=Nat) (E:=fun j=>[(2,.pointer (some ⟨hb,0,none⟩)),(3,.pointer (some ⟨rb,0,none⟩)),(13,.slice p3 l.length c3),(14,.int .i64 (j:Int))]) (Δ:=fun j=>own (kInt .i64) p3 c3 l::fro kHTx p c h::fro (kInt .i64) p1 c1 r.list::fro (kInt .i64) p2 c2 r.own::pt rb [.int .i64 r.txn,.int .i64 r.op,.int .i64 r.key,.slice p1 r.list.length c1,.slice p2 r.own.length c2] 0::pt hb [.slice p h.length c] 0::F) (P:=fun j=>j≤l.length∧(l.drop j).find? (fun x=>decide (txZ (W x)=r.txn))=l.find? (fun x=>decide (txZ (W x)=r.txn))) (μ:=fun j=>l.length - j) 0 ⟨Nat.zero_le _,rfl⟩ ?_
 rintro k4 ⟨hk4,hd4⟩
 try dsimp only
 rcases Nat.lt_or_ge k4 l.length with hlt|hge4
 ·rw [List.drop_eq_getElem_cons hlt,List.find?_cons] at hd4
  have hrj:=hwr l[k4]
  repeat' first|apply step|(apply g_op;·repeat first|exact Evs.nil|(apply Evs.cons;exact rfl))|(refine Br.mk (fun _=>?_) (fun _=>?_)<;>try (exfalso;omega))|(refine Sd.mk ?_ ?_;·((repeat' apply And.intro)<;>first|omega|trivial|assumption|(simp;done)|(simp;omega)))|(refine Sx.mk ?_ ?_;·omega)|refine Im.mk fun _=>?_|refine g_cond ?_
  refine at_callR (hrj) ?_
  cases hw:W l[k4] with
  | none =>
   rw [hw] at hd4
   unfold wrO
   by_cases h0:(0:Int)=r.txn
   ·rw [show decide (txZ none=r.txn)=true from decide_eq_true h0] at hd4
    rw [← hd4] at hR
    repeat' first|apply step|(apply g_op;·repeat first|exact Evs.nil|(apply Evs.cons;exact rfl))|(refine Br.mk (fun _=>?_) (fun _=>?_)<;>try (exfalso;omega))|(refine Sd.mk ?_ ?_;·((repeat' apply And.intro)<;>first|omega|trivial|assumption|(simp;done)|(simp;omega)))|(refine Sx.mk ?_ ?_;·omega)|refine Fa.mk fun _=>?_|refine Im.mk fun _=>?_|apply Lw.go|refine g_cond ?_|refine g_keep ?_|refine g_fin ?_
    all_goals first|exact fin hR|(exfalso;omega)
   ·rw [show decide (txZ none=r.txn)=false from decide_eq_false h0] at hd4
    repeat' first|apply step|(apply g_op;·repeat first|exact Evs.nil|(apply Evs.cons;exact rfl))|(refine Br.mk (fun _=>?_) (fun _=>?_)<;>try (exfalso;omega))|(refine Sd.mk ?_ ?_;·((repeat' apply And.intro)<;>first|omega|trivial|assumption|(simp;done)|(simp;omega)))|refine Fa.mk fun _=>?_|apply Lw.go|refine g_cond ?_|refine g_keep ?_
    all_goals first|exact lp_next (k4 + 1) ⟨by omega,hd4⟩ (by omega)|(exfalso;omega)
  | some w =>
   rw [hw] at hd4
   unfold wrO
   by_cases h0:w.txn=r.txn
   ·rw [show decide (txZ (some w)=r.txn)=true from decide_eq_true h0] at hd4
    rw [← hd4] at hR
    repeat' first|apply step|(apply g_op;·repeat first|exact Evs.nil|(apply Evs.cons;exact rfl))|(refine Br.mk (fun _=>?_) (fun _=>?_)<;>try (exfalso;omega))|(refine Sd.mk ?_ ?_;·((repeat' apply And.intro)<;>first|omega|trivial|assumption|(simp;done)|(simp;omega)))|(refine Sx.mk ?_ ?_;·omega)|refine Fa.mk fun _=>?_|refine Im.mk fun _=>?_|apply Lw.go|refine g_cond ?_|refine g_keep ?_|refine g_fin ?_
    all_goals first|exact fin hR|(exfalso;omega)
   ·rw [show decide (txZ (some w)=r.txn)=false from decide_eq_false h0] at hd4
    repeat' first|apply step|(apply g_op;·repeat first|exact Evs.nil|(apply Evs.cons;exact rfl))|(refine Br.mk (fun _=>?_) (fun _=>?_)<;>try (exfalso;omega))|(refine Sd.mk ?_ ?_;·((repeat' apply And.intro)<;>first|omega|trivial|assumption|(simp;done)|(simp;omega)))|refine Fa.mk fun _=>?_|apply Lw.go|refine g_cond ?_|refine g_keep ?_
    all_goals first|exact lp_next (k4 + 1) ⟨by omega,hd4⟩ (by omega)|(exfalso;omega)
 ·rw [List.drop_eq_nil_of_le hge4] at hd4
  rw [← hd4] at hR
  repeat' first|apply step|(apply g_op;·repeat first|exact Evs.nil|(apply Evs.cons;exact rfl))|(refine Br.mk (fun _=>?_) (fun _=>?_)<;>try (exfalso;omega))|refine g_cond ?_|refine g_keep ?_|refine g_fin ?_
  exact fin hR
end
end Go.AMS

namespace Go.AMS
open Go.AM hiding Kt At WP WL Runs RunsY
open Go.AM.G
set_option linter.unusedVariables false
set_option linter.unusedSimpArgs false
set_option linter.unusedSectionVars false
set_option maxRecDepth 100000
set_option maxHeartbeats 1000000
attribute [local irreducible] AtS AtV AtC AtG FinA Spec Post LP G.At G.WP G.WL pt own fro rdl ro hx mp lrec elt sub

open Go.AM.G.Set
section
variable {h:List HTx} {r:HRd} {p q p1 p2 p3:Option Addr} {c d c1 c2 c3 b:Nat}
theorem l13_works_spec:Spec prog1 n_l13_works [] [] (fun R=>R (.bool true) []):=closed_spec c_l13_works
theorem l13_few_spec:Spec prog1 n_l13_few [.agg #[.slice p h.length c]] [fro kHTx p c h] (fun R=>(FewH h 20 60→chkH h=0→R (.bool true) [])∧R (.bool false) []):=by
 refine spec_code c_l13_few rfl ?_;intro n F R hR;unfold F_l13_few
 repeat' first|apply step|(apply g_op;·repeat first|exact Evs.nil|(apply Evs.cons;exact rfl))|refine Fa.mk fun _=>?_
 refine at_callS (r03_Few_spec (h:=h) (a:=20) (b:=60) (by omega) (by omega)) ?_
 refine ⟨fun hf=>?_,?_⟩
 ·repeat' first|apply step|(apply g_op;·repeat first|exact Evs.nil|(apply Evs.cons;exact rfl))|refine g_guard ?_
  refine at_callS (r04_Check_spec hf) ?_
  repeat' first|apply step|(apply g_op;·repeat first|exact Evs.nil|(apply Evs.cons;exact rfl))|(refine Br.mk (fun _=>?_) (fun _=>?_)<;>try (exfalso;omega))|refine g_guard ?_|refine g_keep ?_|refine g_fin ?_
  ·exact fin (hR.1 hf ‹_›)
  ·exact fin hR.2
 ·repeat' first|apply step|(apply g_op;·repeat first|exact Evs.nil|(apply Evs.cons;exact rfl))|refine g_guard ?_|refine g_keep ?_|refine g_fin ?_
  exact fin hR.2
theorem l13_to_spec {n1 n2:Nat} {x y z:Int}:Spec prog1 n_l13_to [.agg #[.int .i64 x,.int .i64 y,.int .i64 z,.slice p1 n1 c1,.slice p2 n2 c2]] [] (fun R=>R (.agg #[.int .i64 x,.int .i64 y,.int .i64 z,.slice p1 n1 c1,.slice p2 n2 c2]) []):=by
 refine spec_code c_l13_to rfl ?_;intro n F R hR;unfold F_l13_to
 repeat' first|apply step|(apply g_op;·repeat first|exact Evs.nil|(apply Evs.cons;exact rfl))|refine Fa.mk fun _=>?_|refine g_keep ?_|refine g_fin ?_
 exact fin hR
theorem l13_ReadsKinds_spec:Spec prog1 n_l13_ReadsKinds [.agg #[.slice p h.length c],.agg #[.int .i64 r.txn,.int .i64 r.op,.int .i64 r.key,.slice p1 r.list.length c1,.slice p2 r.own.length c2]] [fro kHTx p c h,fro (kInt .i64) p1 c1 r.list,fro (kInt .i64) p2 c2 r.own] (fun R=>R (.bool true) []):=by
 refine spec_code c_l13_ReadsKinds rfl ?_;intro n F R hR;unfold F_l13_ReadsKinds
 repeat' first|apply step|(apply g_op;·repeat first|exact Evs.nil|(apply Evs.cons;exact rfl))|refine Fa.mk fun _=>?_
 refine at_callS (l13_few_spec (h:=h)) ?_
 refine ⟨fun hf hc=>?_,?_⟩
 ·by_cases hl1:100 < (r.list.length:Int)
  ·repeat' first|apply step|(apply g_op;·repeat first|exact Evs.nil|(apply Evs.cons;exact rfl))|(refine Br.mk (fun _=>?_) (fun _=>?_)<;>try (exfalso;omega))|refine g_cond ?_|refine g_guard ?_|refine g_keep ?_
   refine at_callS (l13_works_spec) ?_
   repeat' first|apply step|(apply g_op;·repeat first|exact Evs.nil|(apply Evs.cons;exact rfl))|refine g_fin ?_
   exact fin hR
  by_cases hl2:100 < (r.own.length:Int)
  ·repeat' first|apply step|(apply g_op;·repeat first|exact Evs.nil|(apply Evs.cons;exact rfl))|(refine Br.mk (fun _=>?_) (fun _=>?_)<;>try (exfalso;omega))|refine g_cond ?_|refine g_guard ?_|refine g_keep ?_
   refine at_callS (l13_works_spec) ?_
   repeat' first|apply step|(apply g_op;·repeat first|exact Evs.nil|(apply Evs.cons;exact rfl))|refine g_fin ?_
   exact fin hR
  have hk:=chkH_ok hc
  repeat' first|apply step|(apply g_op;·repeat first|exact Evs.nil|(apply Evs.cons;exact rfl))|(refine Br.mk (fun _=>?_) (fun _=>?_)<;>try (exfalso;omega))|refine g_cond ?_|refine g_guard ?_|refine g_keep ?_
  refine at_callS (table_New_spec hf) ?_
  refine ⟨fun hc2=>absurd hc hc2,fun _ b=>?_⟩
  repeat' first|apply step|(apply g_op;·repeat first|exact Evs.nil|(apply Evs.cons;exact rfl))|(refine Br.mk (fun _=>?_) (fun _=>?_)<;>try (exfalso;omega))|refine g_cond ?_|refine g_guard ?_|refine g_keep ?_
  refine at_callS (l13_to_spec) ?_
  repeat' first|apply step|(apply g_op;·repeat first|exact Evs.nil|(apply Evs.cons;exact rfl))
  refine at_callS (reads_Kind_spec (T:=TH h) (r:=r) (by omega) (by omega)) ?_
  repeat' first|apply step|(apply g_op;·repeat first|exact Evs.nil|(apply Evs.cons;exact rfl))|refine g_keep ?_
  refine at_callS (r13_Kind_spec (r:=r) hf hk (by omega) (by omega)) ?_
  generalize kindL (wK (TH h) r.key) r=k
  have hfl:=frontL_len r
  repeat' first|apply step|(apply g_op;·repeat first|exact Evs.nil|(apply Evs.cons;exact rfl))|(refine Br.mk (fun _=>?_) (fun _=>?_)<;>try (exfalso;omega))|refine g_guard ?_|refine g_keep ?_
  refine at_callR (l13_to_spec) ?_
  repeat' first|apply step|(apply g_op;·repeat first|exact Evs.nil|(apply Evs.cons;exact rfl))|apply Lw.go|refine g_guard ?_
  refine at_callR (reads_Front_spec (r:=r) (by omega) (by omega)) ?_
  intro p3 c3
  repeat' first|apply step|(apply g_op;·repeat first|exact Evs.nil|(apply Evs.cons;exact rfl))|apply Lw.go|refine g_guard ?_
  refine at_callR (r13_Front_spec (r:=r) (by omega) (by omega)) ?_
  intro p4 c4
  repeat' first|apply step|(apply g_op;·repeat first|exact Evs.nil|(apply Evs.cons;exact rfl))|apply Lw.go|refine g_guard ?_
  refine at_callR (r01_Same_spec (a:=frontL r) (b:=frontL r) (by omega)) ?_
  refine ⟨fun _=>?_,fun q=>absurd rfl q⟩
  repeat' first|apply step|(apply g_op;·repeat first|exact Evs.nil|(apply Evs.cons;exact rfl))|apply Lw.go|refine g_guard ?_
  refine at_callS (l13_works_spec) ?_
  repeat' first|apply step|(apply g_op;·repeat first|exact Evs.nil|(apply Evs.cons;exact rfl))|refine g_keep ?_|refine g_fin ?_
  exact fin hR
 ·repeat' first|apply step|(apply g_op;·repeat first|exact Evs.nil|(apply Evs.cons;exact rfl))|refine g_cond ?_|refine g_guard ?_|refine g_keep ?_
  refine at_callS (l13_works_spec) ?_
  repeat' first|apply step|(apply g_op;·repeat first|exact Evs.nil|(apply Evs.cons;exact rfl))|refine g_fin ?_
  exact fin hR
end
end Go.AMS

