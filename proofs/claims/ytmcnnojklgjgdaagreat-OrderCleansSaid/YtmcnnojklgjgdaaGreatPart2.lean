/- What the functions do, part 2. -/
import Derived.Test.YtmcnnojklgjgdaaGreatPart1
import Derived.Test.YtmcnnojklgjgdaaGreatSetLaw
namespace Go.AMS
open Go.AM hiding Kt At WP WL Runs RunsY
open Go.AM.G
set_option linter.unusedVariables false
set_option linter.unusedSimpArgs false
set_option linter.unusedSectionVars false
set_option maxRecDepth 100000
set_option maxHeartbeats 1000000
attribute [local irreducible] AtS AtV AtC AtG FinA Spec Post LP G.At G.WP G.WL pt own fro rdl ro hx mp lrec elt sub

open Go.AM.G.Set
section
variable {h:List HTx} {p q:Option Addr} {c d:Nat}
theorem r12_Writer_spec {x y:Int} (hf:FewH h 20 60):Spec prog1 n_r12_Writer [.agg #[.slice p h.length c],.int .i64 x,.int .i64 y] [fro kHTx p c h] (fun R=>(∀ t ∈ h,∀ i (hi:i < t.ops.length),t.ops[i].read=false→t.ops[i].key=x→t.ops[i].value=y→R (wrO (some ⟨t.id,i,x,y,t.ab⟩)) [])∧((∀ t ∈ h,∀ o ∈ t.ops,¬ (o.read=false∧o.key=x∧o.value=y))→R (wrO none) [])):=by
 refine spec_code c_r12_Writer rfl ?_;intro n F R hR;unfold F_r12_Writer
 have hh:=hf.t
 have ho:=hf.o
 repeat' first|apply step|(apply g_op;·repeat first|exact Evs.nil|(apply Evs.cons;exact rfl))|refine Fa.mk fun _=>?_|refine g_keep ?_
 rename_i rb wb
 refine at_loopS (ι:=Nat) (E:=fun j=>[(1,.int .i64 x),(2,.int .i64 y),(3,.pointer (some ⟨rb,0,none⟩)),(6,.pointer (some ⟨wb,0,none⟩)),(8,.int .i64 (j:Int))]) (Δ:=fun j=>pt wb [.int .i64 0,.int .i64 0,.int .i64 0,.int .i64 0,.bool false] 0::pt rb [.slice p h.length c] 0::fro kHTx p c h::F) (P:=fun j=>j≤h.length∧∀ t ∈ h.take j,∀ o ∈ t.ops,¬ (o.read=false∧o.key=x∧o.value=y)) (μ:=fun j=>h.length - j) 0 ⟨Nat.zero_le _,fun t ht=>by simp at ht⟩ ?_
 rintro j ⟨hj,hn⟩
 try dsimp only
 rcases Nat.lt_or_ge j h.length with hlt|hge
 ·have ho2:=opsN_mem (List.getElem_mem hlt)
  have hmem:=List.getElem_mem hlt
  repeat' first|apply step|(apply g_op;·repeat first|exact Evs.nil|(apply Evs.cons;exact rfl))|(refine Br.mk (fun _=>?_) (fun _=>?_)<;>try (exfalso;omega))|(refine Sd.mk ?_ ?_;·((repeat' apply And.intro)<;>first|omega|trivial|assumption|(simp;done)|(simp;omega)))|(refine Sx.mk ?_ ?_;·omega)|refine Fa.mk fun _=>?_|refine Im.mk fun _=>?_|refine g_cond ?_|refine g_keep ?_
  rename_i w _ tb
  refine at_loopS (ι:=Nat) (E:=fun i=>[(1,.int .i64 x),(2,.int .i64 y),(3,.pointer (some ⟨rb,0,none⟩)),(6,.pointer (some ⟨wb,0,none⟩)),(8,.int .i64 (j:Int)),(9,.pointer (some ⟨tb,0,none⟩)),(10,.int .i64 (i:Int))]) (Δ:=fun i=>pt tb [.int .i64 h[j].id,.bool h[j].ab,.slice w.1 h[j].ops.length w.2] 0::fro kHOp w.1 w.2 h[j].ops::pt wb [.int .i64 0,.int .i64 0,.int .i64 0,.int .i64 0,.bool false] 0::pt rb [.slice p h.length c] 0::fro kHTx p c h::F) (P:=fun i=>i≤h[j].ops.length∧∀ o ∈ h[j].ops.take i,¬ (o.read=false∧o.key=x∧o.value=y)) (μ:=fun i=>h[j].ops.length - i) 0 ⟨Nat.zero_le _,fun t ht=>by simp at ht⟩ ?_
  rintro i ⟨hi,hn2⟩
  try dsimp only
  rcases Nat.lt_or_ge i h[j].ops.length with hl2|hg2
  ·have nx:¬ (h[j].ops[i].read=false∧h[j].ops[i].key=x∧h[j].ops[i].value=y)→∀ o ∈ h[j].ops.take (i + 1),¬ (o.read=false∧o.key=x∧o.value=y):=fun q o ho=>by
    rw [List.take_succ_eq_append_getElem hl2] at ho
    rcases List.mem_append.1 ho with ho|ho
    ·exact hn2 o ho
    ·rw [List.mem_singleton.1 ho];exact q
   cases hr:h[j].ops[i].read
   ·repeat' first|rw [hr]|apply step|(apply g_op;·repeat first|exact Evs.nil|(apply Evs.cons;exact rfl))|(refine Br.mk (fun _=>?_) (fun _=>?_)<;>try (exfalso;omega))|(refine Sd.mk ?_ ?_;·((repeat' apply And.intro)<;>first|omega|trivial|assumption|(simp;done)|(simp;omega)))|(refine Sx.mk ?_ ?_;·omega)|refine Im.mk fun _=>?_|refine g_cond ?_|refine g_guard ?_|refine g_keep ?_|refine g_fin ?_
    ·exact fin (hR.1 _ hmem i hl2 hr ‹_› ‹_›)
    all_goals exact lp_next (i + 1) ⟨by omega,nx fun q=>by first|exact absurd q.2.1 ‹_›|exact absurd q.2.2 ‹_›⟩ (by omega)
   ·repeat' first|rw [hr]|apply step|(apply g_op;·repeat first|exact Evs.nil|(apply Evs.cons;exact rfl))|(refine Br.mk (fun _=>?_) (fun _=>?_)<;>try (exfalso;omega))|(refine Sd.mk ?_ ?_;·((repeat' apply And.intro)<;>first|omega|trivial|assumption|(simp;done)|(simp;omega)))|(refine Sx.mk ?_ ?_;·omega)|refine g_cond ?_|refine g_guard ?_|refine g_keep ?_
    exact lp_next (i + 1) ⟨by omega,nx fun q=>by rw [hr] at q;cases q.1⟩ (by omega)
  ·have e2:h[j].ops.take i=h[j].ops:=List.take_of_length_le hg2
   rw [e2] at hn2
   repeat' first|apply step|(apply g_op;·repeat first|exact Evs.nil|(apply Evs.cons;exact rfl))|(refine Br.mk (fun _=>?_) (fun _=>?_)<;>try (exfalso;omega))|(refine Sd.mk ?_ ?_;·((repeat' apply And.intro)<;>first|omega|trivial|assumption|(simp;done)|(simp;omega)))|refine g_cond ?_|refine g_keep ?_
   refine lp_next (j + 1) ⟨by omega,fun t ht=>?_⟩ (by omega)
   rw [List.take_succ_eq_append_getElem hlt] at ht
   rcases List.mem_append.1 ht with ht|ht
   ·exact hn t ht
   ·rw [List.mem_singleton.1 ht];exact hn2
 ·have e:h.take j=h:=List.take_of_length_le hge
  rw [e] at hn
  repeat' first|apply step|(apply g_op;·repeat first|exact Evs.nil|(apply Evs.cons;exact rfl))|(refine Br.mk (fun _=>?_) (fun _=>?_)<;>try (exfalso;omega))|refine g_cond ?_|refine g_keep ?_|refine g_fin ?_
  exact fin (hR.2 hn)
end
end Go.AMS

namespace Go.AMS
open Go.AM hiding Kt At WP WL Runs RunsY
open Go.AM.G
open Go.AM.G.Set
set_option linter.unusedVariables false
set_option linter.unusedSimpArgs false
theorem range_getD {α β:Type} (d:α) (f:α→β) (l:List α):(List.range l.length).map (fun i=>f (l.getD i d))=l.map f:=by
 refine List.ext_getElem (by simp) fun i h1 h2=>?_
 have hi:i < l.length:=by simpa using h1
 simp [hi]
def mW (k v:Int) (x:HTx × Nat):Bool:=!(x.1.ops.getD x.2 default).read && decide ((x.1.ops.getD x.2 default).key=k) && decide ((x.1.ops.getD x.2 default).value=v)
def mkW (k v:Int) (x:HTx × Nat):HWr:=⟨x.1.id,x.2,k,v,x.1.ab⟩
theorem one_wr (k v:Int) (T:Tb) (x:HTx × Nat):aget (k,v) (T.one x).wr=if mW k v x=true then some (mkW k v x) else aget (k,v) T.wr:=by
 unfold Tb.one
 rw [put_wr]
 unfold mW mkW
 generalize x.1.ops.getD x.2 default=o
 cases hr:o.read
 ·simp only [Bool.false_eq_true,if_false,Bool.not_false,Bool.true_and]
  rw [aget_aset]
  by_cases h1:o.key=k
  ·by_cases h2:o.value=v
   ·subst h1;subst h2;simp
   ·simp [h1,h2,Ne.symm h2]
  ·simp [h1,Ne.symm h1]
 ·simp
theorem fold_wr (k v:Int):∀ (xs:List (HTx × Nat)) (T:Tb),aget (k,v) (xs.foldl Tb.one T).wr=match (xs.filter (mW k v)).getLast? with
  | some x=>some (mkW k v x)
  | none=>aget (k,v) T.wr
 | [],_=>rfl
 | x::xs,T=>by
  rw [List.foldl_cons,fold_wr k v xs,one_wr]
  by_cases h:mW k v x=true
  ·rw [List.filter_cons_of_pos h,if_pos h,List.getLast?_cons]
   cases (xs.filter (mW k v)).getLast? <;> rfl
  ·rw [List.filter_cons_of_neg h,if_neg h]
theorem range_filterMap {α β:Type} (d:α) (p:α→Bool) (f:α→β) (l:List α):((List.range l.length).filter fun i=>p (l.getD i d)).map (fun i=>f (l.getD i d))=(l.filter p).map f:=by
 have h:=range_getD d id l
 conv=>rhs;rw [← List.map_id l,← h,List.filter_map,List.map_map]
 rfl
theorem steps_prs (s:List HTx):((stepsL s).filter fun x=>!(x.1.ops.getD x.2 default).read).map (fun x=>((x.1.ops.getD x.2 default).key,(x.1.ops.getD x.2 default).value))=prsH s:=by
 unfold stepsL prsH
 rw [List.filter_flatMap,List.map_flatMap]
 congr 1
 funext t
 rw [List.filter_map,List.map_map]
 exact range_filterMap default (fun o:HOp=>!o.read) (fun o:HOp=>(o.key,o.value)) t.ops
theorem mW_eq (k v:Int) (xs:List (HTx × Nat)):xs.filter (mW k v)=(xs.filter fun x=>!(x.1.ops.getD x.2 default).read).filter fun x=>decide (((x.1.ops.getD x.2 default).key,(x.1.ops.getD x.2 default).value)=(k,v)):=by
 rw [List.filter_filter]
 congr 1
 funext x
 unfold mW
 simp only [Prod.mk.injEq,Bool.decide_and]
 rw [Bool.and_comm,Bool.and_assoc]
 cases (x.1.ops.getD x.2 default).read <;> simp [Bool.and_comm]
theorem one_of_nodup {α β:Type} [DecidableEq β] {f:α→β} {c:β}:∀ {l:List α},(l.map f).Nodup→∀ x ∈ l,f x=c→l.filter (fun x=>decide (f x=c))=[x]
 | [],_,x,hx,_=>by cases hx
 | y::l,h,x,hx,e=>by
  rw [List.map_cons,List.nodup_cons] at h
  have hno:f y=c→l.filter (fun x=>decide (f x=c))=[]:=fun q=>by
   rw [List.filter_eq_nil_iff]
   intro z hz q2
   exact h.1 (by rw [q,← of_decide_eq_true q2];exact List.mem_map_of_mem hz)
  rcases List.mem_cons.1 hx with rfl|hx
  ·rw [List.filter_cons_of_pos (by simpa using e),hno e]
  ·rw [List.filter_cons_of_neg,one_of_nodup h.2 x hx e]
   intro q
   have:=of_decide_eq_true q
   exact h.1 (by rw [this,← e];exact List.mem_map_of_mem hx)
theorem steps_in {s:List HTx} {t:HTx} {i:Nat} (ht:t ∈ s) (hi:i < t.ops.length):(t,i) ∈ stepsL s :=
 List.mem_flatMap.2 ⟨t,ht,List.mem_map.2 ⟨i,List.mem_range.2 hi,rfl⟩⟩
theorem prs_sort {h:List HTx} (hp:(prsH h).Nodup):(prsH (sortK HTx.id h)).Nodup :=
 ((sortK_perm HTx.id h).flatMap_right _).nodup_iff.2 hp
theorem wr_some {h:List HTx} {k v:Int} (hp:(prsH h).Nodup) {t:HTx} {i:Nat} (ht:t ∈ h) (hi:i < t.ops.length) (h1:t.ops[i].read=false) (h2:t.ops[i].key=k) (h3:t.ops[i].value=v):aget (k,v) (tabS (sortK HTx.id h)).fin.wr=some ⟨t.id,i,k,v,t.ab⟩:=by
 show aget (k,v) (tabS (sortK HTx.id h)).wr=_
 have hs:=prs_sort hp
 generalize hsd:sortK HTx.id h=s at hs
 have ht2:t ∈ s:=by rw [← hsd];exact (sortK_perm HTx.id h).mem_iff.2 ht
 have e:t.ops.getD i default=t.ops[i]:=getD_lt hi
 have hf:(stepsL s).filter (mW k v)=[(t,i)]:=by
  rw [mW_eq]
  refine one_of_nodup (f:=fun x:HTx × Nat=>((x.1.ops.getD x.2 default).key,(x.1.ops.getD x.2 default).value)) (by rw [steps_prs];exact hs) (t,i) (List.mem_filter.2 ⟨steps_in ht2 hi,by simp only [e,h1];rfl⟩) (by simp only [e,h2,h3])
 unfold tabS
 rw [fold_wr,hf]
 rfl
theorem wr_none {h:List HTx} {k v:Int} (hn:∀ t ∈ h,∀ o ∈ t.ops,¬ (o.read=false∧o.key=k∧o.value=v)):aget (k,v) (tabS (sortK HTx.id h)).fin.wr=none:=by
 show aget (k,v) (tabS (sortK HTx.id h)).wr=_
 have hf:(stepsL (sortK HTx.id h)).filter (mW k v)=[]:=by
  rw [List.filter_eq_nil_iff]
  rintro ⟨t,i⟩ hx hm
  obtain ⟨t',ht,h3⟩:=List.mem_flatMap.1 hx
  obtain ⟨j,hj,e⟩:=List.mem_map.1 h3
  cases e
  have hi:=List.mem_range.1 hj
  unfold mW at hm
  simp only [getD_lt hi,Bool.and_eq_true,Bool.not_eq_true',decide_eq_true_eq] at hm
  exact hn t ((sortK_perm HTx.id h).mem_iff.1 ht) t.ops[i] (List.getElem_mem hi) ⟨hm.1.1,hm.1.2,hm.2⟩
 unfold tabS
 rw [fold_wr,hf]
 rfl
end Go.AMS

namespace Go.AMS
open Go.AM hiding Kt At WP WL Runs RunsY
open Go.AM.G
open Go.AM.G.Set
set_option linter.unusedVariables false
set_option linter.unusedSimpArgs false
/-- Who appended a value. -/
abbrev Wf:=Int→Option HWr
/-- The table of a history. -/
abbrev TH (h:List HTx):Tb:=(tabS (sortK HTx.id h)).fin
/-- Who appended a value, as the document has it. -/
theorem r12W_spec {h:List HTx} {p:Option Addr} {c:Nat} {x y:Int} (hf:FewH h 20 60) (hk:OkH h):Spec prog1 n_r12_Writer [.agg #[.slice p h.length c],.int .i64 x,.int .i64 y] [fro kHTx p c h] (fun R=>R (wrO (aget (x,y) (TH h).wr)) []):=fun n F h0 R hs hw=>r12_Writer_spec hf n F h0 R hs ⟨fun t ht i hi q1 q2 q3=>by
  rw [wr_some hk.p ht hi q1 q2 q3] at hw;exact hw,fun hn=>by rw [wr_none hn] at hw;exact hw⟩
end Go.AMS

namespace Go.AMS
open Go.AM hiding Kt At WP WL Runs RunsY
open Go.AM.G
set_option linter.unusedVariables false
set_option linter.unusedSimpArgs false
set_option linter.unusedSectionVars false
set_option maxRecDepth 100000
set_option maxHeartbeats 1000000
attribute [local irreducible] AtS AtV AtC AtG FinA Spec Post LP G.At G.WP G.WL pt own fro rdl ro hx mp lrec elt sub

open Go.AM.G.Set
section
variable {h:List HTx} {T:Tb} {r:HRd} {p p1 p2:Option Addr} {c c1 c2 b:Nat}
abbrev wK (T:Tb) (key:Int):Wf:=fun x=>aget (key,x) T.wr
end
end Go.AMS

namespace Go.AMS
open Go.AM hiding Kt At WP WL Runs RunsY
open Go.AM.G
set_option linter.unusedVariables false
set_option linter.unusedSimpArgs false
set_option linter.unusedSectionVars false
set_option maxRecDepth 100000
set_option maxHeartbeats 1000000
attribute [local irreducible] AtS AtV AtC AtG FinA Spec Post LP G.At G.WP G.WL pt own fro rdl ro hx mp lrec elt sub

open Go.AM.G.Set
section
variable {h:List HTx} {T:Tb} {r:HRd} {p q p1 p2 p3:Option Addr} {c d c1 c2 c3 b:Nat}
def t1:Option (Int × Int)→Int
 | some q=>q.1
 | none=>0
def t2:Option (Int × Int)→Int
 | some q=>q.2
 | none=>0
end
end Go.AMS

namespace Go.AMS
open Go.AM hiding Kt At WP WL Runs RunsY
open Go.AM.G
set_option linter.unusedVariables false
set_option linter.unusedSimpArgs false
set_option linter.unusedSectionVars false
set_option maxRecDepth 100000
set_option maxHeartbeats 1000000
attribute [local irreducible] AtS AtV AtC AtG FinA Spec Post LP G.At G.WP G.WL pt own fro rdl ro hx mp lrec elt sub

open Go.AM.G.Set
section
variable {p q:Option Addr} {c d:Nat} {l m:List Int}
/-- What is in one of both, on the way: a row that rises, of what was gone through, below what comes. -/
structure OrI (l m o:List Int) (i j:Nat):Prop where
 hi:i≤l.length
 hj:j≤m.length
 hs:o.Pairwise (fun a b=>a < b)
 hl:∀ x ∈ o,∀ k (h:k < l.length),i≤k→x < l[k]
 hm:∀ x ∈ o,∀ k (h:k < m.length),j≤k→x < m[k]
 he:∀ x,x ∈ o ↔ x ∈ l.take i∨x ∈ m.take j
theorem pw_at {l:List Int} (hs:l.Pairwise (fun a b=>a < b)) {a b:Nat} (ha:a < l.length) (hb:b < l.length) (h:a < b):l[a] < l[b]:=List.pairwise_iff_getElem.1 hs a b ha hb h
theorem pw_snoc {o:List Int} {x:Int} (h:o.Pairwise (fun a b=>a < b)) (hx:∀ y ∈ o,y < x):(o++[x]).Pairwise (fun a b=>a < b) :=
 List.pairwise_append.2 ⟨h,List.pairwise_singleton _ _,fun a ha b hb=>by rw [List.mem_singleton.1 hb];exact hx a ha⟩
theorem OrI.more {o:List Int} {i j:Nat} (h:OrI l m o i j) (sl:l.Pairwise (fun a b=>a < b)) (sm:m.Pairwise (fun a b=>a < b)) (hi:i < l.length) (hj:j < m.length) (q:m[j] < l[i]):OrI l m (o++[m[j]]) i (j + 1):=by
 refine ⟨h.hi,hj,pw_snoc h.hs fun y hy=>h.hm y hy j hj (Nat.le_refl _),fun x hx k hk hik=>?_,fun x hx k hk hjk=>?_,fun x=>?_⟩
 ·rcases List.mem_append.1 hx with hx|hx
  ·exact h.hl x hx k hk hik
  ·rw [List.mem_singleton.1 hx]
   rcases Nat.lt_or_ge i k with r|r
   ·have:=pw_at sl hi hk r;omega
   ·have:k=i:=by omega
    subst this;exact q
 ·rcases List.mem_append.1 hx with hx|hx
  ·exact h.hm x hx k hk (by omega)
  ·rw [List.mem_singleton.1 hx];exact pw_at sm hj hk (by omega)
 ·rw [List.mem_append,h.he,List.take_succ_eq_append_getElem hj,List.mem_append,or_assoc]
theorem OrI.same {o:List Int} {i j:Nat} (h:OrI l m o i j) (sl:l.Pairwise (fun a b=>a < b)) (sm:m.Pairwise (fun a b=>a < b)) (hi:i < l.length) (hj:j < m.length) (q:l[i]=m[j]):OrI l m (o++[l[i]]) (i + 1) (j + 1):=by
 refine ⟨hi,hj,pw_snoc h.hs fun y hy=>h.hl y hy i hi (Nat.le_refl _),fun x hx k hk hik=>?_,fun x hx k hk hjk=>?_,fun x=>?_⟩
 ·rcases List.mem_append.1 hx with hx|hx
  ·exact h.hl x hx k hk (by omega)
  ·rw [List.mem_singleton.1 hx];exact pw_at sl hi hk (by omega)
 ·rcases List.mem_append.1 hx with hx|hx
  ·exact h.hm x hx k hk (by omega)
  ·rw [List.mem_singleton.1 hx,q];exact pw_at sm hj hk (by omega)
 ·rw [List.mem_append,h.he,List.take_succ_eq_append_getElem hi,List.take_succ_eq_append_getElem hj,List.mem_append,List.mem_append,← q]
  constructor
  ·rintro ((a|a)|a)
   ·exact .inl (.inl a)
   ·exact .inr (.inl a)
   ·exact .inl (.inr a)
  ·rintro ((a|a)|(a|a))
   ·exact .inl (.inl a)
   ·exact .inr a
   ·exact .inl (.inr a)
   ·exact .inr a
theorem pw_drop {l:List Int} (h:l.Pairwise (fun a b=>a < b)) (i:Nat):(l.drop i).Pairwise (fun a b=>a < b):=h.sublist (List.drop_sublist _ _)
theorem mem_dropI {l:List Int} {i:Nat} {x:Int} (h:x ∈ l.drop i):∃ k,∃ hk:k < l.length,i≤k∧l[k]=x:=by
 obtain ⟨k,hk,e⟩:=List.mem_iff_getElem.1 h
 rw [List.length_drop] at hk
 rw [List.getElem_drop] at e
 exact ⟨i + k,by omega,by omega,e⟩
theorem OrI.fin {o:List Int} {i j:Nat} (h:OrI l m o i j) (sl:l.Pairwise (fun a b=>a < b)) (sm:m.Pairwise (fun a b=>a < b)) (e:i=l.length∨j=m.length):(o++l.drop i++m.drop j).Pairwise (fun a b=>a < b)∧∀ x,x ∈ o++l.drop i++m.drop j ↔ x ∈ l∨x ∈ m:=by
 constructor
 ·refine List.pairwise_append.2 ⟨List.pairwise_append.2 ⟨h.hs,pw_drop sl i,fun a ha b hb=>?_⟩,pw_drop sm j,fun a ha b hb=>?_⟩
  ·obtain ⟨k,hk,hik,rfl⟩:=mem_dropI hb
   exact h.hl a ha k hk hik
  ·obtain ⟨k,hk,hjk,rfl⟩:=mem_dropI hb
   rcases List.mem_append.1 ha with ha|ha
   ·exact h.hm a ha k hk hjk
   ·rcases e with e|e
    ·rw [e,List.drop_length] at ha;cases ha
    ·omega
 ·intro x
  rw [List.mem_append,List.mem_append,h.he]
  conv=>rhs;rw [← List.take_append_drop i l,← List.take_append_drop j m,List.mem_append,List.mem_append]
  constructor
  ·rintro (((a|a)|a)|a)
   ·exact .inl (.inl a)
   ·exact .inr (.inl a)
   ·exact .inl (.inr a)
   ·exact .inr (.inr a)
  ·rintro ((a|a)|(a|a))
   ·exact .inl (.inl (.inl a))
   ·exact .inl (.inr a)
   ·exact .inl (.inl (.inr a))
   ·exact .inr a
end
end Go.AMS

namespace Go.AMS
open Go.AM hiding Kt At WP WL Runs RunsY
open Go.AM.G
set_option linter.unusedVariables false
set_option linter.unusedSimpArgs false
set_option linter.unusedSectionVars false
set_option maxRecDepth 100000
set_option maxHeartbeats 1000000
attribute [local irreducible] AtS AtV AtC AtG FinA Spec Post LP G.At G.WP G.WL pt own fro rdl ro hx mp lrec elt sub

open Go.AM.G.Set
section
variable {α κ:Type} [DecidableEq κ] {K:Kind α} {k:κ} {Z:List (LE κ α)} {Γ F:List HP}
def froE (K:Kind α) (q:LE κ α):HP:=fro K q.2.2.1 q.2.2.2 q.2.1
theorem at_freezeM {prog:AProg} {rr:Option Nat} {e:Env} {Q:Pst} {kk:List Kt} {n:Nat} {d:Bool} {r:List AI}:∀ (Z:List (LE κ α)) (F:List HP),AtS n prog rr (.o d r::kk) .norm e (Z.map (froE K)++F) Q→AtS n prog rr (.o d r::kk) .norm e (Z.map (ownE K)++F) Q
 | [],F,w=>w
 | q::Z,F,w=>by
  refine at_freezeO (K:=K) (p:=q.2.2.1) (c:=q.2.2.2) (l:=q.2.1) (F:=Z.map (ownE K)++F) ?_ Ent.here
  refine at_ent ent_back ?_
  refine at_freezeM Z _ ?_
  exact at_ent ent_mid w
theorem at_freezeA {prog:AProg} {rr:Option Nat} {e:Env} {Q:Pst} {kk:List Kt} {n:Nat} {d:Bool} {r:List AI} (w:AtS n prog rr (.o d r::kk) .norm e (alls (froE K) Z::F) Q):AtS n prog rr (.o d r::kk) .norm e (alls (ownE K) Z::F) Q:=by
 refine at_ent alls_open ?_
 refine at_freezeM Z F ?_
 exact at_ent alls_close w
/-- A map of frozen lists. -/
def mapF (r:Nat) (enc:κ→Value) (K:Kind α) (f:List (κ × List α)):HP:=hx fun (Z:List (LE κ α))=>(fst2 Z=f,[mp r (amap enc slV Z),alls (froE K) Z])
end
end Go.AMS

namespace Go.AMS
open Go.AM hiding Kt At WP WL Runs RunsY
open Go.AM.G
set_option linter.unusedVariables false
set_option linter.unusedSimpArgs false
set_option linter.unusedSectionVars false
set_option maxRecDepth 100000
set_option maxHeartbeats 1000000
attribute [local irreducible] AtS AtV AtC AtG FinA Spec Post LP G.At G.WP G.WL pt own fro rdl ro hx mp lrec elt sub

open Go.AM.G.Set
section
variable {h:List HTx} {T:Tb} {r:HRd} {p q p1 p2:Option Addr} {c d c1 c2 b mr mt:Nat}
abbrev TC:=((Option Addr × Nat) × (Option Addr × Nat)) × (Nat × Nat)
/-- A table, but for its reads and appends of keys. -/
def tabC (b:Nat) (T:Tb) (mr mt:Nat):HP:=hx fun (x:TC)=>(True,[pt b [.bool true,.slice x.1.1.1 T.ids.length x.1.1.2,.slice x.1.2.1 T.keys.length x.1.2.2,.map (some x.2.1),.map (some x.2.2),.map (some mr),.map (some mt)] 0,own (kInt .i64) x.1.1.1 x.1.1.2 T.ids,own (kInt .i64) x.1.2.1 x.1.2.2 T.keys,mp x.2.1 (amap kII wrV T.wr),mapL x.2.2 kII (kInt .i64) T.ap])
instance low_tabC:Low (tabC b T mr mt):=low_hx fun _=>inferInstance
end
end Go.AMS

namespace Go.AMS
open Go.AM hiding Kt At WP WL Runs RunsY
open Go.AM.G
set_option linter.unusedVariables false
set_option linter.unusedSimpArgs false
set_option linter.unusedSectionVars false
set_option maxRecDepth 100000
set_option maxHeartbeats 1000000
attribute [local irreducible] AtS AtV AtC AtG FinA Spec Post LP G.At G.WP G.WL pt own fro rdl ro hx mp lrec elt sub

open Go.AM.G.Set
section
variable {h:List HTx} {T:Tb} {p q p1 p2:Option Addr} {c d c1 c2 b mr mt:Nat}
theorem at_tabC {prog:AProg} {rr:Option Nat} {e:Env} {Q:Pst} {kk:List Kt} {n:Nat} {d:Bool} {r:List AI} {F:List HP} (w:∀ mr mt,AtS n prog rr (.o d r::kk) .norm e (tabC b T mr mt::mapF mr kI kHRd T.rd::mapL mt kI kHWr T.wt::F) Q):AtS n prog rr (.o d r::kk) .norm e (tab b T::F) Q:=by
 refine at_openP (tab b T) rfl ?_
 rintro ⟨⟨⟨pi,ci⟩,⟨pk,ck⟩⟩,⟨mw,ma,mr,mt⟩⟩ -
 dsimp only [List.cons_append,List.nil_append]
 refine at_openP (mapL mr kI kHRd T.rd) rfl ?_
 rintro Z hZ
 dsimp only [List.cons_append,List.nil_append]
 refine at_ent (Δ:=alls (ownE kHRd) Z::mp mr (amap kI slV Z)::_) (by repeat first|exact Ent.refl _|(apply Ent.more;· repeat first|exact Ent.keep|exact Ent.here|exact Ent.lend|exact ent_nil|apply Ent.there)|apply Ent.drop) ?_
 refine at_freezeA ?_
 refine at_foldP (mapF mr kI kHRd T.rd) rfl Z hZ ?_
 refine at_foldP (tabC b T mr mt) rfl (((pi,ci),(pk,ck)),(mw,ma)) trivial ?_
 exact w mr mt
end
end Go.AMS

namespace Go.AMS
open Go.AM hiding Kt At WP WL Runs RunsY
open Go.AM.G
set_option linter.unusedVariables false
set_option linter.unusedSimpArgs false
set_option linter.unusedSectionVars false
set_option maxRecDepth 100000
set_option maxHeartbeats 1000000
attribute [local irreducible] AtS AtV AtC AtG FinA Spec Post LP G.At G.WP G.WL pt own fro rdl ro hx mp lrec elt sub

open Go.AM.G.Set
section
variable {h:List HTx} {r:HRd} {p p1 p2 p3:Option Addr} {c c1 c2 c3:Nat}
theorem filter_next {α:Type} {q:α→Bool} {l:List α} {i:Nat} (hi:i < l.length):(l.take (i + 1)).filter q=(l.take i).filter q++if q l[i]=true then [l[i]] else []:=by
 rw [List.take_succ_eq_append_getElem hi,List.filter_append]
 cases h:q l[i] <;> simp [h]
end
end Go.AMS

namespace Go.AMS
open Go.AM hiding Kt At WP WL Runs RunsY
open Go.AM.G
set_option linter.unusedVariables false
set_option linter.unusedSimpArgs false
set_option linter.unusedSectionVars false
set_option maxRecDepth 100000
set_option maxHeartbeats 1000000
attribute [local irreducible] AtS AtV AtC AtG FinA Spec Post LP G.At G.WP G.WL pt own fro rdl ro hx mp lrec elt sub

open Go.AM.G.Set
section
variable {h:List HTx} {T:Tb} {r:HRd} {p q p1 p2:Option Addr} {c d c1 c2 b mr mt:Nat}
theorem table_Table_Writer_specR {x y:Int}:Spec prog1 n_table_Table_Writer [.pointer (some ⟨b,0,none⟩),.int .i64 x,.int .i64 y] [ro (tabC b T mr mt)] (fun R=>R (wrO (aget (x,y) T.wr)) []):=by
 refine spec_code c_table_Table_Writer rfl ?_;intro n F R hR;unfold F_table_Table_Writer
 refine at_openRP (tabC b T mr mt) rfl ?_
 rintro ⟨⟨⟨pi,ci⟩,⟨pk,ck⟩⟩,⟨mw,ma⟩⟩ -
 try dsimp only [List.cons_append,List.nil_append]
 repeat' first|apply step|(apply g_op;·repeat first|exact Evs.nil|(apply Evs.cons;exact rfl))|refine Fa.mk fun _=>?_
 refine at_callR (table_Table_is_spec) ?_
 repeat' first|apply step|(apply g_op;·repeat first|exact Evs.nil|(apply Evs.cons;exact rfl))|apply Lw.go|refine g_cond ?_
 cases hq:aget (x,y) T.wr with
 | some w =>
  rw [hq] at hR
  refine av_look1 (enc:=kII) (vv:=wrV) (key:=(x,y)) inferInstance hq ?_
  repeat' first|apply step|(apply g_op;·repeat first|exact Evs.nil|(apply Evs.cons;exact rfl))|refine Fa.mk fun _=>?_|refine g_keep ?_|refine g_fin ?_
  exact fin hR
 | none =>
  rw [hq] at hR
  refine av_look0 (enc:=kII) (vv:=wrV) (key:=(x,y)) inferInstance hq ?_
  repeat' first|apply step|(apply g_op;·repeat first|exact Evs.nil|(apply Evs.cons;exact rfl))|refine Fa.mk fun _=>?_|refine g_keep ?_|refine g_fin ?_
  exact fin hR
end
end Go.AMS

namespace Go.AMS
open Go.AM hiding Kt At WP WL Runs RunsY
open Go.AM.G
set_option linter.unusedVariables false
set_option linter.unusedSimpArgs false
set_option linter.unusedSectionVars false
set_option maxRecDepth 100000
set_option maxHeartbeats 1000000
attribute [local irreducible] AtS AtV AtC AtG FinA Spec Post LP G.At G.WP G.WL pt own fro rdl ro hx mp lrec elt sub

open Go.AM.G.Set
section
variable {h:List HTx} {T:Tb} {r:HRd} {p q p1 p2 p3:Option Addr} {c d c1 c2 c3 b mr mt tb rb:Nat}
/-- Whether a value is an aborted transaction's. -/
def abW (W:Wf) (x:Int):Bool:=match W x with
 | some w=>w.ab
 | none=>false
def cleanL (W:Wf) (l:List Int):List Int:=l.filter fun x=>!abW W x
theorem order_Clean_c1_spec {x:Int}:Spec prog1 n_order_Clean_c1 [.int .i64 x,.pointer (some ⟨tb,0,none⟩),.pointer (some ⟨rb,0,none⟩)] [ro (pt tb [.pointer (some ⟨b,0,none⟩)] 0),ro (pt rb [.int .i64 r.txn,.int .i64 r.op,.int .i64 r.key,.slice p1 r.list.length c1,.slice p2 r.own.length c2] 0),ro (tabC b T mr mt)] (fun R=>R (.bool (abW (wK T r.key) x)) []):=by
 refine spec_code c_order_Clean_c1 rfl ?_;intro n F R hR;unfold F_order_Clean_c1
 repeat' first|apply step|(apply g_op;·repeat first|exact Evs.nil|(apply Evs.cons;exact rfl))
 refine at_callR (table_Table_Writer_specR (T:=T) (mr:=mr) (mt:=mt) (x:=r.key) (y:=x)) ?_
 rw [show aget (r.key,x) T.wr=wK T r.key x from rfl]
 unfold abW at hR
 cases hw:wK T r.key x with
 | none =>
  rw [hw] at hR
  unfold wrO
  repeat' first|apply step|(apply g_op;·repeat first|exact Evs.nil|(apply Evs.cons;exact rfl))|refine Fa.mk fun _=>?_|apply Lw.go|refine g_keep ?_|refine g_fin ?_
  exact fin hR
 | some w =>
  rw [hw] at hR
  unfold wrO
  repeat' first|apply step|(apply g_op;·repeat first|exact Evs.nil|(apply Evs.cons;exact rfl))|refine Fa.mk fun _=>?_|apply Lw.go|refine g_keep ?_|refine g_fin ?_
  exact fin hR
theorem slices_IndexFunc_Clean_spec {l:List Int} (hl:l.length≤1000):Spec prog1 n_slices_IndexFunc_int_int [.slice p l.length c,.func (.func n_order_Clean_c1) #[] #[.pointer (some ⟨tb,0,none⟩),.pointer (some ⟨rb,0,none⟩)]] [rdl (kInt .i64) p l,ro (pt tb [.pointer (some ⟨b,0,none⟩)] 0),ro (pt rb [.int .i64 r.txn,.int .i64 r.op,.int .i64 r.key,.slice p1 r.list.length c1,.slice p2 r.own.length c2] 0),ro (tabC b T mr mt)] (fun R=>(∀ k (hk:k < l.length),abW (wK T r.key) l[k]=true→(∀ i (hi:i < l.length),i < k→abW (wK T r.key) l[i]=false)→R (.int .i64 (k:Int)) [])∧((∀ i (hi:i < l.length),abW (wK T r.key) l[i]=false)→R (.int .i64 (-1)) [])):=by
 refine spec_code c_slices_IndexFunc_int_int rfl ?_;intro n F R hR;unfold F_slices_IndexFunc_int_int
 obtain ⟨hR1,hR2⟩:=hR
 repeat' first|apply step|(apply g_op;·repeat first|exact Evs.nil|(apply Evs.cons;exact rfl))|refine g_keep ?_
 refine at_loopS (ι:=Nat) (E:=fun j=>[(0,.slice p l.length c),(1,.func (.func n_order_Clean_c1) #[] #[.pointer (some ⟨tb,0,none⟩),.pointer (some ⟨rb,0,none⟩)]),(7,.int .i64 (l.length:Int)),(8,.int .i64 (j:Int))]) (Δ:=fun j=>rdl (kInt .i64) p l::ro (pt tb [.pointer (some ⟨b,0,none⟩)] 0)::ro (pt rb [.int .i64 r.txn,.int .i64 r.op,.int .i64 r.key,.slice p1 r.list.length c1,.slice p2 r.own.length c2] 0)::ro (tabC b T mr mt)::F) (P:=fun j=>j≤l.length∧∀ i (hi:i < l.length),i < j→abW (wK T r.key) l[i]=false) (μ:=fun j=>l.length - j) 0 ⟨Nat.zero_le _,fun _ _ q=>absurd q (Nat.not_lt_zero _)⟩ ?_
 rintro j ⟨hj,hne⟩
 try dsimp only
 rcases Nat.lt_or_ge j l.length with hlt|hge
 ·repeat' first|apply step|(apply g_op;·repeat first|exact Evs.nil|(apply Evs.cons;exact rfl))|(refine Br.mk (fun _=>?_) (fun _=>?_)<;>try (exfalso;omega))|(refine Sd.mk ?_ ?_;·((repeat' apply And.intro)<;>first|omega|trivial|assumption|(simp;done)|(simp;omega)))|(refine Sx.mk ?_ ?_;·omega)|refine Im.mk fun _=>?_|refine g_cond ?_
  refine at_callR (order_Clean_c1_spec (T:=T) (r:=r) (b:=b) (mr:=mr) (mt:=mt) (tb:=tb) (rb:=rb) (p1:=p1) (c1:=c1) (p2:=p2) (c2:=c2) (x:=l[j])) ?_
  cases hab:abW (wK T r.key) l[j] with
  | true =>
   repeat' first|apply step|(apply g_op;·repeat first|exact Evs.nil|(apply Evs.cons;exact rfl))|apply Lw.go|refine g_cond ?_|refine g_fin ?_
   exact fin (hR1 j hlt hab hne)
  | false =>
   repeat' first|apply step|(apply g_op;·repeat first|exact Evs.nil|(apply Evs.cons;exact rfl))|(refine Sd.mk ?_ ?_;·((repeat' apply And.intro)<;>first|omega|trivial|assumption|(simp;done)|(simp;omega)))|apply Lw.go|refine g_cond ?_|refine g_keep ?_
   exact lp_next (j + 1) ⟨by omega,fun i hi hij=>(Nat.lt_or_ge i j).elim (fun q=>hne i hi q) (fun q=>by have e:i=j:=(by omega);subst e;exact hab)⟩ (by omega)
 ·repeat' first|apply step|(apply g_op;·repeat first|exact Evs.nil|(apply Evs.cons;exact rfl))|(refine Br.mk (fun _=>?_) (fun _=>?_)<;>try (exfalso;omega))|refine g_cond ?_|refine g_keep ?_|refine g_fin ?_
  exact fin (hR2 fun i hi=>hne i hi (by omega))
theorem set_take {α:Type} {l:List α} {i:Nat} {v:α} (hi:i < l.length):(l.set i v).take (i + 1)=l.take i++[v]:=by
 rw [List.take_succ_eq_append_getElem (by rw [List.length_set];exact hi),List.take_set_of_le (Nat.le_refl _),List.getElem_set_self]
theorem set_drop {α:Type} {l:List α} {i j:Nat} {v:α} (hi:i < j):(l.set i v).drop j=l.drop j:=List.drop_set_of_lt hi
theorem filter_all {α:Type} {g:α→Bool} {l:List α} (h:∀ i (hi:i < l.length),g l[i]=true):l.filter g=l:=List.filter_eq_self.2 fun x hx=>by
 obtain ⟨i,hi,rfl⟩:=List.getElem_of_mem hx
 exact h i hi
theorem slices_DeleteFunc_Clean_spec {l:List Int} (hl:l.length≤1000):Spec prog1 n_slices_DeleteFunc_int_int [.slice p l.length c,.func (.func n_order_Clean_c1) #[] #[.pointer (some ⟨tb,0,none⟩),.pointer (some ⟨rb,0,none⟩)]] [own (kInt .i64) p c l,pt tb [.pointer (some ⟨b,0,none⟩)] 0,pt rb [.int .i64 r.txn,.int .i64 r.op,.int .i64 r.key,.slice p1 r.list.length c1,.slice p2 r.own.length c2] 0,ro (tabC b T mr mt)] (fun R=>(cleanL (wK T r.key) l=l→R (.slice p l.length c) [own (kInt .i64) p c l])∧∀ cur n,n≤cur.length→cur.take n=cleanL (wK T r.key) l→R (.slice p n n) [own (kInt .i64) p c cur]):=by
 refine spec_code c_slices_DeleteFunc_int_int rfl ?_;intro n F R hR;unfold F_slices_DeleteFunc_int_int
 obtain ⟨hR1,hR2⟩:=hR
 repeat' first|apply step|(apply g_op;·repeat first|exact Evs.nil|(apply Evs.cons;exact rfl))
 refine at_callR (slices_IndexFunc_Clean_spec (T:=T) (r:=r) (b:=b) (mr:=mr) (mt:=mt) (tb:=tb) (rb:=rb) (p1:=p1) (c1:=c1) (p2:=p2) (c2:=c2) (l:=l) hl) ?_
 refine ⟨fun k hk hab hne=>?_,fun hne=>?_⟩
 ·repeat' first|apply step|(apply g_op;·repeat first|exact Evs.nil|(apply Evs.cons;exact rfl))|(refine Br.mk (fun _=>?_) (fun _=>?_)<;>try (exfalso;omega))|(refine Sd.mk ?_ ?_;·((repeat' apply And.intro)<;>first|omega|trivial|assumption|(simp;done)|(simp;omega)))|apply Lw.go|refine g_cond ?_|refine g_keep ?_
  have hinit:l.take k=(l.take (k + 1)).filter fun x=>!abW (wK T r.key) x:=by
   have h1:(l.take k).filter (fun x=>!abW (wK T r.key) x)=l.take k:=filter_all fun i hi=>by
    rw [List.length_take] at hi
    rw [List.getElem_take,hne i (by omega) (by omega)];rfl
   rw [List.take_succ_eq_append_getElem hk,List.filter_append,h1]
   simp [hab]
  refine at_loopS (ι:=Nat × Nat × List Int) (E:=fun z=>[(0,.slice p l.length c),(1,.func (.func n_order_Clean_c1) #[] #[.pointer (some ⟨tb,0,none⟩),.pointer (some ⟨rb,0,none⟩)]),(5,.int .i64 (z.2.1:Int)),(6,.int .i64 (z.1:Int))]) (Δ:=fun z=>own (kInt .i64) p c z.2.2::pt tb [.pointer (some ⟨b,0,none⟩)] 0::pt rb [.int .i64 r.txn,.int .i64 r.op,.int .i64 r.key,.slice p1 r.list.length c1,.slice p2 r.own.length c2] 0::ro (tabC b T mr mt)::F) (P:=fun z=>z.1≤l.length∧z.2.1 < z.1∧z.2.2.length=l.length∧z.2.2.take z.2.1=(l.take z.1).filter (fun x=>!abW (wK T r.key) x)∧z.2.2.drop z.1=l.drop z.1) (μ:=fun z=>l.length - z.1) (k + 1,k,l) ⟨by dsimp only;omega,by dsimp only;omega,rfl,hinit,rfl⟩ ?_
  rintro ⟨j,i,cur⟩ ⟨hj,hij,hcl,hct,hcd⟩
  dsimp only at hj hij hcl hct hcd ⊢
  rcases Nat.lt_or_ge j l.length with hlt|hge
  ·have hjc:j < cur.length:=by omega
   have hcj:cur[j]=l[j]:=by
    rw [List.drop_eq_getElem_cons hjc,List.drop_eq_getElem_cons hlt] at hcd
    exact (List.cons.inj hcd).1
   have hcd2:cur.drop (j + 1)=l.drop (j + 1):=by
    rw [List.drop_eq_getElem_cons hjc,List.drop_eq_getElem_cons hlt] at hcd
    exact (List.cons.inj hcd).2
   have hnx:=filter_next (q:=fun x=>!abW (wK T r.key) x) hlt
   repeat' first|apply step|(apply g_op;·repeat first|exact Evs.nil|(apply Evs.cons;exact rfl))|(refine Br.mk (fun _=>?_) (fun _=>?_)<;>try (exfalso;omega))|(refine Sd.mk ?_ ?_;·((repeat' apply And.intro)<;>first|omega|trivial|assumption|(simp;done)|(simp;omega)))|(refine Sx.mk ?_ ?_;·omega)|refine Im.mk fun _=>?_|refine g_cond ?_
   refine at_callR (order_Clean_c1_spec (T:=T) (r:=r) (b:=b) (mr:=mr) (mt:=mt) (tb:=tb) (rb:=rb) (p1:=p1) (c1:=c1) (p2:=p2) (c2:=c2) (x:=cur[j])) ?_
   rw [hcj]
   cases hab:abW (wK T r.key) l[j] with
   | true =>
    rw [hab] at hnx
    repeat' first|apply step|(apply g_op;·repeat first|exact Evs.nil|(apply Evs.cons;exact rfl))|(refine Sd.mk ?_ ?_;·((repeat' apply And.intro)<;>first|omega|trivial|assumption|(simp;done)|(simp;omega)))|apply Lw.go|refine g_cond ?_|refine g_keep ?_
    exact lp_next (j + 1,i,cur) ⟨by dsimp only;omega,by dsimp only;omega,hcl,by dsimp only;rw [hnx,hct];simp,hcd2⟩ (by dsimp only;omega)
   | false =>
    rw [hab] at hnx
    repeat' first|apply step|(apply g_op;·repeat first|exact Evs.nil|(apply Evs.cons;exact rfl))|(refine Sd.mk ?_ ?_;·((repeat' apply And.intro)<;>first|omega|trivial|assumption|(simp;done)|(simp;omega)))|apply Lw.go|refine g_cond ?_|refine g_keep ?_
    exact lp_next (j + 1,i + 1,cur.set i l[j]) ⟨by dsimp only;omega,by dsimp only;omega,by dsimp only;rw [List.length_set];exact hcl,by dsimp only;rw [set_take (by omega),hnx,hct];simp,by dsimp only;rw [set_drop (by omega)];exact hcd2⟩ (by dsimp only;omega)
  ·rw [List.take_of_length_le hge] at hct
   rw [← hcl]
   repeat' first|apply step|(apply g_op;·repeat first|exact Evs.nil|(apply Evs.cons;exact rfl))|(refine Br.mk (fun _=>?_) (fun _=>?_)<;>try (exfalso;omega))|(refine Sd.mk ?_ ?_;·((repeat' apply And.intro)<;>first|omega|trivial|assumption|(simp;done)|(simp;omega)))|refine g_cond ?_|refine g_keep ?_|refine g_fin ?_
   refine fin (hR2 (cur.take i++List.replicate (cur.length - i) 0++cur.drop (i + (cur.length - i))) i (by rw [List.length_append,List.length_append,List.length_take,List.length_replicate,List.length_drop];omega) ?_)
   rw [List.append_assoc,List.take_append_of_le_length (by rw [List.length_take];omega),List.take_take,Nat.min_self]
   exact hct
 ·repeat' first|apply step|(apply g_op;·repeat first|exact Evs.nil|(apply Evs.cons;exact rfl))|(refine Br.mk (fun _=>?_) (fun _=>?_)<;>try (exfalso;omega))|apply Lw.go|refine g_cond ?_|refine g_fin ?_
  exact fin (hR1 (filter_all fun i hi=>by rw [hne i hi];rfl))
end
end Go.AMS

namespace Go.AMS
open Go.AM hiding Kt At WP WL Runs RunsY
open Go.AM.G
set_option linter.unusedVariables false
set_option linter.unusedSimpArgs false
set_option linter.unusedSectionVars false
set_option maxRecDepth 100000
set_option maxHeartbeats 1000000
attribute [local irreducible] AtS AtV AtC AtG FinA Spec Post LP G.At G.WP G.WL pt own fro rdl ro hx mp lrec elt sub

open Go.AM.G.Set
section
variable {h:List HTx} {T:Tb} {r:HRd} {p q p1 p2 p3:Option Addr} {c d c1 c2 c3 b mr mt tb rb:Nat}
theorem cleanL_len (W:Wf) (l:List Int):(cleanL W l).length≤l.length:=List.length_filter_le _ _
theorem order_Clean_spec (h1:r.list.length≤1000):Spec prog1 n_order_Clean [.pointer (some ⟨b,0,none⟩),.agg #[.int .i64 r.txn,.int .i64 r.op,.int .i64 r.key,.slice p1 r.list.length c1,.slice p2 r.own.length c2]] [ro (tabC b T mr mt),fro (kInt .i64) p1 c1 r.list] (fun R=>∀ p' c',R (.slice p' (cleanL (wK T r.key) r.list).length c') [fro (kInt .i64) p' c' (cleanL (wK T r.key) r.list)]):=by
 refine spec_code c_order_Clean rfl ?_;intro n F R hR;unfold F_order_Clean
 repeat' first|apply step|(apply g_op;·repeat first|exact Evs.nil|(apply Evs.cons;exact rfl))|refine Fa.mk fun _=>?_
 rename_i tb rb
 refine at_callR (slices_Clone_int_int_spec (l:=r.list) (by omega)) ?_
 intro p3 c3
 repeat' first|apply step|(apply g_op;·repeat first|exact Evs.nil|(apply Evs.cons;exact rfl))|apply Lw.go
 refine at_callS (slices_DeleteFunc_Clean_spec (T:=T) (r:=r) (b:=b) (mr:=mr) (mt:=mt) (tb:=tb) (rb:=rb) (p1:=p1) (c1:=c1) (p2:=p2) (c2:=c2) (l:=r.list) h1) ?_
 refine ⟨fun he=>?_,fun cur n1 hn hc=>?_⟩
 ·rw [he] at hR
  refine at_freezeO ?_
  repeat' first|apply step|(apply g_op;·repeat first|exact Evs.nil|(apply Evs.cons;exact rfl))|refine g_fin ?_
  exact fin (hR _ _)
 ·rw [← hc,List.length_take_of_le hn] at hR
  refine at_freezeO ?_
  refine at_via (fro_head (K:=kInt .i64) (p:=p3) (c:=c3) (l:=cur) (i:=n1) hn) ?_
  repeat' first|apply step|(apply g_op;·repeat first|exact Evs.nil|(apply Evs.cons;exact rfl))|refine g_fin ?_
  exact fin (hR _ _)
theorem r16_Clean_spec (hf:FewH h 20 60) (hk:OkH h) (h1:r.list.length≤1000):Spec prog1 n_r16_Clean [.agg #[.slice p h.length c],.agg #[.int .i64 r.txn,.int .i64 r.op,.int .i64 r.key,.slice p1 r.list.length c1,.slice p2 r.own.length c2]] [fro kHTx p c h,fro (kInt .i64) p1 c1 r.list] (fun R=>∀ p' c',R (.slice p' (cleanL (wK (TH h) r.key) r.list).length c') [own (kInt .i64) p' c' (cleanL (wK (TH h) r.key) r.list)]):=by
 refine spec_code c_r16_Clean rfl ?_;intro n F R hR;unfold F_r16_Clean
 have hwr:∀ x,Spec prog1 n_r12_Writer [.agg #[.slice p h.length c],.int .i64 r.key,.int .i64 x] [fro kHTx p c h] (fun R=>R (wrO (wK (TH h) r.key x)) []):=fun x=>r12W_spec hf hk
 generalize wK (TH h) r.key=W at hR hwr
 generalize hl:r.list=l at hR h1 ⊢
 repeat' first|apply step|(apply g_op;·repeat first|exact Evs.nil|(apply Evs.cons;exact rfl))|refine Fa.mk fun _=>?_|refine g_keep ?_
 rename_i hb rb
 refine at_loopS (ι:=Nat × (Option Addr × Nat)) (E:=fun z=>[(2,.pointer (some ⟨hb,0,none⟩)),(3,.pointer (some ⟨rb,0,none⟩)),(5,.slice z.2.1 (cleanL W (l.take z.1)).length z.2.2),(6,.int .i64 (z.1:Int))]) (Δ:=fun z=>own (kInt .i64) z.2.1 z.2.2 (cleanL W (l.take z.1))::pt rb [.int .i64 r.txn,.int .i64 r.op,.int .i64 r.key,.slice p1 l.length c1,.slice p2 r.own.length c2] 0::pt hb [.slice p h.length c] 0::fro kHTx p c h::fro (kInt .i64) p1 c1 l::F) (P:=fun z=>z.1≤l.length) (μ:=fun z=>l.length - z.1) (0,(none,0)) (Nat.zero_le _) ?_
 rintro ⟨k,p3,c3⟩ hk1
 dsimp only at hk1 ⊢
 have hO:(cleanL W (l.take k)).length≤1000:=Nat.le_trans (cleanL_len _ _) (by rw [List.length_take];omega)
 rcases Nat.lt_or_ge k l.length with hlt|hge
 ·have hn1:abW W l[k]=false→cleanL W (l.take (k + 1))=cleanL W (l.take k)++[l[k]]:=fun e=>by
   have:=filter_next (q:=fun x=>!abW W x) hlt
   rw [if_pos (by rw [e];rfl)] at this
   exact this
  have hn2:abW W l[k]=true→cleanL W (l.take (k + 1))=cleanL W (l.take k):=fun e=>by
   have:=filter_next (q:=fun x=>!abW W x) hlt
   rw [if_neg (by rw [e];decide),List.append_nil] at this
   exact this
  have hrj:=hwr l[k]
  generalize cleanL W (l.take k)=O at hn1 hn2 hO ⊢
  repeat' first|apply step|(apply g_op;·repeat first|exact Evs.nil|(apply Evs.cons;exact rfl))|(refine Br.mk (fun _=>?_) (fun _=>?_)<;>try (exfalso;omega))|(refine Sd.mk ?_ ?_;·((repeat' apply And.intro)<;>first|omega|trivial|assumption|(simp;done)|(simp;omega)))|(refine Sx.mk ?_ ?_;·omega)|refine Im.mk fun _=>?_|refine g_cond ?_
  refine at_callR (hrj) ?_
  cases hw:W l[k] with
  | none =>
   have hnx:=hn1 (by unfold abW;rw [hw])
   unfold wrO
   repeat' first|apply step|(apply g_op;·repeat first|exact Evs.nil|(apply Evs.cons;exact rfl))|(refine Sd.mk ?_ ?_;·((repeat' apply And.intro)<;>first|omega|trivial|assumption|(simp;done)|(simp;omega)))|(refine Sx.mk ?_ ?_;·omega)|refine Fa.mk fun _=>?_|refine Im.mk fun _=>?_|apply Lw.go|refine g_cond ?_|refine g_guard ?_|refine g_keep ?_
   exact lp_next (k + 1,_,_) (by dsimp only;omega) (by dsimp only;omega) (by dsimp only;rw [hnx]) (by dsimp only;rw [hnx];repeat first|exact Ent.refl _|(apply Ent.more;· repeat first|exact Ent.keep|exact Ent.here|exact Ent.lend|exact ent_nil|apply Ent.there)|apply Ent.drop)
  | some w =>
   unfold wrO
   cases hb2:w.ab with
   | true =>
    have hnx:=hn2 (by unfold abW;rw [hw];exact hb2)
    repeat' first|apply step|(apply g_op;·repeat first|exact Evs.nil|(apply Evs.cons;exact rfl))|(refine Br.mk (fun _=>?_) (fun _=>?_)<;>try (exfalso;omega))|(refine Sd.mk ?_ ?_;·((repeat' apply And.intro)<;>first|omega|trivial|assumption|(simp;done)|(simp;omega)))|(refine Sx.mk ?_ ?_;·omega)|refine Fa.mk fun _=>?_|refine Im.mk fun _=>?_|apply Lw.go|refine g_cond ?_|refine g_guard ?_|refine g_keep ?_
    all_goals first|exact absurd hb2 (by assumption)|exact absurd (hb2.symm.trans ‹w.ab=true›) (by decide)|exact lp_next (k + 1,_,_) (by dsimp only;omega) (by dsimp only;omega) (by dsimp only;rw [hnx]) (by dsimp only;rw [hnx];repeat first|exact Ent.refl _|(apply Ent.more;· repeat first|exact Ent.keep|exact Ent.here|exact Ent.lend|exact ent_nil|apply Ent.there)|apply Ent.drop)
   | false =>
    have hnx:=hn1 (by unfold abW;rw [hw];exact hb2)
    repeat' first|apply step|(apply g_op;·repeat first|exact Evs.nil|(apply Evs.cons;exact rfl))|(refine Br.mk (fun _=>?_) (fun _=>?_)<;>try (exfalso;omega))|(refine Sd.mk ?_ ?_;·((repeat' apply And.intro)<;>first|omega|trivial|assumption|(simp;done)|(simp;omega)))|(refine Sx.mk ?_ ?_;·omega)|refine Fa.mk fun _=>?_|refine Im.mk fun _=>?_|apply Lw.go|refine g_cond ?_|refine g_guard ?_|refine g_keep ?_
    all_goals first|exact absurd hb2 (by assumption)|exact absurd (hb2.symm.trans ‹w.ab=true›) (by decide)|exact lp_next (k + 1,_,_) (by dsimp only;omega) (by dsimp only;omega) (by dsimp only;rw [hnx]) (by dsimp only;rw [hnx];repeat first|exact Ent.refl _|(apply Ent.more;· repeat first|exact Ent.keep|exact Ent.here|exact Ent.lend|exact ent_nil|apply Ent.there)|apply Ent.drop)
 ·rw [List.take_of_length_le hge]
  repeat' first|apply step|(apply g_op;·repeat first|exact Evs.nil|(apply Evs.cons;exact rfl))|(refine Br.mk (fun _=>?_) (fun _=>?_)<;>try (exfalso;omega))|refine g_cond ?_|refine g_keep ?_|refine g_fin ?_
  exact fin (hR p3 c3)
theorem l16_works_spec:Spec prog1 n_l16_works [] [] (fun R=>R (.bool true) []):=closed_spec c_l16_works
theorem l16_few_spec:Spec prog1 n_l16_few [.agg #[.slice p h.length c]] [fro kHTx p c h] (fun R=>(FewH h 20 60→chkH h=0→R (.bool true) [])∧R (.bool false) []):=by
 refine spec_code c_l16_few rfl ?_;intro n F R hR;unfold F_l16_few
 repeat' first|apply step|(apply g_op;·repeat first|exact Evs.nil|(apply Evs.cons;exact rfl))|refine Fa.mk fun _=>?_
 refine at_callS (r03_Few_spec (h:=h) (a:=20) (b:=60) (by omega) (by omega)) ?_
 refine ⟨fun hf=>?_,?_⟩
 ·repeat' first|apply step|(apply g_op;·repeat first|exact Evs.nil|(apply Evs.cons;exact rfl))|refine g_guard ?_
  refine at_callS (r04_Check_spec hf) ?_
  repeat' first|apply step|(apply g_op;·repeat first|exact Evs.nil|(apply Evs.cons;exact rfl))|(refine Br.mk (fun _=>?_) (fun _=>?_)<;>try (exfalso;omega))|refine g_guard ?_|refine g_keep ?_|refine g_fin ?_
  ·exact fin (hR.1 hf ‹_›)
  ·exact fin hR.2
 ·repeat' first|apply step|(apply g_op;·repeat first|exact Evs.nil|(apply Evs.cons;exact rfl))|refine g_guard ?_|refine g_keep ?_|refine g_fin ?_
  exact fin hR.2
theorem l16_OrderCleans_spec:Spec prog1 n_l16_OrderCleans [.agg #[.slice p h.length c],.agg #[.int .i64 r.txn,.int .i64 r.op,.int .i64 r.key,.slice p1 r.list.length c1,.slice p2 r.own.length c2]] [fro kHTx p c h,fro (kInt .i64) p1 c1 r.list,fro (kInt .i64) p2 c2 r.own] (fun R=>R (.bool true) []):=by
 refine spec_code c_l16_OrderCleans rfl ?_;intro n F R hR;unfold F_l16_OrderCleans
 repeat' first|apply step|(apply g_op;·repeat first|exact Evs.nil|(apply Evs.cons;exact rfl))|refine Fa.mk fun _=>?_
 refine at_callS (l16_few_spec (h:=h)) ?_
 refine ⟨fun hf hc=>?_,?_⟩
 ·by_cases hl1:100 < (r.list.length:Int)
  ·repeat' first|apply step|(apply g_op;·repeat first|exact Evs.nil|(apply Evs.cons;exact rfl))|(refine Br.mk (fun _=>?_) (fun _=>?_)<;>try (exfalso;omega))|refine g_cond ?_|refine g_guard ?_|refine g_keep ?_
   refine at_callS (l16_works_spec) ?_
   repeat' first|apply step|(apply g_op;·repeat first|exact Evs.nil|(apply Evs.cons;exact rfl))|refine g_fin ?_
   exact fin hR
  have hk:=chkH_ok hc
  repeat' first|apply step|(apply g_op;·repeat first|exact Evs.nil|(apply Evs.cons;exact rfl))|(refine Br.mk (fun _=>?_) (fun _=>?_)<;>try (exfalso;omega))|refine g_cond ?_|refine g_guard ?_|refine g_keep ?_
  refine at_callS (table_New_spec hf) ?_
  refine ⟨fun hc2=>absurd hc hc2,fun _ b=>?_⟩
  dsimp only [List.cons_append,List.nil_append]
  rw [show (tabS (sortK HTx.id h)).fin=TH h from rfl]
  refine at_tabC (fun mr mt=>?_)
  have hcl:=cleanL_len (wK (TH h) r.key) r.list
  repeat' first|apply step|(apply g_op;·repeat first|exact Evs.nil|(apply Evs.cons;exact rfl))|(refine Br.mk (fun _=>?_) (fun _=>?_)<;>try (exfalso;omega))|refine g_cond ?_|refine g_guard ?_|refine g_keep ?_
  refine at_callR (order_Clean_spec (T:=TH h) (r:=r) (b:=b) (mr:=mr) (mt:=mt) (by omega)) ?_
  intro p3 c3
  repeat' first|apply step|(apply g_op;·repeat first|exact Evs.nil|(apply Evs.cons;exact rfl))|apply Lw.go
  refine at_callS (r16_Clean_spec (r:=r) hf hk (by omega)) ?_
  intro p4 c4
  repeat' first|apply step|(apply g_op;·repeat first|exact Evs.nil|(apply Evs.cons;exact rfl))
  refine at_callR (r01_Same_spec (a:=cleanL (wK (TH h) r.key) r.list) (b:=cleanL (wK (TH h) r.key) r.list) (by omega)) ?_
  refine ⟨fun _=>?_,fun q=>absurd rfl q⟩
  repeat' first|apply step|(apply g_op;·repeat first|exact Evs.nil|(apply Evs.cons;exact rfl))|apply Lw.go|refine g_guard ?_
  refine at_callS (l16_works_spec) ?_
  repeat' first|apply step|(apply g_op;·repeat first|exact Evs.nil|(apply Evs.cons;exact rfl))|refine g_keep ?_|refine g_fin ?_
  exact fin hR
 ·repeat' first|apply step|(apply g_op;·repeat first|exact Evs.nil|(apply Evs.cons;exact rfl))|refine g_cond ?_|refine g_guard ?_|refine g_keep ?_
  refine at_callS (l16_works_spec) ?_
  repeat' first|apply step|(apply g_op;·repeat first|exact Evs.nil|(apply Evs.cons;exact rfl))|refine g_fin ?_
  exact fin hR
end
end Go.AMS

