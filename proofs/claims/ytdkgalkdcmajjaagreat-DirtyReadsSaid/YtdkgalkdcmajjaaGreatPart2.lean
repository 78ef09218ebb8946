/- What the functions do, part 2. -/
import Derived.Test.YtdkgalkdcmajjaaGreatPart1
import Derived.Test.YtdkgalkdcmajjaaGreatSetLaw
namespace Go.AMS
open Go.AM hiding Kt At WP WL Runs RunsY
open Go.AM.G
set_option linter.unusedVariables false
set_option linter.unusedSimpArgs false
set_option linter.unusedSectionVars false
set_option maxRecDepth 100000
set_option maxHeartbeats 1000000
attribute [local irreducible] AtS AtV AtC AtG FinA Spec Post LP G.At G.WP G.WL pt own fro rdl ro hx mp lrec elt sub

open Go.AM.G.Set
section
variable {b : Nat} {T : Tb} {p q : Option Addr} {c d : Nat}
def wrO : Option HWr → Value
  | some w => .tuple #[wrV w, .bool true]
  | none => .tuple #[zWr, .bool false]
theorem table_Table_Writer_spec {x y : Int} : Spec prog1 n_table_Table_Writer [.pointer (some ⟨b, 0, none⟩), .int .i64 x, .int .i64 y] [tab b T] (fun R => R (wrO (aget (x, y) T.wr)) [tab b T]) := by
  refine spec_code c_table_Table_Writer rfl ?_; intro n F R hR; unfold F_table_Table_Writer
  first | refine at_openP (tab b T) rfl ?_ | refine av_openP (tab b T) rfl ?_
  rintro ⟨⟨⟨pi, ci⟩, ⟨pk, ck⟩⟩, ⟨mw, ma, mr, mt⟩⟩ -
  dsimp only [List.cons_append, List.nil_append]
  repeat' first | apply step | (apply g_op; · repeat first | exact Evs.nil | (apply Evs.cons; exact rfl)) | (refine Br.mk (fun _ => ?_) (fun _ => ?_) <;> try (exfalso; omega)) | (refine Sd.mk ?_ ?_; · ((repeat' apply And.intro) <;> first | omega | trivial | assumption | (simp; done) | (simp; omega))) | (refine Sx.mk ?_ ?_; · omega) | refine Fa.mk (fun _ => ?_) | refine Im.mk (fun _ => ?_) | apply Lw.go | refine g_cond ?_ | refine g_guard ?_ | refine g_keep ?_ | refine g_pass ?_ | refine g_fin ?_ | (apply g_ap; exact rfl; exact rfl; assumption)
  first | refine at_callS (table_Table_is_spec) ?_ | refine at_callR (table_Table_is_spec) ?_
  repeat' first | apply step | (apply g_op; · repeat first | exact Evs.nil | (apply Evs.cons; exact rfl)) | (refine Br.mk (fun _ => ?_) (fun _ => ?_) <;> try (exfalso; omega)) | (refine Sd.mk ?_ ?_; · ((repeat' apply And.intro) <;> first | omega | trivial | assumption | (simp; done) | (simp; omega))) | (refine Sx.mk ?_ ?_; · omega) | refine Fa.mk (fun _ => ?_) | refine Im.mk (fun _ => ?_) | apply Lw.go | refine g_cond ?_ | refine g_guard ?_ | refine g_keep ?_ | refine g_pass ?_ | refine g_fin ?_ | (apply g_ap; exact rfl; exact rfl; assumption)
  cases hq : aget (x, y) T.wr with
  | some w =>
    rw [hq] at hR
    refine av_look1 (enc := kII) (vv := wrV) (key := (x, y)) inferInstance hq ?_
    repeat' first | apply step | (apply g_op; · repeat first | exact Evs.nil | (apply Evs.cons; exact rfl)) | (refine Br.mk (fun _ => ?_) (fun _ => ?_) <;> try (exfalso; omega)) | (refine Sd.mk ?_ ?_; · ((repeat' apply And.intro) <;> first | omega | trivial | assumption | (simp; done) | (simp; omega))) | (refine Sx.mk ?_ ?_; · omega) | refine Fa.mk (fun _ => ?_) | refine Im.mk (fun _ => ?_) | apply Lw.go | refine g_cond ?_ | refine g_guard ?_ | refine g_keep ?_ | refine g_pass ?_ | refine g_fin ?_ | (apply g_ap; exact rfl; exact rfl; assumption)
    refine fin_foldP (tab b T) rfl (((pi, ci), (pk, ck)), (mw, ma, mr, mt)) trivial ?_
    exact fin hR
  | none =>
    rw [hq] at hR
    refine av_look0 (enc := kII) (vv := wrV) (key := (x, y)) inferInstance hq ?_
    repeat' first | apply step | (apply g_op; · repeat first | exact Evs.nil | (apply Evs.cons; exact rfl)) | (refine Br.mk (fun _ => ?_) (fun _ => ?_) <;> try (exfalso; omega)) | (refine Sd.mk ?_ ?_; · ((repeat' apply And.intro) <;> first | omega | trivial | assumption | (simp; done) | (simp; omega))) | (refine Sx.mk ?_ ?_; · omega) | refine Fa.mk (fun _ => ?_) | refine Im.mk (fun _ => ?_) | apply Lw.go | refine g_cond ?_ | refine g_guard ?_ | refine g_keep ?_ | refine g_pass ?_ | refine g_fin ?_ | (apply g_ap; exact rfl; exact rfl; assumption)
    refine fin_foldP (tab b T) rfl (((pi, ci), (pk, ck)), (mw, ma, mr, mt)) trivial ?_
    exact fin hR
theorem takeER {κ α : Type} [DecidableEq κ] {K : Kind α} {k : κ} {Z : List (LE κ α)} {Γ : List HP} : Ent (ro (alls (ownE K) Z) :: Γ) (rdl K (atE k Z).2.1 (atE k Z).1 :: Γ) := (ro_ent takeE).trans Ent.ro_own
theorem table_Table_Appends_spec {x y : Int} (hl : (agl (x, y) T.ap).length ≤ 1000000) : Spec prog1 n_table_Table_Appends [.pointer (some ⟨b, 0, none⟩), .int .i64 x, .int .i64 y] [ro (tab b T)] (fun R => ∀ p' c', R (.slice p' (agl (x, y) T.ap).length c') [own (kInt .i64) p' c' (agl (x, y) T.ap)]) := by
  refine spec_code c_table_Table_Appends rfl ?_; intro n F R hR; unfold F_table_Table_Appends
  first | refine at_openRP (tab b T) rfl ?_ | refine av_openRP (tab b T) rfl ?_
  rintro ⟨⟨⟨pi, ci⟩, ⟨pk, ck⟩⟩, ⟨mw, ma, mr, mt⟩⟩ -
  dsimp only
  apply step
  first | refine at_openRP (mapL ma kII (kInt .i64) T.ap) rfl ?_ | refine av_openRP (mapL ma kII (kInt .i64) T.ap) rfl ?_
  rintro Z hZ
  dsimp only
  have hal := atE_agl (k := (x, y)) hZ
  repeat' first | apply step | (apply g_op; · repeat first | exact Evs.nil | (apply Evs.cons; exact rfl)) | (refine Br.mk (fun _ => ?_) (fun _ => ?_) <;> try (exfalso; omega)) | (refine Sd.mk ?_ ?_; · ((repeat' apply And.intro) <;> first | omega | trivial | assumption | (simp; done) | (simp; omega))) | (refine Sx.mk ?_ ?_; · omega) | refine Fa.mk (fun _ => ?_) | refine Im.mk (fun _ => ?_) | apply Lw.go | refine g_cond ?_ | refine g_guard ?_ | refine g_keep ?_ | refine g_pass ?_ | refine g_fin ?_ | (apply g_ap; exact rfl; exact rfl; assumption)
  refine at_callR (table_Table_is_spec) ?_
  repeat' first | apply step | (apply g_op; · repeat first | exact Evs.nil | (apply Evs.cons; exact rfl)) | (refine Br.mk (fun _ => ?_) (fun _ => ?_) <;> try (exfalso; omega)) | (refine Sd.mk ?_ ?_; · ((repeat' apply And.intro) <;> first | omega | trivial | assumption | (simp; done) | (simp; omega))) | (refine Sx.mk ?_ ?_; · omega) | refine Fa.mk (fun _ => ?_) | refine Im.mk (fun _ => ?_) | apply Lw.go | refine g_cond ?_ | refine g_guard ?_ | refine g_keep ?_ | refine g_pass ?_ | refine g_fin ?_ | (apply g_ap; exact rfl; exact rfl; assumption)
  refine av_atE (enc := kII) (k := (x, y)) inferInstance ?_
  refine at_via (takeER (K := kInt .i64) (k := (x, y)) (Z := Z)) ?_
  rw [hal]
  repeat' first | apply step | (apply g_op; · repeat first | exact Evs.nil | (apply Evs.cons; exact rfl)) | (refine Br.mk (fun _ => ?_) (fun _ => ?_) <;> try (exfalso; omega)) | (refine Sd.mk ?_ ?_; · ((repeat' apply And.intro) <;> first | omega | trivial | assumption | (simp; done) | (simp; omega))) | (refine Sx.mk ?_ ?_; · omega) | refine Fa.mk (fun _ => ?_) | refine Im.mk (fun _ => ?_) | apply Lw.go | refine g_cond ?_ | refine g_guard ?_ | refine g_keep ?_ | refine g_pass ?_ | refine g_fin ?_ | (apply g_ap; exact rfl; exact rfl; assumption)
  refine at_callR (slices_Clone_int_int_spec (l := agl (x, y) T.ap) (by omega)) ?_
  intro p1 c1
  repeat' first | apply step | (apply g_op; · repeat first | exact Evs.nil | (apply Evs.cons; exact rfl)) | (refine Br.mk (fun _ => ?_) (fun _ => ?_) <;> try (exfalso; omega)) | (refine Sd.mk ?_ ?_; · ((repeat' apply And.intro) <;> first | omega | trivial | assumption | (simp; done) | (simp; omega))) | (refine Sx.mk ?_ ?_; · omega) | refine Fa.mk (fun _ => ?_) | refine Im.mk (fun _ => ?_) | apply Lw.go | refine g_cond ?_ | refine g_guard ?_ | refine g_keep ?_ | refine g_pass ?_ | refine g_fin ?_ | (apply g_ap; exact rfl; exact rfl; assumption)
  exact fin (hR p1 c1)
end
end Go.AMS

namespace Go.AMS
open Go.AM hiding Kt At WP WL Runs RunsY
open Go.AM.G
set_option linter.unusedVariables false
set_option linter.unusedSimpArgs false
set_option linter.unusedSectionVars false
set_option maxRecDepth 100000
set_option maxHeartbeats 1000000
attribute [local irreducible] AtS AtV AtC AtG FinA Spec Post LP G.At G.WP G.WL pt own fro rdl ro hx mp lrec elt sub

open Go.AM.G.Set
def aheadL (ops : List HOp) (key : Int) (n : Nat) : List Int := ((ops.take n).filter fun o => !o.read && decide (o.key = key)).map HOp.value
theorem aheadL_next {ops : List HOp} {key : Int} {n : Nat} (hn : n < ops.length) : aheadL ops key (n + 1) = aheadL ops key n ++ if ops[n].read = false ∧ ops[n].key = key then [ops[n].value] else [] := by
  unfold aheadL
  rw [List.take_succ_eq_append_getElem hn, List.filter_append, List.map_append]
  cases h : ops[n].read <;> by_cases h2 : ops[n].key = key <;> simp [h, h2]
theorem aheadL_len (ops : List HOp) (key : Int) (n : Nat) : (aheadL ops key n).length ≤ ops.length := by
  unfold aheadL
  rw [List.length_map]
  exact Nat.le_trans (List.length_filter_le _ _) (by simp; omega)
def txnOf (h : List HTx) (x : Int) : HTx := (h.find? fun t => decide (t.id = x)).getD ⟨x, false, []⟩
theorem txnOf_at {h : List HTx} {x : Int} {j : Nat} (hj : j < h.length) (h1 : ∀ i (q : i < h.length), i < j → h[i].id ≠ x) (h2 : h[j].id = x) : txnOf h x = h[j] := by
  unfold txnOf
  have : h.find? (fun t => decide (t.id = x)) = some h[j] := by
    rw [List.find?_eq_some_iff_getElem]
    exact ⟨by simpa using h2, j, hj, rfl, fun i hi => by simpa using h1 i (by omega) hi⟩
  rw [this]; rfl
theorem txnOf_no {h : List HTx} {x : Int} (h1 : ∀ i (q : i < h.length), h[i].id ≠ x) : txnOf h x = ⟨x, false, []⟩ := by
  unfold txnOf
  have : h.find? (fun t => decide (t.id = x)) = none := by
    rw [List.find?_eq_none]
    intro t ht
    obtain ⟨i, hi, e⟩ := List.mem_iff_getElem.1 ht
    rw [← e]; simpa using h1 i hi
  rw [this]; rfl
section
variable {h : List HTx} {p q : Option Addr} {c d : Nat}
theorem r12_txn_spec {x : Int} (hh : h.length ≤ 1000) : Spec prog1 n_r12_txn [.agg #[.slice p h.length c], .int .i64 x] [fro kHTx p c h] (fun R => ∀ w : Option Addr × Nat, R (.agg #[.int .i64 (txnOf h x).id, .bool (txnOf h x).ab, .slice w.1 (txnOf h x).ops.length w.2]) [fro kHOp w.1 w.2 (txnOf h x).ops]) := by
  refine spec_code c_r12_txn rfl ?_; intro n F R hR; unfold F_r12_txn
  repeat' first | apply step | (apply g_op; · repeat first | exact Evs.nil | (apply Evs.cons; exact rfl)) | (refine Br.mk (fun _ => ?_) (fun _ => ?_) <;> try (exfalso; omega)) | (refine Sd.mk ?_ ?_; · ((repeat' apply And.intro) <;> first | omega | trivial | assumption | (simp; done) | (simp; omega))) | (refine Sx.mk ?_ ?_; · omega) | refine Fa.mk (fun _ => ?_) | refine Im.mk (fun _ => ?_) | apply Lw.go | refine g_cond ?_ | refine g_guard ?_ | refine g_keep ?_ | refine g_pass ?_ | refine g_fin ?_ | (apply g_ap; exact rfl; exact rfl; assumption)
  rename_i rb tb
  refine at_loopS (ι := Nat) (E := fun j => [(1, .int .i64 x), (2, .pointer (some ⟨rb, 0, none⟩)), (4, .pointer (some ⟨tb, 0, none⟩)), (5, .int .i64 (j : Int))]) (Δ := fun j => pt tb [.int .i64 0, .bool false, .slice none 0 0] 0 :: pt rb [.slice p h.length c] 0 :: fro kHTx p c h :: F) (P := fun j => j ≤ h.length ∧ ∀ i (q : i < h.length), i < j → h[i].id ≠ x) (μ := fun j => h.length - j) 0 ⟨Nat.zero_le _, fun i q r => by omega⟩ ?_
  rintro j ⟨hj, hn⟩
  try dsimp only
  repeat' first | apply step | (apply g_op; · repeat first | exact Evs.nil | (apply Evs.cons; exact rfl)) | (refine Br.mk (fun _ => ?_) (fun _ => ?_) <;> try (exfalso; omega)) | (refine Sd.mk ?_ ?_; · ((repeat' apply And.intro) <;> first | omega | trivial | assumption | (simp; done) | (simp; omega))) | (refine Sx.mk ?_ ?_; · omega) | refine Fa.mk (fun _ => ?_) | refine Im.mk (fun _ => ?_) | apply Lw.go | refine g_cond ?_ | refine g_guard ?_ | refine g_keep ?_ | refine g_pass ?_ | refine g_fin ?_ | (apply g_ap; exact rfl; exact rfl; assumption)
  · rename_i he w _
    rw [txnOf_at (by omega) hn he] at hR
    exact fin (hR w)
  · refine lp_next (j + 1) ⟨by omega, fun i q r => ?_⟩ (by omega)
    rcases Nat.lt_or_ge i j with k | k
    · exact hn i q k
    · have : i = j := by omega
      subst this; assumption
  · rw [txnOf_no (fun i q => hn i q (by omega))] at hR
    refine fin_ent (ent_fnil (K := kHOp)) ?_
    exact fin (hR (none, 0))
theorem r12_ahead_spec {t : HTx} {key : Int} {n0 : Nat} (hn : n0 ≤ t.ops.length) (hl : t.ops.length ≤ 1000) (hv : ∀ o ∈ t.ops, mayO o) : Spec prog1 n_r12_ahead [.agg #[.int .i64 t.id, .bool t.ab, .slice q t.ops.length d], .int .i64 key, .int .i64 (n0 : Int)] [fro kHOp q d t.ops] (fun R => ∀ p' c', R (.slice p' (aheadL t.ops key n0).length c') [own (kInt .i64) p' c' (aheadL t.ops key n0)]) := by
  refine spec_code c_r12_ahead rfl ?_; intro n F R hR; unfold F_r12_ahead
  repeat' first | apply step | (apply g_op; · repeat first | exact Evs.nil | (apply Evs.cons; exact rfl)) | (refine Br.mk (fun _ => ?_) (fun _ => ?_) <;> try (exfalso; omega)) | (refine Sd.mk ?_ ?_; · ((repeat' apply And.intro) <;> first | omega | trivial | assumption | (simp; done) | (simp; omega))) | (refine Sx.mk ?_ ?_; · omega) | refine Fa.mk (fun _ => ?_) | refine Im.mk (fun _ => ?_) | apply Lw.go | refine g_cond ?_ | refine g_guard ?_ | refine g_keep ?_ | refine g_pass ?_ | refine g_fin ?_ | (apply g_ap; exact rfl; exact rfl; assumption)
  rename_i tb
  refine at_loopS (ι := Nat × (Option Addr × Nat)) (E := fun w => [(1, .int .i64 key), (2, .int .i64 (n0 : Int)), (3, .pointer (some ⟨tb, 0, none⟩)), (7, .slice w.2.1 (aheadL t.ops key w.1).length w.2.2), (8, .int .i64 (w.1 : Int))]) (Δ := fun w => own (kInt .i64) w.2.1 w.2.2 (aheadL t.ops key w.1) :: pt tb [.int .i64 t.id, .bool t.ab, .slice q t.ops.length d] 0 :: fro kHOp q d t.ops :: F) (P := fun w => w.1 ≤ n0) (μ := fun w => n0 - w.1) (0, (none, 0)) (Nat.zero_le _) ?_
  rintro ⟨j, p1, c1⟩ hj
  dsimp only at hj ⊢
  rcases Nat.lt_or_ge j n0 with hlt | hge
  · have hlt2 : j < t.ops.length := by omega
    have hct := aheadL_next (key := key) hlt2
    have hmo := hv t.ops[j] (List.getElem_mem _)
    have hvb : -9223372036854775808 ≤ t.ops[j].value ∧ t.ops[j].value ≤ 9223372036854775807 := by unfold mayO mayN at hmo; split at hmo <;> omega
    have hal := aheadL_len t.ops key j
    cases hr : t.ops[j].read
    · rw [hr] at hct
      by_cases hk : t.ops[j].key = key
      · rw [if_pos ⟨rfl, hk⟩] at hct
        repeat' first | rw [hr] | apply step | (apply g_op; · repeat first | exact Evs.nil | (apply Evs.cons; exact rfl)) | (refine Br.mk (fun _ => ?_) (fun _ => ?_) <;> try (exfalso; omega)) | (refine Sd.mk ?_ ?_; · ((repeat' apply And.intro) <;> first | omega | trivial | assumption | (simp; done) | (simp; omega))) | (refine Sx.mk ?_ ?_; · omega) | refine Fa.mk (fun _ => ?_) | refine Im.mk (fun _ => ?_) | apply Lw.go | refine g_cond ?_ | refine g_guard ?_ | refine g_keep ?_ | refine g_pass ?_ | refine g_fin ?_ | (apply g_ap; exact rfl; exact rfl; assumption)
        exact lp_next (j + 1, _, _) (by dsimp only; omega) (by dsimp only; omega) (by dsimp only; rw [hct]) (by dsimp only; rw [hct]; repeat first | exact Ent.refl _ | (apply Ent.more; · repeat first | exact Ent.keep | exact Ent.here | exact Ent.lend | exact ent_nil | apply Ent.there) | apply Ent.drop)
      · rw [if_neg (fun q => hk q.2), List.append_nil] at hct
        repeat' first | rw [hr] | apply step | (apply g_op; · repeat first | exact Evs.nil | (apply Evs.cons; exact rfl)) | (refine Br.mk (fun _ => ?_) (fun _ => ?_) <;> try (exfalso; omega)) | (refine Sd.mk ?_ ?_; · ((repeat' apply And.intro) <;> first | omega | trivial | assumption | (simp; done) | (simp; omega))) | (refine Sx.mk ?_ ?_; · omega) | refine Fa.mk (fun _ => ?_) | refine Im.mk (fun _ => ?_) | apply Lw.go | refine g_cond ?_ | refine g_guard ?_ | refine g_keep ?_ | refine g_pass ?_ | refine g_fin ?_ | (apply g_ap; exact rfl; exact rfl; assumption)
        exact lp_next (j + 1, _, _) (by dsimp only; omega) (by dsimp only; omega) (by dsimp only; rw [hct]) (by dsimp only; rw [hct]; repeat first | exact Ent.refl _ | (apply Ent.more; · repeat first | exact Ent.keep | exact Ent.here | exact Ent.lend | exact ent_nil | apply Ent.there) | apply Ent.drop)
    · rw [hr] at hct
      rw [if_neg (fun q => by cases q.1), List.append_nil] at hct
      repeat' first | rw [hr] | apply step | (apply g_op; · repeat first | exact Evs.nil | (apply Evs.cons; exact rfl)) | (refine Br.mk (fun _ => ?_) (fun _ => ?_) <;> try (exfalso; omega)) | (refine Sd.mk ?_ ?_; · ((repeat' apply And.intro) <;> first | omega | trivial | assumption | (simp; done) | (simp; omega))) | (refine Sx.mk ?_ ?_; · omega) | refine Fa.mk (fun _ => ?_) | refine Im.mk (fun _ => ?_) | apply Lw.go | refine g_cond ?_ | refine g_guard ?_ | refine g_keep ?_ | refine g_pass ?_ | refine g_fin ?_ | (apply g_ap; exact rfl; exact rfl; assumption)
      exact lp_next (j + 1, _, _) (by dsimp only; omega) (by dsimp only; omega) (by dsimp only; rw [hct]) (by dsimp only; rw [hct]; repeat first | exact Ent.refl _ | (apply Ent.more; · repeat first | exact Ent.keep | exact Ent.here | exact Ent.lend | exact ent_nil | apply Ent.there) | apply Ent.drop)
  · have : j = n0 := by omega
    subst this
    repeat' first | apply step | (apply g_op; · repeat first | exact Evs.nil | (apply Evs.cons; exact rfl)) | (refine Br.mk (fun _ => ?_) (fun _ => ?_) <;> try (exfalso; omega)) | (refine Sd.mk ?_ ?_; · ((repeat' apply And.intro) <;> first | omega | trivial | assumption | (simp; done) | (simp; omega))) | (refine Sx.mk ?_ ?_; · omega) | refine Fa.mk (fun _ => ?_) | refine Im.mk (fun _ => ?_) | apply Lw.go | refine g_cond ?_ | refine g_guard ?_ | refine g_keep ?_ | refine g_pass ?_ | refine g_fin ?_ | (apply g_ap; exact rfl; exact rfl; assumption)
    exact fin (hR p1 c1)
theorem txnOf_mem (h : List HTx) (x : Int) : txnOf h x = ⟨x, false, []⟩ ∨ txnOf h x ∈ h := by
  unfold txnOf
  cases e : h.find? (fun t => decide (t.id = x)) with
  | none => exact .inl rfl
  | some t => exact .inr (List.mem_of_find?_eq_some e)
theorem r12_Appends_spec {x key : Int} (hf : FewH h 20 60) (hk : ∀ t ∈ h, ∀ o ∈ t.ops, mayO o) : Spec prog1 n_r12_Appends [.agg #[.slice p h.length c], .int .i64 x, .int .i64 key] [fro kHTx p c h] (fun R => ∀ p' c', R (.slice p' (aheadL (txnOf h x).ops key (txnOf h x).ops.length).length c') [own (kInt .i64) p' c' (aheadL (txnOf h x).ops key (txnOf h x).ops.length)]) := by
  refine spec_code c_r12_Appends rfl ?_; intro n F R hR; unfold F_r12_Appends
  have hh := hf.t
  have hm := txnOf_mem h x
  repeat' first | apply step | (apply g_op; · repeat first | exact Evs.nil | (apply Evs.cons; exact rfl)) | (refine Br.mk (fun _ => ?_) (fun _ => ?_) <;> try (exfalso; omega)) | (refine Sd.mk ?_ ?_; · ((repeat' apply And.intro) <;> first | omega | trivial | assumption | (simp; done) | (simp; omega))) | (refine Sx.mk ?_ ?_; · omega) | refine Fa.mk (fun _ => ?_) | refine Im.mk (fun _ => ?_) | apply Lw.go | refine g_cond ?_ | refine g_guard ?_ | refine g_keep ?_ | refine g_pass ?_ | refine g_fin ?_ | (apply g_ap; exact rfl; exact rfl; assumption)
  first | refine at_callS (r12_txn_spec (h := h) (x := x) (by omega)) ?_ | refine at_callR (r12_txn_spec (h := h) (x := x) (by omega)) ?_
  rintro ⟨p1, c1⟩
  have hl : (txnOf h x).ops.length ≤ 60 := by
    rcases hm with e | e
    · rw [e]; simp
    · exact Nat.le_trans (opsN_mem e) hf.o
  have hv : ∀ o ∈ (txnOf h x).ops, mayO o := by
    rcases hm with e | e
    · rw [e]; simp
    · exact hk _ e
  generalize txnOf h x = t at hR hl hv ⊢
  repeat' first | apply step | (apply g_op; · repeat first | exact Evs.nil | (apply Evs.cons; exact rfl)) | (refine Br.mk (fun _ => ?_) (fun _ => ?_) <;> try (exfalso; omega)) | (refine Sd.mk ?_ ?_; · ((repeat' apply And.intro) <;> first | omega | trivial | assumption | (simp; done) | (simp; omega))) | (refine Sx.mk ?_ ?_; · omega) | refine Fa.mk (fun _ => ?_) | refine Im.mk (fun _ => ?_) | apply Lw.go | refine g_cond ?_ | refine g_guard ?_ | refine g_keep ?_ | refine g_pass ?_ | refine g_fin ?_ | (apply g_ap; exact rfl; exact rfl; assumption)
  first | refine at_callS (r12_ahead_spec (t := t) (key := key) (n0 := t.ops.length) (Nat.le_refl _) (by omega) hv) ?_ | refine at_callR (r12_ahead_spec (t := t) (key := key) (n0 := t.ops.length) (Nat.le_refl _) (by omega) hv) ?_
  intro p2 c2
  repeat' first | apply step | (apply g_op; · repeat first | exact Evs.nil | (apply Evs.cons; exact rfl)) | (refine Br.mk (fun _ => ?_) (fun _ => ?_) <;> try (exfalso; omega)) | (refine Sd.mk ?_ ?_; · ((repeat' apply And.intro) <;> first | omega | trivial | assumption | (simp; done) | (simp; omega))) | (refine Sx.mk ?_ ?_; · omega) | refine Fa.mk (fun _ => ?_) | refine Im.mk (fun _ => ?_) | apply Lw.go | refine g_cond ?_ | refine g_guard ?_ | refine g_keep ?_ | refine g_pass ?_ | refine g_fin ?_ | (apply g_ap; exact rfl; exact rfl; assumption)
  exact fin (hR p2 c2)
theorem r12_Writer_spec {x y : Int} (hf : FewH h 20 60) : Spec prog1 n_r12_Writer [.agg #[.slice p h.length c], .int .i64 x, .int .i64 y] [fro kHTx p c h] (fun R => (∀ t ∈ h, ∀ i (hi : i < t.ops.length), t.ops[i].read = false → t.ops[i].key = x → t.ops[i].value = y → R (wrO (some ⟨t.id, i, x, y, t.ab⟩)) []) ∧ ((∀ t ∈ h, ∀ o ∈ t.ops, ¬ (o.read = false ∧ o.key = x ∧ o.value = y)) → R (wrO none) [])) := by
  refine spec_code c_r12_Writer rfl ?_; intro n F R hR; unfold F_r12_Writer
  have hh := hf.t
  have ho := hf.o
  repeat' first | apply step | (apply g_op; · repeat first | exact Evs.nil | (apply Evs.cons; exact rfl)) | (refine Br.mk (fun _ => ?_) (fun _ => ?_) <;> try (exfalso; omega)) | (refine Sd.mk ?_ ?_; · ((repeat' apply And.intro) <;> first | omega | trivial | assumption | (simp; done) | (simp; omega))) | (refine Sx.mk ?_ ?_; · omega) | refine Fa.mk (fun _ => ?_) | refine Im.mk (fun _ => ?_) | apply Lw.go | refine g_cond ?_ | refine g_guard ?_ | refine g_keep ?_ | refine g_pass ?_ | refine g_fin ?_ | (apply g_ap; exact rfl; exact rfl; assumption)
  rename_i rb wb
  refine at_loopS (ι := Nat) (E := fun j => [(1, .int .i64 x), (2, .int .i64 y), (3, .pointer (some ⟨rb, 0, none⟩)), (6, .pointer (some ⟨wb, 0, none⟩)), (8, .int .i64 (j : Int))]) (Δ := fun j => pt wb [.int .i64 0, .int .i64 0, .int .i64 0, .int .i64 0, .bool false] 0 :: pt rb [.slice p h.length c] 0 :: fro kHTx p c h :: F) (P := fun j => j ≤ h.length ∧ ∀ t ∈ h.take j, ∀ o ∈ t.ops, ¬ (o.read = false ∧ o.key = x ∧ o.value = y)) (μ := fun j => h.length - j) 0 ⟨Nat.zero_le _, fun t ht => by simp at ht⟩ ?_
  rintro j ⟨hj, hn⟩
  try dsimp only
  rcases Nat.lt_or_ge j h.length with hlt | hge
  · have ho2 := opsN_mem (List.getElem_mem hlt)
    have hmem := List.getElem_mem hlt
    repeat' first | apply step | (apply g_op; · repeat first | exact Evs.nil | (apply Evs.cons; exact rfl)) | (refine Br.mk (fun _ => ?_) (fun _ => ?_) <;> try (exfalso; omega)) | (refine Sd.mk ?_ ?_; · ((repeat' apply And.intro) <;> first | omega | trivial | assumption | (simp; done) | (simp; omega))) | (refine Sx.mk ?_ ?_; · omega) | refine Fa.mk (fun _ => ?_) | refine Im.mk (fun _ => ?_) | apply Lw.go | refine g_cond ?_ | refine g_guard ?_ | refine g_keep ?_ | refine g_pass ?_ | refine g_fin ?_ | (apply g_ap; exact rfl; exact rfl; assumption)
    rename_i w _ tb
    refine at_loopS (ι := Nat) (E := fun i => [(1, .int .i64 x), (2, .int .i64 y), (3, .pointer (some ⟨rb, 0, none⟩)), (6, .pointer (some ⟨wb, 0, none⟩)), (8, .int .i64 (j : Int)), (9, .pointer (some ⟨tb, 0, none⟩)), (10, .int .i64 (i : Int))]) (Δ := fun i => pt tb [.int .i64 h[j].id, .bool h[j].ab, .slice w.1 h[j].ops.length w.2] 0 :: fro kHOp w.1 w.2 h[j].ops :: pt wb [.int .i64 0, .int .i64 0, .int .i64 0, .int .i64 0, .bool false] 0 :: pt rb [.slice p h.length c] 0 :: fro kHTx p c h :: F) (P := fun i => i ≤ h[j].ops.length ∧ ∀ o ∈ h[j].ops.take i, ¬ (o.read = false ∧ o.key = x ∧ o.value = y)) (μ := fun i => h[j].ops.length - i) 0 ⟨Nat.zero_le _, fun t ht => by simp at ht⟩ ?_
    rintro i ⟨hi, hn2⟩
    try dsimp only
    rcases Nat.lt_or_ge i h[j].ops.length with hl2 | hg2
    · have nx : ¬ (h[j].ops[i].read = false ∧ h[j].ops[i].key = x ∧ h[j].ops[i].value = y) → ∀ o ∈ h[j].ops.take (i + 1), ¬ (o.read = false ∧ o.key = x ∧ o.value = y) := fun q o ho => by
        rw [List.take_succ_eq_append_getElem hl2] at ho
        rcases List.mem_append.1 ho with ho | ho
        · exact hn2 o ho
        · rw [List.mem_singleton.1 ho]; exact q
      cases hr : h[j].ops[i].read
      · repeat' first | rw [hr] | apply step | (apply g_op; · repeat first | exact Evs.nil | (apply Evs.cons; exact rfl)) | (refine Br.mk (fun _ => ?_) (fun _ => ?_) <;> try (exfalso; omega)) | (refine Sd.mk ?_ ?_; · ((repeat' apply And.intro) <;> first | omega | trivial | assumption | (simp; done) | (simp; omega))) | (refine Sx.mk ?_ ?_; · omega) | refine Fa.mk (fun _ => ?_) | refine Im.mk (fun _ => ?_) | apply Lw.go | refine g_cond ?_ | refine g_guard ?_ | refine g_keep ?_ | refine g_pass ?_ | refine g_fin ?_ | (apply g_ap; exact rfl; exact rfl; assumption)
        · exact fin (hR.1 _ hmem i hl2 hr ‹_› ‹_›)
        all_goals exact lp_next (i + 1) ⟨by omega, nx fun q => by first | exact absurd q.2.1 ‹_› | exact absurd q.2.2 ‹_›⟩ (by omega)
      · repeat' first | rw [hr] | apply step | (apply g_op; · repeat first | exact Evs.nil | (apply Evs.cons; exact rfl)) | (refine Br.mk (fun _ => ?_) (fun _ => ?_) <;> try (exfalso; omega)) | (refine Sd.mk ?_ ?_; · ((repeat' apply And.intro) <;> first | omega | trivial | assumption | (simp; done) | (simp; omega))) | (refine Sx.mk ?_ ?_; · omega) | refine Fa.mk (fun _ => ?_) | refine Im.mk (fun _ => ?_) | apply Lw.go | refine g_cond ?_ | refine g_guard ?_ | refine g_keep ?_ | refine g_pass ?_ | refine g_fin ?_ | (apply g_ap; exact rfl; exact rfl; assumption)
        exact lp_next (i + 1) ⟨by omega, nx fun q => by rw [hr] at q; cases q.1⟩ (by omega)
    · have e2 : h[j].ops.take i = h[j].ops := List.take_of_length_le hg2
      rw [e2] at hn2
      repeat' first | apply step | (apply g_op; · repeat first | exact Evs.nil | (apply Evs.cons; exact rfl)) | (refine Br.mk (fun _ => ?_) (fun _ => ?_) <;> try (exfalso; omega)) | (refine Sd.mk ?_ ?_; · ((repeat' apply And.intro) <;> first | omega | trivial | assumption | (simp; done) | (simp; omega))) | (refine Sx.mk ?_ ?_; · omega) | refine Fa.mk (fun _ => ?_) | refine Im.mk (fun _ => ?_) | apply Lw.go | refine g_cond ?_ | refine g_guard ?_ | refine g_keep ?_ | refine g_pass ?_ | refine g_fin ?_ | (apply g_ap; exact rfl; exact rfl; assumption)
      refine lp_next (j + 1) ⟨by omega, fun t ht => ?_⟩ (by omega)
      rw [List.take_succ_eq_append_getElem hlt] at ht
      rcases List.mem_append.1 ht with ht | ht
      · exact hn t ht
      · rw [List.mem_singleton.1 ht]; exact hn2
  · have e : h.take j = h := List.take_of_length_le hge
    rw [e] at hn
    repeat' first | apply step | (apply g_op; · repeat first | exact Evs.nil | (apply Evs.cons; exact rfl)) | (refine Br.mk (fun _ => ?_) (fun _ => ?_) <;> try (exfalso; omega)) | (refine Sd.mk ?_ ?_; · ((repeat' apply And.intro) <;> first | omega | trivial | assumption | (simp; done) | (simp; omega))) | (refine Sx.mk ?_ ?_; · omega) | refine Fa.mk (fun _ => ?_) | refine Im.mk (fun _ => ?_) | apply Lw.go | refine g_cond ?_ | refine g_guard ?_ | refine g_keep ?_ | refine g_pass ?_ | refine g_fin ?_ | (apply g_ap; exact rfl; exact rfl; assumption)
    exact fin (hR.2 hn)
end
end Go.AMS

namespace Go.AMS
open Go.AM hiding Kt At WP WL Runs RunsY
open Go.AM.G
open Go.AM.G.Set
set_option linter.unusedVariables false
set_option linter.unusedSimpArgs false
theorem range_getD {α β : Type} (d : α) (f : α → β) (l : List α) : (List.range l.length).map (fun i => f (l.getD i d)) = l.map f := by
  refine List.ext_getElem (by simp) fun i h1 h2 => ?_
  have hi : i < l.length := by simpa using h1
  simp [hi]
def mW (k v : Int) (x : HTx × Nat) : Bool := !(x.1.ops.getD x.2 default).read && decide ((x.1.ops.getD x.2 default).key = k) && decide ((x.1.ops.getD x.2 default).value = v)
def mkW (k v : Int) (x : HTx × Nat) : HWr := ⟨x.1.id, x.2, k, v, x.1.ab⟩
theorem one_wr (k v : Int) (T : Tb) (x : HTx × Nat) : aget (k, v) (T.one x).wr = if mW k v x = true then some (mkW k v x) else aget (k, v) T.wr := by
  unfold Tb.one
  rw [put_wr]
  unfold mW mkW
  generalize x.1.ops.getD x.2 default = o
  cases hr : o.read
  · simp only [Bool.false_eq_true, if_false, Bool.not_false, Bool.true_and]
    rw [aget_aset]
    by_cases h1 : o.key = k
    · by_cases h2 : o.value = v
      · subst h1; subst h2; simp
      · simp [h1, h2, Ne.symm h2]
    · simp [h1, Ne.symm h1]
  · simp
theorem fold_wr (k v : Int) : ∀ (xs : List (HTx × Nat)) (T : Tb), aget (k, v) (xs.foldl Tb.one T).wr = match (xs.filter (mW k v)).getLast? with
    | some x => some (mkW k v x)
    | none => aget (k, v) T.wr
  | [], _ => rfl
  | x :: xs, T => by
    rw [List.foldl_cons, fold_wr k v xs, one_wr]
    by_cases h : mW k v x = true
    · rw [List.filter_cons_of_pos h, if_pos h, List.getLast?_cons]
      cases (xs.filter (mW k v)).getLast? <;> rfl
    · rw [List.filter_cons_of_neg h, if_neg h]
theorem range_filterMap {α β : Type} (d : α) (p : α → Bool) (f : α → β) (l : List α) : ((List.range l.length).filter fun i => p (l.getD i d)).map (fun i => f (l.getD i d)) = (l.filter p).map f := by
  have h := range_getD d id l
  conv => rhs; rw [← List.map_id l, ← h, List.filter_map, List.map_map]
  rfl
theorem steps_prs (s : List HTx) : ((stepsL s).filter fun x => !(x.1.ops.getD x.2 default).read).map (fun x => ((x.1.ops.getD x.2 default).key, (x.1.ops.getD x.2 default).value)) = prsH s := by
  unfold stepsL prsH
  rw [List.filter_flatMap, List.map_flatMap]
  congr 1
  funext t
  rw [List.filter_map, List.map_map]
  exact range_filterMap default (fun o : HOp => !o.read) (fun o : HOp => (o.key, o.value)) t.ops
theorem mW_eq (k v : Int) (xs : List (HTx × Nat)) : xs.filter (mW k v) = (xs.filter fun x => !(x.1.ops.getD x.2 default).read).filter fun x => decide (((x.1.ops.getD x.2 default).key, (x.1.ops.getD x.2 default).value) = (k, v)) := by
  rw [List.filter_filter]
  congr 1
  funext x
  unfold mW
  simp only [Prod.mk.injEq, Bool.decide_and]
  rw [Bool.and_comm, Bool.and_assoc]
  cases (x.1.ops.getD x.2 default).read <;> simp [Bool.and_comm]
theorem one_of_nodup {α β : Type} [DecidableEq β] {f : α → β} {c : β} : ∀ {l : List α}, (l.map f).Nodup → ∀ x ∈ l, f x = c → l.filter (fun x => decide (f x = c)) = [x]
  | [], _, x, hx, _ => by cases hx
  | y :: l, h, x, hx, e => by
    rw [List.map_cons, List.nodup_cons] at h
    have hno : f y = c → l.filter (fun x => decide (f x = c)) = [] := fun q => by
      rw [List.filter_eq_nil_iff]
      intro z hz q2
      exact h.1 (by rw [q, ← of_decide_eq_true q2]; exact List.mem_map_of_mem hz)
    rcases List.mem_cons.1 hx with rfl | hx
    · rw [List.filter_cons_of_pos (by simpa using e), hno e]
    · rw [List.filter_cons_of_neg, one_of_nodup h.2 x hx e]
      intro q
      have := of_decide_eq_true q
      exact h.1 (by rw [this, ← e]; exact List.mem_map_of_mem hx)
theorem steps_in {s : List HTx} {t : HTx} {i : Nat} (ht : t ∈ s) (hi : i < t.ops.length) : (t, i) ∈ stepsL s :=
  List.mem_flatMap.2 ⟨t, ht, List.mem_map.2 ⟨i, List.mem_range.2 hi, rfl⟩⟩
theorem prs_sort {h : List HTx} (hp : (prsH h).Nodup) : (prsH (sortK HTx.id h)).Nodup :=
  ((sortK_perm HTx.id h).flatMap_right _).nodup_iff.2 hp
theorem wr_some {h : List HTx} {k v : Int} (hp : (prsH h).Nodup) {t : HTx} {i : Nat} (ht : t ∈ h) (hi : i < t.ops.length) (h1 : t.ops[i].read = false) (h2 : t.ops[i].key = k) (h3 : t.ops[i].value = v) : aget (k, v) (tabS (sortK HTx.id h)).fin.wr = some ⟨t.id, i, k, v, t.ab⟩ := by
  show aget (k, v) (tabS (sortK HTx.id h)).wr = _
  have hs := prs_sort hp
  generalize hsd : sortK HTx.id h = s at hs
  have ht2 : t ∈ s := by rw [← hsd]; exact (sortK_perm HTx.id h).mem_iff.2 ht
  have e : t.ops.getD i default = t.ops[i] := getD_lt hi
  have hf : (stepsL s).filter (mW k v) = [(t, i)] := by
    rw [mW_eq]
    refine one_of_nodup (f := fun x : HTx × Nat => ((x.1.ops.getD x.2 default).key, (x.1.ops.getD x.2 default).value)) (by rw [steps_prs]; exact hs) (t, i) (List.mem_filter.2 ⟨steps_in ht2 hi, by simp only [e, h1]; rfl⟩) (by simp only [e, h2, h3])
  unfold tabS
  rw [fold_wr, hf]
  rfl
theorem wr_none {h : List HTx} {k v : Int} (hn : ∀ t ∈ h, ∀ o ∈ t.ops, ¬ (o.read = false ∧ o.key = k ∧ o.value = v)) : aget (k, v) (tabS (sortK HTx.id h)).fin.wr = none := by
  show aget (k, v) (tabS (sortK HTx.id h)).wr = _
  have hf : (stepsL (sortK HTx.id h)).filter (mW k v) = [] := by
    rw [List.filter_eq_nil_iff]
    rintro ⟨t, i⟩ hx hm
    obtain ⟨t', ht, h3⟩ := List.mem_flatMap.1 hx
    obtain ⟨j, hj, e⟩ := List.mem_map.1 h3
    cases e
    have hi := List.mem_range.1 hj
    unfold mW at hm
    simp only [getD_lt hi, Bool.and_eq_true, Bool.not_eq_true', decide_eq_true_eq] at hm
    exact hn t ((sortK_perm HTx.id h).mem_iff.1 ht) t.ops[i] (List.getElem_mem hi) ⟨hm.1.1, hm.1.2, hm.2⟩
  unfold tabS
  rw [fold_wr, hf]
  rfl
def blockJ (T : Tb) (t : HTx) : Nat → Tb
  | 0 => T
  | j + 1 => (blockJ T t j).one (t, j)
theorem blockJ_eq (T : Tb) (t : HTx) : ∀ j, ((List.range j).map fun i => (t, i)).foldl Tb.one T = blockJ T t j
  | 0 => rfl
  | j + 1 => by rw [List.range_succ, List.map_append, List.foldl_append, blockJ_eq T t j]; rfl
theorem blockJ_ap {T : Tb} {t : HTx} (hT : ∀ key, agl (t.id, key) T.ap = []) : ∀ j, j ≤ t.ops.length → ∀ x key, agl (x, key) (blockJ T t j).ap = if x = t.id then aheadL t.ops key j else agl (x, key) T.ap
  | 0, _, x, key => by
    split
    · rename_i e; rw [e]; exact hT key
    · rfl
  | j + 1, h, x, key => by
    have hj : j < t.ops.length := by omega
    have ih := blockJ_ap hT j (by omega)
    show agl (x, key) ((blockJ T t j).one (t, j)).ap = _
    unfold Tb.one
    rw [put_ap, getD_lt hj]
    show agl (x, key) (if t.ops[j].read = true then (blockJ T t j).ap else adl (t.id, t.ops[j].key) t.ops[j].value (blockJ T t j).ap) = _
    rw [aheadL_next hj]
    cases hr : t.ops[j].read
    · simp only [Bool.false_eq_true, if_false, true_and]
      rw [agl_adl, ih]
      by_cases hx : x = t.id
      · rw [if_pos hx, if_pos hx]
        by_cases hk : t.ops[j].key = key
        · rw [if_pos hk, if_pos (by rw [hx, hk])]
        · rw [if_neg hk, if_neg (fun q => hk (Prod.mk.inj q).2.symm)]
      · rw [if_neg hx, if_neg hx, if_neg (fun q => hx (Prod.mk.inj q).1), List.append_nil]
    · simp only [if_true, Bool.true_eq_false, false_and, if_false, List.append_nil]
      exact ih x key
theorem fold_block (t : HTx) (s : List HTx) (T : Tb) : (stepsL (t :: s)).foldl Tb.one T = (stepsL s).foldl Tb.one (blockJ T t t.ops.length) := by
  show (((List.range t.ops.length).map fun i => (t, i)) ++ stepsL s).foldl Tb.one T = _
  rw [List.foldl_append, blockJ_eq]
theorem fold_ap : ∀ (s : List HTx) (T : Tb), (s.map HTx.id).Nodup → (∀ t ∈ s, ∀ key, agl (t.id, key) T.ap = []) → ∀ x key, agl (x, key) ((stepsL s).foldl Tb.one T).ap = match s.find? (fun t => decide (t.id = x)) with
    | some t => aheadL t.ops key t.ops.length
    | none => agl (x, key) T.ap
  | [], T, _, _, x, key => rfl
  | t :: s, T, hn, hT, x, key => by
    rw [List.map_cons, List.nodup_cons] at hn
    have h1 := blockJ_ap (hT t (List.mem_cons_self)) t.ops.length (Nat.le_refl _)
    have h2 : ∀ u ∈ s, ∀ key, agl (u.id, key) (blockJ T t t.ops.length).ap = [] := fun u hu key => by
      rw [h1, if_neg (fun e => hn.1 (by rw [← e]; exact List.mem_map_of_mem hu))]
      exact hT u (List.mem_cons_of_mem _ hu) key
    rw [fold_block, fold_ap s _ hn.2 h2, List.find?_cons]
    by_cases e : t.id = x
    · have : s.find? (fun t => decide (t.id = x)) = none := by
        rw [List.find?_eq_none]
        intro u hu q
        exact hn.1 (by rw [e, ← of_decide_eq_true q]; exact List.mem_map_of_mem hu)
      rw [this, decide_eq_true e]
      show agl (x, key) (blockJ T t t.ops.length).ap = _
      rw [h1, if_pos e.symm]
    · rw [decide_eq_false e]
      cases s.find? (fun t => decide (t.id = x)) with
      | some u => rfl
      | none => show agl (x, key) (blockJ T t t.ops.length).ap = _; rw [h1, if_neg (fun q => e q.symm)]
theorem find_nodup : ∀ {h : List HTx}, (h.map HTx.id).Nodup → ∀ {t : HTx}, t ∈ h → h.find? (fun u => decide (u.id = t.id)) = some t
  | [], _, t, ht => by cases ht
  | u :: h, hn, t, ht => by
    rw [List.map_cons, List.nodup_cons] at hn
    rcases List.mem_cons.1 ht with rfl | ht
    · rw [List.find?_cons, decide_eq_true rfl]
    · rw [List.find?_cons, decide_eq_false (fun e => hn.1 (by rw [e]; exact List.mem_map_of_mem ht))]
      exact find_nodup hn.2 ht
theorem txnOf_in {h : List HTx} (hn : (idsH h).Nodup) {t : HTx} (ht : t ∈ h) : txnOf h t.id = t := by
  unfold txnOf; rw [find_nodup hn ht]; rfl
theorem find_sort {h : List HTx} (hn : (idsH h).Nodup) (x : Int) : (sortK HTx.id h).find? (fun t => decide (t.id = x)) = h.find? (fun t => decide (t.id = x)) := by
  have hp := sortK_perm HTx.id h
  have hn2 : ((sortK HTx.id h).map HTx.id).Nodup := (hp.map HTx.id).nodup_iff.2 hn
  cases e : h.find? (fun t => decide (t.id = x)) with
  | none =>
    rw [List.find?_eq_none] at e ⊢
    exact fun t ht => e t (hp.mem_iff.1 ht)
  | some t =>
    have h1 := List.mem_of_find?_eq_some e
    have h2 : t.id = x := by simpa using List.find?_some e
    subst h2
    exact find_nodup hn2 (hp.mem_iff.2 h1)
theorem ap_sort {h : List HTx} (hn : (idsH h).Nodup) (x key : Int) : agl (x, key) (tabS (sortK HTx.id h)).fin.ap = aheadL (txnOf h x).ops key (txnOf h x).ops.length := by
  show agl (x, key) ((stepsL (sortK HTx.id h)).foldl Tb.one (T0 _)).ap = _
  rw [fold_ap _ _ ((((sortK_perm HTx.id h).map HTx.id)).nodup_iff.2 hn) (fun t _ key => rfl), find_sort hn]
  unfold txnOf
  cases h.find? (fun t => decide (t.id = x)) with
  | some t => rfl
  | none => rfl
end Go.AMS

namespace Go.AMS
open Go.AM hiding Kt At WP WL Runs RunsY
open Go.AM.G
open Go.AM.G.Set
set_option linter.unusedVariables false
set_option linter.unusedSimpArgs false
theorem snocInd {α : Type} {P : List α → Prop} (h0 : P []) (h1 : ∀ l x, P l → P (l ++ [x])) (l : List α) : P l := by
  have : ∀ r : List α, P r.reverse := by
    intro r
    induction r with
    | nil => exact h0
    | cons x r ih => rw [List.reverse_cons]; exact h1 _ _ ih
  have h := this l.reverse
  rwa [List.reverse_reverse] at h
def frontL (r : HRd) : List Int := r.list.take (r.list.length - r.own.length)
/-- Who appended a value. -/
abbrev Wf := Int → Option HWr
def abL (W : Wf) : List Int → Option (Int × Int)
  | [] => none
  | x :: l => match W x with
    | some w => if w.ab = true then some (x, w.txn) else abL W l
    | none => abL W l
def triO : Option (Int × Int) → Value
  | some q => .tuple #[.int .i64 q.1, .int .i64 q.2, .bool true]
  | none => .tuple #[.int .i64 0, .int .i64 0, .bool false]
def midL (W : Wf) (A : Int → List Int) (l : List Int) : Option (Int × Int) :=
  match l.getLast? with
  | none => none
  | some x => match W x with
    | none => none
    | some w => if w.ab = true then none else if (A w.txn).getLast? = some x then none else some (x, w.txn)
/-- The first place of a row that is not as another one is. -/
def wrongL : List Int → List Int → Nat → Option Nat
  | [], _, _ => none
  | x :: l, [], i => some i
  | x :: l, y :: r, i => if x = y then wrongL l r (i + 1) else some i
def mineB (W : Wf) (id : Int) (x : Int) : Bool := match W x with
  | some w => decide (w.txn = id) && !w.ab
  | none => false
def mineL (W : Wf) (l : List Int) (id : Int) : List Int := l.filter (mineB W id)
def tornF (W : Wf) (A : Int → List Int) (l : List Int) (id : Int) : Option (Int × Int) :=
  match wrongL (mineL W l id) (A id) 0 with
  | some i => some ((mineL W l id).getD i 0, id)
  | none => none
def tornR (W : Wf) (A : Int → List Int) (l : List Int) : Option (Int × Int) := l.findSome? fun x => match W x with
  | some w => tornF W A l w.txn
  | none => none
/-- The transactions, as they come first. -/
def idsD (W : Wf) : List Int → List Int
  | l => l.foldl (fun o x => match W x with
    | some w => if w.ab = true ∨ w.txn ∈ o then o else o ++ [w.txn]
    | none => o) []
def tornP (W : Wf) (A : Int → List Int) (l : List Int) : Option (Int × Int) := (idsD W l).findSome? (tornF W A l)
theorem idsD_snoc (W : Wf) (l : List Int) (x : Int) : idsD W (l ++ [x]) = match W x with
    | some w => if w.ab = true ∨ w.txn ∈ idsD W l then idsD W l else idsD W l ++ [w.txn]
    | none => idsD W l := by
  unfold idsD; rw [List.foldl_append]; rfl
theorem mineL_snoc (W : Wf) (l : List Int) (x id : Int) : mineL W (l ++ [x]) id = mineL W l id ++ if mineB W id x = true then [x] else [] := by
  unfold mineL
  rw [List.filter_append]
  cases h : mineB W id x <;> simp [h]
theorem mem_idsD (W : Wf) (id : Int) : ∀ l : List Int, id ∈ idsD W l ↔ mineL W l id ≠ [] := by
  refine snocInd (by simp [idsD, mineL]) fun l x ih => ?_
  · rw [idsD_snoc, mineL_snoc]
    unfold mineB
    cases hW : W x with
    | none => simp [ih]
    | some w =>
      simp only
      by_cases hab : w.ab = true
      · simp [hab, ih]
      · by_cases hin : w.txn ∈ idsD W l
        · simp only [hab, hin, or_true, if_true]
          by_cases he : w.txn = id
          · subst he; simp [hin, hab]
          · simp [he, ih]
        · simp only [hab, hin, or_self, if_false, List.mem_append, List.mem_singleton, ih]
          by_cases he : w.txn = id
          · subst he; simp [hab]
          · simpa [he, Ne.symm he] using ih
theorem torn_eq {W : Wf} {A : Int → List Int} (l : List Int) (hc : ∀ x y w v, W x = some w → W y = some v → w.txn = v.txn → w.ab = v.ab) : tornP W A l = tornR W A l := by
  unfold tornP tornR
  have hab : ∀ x w, W x = some w → w.ab = true → tornF W A l w.txn = none := fun x w hx ha => by
    have : mineL W l w.txn = [] := by
      unfold mineL
      rw [List.filter_eq_nil_iff]
      intro y _ hy
      unfold mineB at hy
      cases hv : W y with
      | none => rw [hv] at hy; cases hy
      | some v =>
        rw [hv] at hy
        simp only [Bool.and_eq_true, decide_eq_true_eq, Bool.not_eq_true'] at hy
        have := hc x y w v hx hv hy.1.symm
        rw [ha, hy.2] at this; cases this
    unfold tornF
    rw [this]; rfl
  generalize tornF W A l = f at hab
  clear hc
  revert l
  refine snocInd rfl fun l x ih => ?_
  · rw [idsD_snoc, List.findSome?_append]
    cases hW : W x with
    | none => simp [hW, ih]
    | some w =>
      simp only [List.findSome?_cons, hW, List.findSome?_nil]
      rw [← ih]
      by_cases h1 : w.ab = true ∨ w.txn ∈ idsD W l
      · rw [if_pos h1]
        rcases h1 with h1 | h1
        · rw [hab x w hW h1]; simp
        · cases hf : f w.txn with
          | none => simp
          | some q =>
            cases hi : (idsD W l).findSome? f with
            | some z => rfl
            | none =>
              rw [List.findSome?_eq_none_iff] at hi
              rw [hi _ h1] at hf; cases hf
      · rw [if_neg h1, List.findSome?_append]
        simp only [List.findSome?_cons, List.findSome?_nil]
/-- The table of a history. -/
abbrev TH (h : List HTx) : Tb := (tabS (sortK HTx.id h)).fin
/-- Who appended a value, as the document has it. -/
theorem r12W_spec {h : List HTx} {p : Option Addr} {c : Nat} {x y : Int} (hf : FewH h 20 60) (hk : OkH h) : Spec prog1 n_r12_Writer [.agg #[.slice p h.length c], .int .i64 x, .int .i64 y] [fro kHTx p c h] (fun R => R (wrO (aget (x, y) (TH h).wr)) []) := fun n F h0 R hs hw => r12_Writer_spec hf n F h0 R hs ⟨fun t ht i hi q1 q2 q3 => by
    rw [wr_some hk.p ht hi q1 q2 q3] at hw; exact hw, fun hn => by rw [wr_none hn] at hw; exact hw⟩
theorem r12A_spec {h : List HTx} {p : Option Addr} {c : Nat} {x key : Int} (hf : FewH h 20 60) (hk : OkH h) : Spec prog1 n_r12_Appends [.agg #[.slice p h.length c], .int .i64 x, .int .i64 key] [fro kHTx p c h] (fun R => ∀ p' c', R (.slice p' (agl (x, key) (TH h).ap).length c') [own (kInt .i64) p' c' (agl (x, key) (TH h).ap)]) := by
  have := r12_Appends_spec (p := p) (c := c) (x := x) (key := key) hf (fun t ht => (hk.m t ht).2)
  rw [← ap_sort hk.i x key] at this
  exact this
theorem ap_le {h : List HTx} (hf : FewH h 20 60) (hk : OkH h) (x key : Int) : (agl (x, key) (TH h).ap).length ≤ 60 := by
  rw [ap_sort hk.i]
  refine Nat.le_trans (aheadL_len _ _ _) ?_
  rcases txnOf_mem h x with e | e
  · rw [e]; simp
  · exact Nat.le_trans (opsN_mem e) hf.o
theorem wr_at {h : List HTx} (hk : OkH h) {k v : Int} {w : HWr} (hw : aget (k, v) (TH h).wr = some w) : ∃ t ∈ h, ∃ i, ∃ hi : i < t.ops.length, (t.ops[i].read = false ∧ t.ops[i].key = k ∧ t.ops[i].value = v) ∧ w = ⟨t.id, i, k, v, t.ab⟩ := by
  by_cases hm : ∃ t ∈ h, ∃ i, ∃ hi : i < t.ops.length, t.ops[i].read = false ∧ t.ops[i].key = k ∧ t.ops[i].value = v
  · obtain ⟨t, ht, i, hi, q1, q2, q3⟩ := hm
    refine ⟨t, ht, i, hi, ⟨q1, q2, q3⟩, ?_⟩
    rw [wr_some hk.p ht hi q1 q2 q3] at hw
    exact (Option.some.inj hw).symm
  · rw [wr_none (fun t ht o ho q => by obtain ⟨i, hi, e⟩ := List.mem_iff_getElem.1 ho; subst e; exact hm ⟨t, ht, i, hi, q⟩)] at hw
    cases hw
theorem apH_ne {h : List HTx} (hk : OkH h) {k v : Int} {w : HWr} (hw : aget (k, v) (TH h).wr = some w) : 0 < (agl (w.txn, k) (TH h).ap).length := by
  obtain ⟨t, ht, i, hi, ⟨q1, q2, q3⟩, rfl⟩ := wr_at hk hw
  rw [ap_sort hk.i, txnOf_in hk.i ht]
  refine List.length_pos_of_mem (a := v) ?_
  unfold aheadL
  rw [List.take_length]
  exact List.mem_map.2 ⟨t.ops[i], List.mem_filter.2 ⟨List.getElem_mem hi, by simp [q1, q2]⟩, q3⟩
theorem wr_con {h : List HTx} (hk : OkH h) {k : Int} : ∀ x y w v, aget (k, x) (TH h).wr = some w → aget (k, y) (TH h).wr = some v → w.txn = v.txn → w.ab = v.ab := fun x y w v hw hv e => by
  obtain ⟨t, ht, i, hi, _, rfl⟩ := wr_at hk hw
  obtain ⟨u, hu, j, hj, _, rfl⟩ := wr_at hk hv
  have h1 := txnOf_in hk.i ht
  have h2 := txnOf_in hk.i hu
  dsimp only at e ⊢
  rw [← h1, ← h2, e]
end Go.AMS

namespace Go.AMS
open Go.AM hiding Kt At WP WL Runs RunsY
open Go.AM.G
set_option linter.unusedVariables false
set_option linter.unusedSimpArgs false
set_option linter.unusedSectionVars false
set_option maxRecDepth 100000
set_option maxHeartbeats 1000000
attribute [local irreducible] AtS AtV AtC AtG FinA Spec Post LP G.At G.WP G.WL pt own fro rdl ro hx mp lrec elt sub

open Go.AM.G.Set
section
variable {h : List HTx} {T : Tb} {r : HRd} {p p1 p2 : Option Addr} {c c1 c2 b : Nat}
theorem frontL_len (r : HRd) : (frontL r).length = r.list.length - r.own.length := by
  unfold frontL; rw [List.length_take]; omega
theorem r13_Front_spec (h1 : r.list.length ≤ 1000) (h2 : r.own.length ≤ 1000) : Spec prog1 n_r13_Front [.agg #[.int .i64 r.txn, .int .i64 r.op, .int .i64 r.key, .slice p1 r.list.length c1, .slice p2 r.own.length c2]] [fro (kInt .i64) p1 c1 r.list] (fun R => ∀ p' c', R (.slice p' (frontL r).length c') [own (kInt .i64) p' c' (frontL r)]) := by
  refine spec_code c_r13_Front rfl ?_; intro n F R hR; unfold F_r13_Front
  have hfl := frontL_len r
  rcases Nat.lt_or_ge r.own.length r.list.length with hlt | hge
  · repeat' first | apply step | (apply g_op; · repeat first | exact Evs.nil | (apply Evs.cons; exact rfl)) | (refine Br.mk (fun _ => ?_) (fun _ => ?_) <;> try (exfalso; omega)) | (refine Sd.mk ?_ ?_; · ((repeat' apply And.intro) <;> first | omega | trivial | assumption | (simp; done) | (simp; omega))) | (refine Sx.mk ?_ ?_; · omega) | refine Fa.mk (fun _ => ?_) | refine Im.mk (fun _ => ?_) | apply Lw.go | refine g_cond ?_ | refine g_guard ?_ | refine g_keep ?_ | refine g_pass ?_ | refine g_fin ?_ | (apply g_ap; exact rfl; exact rfl; assumption)
    rw [show r.list.take ((r.list.length : Int) - (r.own.length : Int)).toNat = frontL r by unfold frontL; rw [show ((r.list.length : Int) - (r.own.length : Int)).toNat = r.list.length - r.own.length by omega]]
    exact fin (hR _ _)
  · have e : frontL r = [] := List.length_eq_zero_iff.1 (by omega)
    rw [e] at hR
    repeat' first | apply step | (apply g_op; · repeat first | exact Evs.nil | (apply Evs.cons; exact rfl)) | (refine Br.mk (fun _ => ?_) (fun _ => ?_) <;> try (exfalso; omega)) | (refine Sd.mk ?_ ?_; · ((repeat' apply And.intro) <;> first | omega | trivial | assumption | (simp; done) | (simp; omega))) | (refine Sx.mk ?_ ?_; · omega) | refine Fa.mk (fun _ => ?_) | refine Im.mk (fun _ => ?_) | apply Lw.go | refine g_cond ?_ | refine g_guard ?_ | refine g_keep ?_ | refine g_pass ?_ | refine g_fin ?_ | (apply g_ap; exact rfl; exact rfl; assumption)
    exact fin (hR none 0)
theorem reads_Front_spec (h1 : r.list.length ≤ 1000) (h2 : r.own.length ≤ 1000) : Spec prog1 n_reads_Front [.agg #[.int .i64 r.txn, .int .i64 r.op, .int .i64 r.key, .slice p1 r.list.length c1, .slice p2 r.own.length c2]] [fro (kInt .i64) p1 c1 r.list] (fun R => ∀ p' c', R (.slice p' (frontL r).length c') [own (kInt .i64) p' c' (frontL r)]) := by
  refine spec_code c_reads_Front rfl ?_; intro n F R hR; unfold F_reads_Front
  have hfl := frontL_len r
  refine at_via (fro_head (K := kInt .i64) (p := p1) (c := c1) (l := r.list) (i := r.list.length - r.own.length) (by omega)) ?_
  change AtS _ _ _ _ _ _ (fro (kInt .i64) p1 (r.list.length - r.own.length) (frontL r) :: _) _
  rcases Nat.lt_or_ge r.own.length r.list.length with hlt | hge
  · repeat' first | apply step | (apply g_op; · repeat first | exact Evs.nil | (apply Evs.cons; exact rfl)) | (refine Br.mk (fun _ => ?_) (fun _ => ?_) <;> try (exfalso; omega)) | (refine Sd.mk ?_ ?_; · ((repeat' apply And.intro) <;> first | omega | trivial | assumption | (simp; done) | (simp; omega))) | (refine Sx.mk ?_ ?_; · omega) | refine Fa.mk (fun _ => ?_) | refine Im.mk (fun _ => ?_) | apply Lw.go | refine g_cond ?_ | refine g_guard ?_ | refine g_keep ?_ | refine g_pass ?_ | refine g_fin ?_ | (apply g_ap; exact rfl; exact rfl; assumption)
    rw [show ((r.list.length : Int) - (r.own.length : Int)).toNat = (frontL r).length by omega]
    refine at_callR (slices_Clone_int_int_spec (l := frontL r) (by omega)) ?_
    intro p3 c3
    repeat' first | apply step | (apply g_op; · repeat first | exact Evs.nil | (apply Evs.cons; exact rfl)) | (refine Br.mk (fun _ => ?_) (fun _ => ?_) <;> try (exfalso; omega)) | (refine Sd.mk ?_ ?_; · ((repeat' apply And.intro) <;> first | omega | trivial | assumption | (simp; done) | (simp; omega))) | (refine Sx.mk ?_ ?_; · omega) | refine Fa.mk (fun _ => ?_) | refine Im.mk (fun _ => ?_) | apply Lw.go | refine g_cond ?_ | refine g_guard ?_ | refine g_keep ?_ | refine g_pass ?_ | refine g_fin ?_ | (apply g_ap; exact rfl; exact rfl; assumption)
    exact fin (hR p3 c3)
  · have e : frontL r = [] := List.length_eq_zero_iff.1 (by omega)
    rw [e] at hR ⊢
    repeat' first | apply step | (apply g_op; · repeat first | exact Evs.nil | (apply Evs.cons; exact rfl)) | (refine Br.mk (fun _ => ?_) (fun _ => ?_) <;> try (exfalso; omega)) | (refine Sd.mk ?_ ?_; · ((repeat' apply And.intro) <;> first | omega | trivial | assumption | (simp; done) | (simp; omega))) | (refine Sx.mk ?_ ?_; · omega) | refine Fa.mk (fun _ => ?_) | refine Im.mk (fun _ => ?_) | apply Lw.go | refine g_cond ?_ | refine g_guard ?_ | refine g_keep ?_ | refine g_pass ?_ | refine g_fin ?_ | (apply g_ap; exact rfl; exact rfl; assumption)
    refine at_callR (slices_Clone_int_int_spec (l := []) (by simp)) ?_
    intro p3 c3
    repeat' first | apply step | (apply g_op; · repeat first | exact Evs.nil | (apply Evs.cons; exact rfl)) | (refine Br.mk (fun _ => ?_) (fun _ => ?_) <;> try (exfalso; omega)) | (refine Sd.mk ?_ ?_; · ((repeat' apply And.intro) <;> first | omega | trivial | assumption | (simp; done) | (simp; omega))) | (refine Sx.mk ?_ ?_; · omega) | refine Fa.mk (fun _ => ?_) | refine Im.mk (fun _ => ?_) | apply Lw.go | refine g_cond ?_ | refine g_guard ?_ | refine g_keep ?_ | refine g_pass ?_ | refine g_fin ?_ | (apply g_ap; exact rfl; exact rfl; assumption)
    exact fin (hR p3 c3)
theorem abL_drop {W : Wf} {l : List Int} {j : Nat} (hj : j < l.length) : abL W (l.drop j) = match W l[j] with
    | some w => if w.ab = true then some (l[j], w.txn) else abL W (l.drop (j + 1))
    | none => abL W (l.drop (j + 1)) := by
  rw [List.drop_eq_getElem_cons hj]; rfl
abbrev wK (T : Tb) (key : Int) : Wf := fun x => aget (key, x) T.wr
theorem dirty_Aborted_spec (h1 : r.list.length ≤ 1000) (h2 : r.own.length ≤ 1000) : Spec prog1 n_dirty_Aborted [.pointer (some ⟨b, 0, none⟩), .agg #[.int .i64 r.txn, .int .i64 r.op, .int .i64 r.key, .slice p1 r.list.length c1, .slice p2 r.own.length c2]] [tab b T, fro (kInt .i64) p1 c1 r.list] (fun R => R (triO (abL (wK T r.key) (frontL r))) [tab b T]) := by
  refine spec_code c_dirty_Aborted rfl ?_; intro n F R hR; unfold F_dirty_Aborted
  have hfl := frontL_len r
  repeat' first | apply step | (apply g_op; · repeat first | exact Evs.nil | (apply Evs.cons; exact rfl)) | (refine Br.mk (fun _ => ?_) (fun _ => ?_) <;> try (exfalso; omega)) | (refine Sd.mk ?_ ?_; · ((repeat' apply And.intro) <;> first | omega | trivial | assumption | (simp; done) | (simp; omega))) | (refine Sx.mk ?_ ?_; · omega) | refine Fa.mk (fun _ => ?_) | refine Im.mk (fun _ => ?_) | apply Lw.go | refine g_cond ?_ | refine g_guard ?_ | refine g_keep ?_ | refine g_pass ?_ | refine g_fin ?_ | (apply g_ap; exact rfl; exact rfl; assumption)
  first | refine at_callS (reads_Front_spec h1 h2) ?_ | refine at_callR (reads_Front_spec h1 h2) ?_
  intro p3 c3
  generalize hW : wK T r.key = W at hR ⊢
  generalize frontL r = l at hR hfl ⊢
  repeat' first | apply step | (apply g_op; · repeat first | exact Evs.nil | (apply Evs.cons; exact rfl)) | (refine Br.mk (fun _ => ?_) (fun _ => ?_) <;> try (exfalso; omega)) | (refine Sd.mk ?_ ?_; · ((repeat' apply And.intro) <;> first | omega | trivial | assumption | (simp; done) | (simp; omega))) | (refine Sx.mk ?_ ?_; · omega) | refine Fa.mk (fun _ => ?_) | refine Im.mk (fun _ => ?_) | apply Lw.go | refine g_cond ?_ | refine g_guard ?_ | refine g_keep ?_ | refine g_pass ?_ | refine g_fin ?_ | (apply g_ap; exact rfl; exact rfl; assumption)
  rename_i rb
  refine at_loopS (ι := Nat) (E := fun j => [(0, .pointer (some ⟨b, 0, none⟩)), (3, .pointer (some ⟨rb, 0, none⟩)), (12, .slice p3 l.length c3), (13, .int .i64 (l.length : Int)), (14, .int .i64 (j : Int))]) (Δ := fun j => own (kInt .i64) p3 c3 l :: tab b T :: pt rb [.int .i64 r.txn, .int .i64 r.op, .int .i64 r.key, .slice p1 r.list.length c1, .slice p2 r.own.length c2] 0 :: F) (P := fun j => j ≤ l.length ∧ abL W (l.drop j) = abL W l) (μ := fun j => l.length - j) 0 ⟨Nat.zero_le _, rfl⟩ ?_
  rintro j ⟨hj, hd⟩
  try dsimp only
  rcases Nat.lt_or_ge j l.length with hlt | hge
  · rw [abL_drop hlt] at hd
    repeat' first | apply step | (apply g_op; · repeat first | exact Evs.nil | (apply Evs.cons; exact rfl)) | (refine Br.mk (fun _ => ?_) (fun _ => ?_) <;> try (exfalso; omega)) | (refine Sd.mk ?_ ?_; · ((repeat' apply And.intro) <;> first | omega | trivial | assumption | (simp; done) | (simp; omega))) | (refine Sx.mk ?_ ?_; · omega) | refine Fa.mk (fun _ => ?_) | refine Im.mk (fun _ => ?_) | apply Lw.go | refine g_cond ?_ | refine g_guard ?_ | refine g_keep ?_ | refine g_pass ?_ | refine g_fin ?_ | (apply g_ap; exact rfl; exact rfl; assumption)
    first | refine at_callS (table_Table_Writer_spec (T := T) (x := r.key) (y := l[j])) ?_ | refine at_callR (table_Table_Writer_spec (T := T) (x := r.key) (y := l[j])) ?_
    rw [show aget (r.key, l[j]) T.wr = W l[j] by rw [← hW]]
    cases hw : W l[j] with
    | none =>
      rw [hw] at hd
      unfold wrO
      repeat' first | apply step | (apply g_op; · repeat first | exact Evs.nil | (apply Evs.cons; exact rfl)) | (refine Br.mk (fun _ => ?_) (fun _ => ?_) <;> try (exfalso; omega)) | (refine Sd.mk ?_ ?_; · ((repeat' apply And.intro) <;> first | omega | trivial | assumption | (simp; done) | (simp; omega))) | (refine Sx.mk ?_ ?_; · omega) | refine Fa.mk (fun _ => ?_) | refine Im.mk (fun _ => ?_) | apply Lw.go | refine g_cond ?_ | refine g_guard ?_ | refine g_keep ?_ | refine g_pass ?_ | refine g_fin ?_ | (apply g_ap; exact rfl; exact rfl; assumption)
      exact lp_next (j + 1) ⟨by omega, hd⟩ (by omega)
    | some w =>
      rw [hw] at hd
      dsimp only at hd
      unfold wrO
      cases hab : w.ab
      · rw [hab] at hd
        repeat' first | rw [hab] | apply step | (apply g_op; · repeat first | exact Evs.nil | (apply Evs.cons; exact rfl)) | (refine Br.mk (fun _ => ?_) (fun _ => ?_) <;> try (exfalso; omega)) | (refine Sd.mk ?_ ?_; · ((repeat' apply And.intro) <;> first | omega | trivial | assumption | (simp; done) | (simp; omega))) | (refine Sx.mk ?_ ?_; · omega) | refine Fa.mk (fun _ => ?_) | refine Im.mk (fun _ => ?_) | apply Lw.go | refine g_cond ?_ | refine g_guard ?_ | refine g_keep ?_ | refine g_pass ?_ | refine g_fin ?_ | (apply g_ap; exact rfl; exact rfl; assumption)
        exact lp_next (j + 1) ⟨by omega, by simpa using hd⟩ (by omega)
      · rw [hab, if_pos rfl] at hd
        rw [← hd] at hR
        repeat' first | rw [hab] | apply step | (apply g_op; · repeat first | exact Evs.nil | (apply Evs.cons; exact rfl)) | (refine Br.mk (fun _ => ?_) (fun _ => ?_) <;> try (exfalso; omega)) | (refine Sd.mk ?_ ?_; · ((repeat' apply And.intro) <;> first | omega | trivial | assumption | (simp; done) | (simp; omega))) | (refine Sx.mk ?_ ?_; · omega) | refine Fa.mk (fun _ => ?_) | refine Im.mk (fun _ => ?_) | apply Lw.go | refine g_cond ?_ | refine g_guard ?_ | refine g_keep ?_ | refine g_pass ?_ | refine g_fin ?_ | (apply g_ap; exact rfl; exact rfl; assumption)
        exact fin hR
  · rw [List.drop_eq_nil_of_le hge] at hd
    rw [← hd] at hR
    repeat' first | apply step | (apply g_op; · repeat first | exact Evs.nil | (apply Evs.cons; exact rfl)) | (refine Br.mk (fun _ => ?_) (fun _ => ?_) <;> try (exfalso; omega)) | (refine Sd.mk ?_ ?_; · ((repeat' apply And.intro) <;> first | omega | trivial | assumption | (simp; done) | (simp; omega))) | (refine Sx.mk ?_ ?_; · omega) | refine Fa.mk (fun _ => ?_) | refine Im.mk (fun _ => ?_) | apply Lw.go | refine g_cond ?_ | refine g_guard ?_ | refine g_keep ?_ | refine g_pass ?_ | refine g_fin ?_ | (apply g_ap; exact rfl; exact rfl; assumption)
    exact fin hR
theorem r14_Aborted_spec (hf : FewH h 20 60) (hk : OkH h) (h1 : r.list.length ≤ 1000) (h2 : r.own.length ≤ 1000) : Spec prog1 n_r14_Aborted [.agg #[.slice p h.length c], .agg #[.int .i64 r.txn, .int .i64 r.op, .int .i64 r.key, .slice p1 r.list.length c1, .slice p2 r.own.length c2]] [fro kHTx p c h, fro (kInt .i64) p1 c1 r.list] (fun R => R (triO (abL (wK (TH h) r.key) (frontL r))) []) := by
  refine spec_code c_r14_Aborted rfl ?_; intro n F R hR; unfold F_r14_Aborted
  have hfl := frontL_len r
  repeat' first | apply step | (apply g_op; · repeat first | exact Evs.nil | (apply Evs.cons; exact rfl)) | (refine Br.mk (fun _ => ?_) (fun _ => ?_) <;> try (exfalso; omega)) | (refine Sd.mk ?_ ?_; · ((repeat' apply And.intro) <;> first | omega | trivial | assumption | (simp; done) | (simp; omega))) | (refine Sx.mk ?_ ?_; · omega) | refine Fa.mk (fun _ => ?_) | refine Im.mk (fun _ => ?_) | apply Lw.go | refine g_cond ?_ | refine g_guard ?_ | refine g_keep ?_ | refine g_pass ?_ | refine g_fin ?_ | (apply g_ap; exact rfl; exact rfl; assumption)
  first | refine at_callS (r13_Front_spec h1 h2) ?_ | refine at_callR (r13_Front_spec h1 h2) ?_
  intro p3 c3
  have hrw : ∀ x, Spec prog1 n_r12_Writer [.agg #[.slice p h.length c], .int .i64 r.key, .int .i64 x] [fro kHTx p c h] (fun R => R (wrO (wK (TH h) r.key x)) []) := fun x => r12W_spec hf hk
  generalize wK (TH h) r.key = W at hR hrw ⊢
  generalize frontL r = l at hR hfl ⊢
  repeat' first | apply step | (apply g_op; · repeat first | exact Evs.nil | (apply Evs.cons; exact rfl)) | (refine Br.mk (fun _ => ?_) (fun _ => ?_) <;> try (exfalso; omega)) | (refine Sd.mk ?_ ?_; · ((repeat' apply And.intro) <;> first | omega | trivial | assumption | (simp; done) | (simp; omega))) | (refine Sx.mk ?_ ?_; · omega) | refine Fa.mk (fun _ => ?_) | refine Im.mk (fun _ => ?_) | apply Lw.go | refine g_cond ?_ | refine g_guard ?_ | refine g_keep ?_ | refine g_pass ?_ | refine g_fin ?_ | (apply g_ap; exact rfl; exact rfl; assumption)
  rename_i hb rb
  refine at_loopS (ι := Nat) (E := fun j => [(2, .pointer (some ⟨hb, 0, none⟩)), (3, .pointer (some ⟨rb, 0, none⟩)), (7, .slice p3 l.length c3), (8, .int .i64 (j : Int))]) (Δ := fun j => own (kInt .i64) p3 c3 l :: pt rb [.int .i64 r.txn, .int .i64 r.op, .int .i64 r.key, .slice p1 r.list.length c1, .slice p2 r.own.length c2] 0 :: pt hb [.slice p h.length c] 0 :: fro kHTx p c h :: F) (P := fun j => j ≤ l.length ∧ abL W (l.drop j) = abL W l) (μ := fun j => l.length - j) 0 ⟨Nat.zero_le _, rfl⟩ ?_
  rintro j ⟨hj, hd⟩
  try dsimp only
  rcases Nat.lt_or_ge j l.length with hlt | hge
  · rw [abL_drop hlt] at hd
    have hrj := hrw l[j]
    repeat' first | apply step | (apply g_op; · repeat first | exact Evs.nil | (apply Evs.cons; exact rfl)) | (refine Br.mk (fun _ => ?_) (fun _ => ?_) <;> try (exfalso; omega)) | (refine Sd.mk ?_ ?_; · ((repeat' apply And.intro) <;> first | omega | trivial | assumption | (simp; done) | (simp; omega))) | (refine Sx.mk ?_ ?_; · omega) | refine Fa.mk (fun _ => ?_) | refine Im.mk (fun _ => ?_) | apply Lw.go | refine g_cond ?_ | refine g_guard ?_ | refine g_keep ?_ | refine g_pass ?_ | refine g_fin ?_ | (apply g_ap; exact rfl; exact rfl; assumption)
    refine at_callR (hrj) ?_
    cases hw : W l[j] with
    | none =>
      rw [hw] at hd
      unfold wrO
      repeat' first | apply step | (apply g_op; · repeat first | exact Evs.nil | (apply Evs.cons; exact rfl)) | (refine Br.mk (fun _ => ?_) (fun _ => ?_) <;> try (exfalso; omega)) | (refine Sd.mk ?_ ?_; · ((repeat' apply And.intro) <;> first | omega | trivial | assumption | (simp; done) | (simp; omega))) | (refine Sx.mk ?_ ?_; · omega) | refine Fa.mk (fun _ => ?_) | refine Im.mk (fun _ => ?_) | apply Lw.go | refine g_cond ?_ | refine g_guard ?_ | refine g_keep ?_ | refine g_pass ?_ | refine g_fin ?_ | (apply g_ap; exact rfl; exact rfl; assumption)
      exact lp_next (j + 1) ⟨by omega, hd⟩ (by omega)
    | some w =>
      rw [hw] at hd
      dsimp only at hd
      unfold wrO
      cases hab : w.ab
      · rw [hab] at hd
        repeat' first | rw [hab] | apply step | (apply g_op; · repeat first | exact Evs.nil | (apply Evs.cons; exact rfl)) | (refine Br.mk (fun _ => ?_) (fun _ => ?_) <;> try (exfalso; omega)) | (refine Sd.mk ?_ ?_; · ((repeat' apply And.intro) <;> first | omega | trivial | assumption | (simp; done) | (simp; omega))) | (refine Sx.mk ?_ ?_; · omega) | refine Fa.mk (fun _ => ?_) | refine Im.mk (fun _ => ?_) | apply Lw.go | refine g_cond ?_ | refine g_guard ?_ | refine g_keep ?_ | refine g_pass ?_ | refine g_fin ?_ | (apply g_ap; exact rfl; exact rfl; assumption)
        exact lp_next (j + 1) ⟨by omega, by simpa using hd⟩ (by omega)
      · rw [hab, if_pos rfl] at hd
        rw [← hd] at hR
        repeat' first | rw [hab] | apply step | (apply g_op; · repeat first | exact Evs.nil | (apply Evs.cons; exact rfl)) | (refine Br.mk (fun _ => ?_) (fun _ => ?_) <;> try (exfalso; omega)) | (refine Sd.mk ?_ ?_; · ((repeat' apply And.intro) <;> first | omega | trivial | assumption | (simp; done) | (simp; omega))) | (refine Sx.mk ?_ ?_; · omega) | refine Fa.mk (fun _ => ?_) | refine Im.mk (fun _ => ?_) | apply Lw.go | refine g_cond ?_ | refine g_guard ?_ | refine g_keep ?_ | refine g_pass ?_ | refine g_fin ?_ | (apply g_ap; exact rfl; exact rfl; assumption)
        exact fin hR
  · rw [List.drop_eq_nil_of_le hge] at hd
    rw [← hd] at hR
    repeat' first | apply step | (apply g_op; · repeat first | exact Evs.nil | (apply Evs.cons; exact rfl)) | (refine Br.mk (fun _ => ?_) (fun _ => ?_) <;> try (exfalso; omega)) | (refine Sd.mk ?_ ?_; · ((repeat' apply And.intro) <;> first | omega | trivial | assumption | (simp; done) | (simp; omega))) | (refine Sx.mk ?_ ?_; · omega) | refine Fa.mk (fun _ => ?_) | refine Im.mk (fun _ => ?_) | apply Lw.go | refine g_cond ?_ | refine g_guard ?_ | refine g_keep ?_ | refine g_pass ?_ | refine g_fin ?_ | (apply g_ap; exact rfl; exact rfl; assumption)
    exact fin hR
theorem getLast_at {l : List Int} (h : 0 < l.length) : l.getLast? = some (l[((l.length : Int) - 1).toNat]'(by omega)) := by
  have e : ((l.length : Int) - 1).toNat = l.length - 1 := by omega
  rw [List.getLast?_eq_getElem?, List.getElem?_eq_getElem (by omega)]
  simp only [e]
theorem dirty_Middle_spec (h1 : r.list.length ≤ 1000) (h2 : r.own.length ≤ 1000) (hap : ∀ x w, wK T r.key x = some w → 0 < (agl (w.txn, r.key) T.ap).length) (hal : ∀ x, (agl (x, r.key) T.ap).length ≤ 60) : Spec prog1 n_dirty_Middle [.pointer (some ⟨b, 0, none⟩), .agg #[.int .i64 r.txn, .int .i64 r.op, .int .i64 r.key, .slice p1 r.list.length c1, .slice p2 r.own.length c2]] [tab b T, fro (kInt .i64) p1 c1 r.list] (fun R => R (triO (midL (wK T r.key) (fun id => agl (id, r.key) T.ap) (frontL r))) [tab b T]) := by
  refine spec_code c_dirty_Middle rfl ?_; intro n F R hR; unfold F_dirty_Middle
  have hfl := frontL_len r
  repeat' first | apply step | (apply g_op; · repeat first | exact Evs.nil | (apply Evs.cons; exact rfl)) | (refine Br.mk (fun _ => ?_) (fun _ => ?_) <;> try (exfalso; omega)) | (refine Sd.mk ?_ ?_; · ((repeat' apply And.intro) <;> first | omega | trivial | assumption | (simp; done) | (simp; omega))) | (refine Sx.mk ?_ ?_; · omega) | refine Fa.mk (fun _ => ?_) | refine Im.mk (fun _ => ?_) | apply Lw.go | refine g_cond ?_ | refine g_guard ?_ | refine g_keep ?_ | refine g_pass ?_ | refine g_fin ?_ | (apply g_ap; exact rfl; exact rfl; assumption)
  first | refine at_callS (reads_Front_spec h1 h2) ?_ | refine at_callR (reads_Front_spec h1 h2) ?_
  intro p3 c3
  generalize hW : wK T r.key = W at hR hap ⊢
  generalize frontL r = l at hR hfl ⊢
  rcases Nat.eq_zero_or_pos l.length with h0 | h0
  · have : l = [] := List.length_eq_zero_iff.1 h0
    subst this
    repeat' first | apply step | (apply g_op; · repeat first | exact Evs.nil | (apply Evs.cons; exact rfl)) | (refine Br.mk (fun _ => ?_) (fun _ => ?_) <;> try (exfalso; omega)) | (refine Sd.mk ?_ ?_; · ((repeat' apply And.intro) <;> first | omega | trivial | assumption | (simp; done) | (simp; omega))) | (refine Sx.mk ?_ ?_; · omega) | refine Fa.mk (fun _ => ?_) | refine Im.mk (fun _ => ?_) | apply Lw.go | refine g_cond ?_ | refine g_guard ?_ | refine g_keep ?_ | refine g_pass ?_ | refine g_fin ?_ | (apply g_ap; exact rfl; exact rfl; assumption)
    exact fin hR
  · unfold midL at hR
    rw [getLast_at h0] at hR
    obtain ⟨x, hx⟩ : ∃ x, x = l[((l.length : Int) - 1).toNat]'(by omega) := ⟨_, rfl⟩
    rw [← hx] at hR
    dsimp only at hR
    repeat' first | apply step | (apply g_op; · repeat first | exact Evs.nil | (apply Evs.cons; exact rfl)) | (refine Br.mk (fun _ => ?_) (fun _ => ?_) <;> try (exfalso; omega)) | (refine Sd.mk ?_ ?_; · ((repeat' apply And.intro) <;> first | omega | trivial | assumption | (simp; done) | (simp; omega))) | (refine Sx.mk ?_ ?_; · omega) | refine Fa.mk (fun _ => ?_) | refine Im.mk (fun _ => ?_) | apply Lw.go | refine g_cond ?_ | refine g_guard ?_ | refine g_keep ?_ | refine g_pass ?_ | refine g_fin ?_ | (apply g_ap; exact rfl; exact rfl; assumption)
    rw [← hx]
    first | refine at_callS (table_Table_Writer_spec (T := T) (x := r.key) (y := x)) ?_ | refine at_callR (table_Table_Writer_spec (T := T) (x := r.key) (y := x)) ?_
    rw [show aget (r.key, x) T.wr = W x by rw [← hW]]
    cases hw : W x with
    | none =>
      rw [hw] at hR
      unfold wrO
      repeat' first | apply step | (apply g_op; · repeat first | exact Evs.nil | (apply Evs.cons; exact rfl)) | (refine Br.mk (fun _ => ?_) (fun _ => ?_) <;> try (exfalso; omega)) | (refine Sd.mk ?_ ?_; · ((repeat' apply And.intro) <;> first | omega | trivial | assumption | (simp; done) | (simp; omega))) | (refine Sx.mk ?_ ?_; · omega) | refine Fa.mk (fun _ => ?_) | refine Im.mk (fun _ => ?_) | apply Lw.go | refine g_cond ?_ | refine g_guard ?_ | refine g_keep ?_ | refine g_pass ?_ | refine g_fin ?_ | (apply g_ap; exact rfl; exact rfl; assumption)
      exact fin hR
    | some w =>
      rw [hw] at hR
      dsimp only at hR
      unfold wrO
      cases hab : w.ab
      · rw [hab] at hR
        have hpos := hap x w hw
        have hle := hal w.txn
        simp only [Bool.false_eq_true, if_false] at hR
        rw [getLast_at hpos] at hR
        repeat' first | rw [hab] | apply step | (apply g_op; · repeat first | exact Evs.nil | (apply Evs.cons; exact rfl)) | (refine Br.mk (fun _ => ?_) (fun _ => ?_) <;> try (exfalso; omega)) | (refine Sd.mk ?_ ?_; · ((repeat' apply And.intro) <;> first | omega | trivial | assumption | (simp; done) | (simp; omega))) | (refine Sx.mk ?_ ?_; · omega) | refine Fa.mk (fun _ => ?_) | refine Im.mk (fun _ => ?_) | apply Lw.go | refine g_cond ?_ | refine g_guard ?_ | refine g_keep ?_ | refine g_pass ?_ | refine g_fin ?_ | (apply g_ap; exact rfl; exact rfl; assumption)
        refine at_callR (table_Table_Appends_spec (T := T) (x := w.txn) (y := r.key) (by omega)) ?_
        intro p4 c4
        obtain ⟨y, hy⟩ : ∃ y, y = (agl (w.txn, r.key) T.ap)[(((agl (w.txn, r.key) T.ap).length : Int) - 1).toNat]'(by omega) := ⟨_, rfl⟩
        rw [← hy] at hR
        by_cases hxy : y = x
        · rw [if_pos (by rw [hxy])] at hR
          repeat' first | apply step | (apply g_op; · repeat first | exact Evs.nil | (apply Evs.cons; exact rfl)) | (refine Br.mk (fun _ => ?_) (fun _ => ?_) <;> try (exfalso; omega)) | (refine Sd.mk ?_ ?_; · ((repeat' apply And.intro) <;> first | omega | trivial | assumption | (simp; done) | (simp; omega))) | (refine Sx.mk ?_ ?_; · omega) | refine Fa.mk (fun _ => ?_) | refine Im.mk (fun _ => ?_) | apply Lw.go | refine g_cond ?_ | refine g_guard ?_ | refine g_keep ?_ | refine g_pass ?_ | refine g_fin ?_ | (apply g_ap; exact rfl; exact rfl; assumption)
          all_goals first | exact fin hR | (exfalso; apply ‹¬ _›; rw [← hy]; exact hxy) | (exfalso; omega)
        · rw [if_neg (fun q => hxy (Option.some.inj q))] at hR
          repeat' first | apply step | (apply g_op; · repeat first | exact Evs.nil | (apply Evs.cons; exact rfl)) | (refine Br.mk (fun _ => ?_) (fun _ => ?_) <;> try (exfalso; omega)) | (refine Sd.mk ?_ ?_; · ((repeat' apply And.intro) <;> first | omega | trivial | assumption | (simp; done) | (simp; omega))) | (refine Sx.mk ?_ ?_; · omega) | refine Fa.mk (fun _ => ?_) | refine Im.mk (fun _ => ?_) | apply Lw.go | refine g_cond ?_ | refine g_guard ?_ | refine g_keep ?_ | refine g_pass ?_ | refine g_fin ?_ | (apply g_ap; exact rfl; exact rfl; assumption)
          all_goals first | exact fin hR | (exfalso; apply hxy; rw [hy]; assumption) | (exfalso; omega)
      · rw [hab] at hR
        simp only [if_true] at hR
        repeat' first | rw [hab] | apply step | (apply g_op; · repeat first | exact Evs.nil | (apply Evs.cons; exact rfl)) | (refine Br.mk (fun _ => ?_) (fun _ => ?_) <;> try (exfalso; omega)) | (refine Sd.mk ?_ ?_; · ((repeat' apply And.intro) <;> first | omega | trivial | assumption | (simp; done) | (simp; omega))) | (refine Sx.mk ?_ ?_; · omega) | refine Fa.mk (fun _ => ?_) | refine Im.mk (fun _ => ?_) | apply Lw.go | refine g_cond ?_ | refine g_guard ?_ | refine g_keep ?_ | refine g_pass ?_ | refine g_fin ?_ | (apply g_ap; exact rfl; exact rfl; assumption)
        exact fin hR
theorem r14_Middle_spec (hf : FewH h 20 60) (hk : OkH h) (h1 : r.list.length ≤ 1000) (h2 : r.own.length ≤ 1000) : Spec prog1 n_r14_Middle [.agg #[.slice p h.length c], .agg #[.int .i64 r.txn, .int .i64 r.op, .int .i64 r.key, .slice p1 r.list.length c1, .slice p2 r.own.length c2]] [fro kHTx p c h, fro (kInt .i64) p1 c1 r.list] (fun R => R (triO (midL (wK (TH h) r.key) (fun id => agl (id, r.key) (TH h).ap) (frontL r))) []) := by
  refine spec_code c_r14_Middle rfl ?_; intro n F R hR; unfold F_r14_Middle
  have hfl := frontL_len r
  have hap : ∀ x w, wK (TH h) r.key x = some w → 0 < (agl (w.txn, r.key) (TH h).ap).length := fun x w hw => apH_ne hk hw
  have hal : ∀ x, (agl (x, r.key) (TH h).ap).length ≤ 60 := fun x => ap_le hf hk x r.key
  repeat' first | apply step | (apply g_op; · repeat first | exact Evs.nil | (apply Evs.cons; exact rfl)) | (refine Br.mk (fun _ => ?_) (fun _ => ?_) <;> try (exfalso; omega)) | (refine Sd.mk ?_ ?_; · ((repeat' apply And.intro) <;> first | omega | trivial | assumption | (simp; done) | (simp; omega))) | (refine Sx.mk ?_ ?_; · omega) | refine Fa.mk (fun _ => ?_) | refine Im.mk (fun _ => ?_) | apply Lw.go | refine g_cond ?_ | refine g_guard ?_ | refine g_keep ?_ | refine g_pass ?_ | refine g_fin ?_ | (apply g_ap; exact rfl; exact rfl; assumption)
  first | refine at_callS (r13_Front_spec h1 h2) ?_ | refine at_callR (r13_Front_spec h1 h2) ?_
  intro p3 c3
  have hrw : ∀ x, Spec prog1 n_r12_Writer [.agg #[.slice p h.length c], .int .i64 r.key, .int .i64 x] [fro kHTx p c h] (fun R => R (wrO (wK (TH h) r.key x)) []) := fun x => r12W_spec hf hk
  generalize wK (TH h) r.key = W at hR hap hrw ⊢
  generalize frontL r = l at hR hfl ⊢
  rcases Nat.eq_zero_or_pos l.length with h0 | h0
  · have : l = [] := List.length_eq_zero_iff.1 h0
    subst this
    repeat' first | apply step | (apply g_op; · repeat first | exact Evs.nil | (apply Evs.cons; exact rfl)) | (refine Br.mk (fun _ => ?_) (fun _ => ?_) <;> try (exfalso; omega)) | (refine Sd.mk ?_ ?_; · ((repeat' apply And.intro) <;> first | omega | trivial | assumption | (simp; done) | (simp; omega))) | (refine Sx.mk ?_ ?_; · omega) | refine Fa.mk (fun _ => ?_) | refine Im.mk (fun _ => ?_) | apply Lw.go | refine g_cond ?_ | refine g_guard ?_ | refine g_keep ?_ | refine g_pass ?_ | refine g_fin ?_ | (apply g_ap; exact rfl; exact rfl; assumption)
    exact fin hR
  · unfold midL at hR
    rw [getLast_at h0] at hR
    obtain ⟨x, hx⟩ : ∃ x, x = l[((l.length : Int) - 1).toNat]'(by omega) := ⟨_, rfl⟩
    rw [← hx] at hR
    dsimp only at hR
    repeat' first | apply step | (apply g_op; · repeat first | exact Evs.nil | (apply Evs.cons; exact rfl)) | (refine Br.mk (fun _ => ?_) (fun _ => ?_) <;> try (exfalso; omega)) | (refine Sd.mk ?_ ?_; · ((repeat' apply And.intro) <;> first | omega | trivial | assumption | (simp; done) | (simp; omega))) | (refine Sx.mk ?_ ?_; · omega) | refine Fa.mk (fun _ => ?_) | refine Im.mk (fun _ => ?_) | apply Lw.go | refine g_cond ?_ | refine g_guard ?_ | refine g_keep ?_ | refine g_pass ?_ | refine g_fin ?_ | (apply g_ap; exact rfl; exact rfl; assumption)
    rw [← hx]
    first | refine at_callS (hrw x) ?_ | refine at_callR (hrw x) ?_
    cases hw : W x with
    | none =>
      rw [hw] at hR
      unfold wrO
      repeat' first | apply step | (apply g_op; · repeat first | exact Evs.nil | (apply Evs.cons; exact rfl)) | (refine Br.mk (fun _ => ?_) (fun _ => ?_) <;> try (exfalso; omega)) | (refine Sd.mk ?_ ?_; · ((repeat' apply And.intro) <;> first | omega | trivial | assumption | (simp; done) | (simp; omega))) | (refine Sx.mk ?_ ?_; · omega) | refine Fa.mk (fun _ => ?_) | refine Im.mk (fun _ => ?_) | apply Lw.go | refine g_cond ?_ | refine g_guard ?_ | refine g_keep ?_ | refine g_pass ?_ | refine g_fin ?_ | (apply g_ap; exact rfl; exact rfl; assumption)
      exact fin hR
    | some w =>
      rw [hw] at hR
      dsimp only at hR
      unfold wrO
      cases hab : w.ab
      · rw [hab] at hR
        have hpos := hap x w hw
        have hle := hal w.txn
        simp only [Bool.false_eq_true, if_false] at hR
        rw [getLast_at hpos] at hR
        repeat' first | rw [hab] | apply step | (apply g_op; · repeat first | exact Evs.nil | (apply Evs.cons; exact rfl)) | (refine Br.mk (fun _ => ?_) (fun _ => ?_) <;> try (exfalso; omega)) | (refine Sd.mk ?_ ?_; · ((repeat' apply And.intro) <;> first | omega | trivial | assumption | (simp; done) | (simp; omega))) | (refine Sx.mk ?_ ?_; · omega) | refine Fa.mk (fun _ => ?_) | refine Im.mk (fun _ => ?_) | apply Lw.go | refine g_cond ?_ | refine g_guard ?_ | refine g_keep ?_ | refine g_pass ?_ | refine g_fin ?_ | (apply g_ap; exact rfl; exact rfl; assumption)
        first | refine at_callS (r12A_spec (x := w.txn) (key := r.key) hf hk) ?_ | refine at_callR (r12A_spec (x := w.txn) (key := r.key) hf hk) ?_
        intro p4 c4
        obtain ⟨y, hy⟩ : ∃ y, y = (agl (w.txn, r.key) (TH h).ap)[(((agl (w.txn, r.key) (TH h).ap).length : Int) - 1).toNat]'(by omega) := ⟨_, rfl⟩
        rw [← hy] at hR
        by_cases hxy : y = x
        · rw [if_pos (by rw [hxy])] at hR
          repeat' first | apply step | (apply g_op; · repeat first | exact Evs.nil | (apply Evs.cons; exact rfl)) | (refine Br.mk (fun _ => ?_) (fun _ => ?_) <;> try (exfalso; omega)) | (refine Sd.mk ?_ ?_; · ((repeat' apply And.intro) <;> first | omega | trivial | assumption | (simp; done) | (simp; omega))) | (refine Sx.mk ?_ ?_; · omega) | refine Fa.mk (fun _ => ?_) | refine Im.mk (fun _ => ?_) | apply Lw.go | refine g_cond ?_ | refine g_guard ?_ | refine g_keep ?_ | refine g_pass ?_ | refine g_fin ?_ | (apply g_ap; exact rfl; exact rfl; assumption)
          all_goals first | exact fin hR | (exfalso; apply ‹¬ _›; rw [← hy]; exact hxy) | (exfalso; omega)
        · rw [if_neg (fun q => hxy (Option.some.inj q))] at hR
          repeat' first | apply step | (apply g_op; · repeat first | exact Evs.nil | (apply Evs.cons; exact rfl)) | (refine Br.mk (fun _ => ?_) (fun _ => ?_) <;> try (exfalso; omega)) | (refine Sd.mk ?_ ?_; · ((repeat' apply And.intro) <;> first | omega | trivial | assumption | (simp; done) | (simp; omega))) | (refine Sx.mk ?_ ?_; · omega) | refine Fa.mk (fun _ => ?_) | refine Im.mk (fun _ => ?_) | apply Lw.go | refine g_cond ?_ | refine g_guard ?_ | refine g_keep ?_ | refine g_pass ?_ | refine g_fin ?_ | (apply g_ap; exact rfl; exact rfl; assumption)
          all_goals first | exact fin hR | (exfalso; apply hxy; rw [hy]; assumption) | (exfalso; omega)
      · rw [hab] at hR
        simp only [if_true] at hR
        repeat' first | rw [hab] | apply step | (apply g_op; · repeat first | exact Evs.nil | (apply Evs.cons; exact rfl)) | (refine Br.mk (fun _ => ?_) (fun _ => ?_) <;> try (exfalso; omega)) | (refine Sd.mk ?_ ?_; · ((repeat' apply And.intro) <;> first | omega | trivial | assumption | (simp; done) | (simp; omega))) | (refine Sx.mk ?_ ?_; · omega) | refine Fa.mk (fun _ => ?_) | refine Im.mk (fun _ => ?_) | apply Lw.go | refine g_cond ?_ | refine g_guard ?_ | refine g_keep ?_ | refine g_pass ?_ | refine g_fin ?_ | (apply g_ap; exact rfl; exact rfl; assumption)
        exact fin hR
end
end Go.AMS

namespace Go.AMS
open Go.AM hiding Kt At WP WL Runs RunsY
open Go.AM.G
set_option linter.unusedVariables false
set_option linter.unusedSimpArgs false
set_option linter.unusedSectionVars false
set_option maxRecDepth 100000
set_option maxHeartbeats 1000000
attribute [local irreducible] AtS AtV AtC AtG FinA Spec Post LP G.At G.WP G.WL pt own fro rdl ro hx mp lrec elt sub

open Go.AM.G.Set
section
variable {h : List HTx} {T : Tb} {r : HRd} {p q p1 p2 : Option Addr} {c d c1 c2 b : Nat}
def wrI : Option Nat → Int
  | some i => (i : Nat)
  | none => -1
theorem wrongL_drop {l all : List Int} {i : Nat} (hi : i < l.length) : wrongL (l.drop i) (all.drop i) i = if h : i < all.length then (if l[i] = all[i] then wrongL (l.drop (i + 1)) (all.drop (i + 1)) (i + 1) else some i) else some i := by
  rw [List.drop_eq_getElem_cons hi]
  by_cases h : i < all.length
  · rw [dif_pos h, List.drop_eq_getElem_cons h]; rfl
  · rw [dif_neg h, List.drop_eq_nil_of_le (by omega : all.length ≤ i)]; rfl
theorem wrongL_lt : ∀ (l all : List Int) (i k : Nat), wrongL l all i = some k → i ≤ k ∧ k < i + l.length
  | [], _, _, _, h => by cases h
  | x :: l, [], i, k, h => by
    have : i = k := Option.some.inj h
    subst this; exact ⟨Nat.le_refl _, by simp⟩
  | x :: l, y :: r, i, k, h => by
    unfold wrongL at h
    split at h
    · have := wrongL_lt l r (i + 1) k h
      simp only [List.length_cons]; omega
    · have : i = k := Option.some.inj h
      subst this; exact ⟨Nat.le_refl _, by simp⟩
theorem dirty_wrong_spec {l all : List Int} (h1 : l.length ≤ 1000) (h2 : all.length ≤ 1000) : Spec prog1 n_dirty_wrong [.slice p l.length c, .slice q all.length d] [rdl (kInt .i64) p l, rdl (kInt .i64) q all] (fun R => R (.int .i64 (wrI (wrongL l all 0))) []) := by
  refine spec_code c_dirty_wrong rfl ?_; intro n F R hR; unfold F_dirty_wrong
  repeat' first | apply step | (apply g_op; · repeat first | exact Evs.nil | (apply Evs.cons; exact rfl)) | (refine Br.mk (fun _ => ?_) (fun _ => ?_) <;> try (exfalso; omega)) | (refine Sd.mk ?_ ?_; · ((repeat' apply And.intro) <;> first | omega | trivial | assumption | (simp; done) | (simp; omega))) | (refine Sx.mk ?_ ?_; · omega) | refine Fa.mk (fun _ => ?_) | refine Im.mk (fun _ => ?_) | apply Lw.go | refine g_cond ?_ | refine g_guard ?_ | refine g_keep ?_ | refine g_pass ?_ | refine g_fin ?_ | (apply g_ap; exact rfl; exact rfl; assumption)
  refine at_loopS (ι := Nat) (E := fun j => [(1, .slice q all.length d), (7, .slice p l.length c), (8, .int .i64 (l.length : Int)), (9, .int .i64 (j : Int))]) (Δ := fun j => rdl (kInt .i64) p l :: rdl (kInt .i64) q all :: F) (P := fun j => j ≤ l.length ∧ wrongL (l.drop j) (all.drop j) j = wrongL l all 0) (μ := fun j => l.length - j) 0 ⟨Nat.zero_le _, rfl⟩ ?_
  rintro j ⟨hj, hd⟩
  try dsimp only
  rcases Nat.lt_or_ge j l.length with hlt | hge
  · rw [wrongL_drop hlt] at hd
    rcases Nat.lt_or_ge j all.length with hl2 | hg2
    · rw [dif_pos hl2] at hd
      by_cases he : l[j] = all[j]
      · rw [if_pos he] at hd
        repeat' first | apply step | (apply g_op; · repeat first | exact Evs.nil | (apply Evs.cons; exact rfl)) | (refine Br.mk (fun _ => ?_) (fun _ => ?_) <;> try (exfalso; omega)) | (refine Sd.mk ?_ ?_; · ((repeat' apply And.intro) <;> first | omega | trivial | assumption | (simp; done) | (simp; omega))) | (refine Sx.mk ?_ ?_; · omega) | refine Fa.mk (fun _ => ?_) | refine Im.mk (fun _ => ?_) | apply Lw.go | refine g_cond ?_ | refine g_guard ?_ | refine g_keep ?_ | refine g_pass ?_ | refine g_fin ?_ | (apply g_ap; exact rfl; exact rfl; assumption)
        all_goals first | exact lp_next (j + 1) ⟨by omega, hd⟩ (by omega) | (exfalso; omega)
      · rw [if_neg he] at hd
        rw [← hd] at hR
        repeat' first | apply step | (apply g_op; · repeat first | exact Evs.nil | (apply Evs.cons; exact rfl)) | (refine Br.mk (fun _ => ?_) (fun _ => ?_) <;> try (exfalso; omega)) | (refine Sd.mk ?_ ?_; · ((repeat' apply And.intro) <;> first | omega | trivial | assumption | (simp; done) | (simp; omega))) | (refine Sx.mk ?_ ?_; · omega) | refine Fa.mk (fun _ => ?_) | refine Im.mk (fun _ => ?_) | apply Lw.go | refine g_cond ?_ | refine g_guard ?_ | refine g_keep ?_ | refine g_pass ?_ | refine g_fin ?_ | (apply g_ap; exact rfl; exact rfl; assumption)
        all_goals first | exact fin hR | (exfalso; omega)
    · rw [dif_neg (by omega)] at hd
      rw [← hd] at hR
      repeat' first | apply step | (apply g_op; · repeat first | exact Evs.nil | (apply Evs.cons; exact rfl)) | (refine Br.mk (fun _ => ?_) (fun _ => ?_) <;> try (exfalso; omega)) | (refine Sd.mk ?_ ?_; · ((repeat' apply And.intro) <;> first | omega | trivial | assumption | (simp; done) | (simp; omega))) | (refine Sx.mk ?_ ?_; · omega) | refine Fa.mk (fun _ => ?_) | refine Im.mk (fun _ => ?_) | apply Lw.go | refine g_cond ?_ | refine g_guard ?_ | refine g_keep ?_ | refine g_pass ?_ | refine g_fin ?_ | (apply g_ap; exact rfl; exact rfl; assumption)
      all_goals first | exact fin hR | (exfalso; omega)
  · rw [List.drop_eq_nil_of_le hge] at hd
    rw [← hd] at hR
    repeat' first | apply step | (apply g_op; · repeat first | exact Evs.nil | (apply Evs.cons; exact rfl)) | (refine Br.mk (fun _ => ?_) (fun _ => ?_) <;> try (exfalso; omega)) | (refine Sd.mk ?_ ?_; · ((repeat' apply And.intro) <;> first | omega | trivial | assumption | (simp; done) | (simp; omega))) | (refine Sx.mk ?_ ?_; · omega) | refine Fa.mk (fun _ => ?_) | refine Im.mk (fun _ => ?_) | apply Lw.go | refine g_cond ?_ | refine g_guard ?_ | refine g_keep ?_ | refine g_pass ?_ | refine g_fin ?_ | (apply g_ap; exact rfl; exact rfl; assumption)
    exact fin hR
theorem mineL_len (W : Wf) (l : List Int) (id : Int) : (mineL W l id).length ≤ l.length := List.length_filter_le _ _
theorem idsD_len (W : Wf) : ∀ l : List Int, (idsD W l).length ≤ l.length := by
  refine snocInd (by simp [idsD]) fun l x ih => ?_
  rw [idsD_snoc, List.length_append]
  split
  · split <;> simp <;> omega
  · simp; omega
theorem dirty_Torn_spec (h1 : r.list.length ≤ 100) (h2 : r.own.length ≤ 100) (hb : ∀ x w, wK T r.key x = some w → -9223372036854775808 ≤ w.txn ∧ w.txn ≤ 9223372036854775807) (hal : ∀ x, (agl (x, r.key) T.ap).length ≤ 60) : Spec prog1 n_dirty_Torn [.pointer (some ⟨b, 0, none⟩), .agg #[.int .i64 r.txn, .int .i64 r.op, .int .i64 r.key, .slice p1 r.list.length c1, .slice p2 r.own.length c2]] [tab b T, fro (kInt .i64) p1 c1 r.list] (fun R => R (triO (tornP (wK T r.key) (fun id => agl (id, r.key) T.ap) (frontL r))) []) := by
  refine spec_code c_dirty_Torn rfl ?_; intro n F R hR; unfold F_dirty_Torn
  have hfl := frontL_len r
  repeat' first | apply step | (apply g_op; · repeat first | exact Evs.nil | (apply Evs.cons; exact rfl)) | (refine Br.mk (fun _ => ?_) (fun _ => ?_) <;> try (exfalso; omega)) | (refine Sd.mk ?_ ?_; · ((repeat' apply And.intro) <;> first | omega | trivial | assumption | (simp; done) | (simp; omega))) | (refine Sx.mk ?_ ?_; · omega) | refine Fa.mk (fun _ => ?_) | refine Im.mk (fun _ => ?_) | apply Lw.go | refine g_cond ?_ | refine g_guard ?_ | refine g_keep ?_ | refine g_pass ?_ | refine g_fin ?_ | (apply g_ap; exact rfl; exact rfl; assumption)
  first | refine at_callS (reads_Front_spec (r := r) (by omega) (by omega)) ?_ | refine at_callR (reads_Front_spec (r := r) (by omega) (by omega)) ?_
  intro p3 c3
  generalize hW : wK T r.key = W at hR hb ⊢
  generalize frontL r = l at hR hfl ⊢
  repeat' first | apply step | (apply g_op; · repeat first | exact Evs.nil | (apply Evs.cons; exact rfl)) | (refine Br.mk (fun _ => ?_) (fun _ => ?_) <;> try (exfalso; omega)) | (refine Sd.mk ?_ ?_; · ((repeat' apply And.intro) <;> first | omega | trivial | assumption | (simp; done) | (simp; omega))) | (refine Sx.mk ?_ ?_; · omega) | refine Fa.mk (fun _ => ?_) | refine Im.mk (fun _ => ?_) | apply Lw.go | refine g_cond ?_ | refine g_guard ?_ | refine g_keep ?_ | refine g_pass ?_ | refine g_fin ?_ | (apply g_ap; exact rfl; exact rfl; assumption)
  rename_i rb ma
  refine at_via (mapL_new (enc := kI) (K := kInt .i64) (r := ma)) ?_
  refine at_loopS (ι := Nat × (Option Addr × Nat) × List (Int × List Int)) (E := fun z => [(0, .pointer (some ⟨b, 0, none⟩)), (3, .pointer (some ⟨rb, 0, none⟩)), (7, .slice z.2.1.1 (idsD W (l.take z.1)).length z.2.1.2), (8, .map (some ma)), (18, .slice p3 l.length c3), (19, .int .i64 (l.length : Int)), (20, .int .i64 (z.1 : Int))]) (Δ := fun z => own (kInt .i64) z.2.1.1 z.2.1.2 (idsD W (l.take z.1)) :: mapL ma kI (kInt .i64) z.2.2 :: own (kInt .i64) p3 c3 l :: tab b T :: pt rb [.int .i64 r.txn, .int .i64 r.op, .int .i64 r.key, .slice p1 r.list.length c1, .slice p2 r.own.length c2] 0 :: F) (P := fun z => z.1 ≤ l.length ∧ ∀ id, agl id z.2.2 = mineL W (l.take z.1) id) (μ := fun z => l.length - z.1) (0, (none, 0), []) ⟨Nat.zero_le _, fun id => rfl⟩ ?_
  rintro ⟨j, ⟨pi, ci⟩, f⟩ ⟨hj, hm⟩
  dsimp only at hj hm ⊢
  have hil := idsD_len W (l.take j)
  have hjl : (l.take j).length ≤ j := List.length_take_le _ _
  rcases Nat.lt_or_ge j l.length with hlt | hge
  · have hsn := idsD_snoc W (l.take j) l[j]
    have hms := fun id => mineL_snoc W (l.take j) l[j] id
    rw [← List.take_succ_eq_append_getElem hlt] at hsn
    simp only [← List.take_succ_eq_append_getElem hlt] at hms
    repeat' first | apply step | (apply g_op; · repeat first | exact Evs.nil | (apply Evs.cons; exact rfl)) | (refine Br.mk (fun _ => ?_) (fun _ => ?_) <;> try (exfalso; omega)) | (refine Sd.mk ?_ ?_; · ((repeat' apply And.intro) <;> first | omega | trivial | assumption | (simp; done) | (simp; omega))) | (refine Sx.mk ?_ ?_; · omega) | refine Fa.mk (fun _ => ?_) | refine Im.mk (fun _ => ?_) | apply Lw.go | refine g_cond ?_ | refine g_guard ?_ | refine g_keep ?_ | refine g_pass ?_ | refine g_fin ?_ | (apply g_ap; exact rfl; exact rfl; assumption)
    first | refine at_callS (table_Table_Writer_spec (T := T) (x := r.key) (y := l[j])) ?_ | refine at_callR (table_Table_Writer_spec (T := T) (x := r.key) (y := l[j])) ?_
    rw [show aget (r.key, l[j]) T.wr = W l[j] by rw [← hW]]
    cases hw : W l[j] with
    | none =>
      rw [hw] at hsn
      have hmb : ∀ id, mineB W id l[j] = false := fun id => by unfold mineB; rw [hw]
      unfold wrO
      repeat' first | apply step | (apply g_op; · repeat first | exact Evs.nil | (apply Evs.cons; exact rfl)) | (refine Br.mk (fun _ => ?_) (fun _ => ?_) <;> try (exfalso; omega)) | (refine Sd.mk ?_ ?_; · ((repeat' apply And.intro) <;> first | omega | trivial | assumption | (simp; done) | (simp; omega))) | (refine Sx.mk ?_ ?_; · omega) | refine Fa.mk (fun _ => ?_) | refine Im.mk (fun _ => ?_) | apply Lw.go | refine g_cond ?_ | refine g_guard ?_ | refine g_keep ?_ | refine g_pass ?_ | refine g_fin ?_ | (apply g_ap; exact rfl; exact rfl; assumption)
      refine lp_next (j + 1, (pi, ci), f) ⟨by dsimp only; omega, fun id => ?_⟩ (by dsimp only; omega) (by dsimp only; rw [hsn]) (by dsimp only; rw [hsn]; repeat first | exact Ent.refl _ | (apply Ent.more; · repeat first | exact Ent.keep | exact Ent.here | exact Ent.lend | exact ent_nil | apply Ent.there) | apply Ent.drop)
      rw [hms, hmb, hm]; simp
    | some w =>
      obtain ⟨hb1, hb2⟩ := hb _ _ hw
      rw [hw] at hsn
      dsimp only at hsn
      unfold wrO
      cases hab : w.ab
      · have hmb : ∀ id, mineB W id l[j] = decide (w.txn = id) := fun id => by unfold mineB; rw [hw]; simp [hab]
        rw [hab] at hsn
        have hj1 : j + 1 ≤ l.length := by omega
        have hinv : ∀ id, agl id (adl w.txn l[j] f) = mineL W (l.take (j + 1)) id := fun id => by
          rw [agl_adl, hm, hms, hmb]
          by_cases e : id = w.txn
          · rw [if_pos e, e, decide_eq_true rfl, if_pos rfl]
          · rw [if_neg e, decide_eq_false (fun q => e q.symm)]; simp
        have hmw := hm w.txn
        have hml := mineL_len W (l.take j) w.txn
        by_cases hin : w.txn ∈ idsD W (l.take j)
        · have hne := (mem_idsD W w.txn (l.take j)).1 hin
          rw [← hmw] at hne hml
          have hne2 : (agl w.txn f).length ≠ 0 := fun q => hne (List.length_eq_zero_iff.1 q)
          rw [if_pos (.inr hin)] at hsn
          repeat' first | rw [hab] | apply step | (apply g_op; · repeat first | exact Evs.nil | (apply Evs.cons; exact rfl)) | (refine Br.mk (fun _ => ?_) (fun _ => ?_) <;> try (exfalso; omega)) | (refine Sd.mk ?_ ?_; · ((repeat' apply And.intro) <;> first | omega | trivial | assumption | (simp; done) | (simp; omega))) | (refine Sx.mk ?_ ?_; · omega) | refine Fa.mk (fun _ => ?_) | refine Im.mk (fun _ => ?_) | apply Lw.go | refine g_cond ?_ | refine g_guard ?_ | refine g_keep ?_ | refine g_pass ?_ | refine g_fin ?_ | (apply g_ap; exact rfl; exact rfl; assumption)
          rename_i wb
          first | refine at_openP (mapL ma kI (kInt .i64) f) rfl ?_ | refine av_openP (mapL ma kI (kInt .i64) f) rfl ?_
          rintro Z hZ
          dsimp only [List.cons_append, List.nil_append]
          have hal := atE_agl (k := w.txn) hZ
          refine av_atE (enc := kI) (k := w.txn) inferInstance ?_
          rw [hal]
          repeat' first | apply step | (apply g_op; · repeat first | exact Evs.nil | (apply Evs.cons; exact rfl)) | (refine Br.mk (fun _ => ?_) (fun _ => ?_) <;> try (exfalso; omega)) | (refine Sd.mk ?_ ?_; · ((repeat' apply And.intro) <;> first | omega | trivial | assumption | (simp; done) | (simp; omega))) | (refine Sx.mk ?_ ?_; · omega) | refine Fa.mk (fun _ => ?_) | refine Im.mk (fun _ => ?_) | apply Lw.go | refine g_cond ?_ | refine g_guard ?_ | refine g_keep ?_ | refine g_pass ?_ | refine g_fin ?_ | (apply g_ap; exact rfl; exact rfl; assumption)
          refine at_opsKS wb 9 (fun sz hsz => ?_)
          repeat' first | apply step | (apply g_op; · repeat first | exact Evs.nil | (apply Evs.cons; exact rfl)) | (refine Br.mk (fun _ => ?_) (fun _ => ?_) <;> try (exfalso; omega)) | (refine Sd.mk ?_ ?_; · ((repeat' apply And.intro) <;> first | omega | trivial | assumption | (simp; done) | (simp; omega))) | (refine Sx.mk ?_ ?_; · omega) | refine Fa.mk (fun _ => ?_) | refine Im.mk (fun _ => ?_) | apply Lw.go | refine g_cond ?_ | refine g_guard ?_ | refine g_keep ?_ | refine g_pass ?_ | refine g_fin ?_ | (apply g_ap; exact rfl; exact rfl; assumption)
          refine av_atE (enc := kI) (k := w.txn) inferInstance ?_
          refine at_via (takeE (K := kInt .i64) (k := w.txn) (Z := Z)) ?_
          rw [hal]
          repeat' first | apply step | (apply g_op; · repeat first | exact Evs.nil | (apply Evs.cons; exact rfl)) | (refine Br.mk (fun _ => ?_) (fun _ => ?_) <;> try (exfalso; omega)) | (refine Sd.mk ?_ ?_; · ((repeat' apply And.intro) <;> first | omega | trivial | assumption | (simp; done) | (simp; omega))) | (refine Sx.mk ?_ ?_; · omega) | refine Fa.mk (fun _ => ?_) | refine Im.mk (fun _ => ?_) | apply Lw.go | refine g_cond ?_ | refine g_guard ?_ | refine g_keep ?_ | refine g_pass ?_ | refine g_fin ?_ | (apply g_ap; exact rfl; exact rfl; assumption)
          refine kp1 wb ?_ hsz
          repeat' first | apply step | (apply g_op; · repeat first | exact Evs.nil | (apply Evs.cons; exact rfl)) | (refine Br.mk (fun _ => ?_) (fun _ => ?_) <;> try (exfalso; omega)) | (refine Sd.mk ?_ ?_; · ((repeat' apply And.intro) <;> first | omega | trivial | assumption | (simp; done) | (simp; omega))) | (refine Sx.mk ?_ ?_; · omega) | refine Fa.mk (fun _ => ?_) | refine Im.mk (fun _ => ?_) | apply Lw.go | refine g_cond ?_ | refine g_guard ?_ | refine g_keep ?_ | refine g_pass ?_ | refine g_fin ?_ | (apply g_ap; exact rfl; exact rfl; assumption)
          refine kp2 ?_
          rename_i p5 c5
          repeat' first | apply step | (apply g_op; · repeat first | exact Evs.nil | (apply Evs.cons; exact rfl)) | (refine Br.mk (fun _ => ?_) (fun _ => ?_) <;> try (exfalso; omega)) | (refine Sd.mk ?_ ?_; · ((repeat' apply And.intro) <;> first | omega | trivial | assumption | (simp; done) | (simp; omega))) | (refine Sx.mk ?_ ?_; · omega) | refine Fa.mk (fun _ => ?_) | refine Im.mk (fun _ => ?_) | apply Lw.go | refine g_cond ?_ | refine g_guard ?_ | refine g_keep ?_ | refine g_pass ?_ | refine g_fin ?_ | (apply g_ap; exact rfl; exact rfl; assumption)
          refine av_put (d := true) (bar := true) (s := .one 1) (m := ma) (l := Z) (enc := kI) (vv := slV) (key := w.txn) (val := (agl w.txn f ++ [l[j]], (p5, c5))) rfl inferInstance ?_
          refine at_via2 (putE (K := kInt .i64) (k := w.txn) (Z := Z)) ?_
          refine at_foldP (mapL ma kI (kInt .i64) (adl w.txn l[j] f)) rfl (aset w.txn (agl w.txn f ++ [l[j]], (p5, c5)) Z) (by rw [aset_fst2, hZ]; rfl) ?_
          repeat' first | apply step | (apply g_op; · repeat first | exact Evs.nil | (apply Evs.cons; exact rfl)) | (refine Br.mk (fun _ => ?_) (fun _ => ?_) <;> try (exfalso; omega)) | (refine Sd.mk ?_ ?_; · ((repeat' apply And.intro) <;> first | omega | trivial | assumption | (simp; done) | (simp; omega))) | (refine Sx.mk ?_ ?_; · omega) | refine Fa.mk (fun _ => ?_) | refine Im.mk (fun _ => ?_) | apply Lw.go | refine g_cond ?_ | refine g_guard ?_ | refine g_keep ?_ | refine g_pass ?_ | refine g_fin ?_ | (apply g_ap; exact rfl; exact rfl; assumption)
          exact lp_next (j + 1, (pi, ci), adl w.txn l[j] f) ⟨hj1, hinv⟩ (by dsimp only; omega) (by dsimp only; rw [hsn]) (by dsimp only; rw [hsn]; repeat first | exact Ent.refl _ | (apply Ent.more; · repeat first | exact Ent.keep | exact Ent.here | exact Ent.lend | exact ent_nil | apply Ent.there) | apply Ent.drop)
        · have hne : mineL W (l.take j) w.txn = [] := Classical.byContradiction fun q => hin ((mem_idsD W w.txn (l.take j)).2 q)
          rw [← hmw] at hne hml
          have hne2 : (agl w.txn f).length = 0 := by rw [hne]; rfl
          rw [if_neg (fun q => by rcases q with q | q; cases q; exact hin q)] at hsn
          repeat' first | rw [hab] | apply step | (apply g_op; · repeat first | exact Evs.nil | (apply Evs.cons; exact rfl)) | (refine Br.mk (fun _ => ?_) (fun _ => ?_) <;> try (exfalso; omega)) | (refine Sd.mk ?_ ?_; · ((repeat' apply And.intro) <;> first | omega | trivial | assumption | (simp; done) | (simp; omega))) | (refine Sx.mk ?_ ?_; · omega) | refine Fa.mk (fun _ => ?_) | refine Im.mk (fun _ => ?_) | apply Lw.go | refine g_cond ?_ | refine g_guard ?_ | refine g_keep ?_ | refine g_pass ?_ | refine g_fin ?_ | (apply g_ap; exact rfl; exact rfl; assumption)
          rename_i wb
          first | refine at_openP (mapL ma kI (kInt .i64) f) rfl ?_ | refine av_openP (mapL ma kI (kInt .i64) f) rfl ?_
          rintro Z hZ
          dsimp only [List.cons_append, List.nil_append]
          have hal := atE_agl (k := w.txn) hZ
          refine av_atE (enc := kI) (k := w.txn) inferInstance ?_
          rw [hal]
          repeat' first | apply step | (apply g_op; · repeat first | exact Evs.nil | (apply Evs.cons; exact rfl)) | (refine Br.mk (fun _ => ?_) (fun _ => ?_) <;> try (exfalso; omega)) | (refine Sd.mk ?_ ?_; · ((repeat' apply And.intro) <;> first | omega | trivial | assumption | (simp; done) | (simp; omega))) | (refine Sx.mk ?_ ?_; · omega) | refine Fa.mk (fun _ => ?_) | refine Im.mk (fun _ => ?_) | apply Lw.go | refine g_cond ?_ | refine g_guard ?_ | refine g_keep ?_ | refine g_pass ?_ | refine g_fin ?_ | (apply g_ap; exact rfl; exact rfl; assumption)
          refine at_opsKS wb 9 (fun sz hsz => ?_)
          repeat' first | apply step | (apply g_op; · repeat first | exact Evs.nil | (apply Evs.cons; exact rfl)) | (refine Br.mk (fun _ => ?_) (fun _ => ?_) <;> try (exfalso; omega)) | (refine Sd.mk ?_ ?_; · ((repeat' apply And.intro) <;> first | omega | trivial | assumption | (simp; done) | (simp; omega))) | (refine Sx.mk ?_ ?_; · omega) | refine Fa.mk (fun _ => ?_) | refine Im.mk (fun _ => ?_) | apply Lw.go | refine g_cond ?_ | refine g_guard ?_ | refine g_keep ?_ | refine g_pass ?_ | refine g_fin ?_ | (apply g_ap; exact rfl; exact rfl; assumption)
          refine av_atE (enc := kI) (k := w.txn) inferInstance ?_
          refine at_via (takeE (K := kInt .i64) (k := w.txn) (Z := Z)) ?_
          rw [hal]
          repeat' first | apply step | (apply g_op; · repeat first | exact Evs.nil | (apply Evs.cons; exact rfl)) | (refine Br.mk (fun _ => ?_) (fun _ => ?_) <;> try (exfalso; omega)) | (refine Sd.mk ?_ ?_; · ((repeat' apply And.intro) <;> first | omega | trivial | assumption | (simp; done) | (simp; omega))) | (refine Sx.mk ?_ ?_; · omega) | refine Fa.mk (fun _ => ?_) | refine Im.mk (fun _ => ?_) | apply Lw.go | refine g_cond ?_ | refine g_guard ?_ | refine g_keep ?_ | refine g_pass ?_ | refine g_fin ?_ | (apply g_ap; exact rfl; exact rfl; assumption)
          refine kp1 wb ?_ hsz
          repeat' first | apply step | (apply g_op; · repeat first | exact Evs.nil | (apply Evs.cons; exact rfl)) | (refine Br.mk (fun _ => ?_) (fun _ => ?_) <;> try (exfalso; omega)) | (refine Sd.mk ?_ ?_; · ((repeat' apply And.intro) <;> first | omega | trivial | assumption | (simp; done) | (simp; omega))) | (refine Sx.mk ?_ ?_; · omega) | refine Fa.mk (fun _ => ?_) | refine Im.mk (fun _ => ?_) | apply Lw.go | refine g_cond ?_ | refine g_guard ?_ | refine g_keep ?_ | refine g_pass ?_ | refine g_fin ?_ | (apply g_ap; exact rfl; exact rfl; assumption)
          refine kp2 ?_
          rename_i p5 c5
          repeat' first | apply step | (apply g_op; · repeat first | exact Evs.nil | (apply Evs.cons; exact rfl)) | (refine Br.mk (fun _ => ?_) (fun _ => ?_) <;> try (exfalso; omega)) | (refine Sd.mk ?_ ?_; · ((repeat' apply And.intro) <;> first | omega | trivial | assumption | (simp; done) | (simp; omega))) | (refine Sx.mk ?_ ?_; · omega) | refine Fa.mk (fun _ => ?_) | refine Im.mk (fun _ => ?_) | apply Lw.go | refine g_cond ?_ | refine g_guard ?_ | refine g_keep ?_ | refine g_pass ?_ | refine g_fin ?_ | (apply g_ap; exact rfl; exact rfl; assumption)
          refine av_put (d := true) (bar := true) (s := .one 1) (m := ma) (l := Z) (enc := kI) (vv := slV) (key := w.txn) (val := (agl w.txn f ++ [l[j]], (p5, c5))) rfl inferInstance ?_
          refine at_via2 (putE (K := kInt .i64) (k := w.txn) (Z := Z)) ?_
          refine at_foldP (mapL ma kI (kInt .i64) (adl w.txn l[j] f)) rfl (aset w.txn (agl w.txn f ++ [l[j]], (p5, c5)) Z) (by rw [aset_fst2, hZ]; rfl) ?_
          repeat' first | apply step | (apply g_op; · repeat first | exact Evs.nil | (apply Evs.cons; exact rfl)) | (refine Br.mk (fun _ => ?_) (fun _ => ?_) <;> try (exfalso; omega)) | (refine Sd.mk ?_ ?_; · ((repeat' apply And.intro) <;> first | omega | trivial | assumption | (simp; done) | (simp; omega))) | (refine Sx.mk ?_ ?_; · omega) | refine Fa.mk (fun _ => ?_) | refine Im.mk (fun _ => ?_) | apply Lw.go | refine g_cond ?_ | refine g_guard ?_ | refine g_keep ?_ | refine g_pass ?_ | refine g_fin ?_ | (apply g_ap; exact rfl; exact rfl; assumption)
          exact lp_next (j + 1, (_, _), adl w.txn l[j] f) ⟨hj1, hinv⟩ (by dsimp only; omega) (by dsimp only; rw [hsn]) (by dsimp only; rw [hsn]; repeat first | exact Ent.refl _ | (apply Ent.more; · repeat first | exact Ent.keep | exact Ent.here | exact Ent.lend | exact ent_nil | apply Ent.there) | apply Ent.drop)
      · have hmb : ∀ id, mineB W id l[j] = false := fun id => by unfold mineB; rw [hw]; simp [hab]
        rw [if_pos (.inl hab)] at hsn
        repeat' first | rw [hab] | apply step | (apply g_op; · repeat first | exact Evs.nil | (apply Evs.cons; exact rfl)) | (refine Br.mk (fun _ => ?_) (fun _ => ?_) <;> try (exfalso; omega)) | (refine Sd.mk ?_ ?_; · ((repeat' apply And.intro) <;> first | omega | trivial | assumption | (simp; done) | (simp; omega))) | (refine Sx.mk ?_ ?_; · omega) | refine Fa.mk (fun _ => ?_) | refine Im.mk (fun _ => ?_) | apply Lw.go | refine g_cond ?_ | refine g_guard ?_ | refine g_keep ?_ | refine g_pass ?_ | refine g_fin ?_ | (apply g_ap; exact rfl; exact rfl; assumption)
        refine lp_next (j + 1, (pi, ci), f) ⟨by dsimp only; omega, fun id => ?_⟩ (by dsimp only; omega) (by dsimp only; rw [hsn]) (by dsimp only; rw [hsn]; repeat first | exact Ent.refl _ | (apply Ent.more; · repeat first | exact Ent.keep | exact Ent.here | exact Ent.lend | exact ent_nil | apply Ent.there) | apply Ent.drop)
        rw [hms, hmb, hm]; simp
  · have e : l.take j = l := List.take_of_length_le hge
    rw [e] at hil hm ⊢
    have hml := fun id => mineL_len W l id
    have htf : ∀ id, tornF W (fun id => agl (id, r.key) T.ap) l id = match wrongL (agl id f) (agl (id, r.key) T.ap) 0 with
      | some i => some ((agl id f).getD i 0, id)
      | none => none := fun id => by rw [hm]; rfl
    have hfl2 : ∀ id, (agl id f).length ≤ 100 := fun id => by rw [hm]; have := hml id; omega
    unfold tornP at hR
    generalize tornF W (fun id => agl (id, r.key) T.ap) l = tf at hR htf
    generalize idsD W l = D at hR hil ⊢
    repeat' first | apply step | (apply g_op; · repeat first | exact Evs.nil | (apply Evs.cons; exact rfl)) | (refine Br.mk (fun _ => ?_) (fun _ => ?_) <;> try (exfalso; omega)) | (refine Sd.mk ?_ ?_; · ((repeat' apply And.intro) <;> first | omega | trivial | assumption | (simp; done) | (simp; omega))) | (refine Sx.mk ?_ ?_; · omega) | refine Fa.mk (fun _ => ?_) | refine Im.mk (fun _ => ?_) | apply Lw.go | refine g_cond ?_ | refine g_guard ?_ | refine g_keep ?_ | refine g_pass ?_ | refine g_fin ?_ | (apply g_ap; exact rfl; exact rfl; assumption)
    refine at_loopS (ι := Nat) (E := fun k => [(0, .pointer (some ⟨b, 0, none⟩)), (3, .pointer (some ⟨rb, 0, none⟩)), (8, .map (some ma)), (60, .slice pi D.length ci), (61, .int .i64 (D.length : Int)), (62, .int .i64 (k : Int))]) (Δ := fun k => own (kInt .i64) pi ci D :: mapL ma kI (kInt .i64) f :: tab b T :: pt rb [.int .i64 r.txn, .int .i64 r.op, .int .i64 r.key, .slice p1 r.list.length c1, .slice p2 r.own.length c2] 0 :: F) (P := fun k => k ≤ D.length ∧ (D.drop k).findSome? tf = D.findSome? tf) (μ := fun k => D.length - k) 0 ⟨Nat.zero_le _, rfl⟩ ?_
    rintro k ⟨hk, hd⟩
    try dsimp only
    rcases Nat.lt_or_ge k D.length with hlt | hge2
    · rw [List.drop_eq_getElem_cons hlt, List.findSome?_cons, htf] at hd
      have hall := hal D[k]
      have hgl := hfl2 D[k]
      repeat' first | apply step | (apply g_op; · repeat first | exact Evs.nil | (apply Evs.cons; exact rfl)) | (refine Br.mk (fun _ => ?_) (fun _ => ?_) <;> try (exfalso; omega)) | (refine Sd.mk ?_ ?_; · ((repeat' apply And.intro) <;> first | omega | trivial | assumption | (simp; done) | (simp; omega))) | (refine Sx.mk ?_ ?_; · omega) | refine Fa.mk (fun _ => ?_) | refine Im.mk (fun _ => ?_) | apply Lw.go | refine g_cond ?_ | refine g_guard ?_ | refine g_keep ?_ | refine g_pass ?_ | refine g_fin ?_ | (apply g_ap; exact rfl; exact rfl; assumption)
      first | refine at_openP (mapL ma kI (kInt .i64) f) rfl ?_ | refine av_openP (mapL ma kI (kInt .i64) f) rfl ?_
      rintro Z hZ
      dsimp only [List.cons_append, List.nil_append]
      have hat := atE_agl (k := D[k]) hZ
      refine av_atE (enc := kI) (k := D[k]) inferInstance ?_
      refine at_via (takeE (K := kInt .i64) (k := D[k]) (Z := Z)) ?_
      rw [hat]
      repeat' first | apply step | (apply g_op; · repeat first | exact Evs.nil | (apply Evs.cons; exact rfl)) | (refine Br.mk (fun _ => ?_) (fun _ => ?_) <;> try (exfalso; omega)) | (refine Sd.mk ?_ ?_; · ((repeat' apply And.intro) <;> first | omega | trivial | assumption | (simp; done) | (simp; omega))) | (refine Sx.mk ?_ ?_; · omega) | refine Fa.mk (fun _ => ?_) | refine Im.mk (fun _ => ?_) | apply Lw.go | refine g_cond ?_ | refine g_guard ?_ | refine g_keep ?_ | refine g_pass ?_ | refine g_fin ?_ | (apply g_ap; exact rfl; exact rfl; assumption)
      refine at_callR (table_Table_Appends_spec (T := T) (x := D[k]) (y := r.key) (by omega)) ?_
      intro p4 c4
      repeat' first | apply step | (apply g_op; · repeat first | exact Evs.nil | (apply Evs.cons; exact rfl)) | (refine Br.mk (fun _ => ?_) (fun _ => ?_) <;> try (exfalso; omega)) | (refine Sd.mk ?_ ?_; · ((repeat' apply And.intro) <;> first | omega | trivial | assumption | (simp; done) | (simp; omega))) | (refine Sx.mk ?_ ?_; · omega) | refine Fa.mk (fun _ => ?_) | refine Im.mk (fun _ => ?_) | apply Lw.go | refine g_cond ?_ | refine g_guard ?_ | refine g_keep ?_ | refine g_pass ?_ | refine g_fin ?_ | (apply g_ap; exact rfl; exact rfl; assumption)
      refine at_callR (dirty_wrong_spec (l := agl D[k] f) (all := agl (D[k], r.key) T.ap) (by omega) (by omega)) ?_
      have hlt2 := wrongL_lt (agl D[k] f) (agl (D[k], r.key) T.ap) 0
      cases hq : wrongL (agl D[k] f) (agl (D[k], r.key) T.ap) 0 with
      | none =>
        rw [hq] at hd
        unfold wrI
        repeat' first | apply step | (apply g_op; · repeat first | exact Evs.nil | (apply Evs.cons; exact rfl)) | (refine Br.mk (fun _ => ?_) (fun _ => ?_) <;> try (exfalso; omega)) | (refine Sd.mk ?_ ?_; · ((repeat' apply And.intro) <;> first | omega | trivial | assumption | (simp; done) | (simp; omega))) | (refine Sx.mk ?_ ?_; · omega) | refine Fa.mk (fun _ => ?_) | refine Im.mk (fun _ => ?_) | apply Lw.go | refine g_cond ?_ | refine g_guard ?_ | refine g_keep ?_ | refine g_pass ?_ | refine g_fin ?_ | (apply g_ap; exact rfl; exact rfl; assumption)
        rw [← hat]
        refine at_via2 (backE (K := kInt .i64) (k := D[k]) (Z := Z)) ?_
        refine at_foldP (mapL ma kI (kInt .i64) f) rfl Z hZ ?_
        exact lp_next (k + 1) ⟨by omega, hd⟩ (by omega)
      | some i =>
        have hil2 := hlt2 i hq
        rw [hq] at hd
        dsimp only at hd
        rw [← hd, getD_lt (by omega : i < (agl D[k] f).length)] at hR
        unfold wrI
        repeat' first | apply step | (apply g_op; · repeat first | exact Evs.nil | (apply Evs.cons; exact rfl)) | (refine Br.mk (fun _ => ?_) (fun _ => ?_) <;> try (exfalso; omega)) | (refine Sd.mk ?_ ?_; · ((repeat' apply And.intro) <;> first | omega | trivial | assumption | (simp; done) | (simp; omega))) | (refine Sx.mk ?_ ?_; · omega) | refine Fa.mk (fun _ => ?_) | refine Im.mk (fun _ => ?_) | apply Lw.go | refine g_cond ?_ | refine g_guard ?_ | refine g_keep ?_ | refine g_pass ?_ | refine g_fin ?_ | (apply g_ap; exact rfl; exact rfl; assumption)
        refine av_atE (enc := kI) (k := D[k]) inferInstance ?_
        rw [hat]
        repeat' first | apply step | (apply g_op; · repeat first | exact Evs.nil | (apply Evs.cons; exact rfl)) | (refine Br.mk (fun _ => ?_) (fun _ => ?_) <;> try (exfalso; omega)) | (refine Sd.mk ?_ ?_; · ((repeat' apply And.intro) <;> first | omega | trivial | assumption | (simp; done) | (simp; omega))) | (refine Sx.mk ?_ ?_; · omega) | refine Fa.mk (fun _ => ?_) | refine Im.mk (fun _ => ?_) | apply Lw.go | refine g_cond ?_ | refine g_guard ?_ | refine g_keep ?_ | refine g_pass ?_ | refine g_fin ?_ | (apply g_ap; exact rfl; exact rfl; assumption)
        exact fin hR
    · rw [List.drop_eq_nil_of_le hge2] at hd
      rw [← hd] at hR
      repeat' first | apply step | (apply g_op; · repeat first | exact Evs.nil | (apply Evs.cons; exact rfl)) | (refine Br.mk (fun _ => ?_) (fun _ => ?_) <;> try (exfalso; omega)) | (refine Sd.mk ?_ ?_; · ((repeat' apply And.intro) <;> first | omega | trivial | assumption | (simp; done) | (simp; omega))) | (refine Sx.mk ?_ ?_; · omega) | refine Fa.mk (fun _ => ?_) | refine Im.mk (fun _ => ?_) | apply Lw.go | refine g_cond ?_ | refine g_guard ?_ | refine g_keep ?_ | refine g_pass ?_ | refine g_fin ?_ | (apply g_ap; exact rfl; exact rfl; assumption)
      exact fin hR
end
end Go.AMS

namespace Go.AMS
open Go.AM hiding Kt At WP WL Runs RunsY
open Go.AM.G
set_option linter.unusedVariables false
set_option linter.unusedSimpArgs false
set_option linter.unusedSectionVars false
set_option maxRecDepth 100000
set_option maxHeartbeats 1000000
attribute [local irreducible] AtS AtV AtC AtG FinA Spec Post LP G.At G.WP G.WL pt own fro rdl ro hx mp lrec elt sub

open Go.AM.G.Set
section
variable {h : List HTx} {T : Tb} {r : HRd} {p q p1 p2 p3 : Option Addr} {c d c1 c2 c3 b : Nat}
def gT (W : Wf) (A : Int → List Int) (l : List Int) (x : Int) : Option (Int × Int) := match W x with
  | some w => tornF W A l w.txn
  | none => none
theorem tornR_eq (W : Wf) (A : Int → List Int) (l : List Int) : tornR W A l = l.findSome? (gT W A l) := rfl
theorem gT_some {W : Wf} {A : Int → List Int} {l : List Int} {x : Int} {w : HWr} (h : W x = some w) : gT W A l x = tornF W A l w.txn := by unfold gT; rw [h]
theorem gT_none {W : Wf} {A : Int → List Int} {l : List Int} {x : Int} (h : W x = none) : gT W A l x = none := by unfold gT; rw [h]
theorem r14_of_spec {l : List Int} {key id : Int} (hf : FewH h 20 60) (hk : OkH h) (hl : l.length ≤ 1000) : Spec prog1 n_r14_of [.agg #[.slice p h.length c], .slice p3 l.length c3, .int .i64 key, .int .i64 id] [fro kHTx p c h, rdl (kInt .i64) p3 l] (fun R => ∀ p' c', R (.slice p' (mineL (wK (TH h) key) l id).length c') [own (kInt .i64) p' c' (mineL (wK (TH h) key) l id)]) := by
  refine spec_code c_r14_of rfl ?_; intro n F R hR; unfold F_r14_of
  have hrw : ∀ x, Spec prog1 n_r12_Writer [.agg #[.slice p h.length c], .int .i64 key, .int .i64 x] [fro kHTx p c h] (fun R => R (wrO (wK (TH h) key x)) []) := fun x => r12W_spec hf hk
  generalize wK (TH h) key = W at hR hrw ⊢
  repeat' first | apply step | (apply g_op; · repeat first | exact Evs.nil | (apply Evs.cons; exact rfl)) | (refine Br.mk (fun _ => ?_) (fun _ => ?_) <;> try (exfalso; omega)) | (refine Sd.mk ?_ ?_; · ((repeat' apply And.intro) <;> first | omega | trivial | assumption | (simp; done) | (simp; omega))) | (refine Sx.mk ?_ ?_; · omega) | refine Fa.mk (fun _ => ?_) | refine Im.mk (fun _ => ?_) | apply Lw.go | refine g_cond ?_ | refine g_guard ?_ | refine g_keep ?_ | refine g_pass ?_ | refine g_fin ?_ | (apply g_ap; exact rfl; exact rfl; assumption)
  rename_i hb
  refine at_loopS (ι := Nat × (Option Addr × Nat)) (E := fun z => [(1, .slice p3 l.length c3), (2, .int .i64 key), (3, .int .i64 id), (4, .pointer (some ⟨hb, 0, none⟩)), (9, .slice z.2.1 (mineL W (l.take z.1) id).length z.2.2), (10, .int .i64 (z.1 : Int))]) (Δ := fun z => own (kInt .i64) z.2.1 z.2.2 (mineL W (l.take z.1) id) :: pt hb [.slice p h.length c] 0 :: rdl (kInt .i64) p3 l :: fro kHTx p c h :: F) (P := fun z => z.1 ≤ l.length) (μ := fun z => l.length - z.1) (0, (none, 0)) (Nat.zero_le _) ?_
  rintro ⟨j, po, co⟩ hj
  dsimp only at hj ⊢
  have hml := mineL_len W (l.take j) id
  have hjl : (l.take j).length ≤ j := List.length_take_le _ _
  rcases Nat.lt_or_ge j l.length with hlt | hge
  · have hms := mineL_snoc W (l.take j) l[j] id
    rw [← List.take_succ_eq_append_getElem hlt] at hms
    have hrj := hrw l[j]
    repeat' first | apply step | (apply g_op; · repeat first | exact Evs.nil | (apply Evs.cons; exact rfl)) | (refine Br.mk (fun _ => ?_) (fun _ => ?_) <;> try (exfalso; omega)) | (refine Sd.mk ?_ ?_; · ((repeat' apply And.intro) <;> first | omega | trivial | assumption | (simp; done) | (simp; omega))) | (refine Sx.mk ?_ ?_; · omega) | refine Fa.mk (fun _ => ?_) | refine Im.mk (fun _ => ?_) | apply Lw.go | refine g_cond ?_ | refine g_guard ?_ | refine g_keep ?_ | refine g_pass ?_ | refine g_fin ?_ | (apply g_ap; exact rfl; exact rfl; assumption)
    refine at_callR (hrj) ?_
    cases hw : W l[j] with
    | none =>
      have hmb : mineB W id l[j] = false := by unfold mineB; rw [hw]
      rw [hmb] at hms
      simp only [Bool.false_eq_true, if_false, List.append_nil] at hms
      unfold wrO
      repeat' first | apply step | (apply g_op; · repeat first | exact Evs.nil | (apply Evs.cons; exact rfl)) | (refine Br.mk (fun _ => ?_) (fun _ => ?_) <;> try (exfalso; omega)) | (refine Sd.mk ?_ ?_; · ((repeat' apply And.intro) <;> first | omega | trivial | assumption | (simp; done) | (simp; omega))) | (refine Sx.mk ?_ ?_; · omega) | refine Fa.mk (fun _ => ?_) | refine Im.mk (fun _ => ?_) | apply Lw.go | refine g_cond ?_ | refine g_guard ?_ | refine g_keep ?_ | refine g_pass ?_ | refine g_fin ?_ | (apply g_ap; exact rfl; exact rfl; assumption)
      exact lp_next (j + 1, _, _) (by dsimp only; omega) (by dsimp only; omega) (by dsimp only; rw [hms]) (by dsimp only; rw [hms]; repeat first | exact Ent.refl _ | (apply Ent.more; · repeat first | exact Ent.keep | exact Ent.here | exact Ent.lend | exact ent_nil | apply Ent.there) | apply Ent.drop)
    | some w =>
      unfold wrO
      cases hab : w.ab
      · by_cases he : w.txn = id
        · have hmb : mineB W id l[j] = true := by unfold mineB; rw [hw]; simp [hab, he]
          rw [hmb, if_pos rfl] at hms
          repeat' first | rw [hab] | apply step | (apply g_op; · repeat first | exact Evs.nil | (apply Evs.cons; exact rfl)) | (refine Br.mk (fun _ => ?_) (fun _ => ?_) <;> try (exfalso; omega)) | (refine Sd.mk ?_ ?_; · ((repeat' apply And.intro) <;> first | omega | trivial | assumption | (simp; done) | (simp; omega))) | (refine Sx.mk ?_ ?_; · omega) | refine Fa.mk (fun _ => ?_) | refine Im.mk (fun _ => ?_) | apply Lw.go | refine g_cond ?_ | refine g_guard ?_ | refine g_keep ?_ | refine g_pass ?_ | refine g_fin ?_ | (apply g_ap; exact rfl; exact rfl; assumption)
          all_goals first | exact lp_next (j + 1, _, _) (by dsimp only; omega) (by dsimp only; omega) (by dsimp only; rw [hms]) (by dsimp only; rw [hms]; repeat first | exact Ent.refl _ | (apply Ent.more; · repeat first | exact Ent.keep | exact Ent.here | exact Ent.lend | exact ent_nil | apply Ent.there) | apply Ent.drop) | (exfalso; omega)
        · have hmb : mineB W id l[j] = false := by unfold mineB; rw [hw]; simp [hab, he]
          rw [hmb] at hms
          simp only [Bool.false_eq_true, if_false, List.append_nil] at hms
          repeat' first | rw [hab] | apply step | (apply g_op; · repeat first | exact Evs.nil | (apply Evs.cons; exact rfl)) | (refine Br.mk (fun _ => ?_) (fun _ => ?_) <;> try (exfalso; omega)) | (refine Sd.mk ?_ ?_; · ((repeat' apply And.intro) <;> first | omega | trivial | assumption | (simp; done) | (simp; omega))) | (refine Sx.mk ?_ ?_; · omega) | refine Fa.mk (fun _ => ?_) | refine Im.mk (fun _ => ?_) | apply Lw.go | refine g_cond ?_ | refine g_guard ?_ | refine g_keep ?_ | refine g_pass ?_ | refine g_fin ?_ | (apply g_ap; exact rfl; exact rfl; assumption)
          all_goals first | exact lp_next (j + 1, _, _) (by dsimp only; omega) (by dsimp only; omega) (by dsimp only; rw [hms]) (by dsimp only; rw [hms]; repeat first | exact Ent.refl _ | (apply Ent.more; · repeat first | exact Ent.keep | exact Ent.here | exact Ent.lend | exact ent_nil | apply Ent.there) | apply Ent.drop) | (exfalso; omega)
      · have hmb : mineB W id l[j] = false := by unfold mineB; rw [hw]; simp [hab]
        rw [hmb] at hms
        simp only [Bool.false_eq_true, if_false, List.append_nil] at hms
        repeat' first | rw [hab] | apply step | (apply g_op; · repeat first | exact Evs.nil | (apply Evs.cons; exact rfl)) | (refine Br.mk (fun _ => ?_) (fun _ => ?_) <;> try (exfalso; omega)) | (refine Sd.mk ?_ ?_; · ((repeat' apply And.intro) <;> first | omega | trivial | assumption | (simp; done) | (simp; omega))) | (refine Sx.mk ?_ ?_; · omega) | refine Fa.mk (fun _ => ?_) | refine Im.mk (fun _ => ?_) | apply Lw.go | refine g_cond ?_ | refine g_guard ?_ | refine g_keep ?_ | refine g_pass ?_ | refine g_fin ?_ | (apply g_ap; exact rfl; exact rfl; assumption)
        all_goals first | exact lp_next (j + 1, _, _) (by dsimp only; omega) (by dsimp only; omega) (by dsimp only; rw [hms]) (by dsimp only; rw [hms]; repeat first | exact Ent.refl _ | (apply Ent.more; · repeat first | exact Ent.keep | exact Ent.here | exact Ent.lend | exact ent_nil | apply Ent.there) | apply Ent.drop) | (exfalso; omega)
  · have e : l.take j = l := List.take_of_length_le hge
    rw [e]
    repeat' first | apply step | (apply g_op; · repeat first | exact Evs.nil | (apply Evs.cons; exact rfl)) | (refine Br.mk (fun _ => ?_) (fun _ => ?_) <;> try (exfalso; omega)) | (refine Sd.mk ?_ ?_; · ((repeat' apply And.intro) <;> first | omega | trivial | assumption | (simp; done) | (simp; omega))) | (refine Sx.mk ?_ ?_; · omega) | refine Fa.mk (fun _ => ?_) | refine Im.mk (fun _ => ?_) | apply Lw.go | refine g_cond ?_ | refine g_guard ?_ | refine g_keep ?_ | refine g_pass ?_ | refine g_fin ?_ | (apply g_ap; exact rfl; exact rfl; assumption)
    exact fin (hR po co)
theorem r14_Torn_spec (hf : FewH h 20 60) (hk : OkH h) (h1 : r.list.length ≤ 100) (h2 : r.own.length ≤ 100) : Spec prog1 n_r14_Torn [.agg #[.slice p h.length c], .agg #[.int .i64 r.txn, .int .i64 r.op, .int .i64 r.key, .slice p1 r.list.length c1, .slice p2 r.own.length c2]] [fro kHTx p c h, fro (kInt .i64) p1 c1 r.list] (fun R => R (triO (tornR (wK (TH h) r.key) (fun id => agl (id, r.key) (TH h).ap) (frontL r))) []) := by
  refine spec_code c_r14_Torn rfl ?_; intro n F R hR; unfold F_r14_Torn
  have hfl := frontL_len r
  have hal : ∀ x, (agl (x, r.key) (TH h).ap).length ≤ 60 := fun x => ap_le hf hk x r.key
  repeat' first | apply step | (apply g_op; · repeat first | exact Evs.nil | (apply Evs.cons; exact rfl)) | (refine Br.mk (fun _ => ?_) (fun _ => ?_) <;> try (exfalso; omega)) | (refine Sd.mk ?_ ?_; · ((repeat' apply And.intro) <;> first | omega | trivial | assumption | (simp; done) | (simp; omega))) | (refine Sx.mk ?_ ?_; · omega) | refine Fa.mk (fun _ => ?_) | refine Im.mk (fun _ => ?_) | apply Lw.go | refine g_cond ?_ | refine g_guard ?_ | refine g_keep ?_ | refine g_pass ?_ | refine g_fin ?_ | (apply g_ap; exact rfl; exact rfl; assumption)
  first | refine at_callS (r13_Front_spec (r := r) (by omega) (by omega)) ?_ | refine at_callR (r13_Front_spec (r := r) (by omega) (by omega)) ?_
  intro p3 c3
  have hrw : ∀ x, Spec prog1 n_r12_Writer [.agg #[.slice p h.length c], .int .i64 r.key, .int .i64 x] [fro kHTx p c h] (fun R => R (wrO (wK (TH h) r.key x)) []) := fun x => r12W_spec hf hk
  have hof : ∀ (l : List Int) (id : Int) (hl : l.length ≤ 1000), Spec prog1 n_r14_of [.agg #[.slice p h.length c], .slice p3 l.length c3, .int .i64 r.key, .int .i64 id] [fro kHTx p c h, rdl (kInt .i64) p3 l] (fun R => ∀ p' c', R (.slice p' (mineL (wK (TH h) r.key) l id).length c') [own (kInt .i64) p' c' (mineL (wK (TH h) r.key) l id)]) := fun l id hl => r14_of_spec hf hk hl
  have hap2 : ∀ id, Spec prog1 n_r12_Appends [.agg #[.slice p h.length c], .int .i64 id, .int .i64 r.key] [fro kHTx p c h] (fun R => ∀ p' c', R (.slice p' (agl (id, r.key) (TH h).ap).length c') [own (kInt .i64) p' c' (agl (id, r.key) (TH h).ap)]) := fun id => r12A_spec hf hk
  rw [tornR_eq] at hR
  generalize hgA : (fun id => agl (id, r.key) (TH h).ap) = A at hR
  have hA : ∀ id, agl (id, r.key) (TH h).ap = A id := fun id => by rw [← hgA]
  simp only [hA] at hal hap2
  generalize wK (TH h) r.key = W at hR hrw hof ⊢
  generalize frontL r = l at hR hfl ⊢
  repeat' first | apply step | (apply g_op; · repeat first | exact Evs.nil | (apply Evs.cons; exact rfl)) | (refine Br.mk (fun _ => ?_) (fun _ => ?_) <;> try (exfalso; omega)) | (refine Sd.mk ?_ ?_; · ((repeat' apply And.intro) <;> first | omega | trivial | assumption | (simp; done) | (simp; omega))) | (refine Sx.mk ?_ ?_; · omega) | refine Fa.mk (fun _ => ?_) | refine Im.mk (fun _ => ?_) | apply Lw.go | refine g_cond ?_ | refine g_guard ?_ | refine g_keep ?_ | refine g_pass ?_ | refine g_fin ?_ | (apply g_ap; exact rfl; exact rfl; assumption)
  rename_i hb rb
  refine at_loopS (ι := Nat) (E := fun j => [(2, .pointer (some ⟨hb, 0, none⟩)), (3, .pointer (some ⟨rb, 0, none⟩)), (7, .slice p3 l.length c3), (8, .int .i64 (j : Int))]) (Δ := fun j => own (kInt .i64) p3 c3 l :: pt rb [.int .i64 r.txn, .int .i64 r.op, .int .i64 r.key, .slice p1 r.list.length c1, .slice p2 r.own.length c2] 0 :: pt hb [.slice p h.length c] 0 :: fro kHTx p c h :: F) (P := fun j => j ≤ l.length ∧ (l.drop j).findSome? (gT W A l) = l.findSome? (gT W A l)) (μ := fun j => l.length - j) 0 ⟨Nat.zero_le _, rfl⟩ ?_
  rintro j ⟨hj, hd⟩
  try dsimp only
  rcases Nat.lt_or_ge j l.length with hlt | hge
  · rw [List.drop_eq_getElem_cons hlt, List.findSome?_cons] at hd
    have hrj := hrw l[j]
    repeat' first | apply step | (apply g_op; · repeat first | exact Evs.nil | (apply Evs.cons; exact rfl)) | (refine Br.mk (fun _ => ?_) (fun _ => ?_) <;> try (exfalso; omega)) | (refine Sd.mk ?_ ?_; · ((repeat' apply And.intro) <;> first | omega | trivial | assumption | (simp; done) | (simp; omega))) | (refine Sx.mk ?_ ?_; · omega) | refine Fa.mk (fun _ => ?_) | refine Im.mk (fun _ => ?_) | apply Lw.go | refine g_cond ?_ | refine g_guard ?_ | refine g_keep ?_ | refine g_pass ?_ | refine g_fin ?_ | (apply g_ap; exact rfl; exact rfl; assumption)
    refine at_callR (hrj) ?_
    cases hw : W l[j] with
    | none =>
      rw [gT_none hw] at hd
      unfold wrO
      repeat' first | apply step | (apply g_op; · repeat first | exact Evs.nil | (apply Evs.cons; exact rfl)) | (refine Br.mk (fun _ => ?_) (fun _ => ?_) <;> try (exfalso; omega)) | (refine Sd.mk ?_ ?_; · ((repeat' apply And.intro) <;> first | omega | trivial | assumption | (simp; done) | (simp; omega))) | (refine Sx.mk ?_ ?_; · omega) | refine Fa.mk (fun _ => ?_) | refine Im.mk (fun _ => ?_) | apply Lw.go | refine g_cond ?_ | refine g_guard ?_ | refine g_keep ?_ | refine g_pass ?_ | refine g_fin ?_ | (apply g_ap; exact rfl; exact rfl; assumption)
      exact lp_next (j + 1) ⟨by omega, hd⟩ (by omega)
    | some w =>
      rw [gT_some hw] at hd
      have hml := mineL_len W l w.txn
      have hall := hal w.txn
      have hofw := hof l w.txn (by omega)
      have hapw := hap2 w.txn
      unfold wrO
      repeat' first | apply step | (apply g_op; · repeat first | exact Evs.nil | (apply Evs.cons; exact rfl)) | (refine Br.mk (fun _ => ?_) (fun _ => ?_) <;> try (exfalso; omega)) | (refine Sd.mk ?_ ?_; · ((repeat' apply And.intro) <;> first | omega | trivial | assumption | (simp; done) | (simp; omega))) | (refine Sx.mk ?_ ?_; · omega) | refine Fa.mk (fun _ => ?_) | refine Im.mk (fun _ => ?_) | apply Lw.go | refine g_cond ?_ | refine g_guard ?_ | refine g_keep ?_ | refine g_pass ?_ | refine g_fin ?_ | (apply g_ap; exact rfl; exact rfl; assumption)
      refine at_callR (hofw) ?_
      intro p4 c4
      repeat' first | apply step | (apply g_op; · repeat first | exact Evs.nil | (apply Evs.cons; exact rfl)) | (refine Br.mk (fun _ => ?_) (fun _ => ?_) <;> try (exfalso; omega)) | (refine Sd.mk ?_ ?_; · ((repeat' apply And.intro) <;> first | omega | trivial | assumption | (simp; done) | (simp; omega))) | (refine Sx.mk ?_ ?_; · omega) | refine Fa.mk (fun _ => ?_) | refine Im.mk (fun _ => ?_) | apply Lw.go | refine g_cond ?_ | refine g_guard ?_ | refine g_keep ?_ | refine g_pass ?_ | refine g_fin ?_ | (apply g_ap; exact rfl; exact rfl; assumption)
      first | refine at_callS (hapw) ?_ | refine at_callR (hapw) ?_
      intro p5 c5
      have htf : tornF W A l w.txn = match wrongL (mineL W l w.txn) (A w.txn) 0 with
        | some i => some ((mineL W l w.txn).getD i 0, w.txn)
        | none => none := rfl
      rw [htf] at hd
      generalize mineL W l w.txn = m at hd hml ⊢
      generalize A w.txn = a at hd hall ⊢
      repeat' first | apply step | (apply g_op; · repeat first | exact Evs.nil | (apply Evs.cons; exact rfl)) | (refine Br.mk (fun _ => ?_) (fun _ => ?_) <;> try (exfalso; omega)) | (refine Sd.mk ?_ ?_; · ((repeat' apply And.intro) <;> first | omega | trivial | assumption | (simp; done) | (simp; omega))) | (refine Sx.mk ?_ ?_; · omega) | refine Fa.mk (fun _ => ?_) | refine Im.mk (fun _ => ?_) | apply Lw.go | refine g_cond ?_ | refine g_guard ?_ | refine g_keep ?_ | refine g_pass ?_ | refine g_fin ?_ | (apply g_ap; exact rfl; exact rfl; assumption)
      rename_i wb
      refine at_loopS (ι := Nat) (E := fun i => [(2, .pointer (some ⟨hb, 0, none⟩)), (3, .pointer (some ⟨rb, 0, none⟩)), (7, .slice p3 l.length c3), (8, .int .i64 (j : Int)), (9, .pointer (some ⟨wb, 0, none⟩)), (11, .slice p4 m.length c4), (12, .slice p5 a.length c5), (13, .int .i64 (i : Int))]) (Δ := fun i => own (kInt .i64) p4 c4 m :: own (kInt .i64) p5 c5 a :: pt wb [.int .i64 w.txn, .int .i64 w.op, .int .i64 w.key, .int .i64 w.value, .bool w.ab] 0 :: own (kInt .i64) p3 c3 l :: pt rb [.int .i64 r.txn, .int .i64 r.op, .int .i64 r.key, .slice p1 r.list.length c1, .slice p2 r.own.length c2] 0 :: pt hb [.slice p h.length c] 0 :: fro kHTx p c h :: F) (P := fun i => i ≤ m.length ∧ wrongL (m.drop i) (a.drop i) i = wrongL m a 0) (μ := fun i => m.length - i) 0 ⟨Nat.zero_le _, rfl⟩ ?_
      rintro i ⟨hi, hwr⟩
      try dsimp only
      rcases Nat.lt_or_ge i m.length with hlt2 | hge2
      · rw [wrongL_drop hlt2] at hwr
        rcases Nat.lt_or_ge i a.length with hl3 | hg3
        · rw [dif_pos hl3] at hwr
          by_cases he : m[i] = a[i]
          · rw [if_pos he] at hwr
            repeat' first | apply step | (apply g_op; · repeat first | exact Evs.nil | (apply Evs.cons; exact rfl)) | (refine Br.mk (fun _ => ?_) (fun _ => ?_) <;> try (exfalso; omega)) | (refine Sd.mk ?_ ?_; · ((repeat' apply And.intro) <;> first | omega | trivial | assumption | (simp; done) | (simp; omega))) | (refine Sx.mk ?_ ?_; · omega) | refine Fa.mk (fun _ => ?_) | refine Im.mk (fun _ => ?_) | apply Lw.go | refine g_cond ?_ | refine g_guard ?_ | refine g_keep ?_ | refine g_pass ?_ | refine g_fin ?_ | (apply g_ap; exact rfl; exact rfl; assumption)
            all_goals first | exact lp_next (i + 1) ⟨by omega, hwr⟩ (by omega) | (exfalso; omega)
          · rw [if_neg he] at hwr
            rw [← hwr] at hd
            dsimp only at hd
            rw [← hd, getD_lt hlt2] at hR
            repeat' first | apply step | (apply g_op; · repeat first | exact Evs.nil | (apply Evs.cons; exact rfl)) | (refine Br.mk (fun _ => ?_) (fun _ => ?_) <;> try (exfalso; omega)) | (refine Sd.mk ?_ ?_; · ((repeat' apply And.intro) <;> first | omega | trivial | assumption | (simp; done) | (simp; omega))) | (refine Sx.mk ?_ ?_; · omega) | refine Fa.mk (fun _ => ?_) | refine Im.mk (fun _ => ?_) | apply Lw.go | refine g_cond ?_ | refine g_guard ?_ | refine g_keep ?_ | refine g_pass ?_ | refine g_fin ?_ | (apply g_ap; exact rfl; exact rfl; assumption)
            all_goals first | exact fin hR | (exfalso; omega)
        · rw [dif_neg (by omega)] at hwr
          rw [← hwr] at hd
          dsimp only at hd
          rw [← hd, getD_lt hlt2] at hR
          repeat' first | apply step | (apply g_op; · repeat first | exact Evs.nil | (apply Evs.cons; exact rfl)) | (refine Br.mk (fun _ => ?_) (fun _ => ?_) <;> try (exfalso; omega)) | (refine Sd.mk ?_ ?_; · ((repeat' apply And.intro) <;> first | omega | trivial | assumption | (simp; done) | (simp; omega))) | (refine Sx.mk ?_ ?_; · omega) | refine Fa.mk (fun _ => ?_) | refine Im.mk (fun _ => ?_) | apply Lw.go | refine g_cond ?_ | refine g_guard ?_ | refine g_keep ?_ | refine g_pass ?_ | refine g_fin ?_ | (apply g_ap; exact rfl; exact rfl; assumption)
          all_goals first | exact fin hR | (exfalso; omega)
      · rw [List.drop_eq_nil_of_le hge2] at hwr
        rw [← hwr] at hd
        repeat' first | apply step | (apply g_op; · repeat first | exact Evs.nil | (apply Evs.cons; exact rfl)) | (refine Br.mk (fun _ => ?_) (fun _ => ?_) <;> try (exfalso; omega)) | (refine Sd.mk ?_ ?_; · ((repeat' apply And.intro) <;> first | omega | trivial | assumption | (simp; done) | (simp; omega))) | (refine Sx.mk ?_ ?_; · omega) | refine Fa.mk (fun _ => ?_) | refine Im.mk (fun _ => ?_) | apply Lw.go | refine g_cond ?_ | refine g_guard ?_ | refine g_keep ?_ | refine g_pass ?_ | refine g_fin ?_ | (apply g_ap; exact rfl; exact rfl; assumption)
        exact lp_next (j + 1) ⟨by omega, hd⟩ (by omega)
  · rw [List.drop_eq_nil_of_le hge] at hd
    rw [← hd] at hR
    repeat' first | apply step | (apply g_op; · repeat first | exact Evs.nil | (apply Evs.cons; exact rfl)) | (refine Br.mk (fun _ => ?_) (fun _ => ?_) <;> try (exfalso; omega)) | (refine Sd.mk ?_ ?_; · ((repeat' apply And.intro) <;> first | omega | trivial | assumption | (simp; done) | (simp; omega))) | (refine Sx.mk ?_ ?_; · omega) | refine Fa.mk (fun _ => ?_) | refine Im.mk (fun _ => ?_) | apply Lw.go | refine g_cond ?_ | refine g_guard ?_ | refine g_keep ?_ | refine g_pass ?_ | refine g_fin ?_ | (apply g_ap; exact rfl; exact rfl; assumption)
    exact fin hR
def t1 : Option (Int × Int) → Int
  | some q => q.1
  | none => 0
def t2 : Option (Int × Int) → Int
  | some q => q.2
  | none => 0
theorem triO_eq (o : Option (Int × Int)) : triO o = .tuple #[.int .i64 (t1 o), .int .i64 (t2 o), .bool o.isSome] := by cases o <;> rfl
theorem l14_works_spec : Spec prog1 n_l14_works [] [] (fun R => R (.bool true) []) := closed_spec c_l14_works
theorem l14_few_spec : Spec prog1 n_l14_few [.agg #[.slice p h.length c]] [fro kHTx p c h] (fun R => (FewH h 20 60 → chkH h = 0 → R (.bool true) []) ∧ R (.bool false) []) := by
  refine spec_code c_l14_few rfl ?_; intro n F R hR; unfold F_l14_few
  repeat' first | apply step | (apply g_op; · repeat first | exact Evs.nil | (apply Evs.cons; exact rfl)) | (refine Br.mk (fun _ => ?_) (fun _ => ?_) <;> try (exfalso; omega)) | (refine Sd.mk ?_ ?_; · ((repeat' apply And.intro) <;> first | omega | trivial | assumption | (simp; done) | (simp; omega))) | (refine Sx.mk ?_ ?_; · omega) | refine Fa.mk (fun _ => ?_) | refine Im.mk (fun _ => ?_) | apply Lw.go | refine g_cond ?_ | refine g_guard ?_ | refine g_keep ?_ | refine g_pass ?_ | refine g_fin ?_ | (apply g_ap; exact rfl; exact rfl; assumption)
  first | refine at_callS (r03_Few_spec (h := h) (a := 20) (b := 60) (by omega) (by omega)) ?_ | refine at_callR (r03_Few_spec (h := h) (a := 20) (b := 60) (by omega) (by omega)) ?_
  refine ⟨fun hf => ?_, ?_⟩
  · repeat' first | apply step | (apply g_op; · repeat first | exact Evs.nil | (apply Evs.cons; exact rfl)) | (refine Br.mk (fun _ => ?_) (fun _ => ?_) <;> try (exfalso; omega)) | (refine Sd.mk ?_ ?_; · ((repeat' apply And.intro) <;> first | omega | trivial | assumption | (simp; done) | (simp; omega))) | (refine Sx.mk ?_ ?_; · omega) | refine Fa.mk (fun _ => ?_) | refine Im.mk (fun _ => ?_) | apply Lw.go | refine g_cond ?_ | refine g_guard ?_ | refine g_keep ?_ | refine g_pass ?_ | refine g_fin ?_ | (apply g_ap; exact rfl; exact rfl; assumption)
    first | refine at_callS (r04_Check_spec hf) ?_ | refine at_callR (r04_Check_spec hf) ?_
    repeat' first | apply step | (apply g_op; · repeat first | exact Evs.nil | (apply Evs.cons; exact rfl)) | (refine Br.mk (fun _ => ?_) (fun _ => ?_) <;> try (exfalso; omega)) | (refine Sd.mk ?_ ?_; · ((repeat' apply And.intro) <;> first | omega | trivial | assumption | (simp; done) | (simp; omega))) | (refine Sx.mk ?_ ?_; · omega) | refine Fa.mk (fun _ => ?_) | refine Im.mk (fun _ => ?_) | apply Lw.go | refine g_cond ?_ | refine g_guard ?_ | refine g_keep ?_ | refine g_pass ?_ | refine g_fin ?_ | (apply g_ap; exact rfl; exact rfl; assumption)
    · exact fin (hR.1 hf ‹_›)
    · exact fin hR.2
  · repeat' first | apply step | (apply g_op; · repeat first | exact Evs.nil | (apply Evs.cons; exact rfl)) | (refine Br.mk (fun _ => ?_) (fun _ => ?_) <;> try (exfalso; omega)) | (refine Sd.mk ?_ ?_; · ((repeat' apply And.intro) <;> first | omega | trivial | assumption | (simp; done) | (simp; omega))) | (refine Sx.mk ?_ ?_; · omega) | refine Fa.mk (fun _ => ?_) | refine Im.mk (fun _ => ?_) | apply Lw.go | refine g_cond ?_ | refine g_guard ?_ | refine g_keep ?_ | refine g_pass ?_ | refine g_fin ?_ | (apply g_ap; exact rfl; exact rfl; assumption)
    exact fin hR.2
theorem l14_DirtyReads_spec : Spec prog1 n_l14_DirtyReads [.agg #[.slice p h.length c], .agg #[.int .i64 r.txn, .int .i64 r.op, .int .i64 r.key, .slice p1 r.list.length c1, .slice p2 r.own.length c2]] [fro kHTx p c h, fro (kInt .i64) p1 c1 r.list, fro (kInt .i64) p2 c2 r.own] (fun R => R (.bool true) []) := by
  refine spec_code c_l14_DirtyReads rfl ?_; intro n F R hR; unfold F_l14_DirtyReads
  repeat' first | apply step | (apply g_op; · repeat first | exact Evs.nil | (apply Evs.cons; exact rfl)) | (refine Br.mk (fun _ => ?_) (fun _ => ?_) <;> try (exfalso; omega)) | (refine Sd.mk ?_ ?_; · ((repeat' apply And.intro) <;> first | omega | trivial | assumption | (simp; done) | (simp; omega))) | (refine Sx.mk ?_ ?_; · omega) | refine Fa.mk (fun _ => ?_) | refine Im.mk (fun _ => ?_) | apply Lw.go | refine g_cond ?_ | refine g_guard ?_ | refine g_keep ?_ | refine g_pass ?_ | refine g_fin ?_ | (apply g_ap; exact rfl; exact rfl; assumption)
  first | refine at_callS (l14_few_spec (h := h)) ?_ | refine at_callR (l14_few_spec (h := h)) ?_
  refine ⟨fun hf hc => ?_, ?_⟩
  · by_cases hl1 : 100 < (r.list.length : Int)
    · repeat' first | apply step | (apply g_op; · repeat first | exact Evs.nil | (apply Evs.cons; exact rfl)) | (refine Br.mk (fun _ => ?_) (fun _ => ?_) <;> try (exfalso; omega)) | (refine Sd.mk ?_ ?_; · ((repeat' apply And.intro) <;> first | omega | trivial | assumption | (simp; done) | (simp; omega))) | (refine Sx.mk ?_ ?_; · omega) | refine Fa.mk (fun _ => ?_) | refine Im.mk (fun _ => ?_) | apply Lw.go | refine g_cond ?_ | refine g_guard ?_ | refine g_keep ?_ | refine g_pass ?_ | refine g_fin ?_ | (apply g_ap; exact rfl; exact rfl; assumption)
      first | refine at_callS (l14_works_spec) ?_ | refine at_callR (l14_works_spec) ?_
      repeat' first | apply step | (apply g_op; · repeat first | exact Evs.nil | (apply Evs.cons; exact rfl)) | (refine Br.mk (fun _ => ?_) (fun _ => ?_) <;> try (exfalso; omega)) | (refine Sd.mk ?_ ?_; · ((repeat' apply And.intro) <;> first | omega | trivial | assumption | (simp; done) | (simp; omega))) | (refine Sx.mk ?_ ?_; · omega) | refine Fa.mk (fun _ => ?_) | refine Im.mk (fun _ => ?_) | apply Lw.go | refine g_cond ?_ | refine g_guard ?_ | refine g_keep ?_ | refine g_pass ?_ | refine g_fin ?_ | (apply g_ap; exact rfl; exact rfl; assumption)
      exact fin hR
    by_cases hl2 : 100 < (r.own.length : Int)
    · repeat' first | apply step | (apply g_op; · repeat first | exact Evs.nil | (apply Evs.cons; exact rfl)) | (refine Br.mk (fun _ => ?_) (fun _ => ?_) <;> try (exfalso; omega)) | (refine Sd.mk ?_ ?_; · ((repeat' apply And.intro) <;> first | omega | trivial | assumption | (simp; done) | (simp; omega))) | (refine Sx.mk ?_ ?_; · omega) | refine Fa.mk (fun _ => ?_) | refine Im.mk (fun _ => ?_) | apply Lw.go | refine g_cond ?_ | refine g_guard ?_ | refine g_keep ?_ | refine g_pass ?_ | refine g_fin ?_ | (apply g_ap; exact rfl; exact rfl; assumption)
      first | refine at_callS (l14_works_spec) ?_ | refine at_callR (l14_works_spec) ?_
      repeat' first | apply step | (apply g_op; · repeat first | exact Evs.nil | (apply Evs.cons; exact rfl)) | (refine Br.mk (fun _ => ?_) (fun _ => ?_) <;> try (exfalso; omega)) | (refine Sd.mk ?_ ?_; · ((repeat' apply And.intro) <;> first | omega | trivial | assumption | (simp; done) | (simp; omega))) | (refine Sx.mk ?_ ?_; · omega) | refine Fa.mk (fun _ => ?_) | refine Im.mk (fun _ => ?_) | apply Lw.go | refine g_cond ?_ | refine g_guard ?_ | refine g_keep ?_ | refine g_pass ?_ | refine g_fin ?_ | (apply g_ap; exact rfl; exact rfl; assumption)
      exact fin hR
    have hk := chkH_ok hc
    have hbw : ∀ x w, wK (TH h) r.key x = some w → -9223372036854775808 ≤ w.txn ∧ w.txn ≤ 9223372036854775807 := fun x w hw => by
      obtain ⟨t, ht, i, hi, _, rfl⟩ := wr_at hk hw
      have := (hk.m t ht).1
      unfold mayN at this
      exact ⟨by dsimp only; omega, by dsimp only; omega⟩
    repeat' first | apply step | (apply g_op; · repeat first | exact Evs.nil | (apply Evs.cons; exact rfl)) | (refine Br.mk (fun _ => ?_) (fun _ => ?_) <;> try (exfalso; omega)) | (refine Sd.mk ?_ ?_; · ((repeat' apply And.intro) <;> first | omega | trivial | assumption | (simp; done) | (simp; omega))) | (refine Sx.mk ?_ ?_; · omega) | refine Fa.mk (fun _ => ?_) | refine Im.mk (fun _ => ?_) | apply Lw.go | refine g_cond ?_ | refine g_guard ?_ | refine g_keep ?_ | refine g_pass ?_ | refine g_fin ?_ | (apply g_ap; exact rfl; exact rfl; assumption)
    first | refine at_callS (table_New_spec hf) ?_ | refine at_callR (table_New_spec hf) ?_
    refine ⟨fun hc2 => absurd hc hc2, fun _ b => ?_⟩
    repeat' first | apply step | (apply g_op; · repeat first | exact Evs.nil | (apply Evs.cons; exact rfl)) | (refine Br.mk (fun _ => ?_) (fun _ => ?_) <;> try (exfalso; omega)) | (refine Sd.mk ?_ ?_; · ((repeat' apply And.intro) <;> first | omega | trivial | assumption | (simp; done) | (simp; omega))) | (refine Sx.mk ?_ ?_; · omega) | refine Fa.mk (fun _ => ?_) | refine Im.mk (fun _ => ?_) | apply Lw.go | refine g_cond ?_ | refine g_guard ?_ | refine g_keep ?_ | refine g_pass ?_ | refine g_fin ?_ | (apply g_ap; exact rfl; exact rfl; assumption)
    first | refine at_callS (dirty_Aborted_spec (T := TH h) (r := r) (by omega) (by omega)) ?_ | refine at_callR (dirty_Aborted_spec (T := TH h) (r := r) (by omega) (by omega)) ?_
    rw [triO_eq]
    repeat' first | apply step | (apply g_op; · repeat first | exact Evs.nil | (apply Evs.cons; exact rfl)) | (refine Br.mk (fun _ => ?_) (fun _ => ?_) <;> try (exfalso; omega)) | (refine Sd.mk ?_ ?_; · ((repeat' apply And.intro) <;> first | omega | trivial | assumption | (simp; done) | (simp; omega))) | (refine Sx.mk ?_ ?_; · omega) | refine Fa.mk (fun _ => ?_) | refine Im.mk (fun _ => ?_) | apply Lw.go | refine g_cond ?_ | refine g_guard ?_ | refine g_keep ?_ | refine g_pass ?_ | refine g_fin ?_ | (apply g_ap; exact rfl; exact rfl; assumption)
    first | refine at_callS (r14_Aborted_spec (r := r) hf hk (by omega) (by omega)) ?_ | refine at_callR (r14_Aborted_spec (r := r) hf hk (by omega) (by omega)) ?_
    rw [triO_eq]
    repeat' first | apply step | (apply g_op; · repeat first | exact Evs.nil | (apply Evs.cons; exact rfl)) | (refine Br.mk (fun _ => ?_) (fun _ => ?_) <;> try (exfalso; omega)) | (refine Sd.mk ?_ ?_; · ((repeat' apply And.intro) <;> first | omega | trivial | assumption | (simp; done) | (simp; omega))) | (refine Sx.mk ?_ ?_; · omega) | refine Fa.mk (fun _ => ?_) | refine Im.mk (fun _ => ?_) | apply Lw.go | refine g_cond ?_ | refine g_guard ?_ | refine g_keep ?_ | refine g_pass ?_ | refine g_fin ?_ | (apply g_ap; exact rfl; exact rfl; assumption)
    all_goals try (rename_i q; exact absurd rfl q)
    first | refine at_callS (dirty_Middle_spec (T := TH h) (r := r) (by omega) (by omega) (fun x w hw => apH_ne hk hw) (fun x => ap_le hf hk x r.key)) ?_ | refine at_callR (dirty_Middle_spec (T := TH h) (r := r) (by omega) (by omega) (fun x w hw => apH_ne hk hw) (fun x => ap_le hf hk x r.key)) ?_
    rw [triO_eq]
    repeat' first | apply step | (apply g_op; · repeat first | exact Evs.nil | (apply Evs.cons; exact rfl)) | (refine Br.mk (fun _ => ?_) (fun _ => ?_) <;> try (exfalso; omega)) | (refine Sd.mk ?_ ?_; · ((repeat' apply And.intro) <;> first | omega | trivial | assumption | (simp; done) | (simp; omega))) | (refine Sx.mk ?_ ?_; · omega) | refine Fa.mk (fun _ => ?_) | refine Im.mk (fun _ => ?_) | apply Lw.go | refine g_cond ?_ | refine g_guard ?_ | refine g_keep ?_ | refine g_pass ?_ | refine g_fin ?_ | (apply g_ap; exact rfl; exact rfl; assumption)
    first | refine at_callS (r14_Middle_spec (r := r) hf hk (by omega) (by omega)) ?_ | refine at_callR (r14_Middle_spec (r := r) hf hk (by omega) (by omega)) ?_
    rw [triO_eq]
    repeat' first | apply step | (apply g_op; · repeat first | exact Evs.nil | (apply Evs.cons; exact rfl)) | (refine Br.mk (fun _ => ?_) (fun _ => ?_) <;> try (exfalso; omega)) | (refine Sd.mk ?_ ?_; · ((repeat' apply And.intro) <;> first | omega | trivial | assumption | (simp; done) | (simp; omega))) | (refine Sx.mk ?_ ?_; · omega) | refine Fa.mk (fun _ => ?_) | refine Im.mk (fun _ => ?_) | apply Lw.go | refine g_cond ?_ | refine g_guard ?_ | refine g_keep ?_ | refine g_pass ?_ | refine g_fin ?_ | (apply g_ap; exact rfl; exact rfl; assumption)
    all_goals try (rename_i q; exact absurd rfl q)
    first | refine at_callS (dirty_Torn_spec (T := TH h) (r := r) (by omega) (by omega) hbw (fun x => ap_le hf hk x r.key)) ?_ | refine at_callR (dirty_Torn_spec (T := TH h) (r := r) (by omega) (by omega) hbw (fun x => ap_le hf hk x r.key)) ?_
    rw [torn_eq _ (wr_con hk), triO_eq]
    repeat' first | apply step | (apply g_op; · repeat first | exact Evs.nil | (apply Evs.cons; exact rfl)) | (refine Br.mk (fun _ => ?_) (fun _ => ?_) <;> try (exfalso; omega)) | (refine Sd.mk ?_ ?_; · ((repeat' apply And.intro) <;> first | omega | trivial | assumption | (simp; done) | (simp; omega))) | (refine Sx.mk ?_ ?_; · omega) | refine Fa.mk (fun _ => ?_) | refine Im.mk (fun _ => ?_) | apply Lw.go | refine g_cond ?_ | refine g_guard ?_ | refine g_keep ?_ | refine g_pass ?_ | refine g_fin ?_ | (apply g_ap; exact rfl; exact rfl; assumption)
    first | refine at_callS (r14_Torn_spec (r := r) hf hk (by omega) (by omega)) ?_ | refine at_callR (r14_Torn_spec (r := r) hf hk (by omega) (by omega)) ?_
    rw [triO_eq]
    repeat' first | apply step | (apply g_op; · repeat first | exact Evs.nil | (apply Evs.cons; exact rfl)) | (refine Br.mk (fun _ => ?_) (fun _ => ?_) <;> try (exfalso; omega)) | (refine Sd.mk ?_ ?_; · ((repeat' apply And.intro) <;> first | omega | trivial | assumption | (simp; done) | (simp; omega))) | (refine Sx.mk ?_ ?_; · omega) | refine Fa.mk (fun _ => ?_) | refine Im.mk (fun _ => ?_) | apply Lw.go | refine g_cond ?_ | refine g_guard ?_ | refine g_keep ?_ | refine g_pass ?_ | refine g_fin ?_ | (apply g_ap; exact rfl; exact rfl; assumption)
    all_goals try (rename_i q; exact absurd rfl q)
    first | refine at_callS (l14_works_spec) ?_ | refine at_callR (l14_works_spec) ?_
    repeat' first | apply step | (apply g_op; · repeat first | exact Evs.nil | (apply Evs.cons; exact rfl)) | (refine Br.mk (fun _ => ?_) (fun _ => ?_) <;> try (exfalso; omega)) | (refine Sd.mk ?_ ?_; · ((repeat' apply And.intro) <;> first | omega | trivial | assumption | (simp; done) | (simp; omega))) | (refine Sx.mk ?_ ?_; · omega) | refine Fa.mk (fun _ => ?_) | refine Im.mk (fun _ => ?_) | apply Lw.go | refine g_cond ?_ | refine g_guard ?_ | refine g_keep ?_ | refine g_pass ?_ | refine g_fin ?_ | (apply g_ap; exact rfl; exact rfl; assumption)
    exact fin hR
  · repeat' first | apply step | (apply g_op; · repeat first | exact Evs.nil | (apply Evs.cons; exact rfl)) | (refine Br.mk (fun _ => ?_) (fun _ => ?_) <;> try (exfalso; omega)) | (refine Sd.mk ?_ ?_; · ((repeat' apply And.intro) <;> first | omega | trivial | assumption | (simp; done) | (simp; omega))) | (refine Sx.mk ?_ ?_; · omega) | refine Fa.mk (fun _ => ?_) | refine Im.mk (fun _ => ?_) | apply Lw.go | refine g_cond ?_ | refine g_guard ?_ | refine g_keep ?_ | refine g_pass ?_ | refine g_fin ?_ | (apply g_ap; exact rfl; exact rfl; assumption)
    first | refine at_callS (l14_works_spec) ?_ | refine at_callR (l14_works_spec) ?_
    repeat' first | apply step | (apply g_op; · repeat first | exact Evs.nil | (apply Evs.cons; exact rfl)) | (refine Br.mk (fun _ => ?_) (fun _ => ?_) <;> try (exfalso; omega)) | (refine Sd.mk ?_ ?_; · ((repeat' apply And.intro) <;> first | omega | trivial | assumption | (simp; done) | (simp; omega))) | (refine Sx.mk ?_ ?_; · omega) | refine Fa.mk (fun _ => ?_) | refine Im.mk (fun _ => ?_) | apply Lw.go | refine g_cond ?_ | refine g_guard ?_ | refine g_keep ?_ | refine g_pass ?_ | refine g_fin ?_ | (apply g_ap; exact rfl; exact rfl; assumption)
    exact fin hR
end
end Go.AMS

