/- What the functions do, part 2. -/
import Derived.Test.YtdkgalkdcmajjaaPart1
import Derived.Test.YtdkgalkdcmajjaaSetLaw
namespace Go.AMS
open Go.AM hiding Kt At WP WL Runs RunsY
open Go.AM.G
set_option linter.unusedVariables false
set_option linter.unusedSimpArgs false
set_option linter.unusedSectionVars false
set_option maxRecDepth 100000
set_option maxHeartbeats 1000000
attribute [local irreducible] AtS AtV AtC AtG FinA Spec Post LP G.At G.WP G.WL pt own fro rdl ro hx mp lrec elt sub

open Go.AM.G.Set
section
variable {b : Nat} {T : Tb} {p q : Option Addr} {c d : Nat}
def wrO : Option HWr → Value
  | some w => .tuple #[wrV w, .bool true]
  | none => .tuple #[zWr, .bool false]
theorem table_Table_Writer_spec {x y : Int} : Spec prog1 n_table_Table_Writer [.pointer (some ⟨b, 0, none⟩), .int .i64 x, .int .i64 y] [tab b T] (fun R => R (wrO (aget (x, y) T.wr)) [tab b T]) := by
  refine spec_code c_table_Table_Writer rfl ?_; intro n F R hR; unfold F_table_Table_Writer
  first | refine at_openP (tab b T) rfl ?_ | refine av_openP (tab b T) rfl ?_
  rintro ⟨⟨⟨pi, ci⟩, ⟨pk, ck⟩⟩, ⟨mw, ma, mr, mt⟩⟩ -
  dsimp only [List.cons_append, List.nil_append]
  repeat' first | apply step | (apply g_op; · repeat first | exact Evs.nil | (apply Evs.cons; exact rfl)) | (refine Br.mk (fun _ => ?_) (fun _ => ?_) <;> try (exfalso; omega)) | (refine Sd.mk ?_ ?_; · ((repeat' apply And.intro) <;> first | omega | trivial | assumption | (simp; done) | (simp; omega))) | (refine Sx.mk ?_ ?_; · omega) | refine Fa.mk (fun _ => ?_) | refine Im.mk (fun _ => ?_) | apply Lw.go | refine g_cond ?_ | refine g_guard ?_ | refine g_keep ?_ | refine g_pass ?_ | refine g_fin ?_ | (apply g_ap; exact rfl; exact rfl; assumption)
  first | refine at_callS (table_Table_is_spec) ?_ | refine at_callR (table_Table_is_spec) ?_
  repeat' first | apply step | (apply g_op; · repeat first | exact Evs.nil | (apply Evs.cons; exact rfl)) | (refine Br.mk (fun _ => ?_) (fun _ => ?_) <;> try (exfalso; omega)) | (refine Sd.mk ?_ ?_; · ((repeat' apply And.intro) <;> first | omega | trivial | assumption | (simp; done) | (simp; omega))) | (refine Sx.mk ?_ ?_; · omega) | refine Fa.mk (fun _ => ?_) | refine Im.mk (fun _ => ?_) | apply Lw.go | refine g_cond ?_ | refine g_guard ?_ | refine g_keep ?_ | refine g_pass ?_ | refine g_fin ?_ | (apply g_ap; exact rfl; exact rfl; assumption)
  cases hq : aget (x, y) T.wr with
  | some w =>
    rw [hq] at hR
    refine av_look1 (enc := kII) (vv := wrV) (key := (x, y)) inferInstance hq ?_
    repeat' first | apply step | (apply g_op; · repeat first | exact Evs.nil | (apply Evs.cons; exact rfl)) | (refine Br.mk (fun _ => ?_) (fun _ => ?_) <;> try (exfalso; omega)) | (refine Sd.mk ?_ ?_; · ((repeat' apply And.intro) <;> first | omega | trivial | assumption | (simp; done) | (simp; omega))) | (refine Sx.mk ?_ ?_; · omega) | refine Fa.mk (fun _ => ?_) | refine Im.mk (fun _ => ?_) | apply Lw.go | refine g_cond ?_ | refine g_guard ?_ | refine g_keep ?_ | refine g_pass ?_ | refine g_fin ?_ | (apply g_ap; exact rfl; exact rfl; assumption)
    refine fin_foldP (tab b T) rfl (((pi, ci), (pk, ck)), (mw, ma, mr, mt)) trivial ?_
    exact fin hR
  | none =>
    rw [hq] at hR
    refine av_look0 (enc := kII) (vv := wrV) (key := (x, y)) inferInstance hq ?_
    repeat' first | apply step | (apply g_op; · repeat first | exact Evs.nil | (apply Evs.cons; exact rfl)) | (refine Br.mk (fun _ => ?_) (fun _ => ?_) <;> try (exfalso; omega)) | (refine Sd.mk ?_ ?_; · ((repeat' apply And.intro) <;> first | omega | trivial | assumption | (simp; done) | (simp; omega))) | (refine Sx.mk ?_ ?_; · omega) | refine Fa.mk (fun _ => ?_) | refine Im.mk (fun _ => ?_) | apply Lw.go | refine g_cond ?_ | refine g_guard ?_ | refine g_keep ?_ | refine g_pass ?_ | refine g_fin ?_ | (apply g_ap; exact rfl; exact rfl; assumption)
    refine fin_foldP (tab b T) rfl (((pi, ci), (pk, ck)), (mw, ma, mr, mt)) trivial ?_
    exact fin hR
theorem takeER {κ α : Type} [DecidableEq κ] {K : Kind α} {k : κ} {Z : List (LE κ α)} {Γ : List HP} : Ent (ro (alls (ownE K) Z) :: Γ) (rdl K (atE k Z).2.1 (atE k Z).1 :: Γ) := (ro_ent takeE).trans Ent.ro_own
theorem table_Table_Appends_spec {x y : Int} (hl : (agl (x, y) T.ap).length ≤ 1000000) : Spec prog1 n_table_Table_Appends [.pointer (some ⟨b, 0, none⟩), .int .i64 x, .int .i64 y] [ro (tab b T)] (fun R => ∀ p' c', R (.slice p' (agl (x, y) T.ap).length c') [own (kInt .i64) p' c' (agl (x, y) T.ap)]) := by
  refine spec_code c_table_Table_Appends rfl ?_; intro n F R hR; unfold F_table_Table_Appends
  first | refine at_openRP (tab b T) rfl ?_ | refine av_openRP (tab b T) rfl ?_
  rintro ⟨⟨⟨pi, ci⟩, ⟨pk, ck⟩⟩, ⟨mw, ma, mr, mt⟩⟩ -
  dsimp only
  apply step
  first | refine at_openRP (mapL ma kII (kInt .i64) T.ap) rfl ?_ | refine av_openRP (mapL ma kII (kInt .i64) T.ap) rfl ?_
  rintro Z hZ
  dsimp only
  have hal := atE_agl (k := (x, y)) hZ
  repeat' first | apply step | (apply g_op; · repeat first | exact Evs.nil | (apply Evs.cons; exact rfl)) | (refine Br.mk (fun _ => ?_) (fun _ => ?_) <;> try (exfalso; omega)) | (refine Sd.mk ?_ ?_; · ((repeat' apply And.intro) <;> first | omega | trivial | assumption | (simp; done) | (simp; omega))) | (refine Sx.mk ?_ ?_; · omega) | refine Fa.mk (fun _ => ?_) | refine Im.mk (fun _ => ?_) | apply Lw.go | refine g_cond ?_ | refine g_guard ?_ | refine g_keep ?_ | refine g_pass ?_ | refine g_fin ?_ | (apply g_ap; exact rfl; exact rfl; assumption)
  refine at_callR (table_Table_is_spec) ?_
  repeat' first | apply step | (apply g_op; · repeat first | exact Evs.nil | (apply Evs.cons; exact rfl)) | (refine Br.mk (fun _ => ?_) (fun _ => ?_) <;> try (exfalso; omega)) | (refine Sd.mk ?_ ?_; · ((repeat' apply And.intro) <;> first | omega | trivial | assumption | (simp; done) | (simp; omega))) | (refine Sx.mk ?_ ?_; · omega) | refine Fa.mk (fun _ => ?_) | refine Im.mk (fun _ => ?_) | apply Lw.go | refine g_cond ?_ | refine g_guard ?_ | refine g_keep ?_ | refine g_pass ?_ | refine g_fin ?_ | (apply g_ap; exact rfl; exact rfl; assumption)
  refine av_atE (enc := kII) (k := (x, y)) inferInstance ?_
  refine at_via (takeER (K := kInt .i64) (k := (x, y)) (Z := Z)) ?_
  rw [hal]
  repeat' first | apply step | (apply g_op; · repeat first | exact Evs.nil | (apply Evs.cons; exact rfl)) | (refine Br.mk (fun _ => ?_) (fun _ => ?_) <;> try (exfalso; omega)) | (refine Sd.mk ?_ ?_; · ((repeat' apply And.intro) <;> first | omega | trivial | assumption | (simp; done) | (simp; omega))) | (refine Sx.mk ?_ ?_; · omega) | refine Fa.mk (fun _ => ?_) | refine Im.mk (fun _ => ?_) | apply Lw.go | refine g_cond ?_ | refine g_guard ?_ | refine g_keep ?_ | refine g_pass ?_ | refine g_fin ?_ | (apply g_ap; exact rfl; exact rfl; assumption)
  refine at_callR (slices_Clone_int_int_spec (l := agl (x, y) T.ap) (by omega)) ?_
  intro p1 c1
  repeat' first | apply step | (apply g_op; · repeat first | exact Evs.nil | (apply Evs.cons; exact rfl)) | (refine Br.mk (fun _ => ?_) (fun _ => ?_) <;> try (exfalso; omega)) | (refine Sd.mk ?_ ?_; · ((repeat' apply And.intro) <;> first | omega | trivial | assumption | (simp; done) | (simp; omega))) | (refine Sx.mk ?_ ?_; · omega) | refine Fa.mk (fun _ => ?_) | refine Im.mk (fun _ => ?_) | apply Lw.go | refine g_cond ?_ | refine g_guard ?_ | refine g_keep ?_ | refine g_pass ?_ | refine g_fin ?_ | (apply g_ap; exact rfl; exact rfl; assumption)
  exact fin (hR p1 c1)
end
end Go.AMS

namespace Go.AMS
open Go.AM hiding Kt At WP WL Runs RunsY
open Go.AM.G
set_option linter.unusedVariables false
set_option linter.unusedSimpArgs false
set_option linter.unusedSectionVars false
set_option maxRecDepth 100000
set_option maxHeartbeats 1000000
attribute [local irreducible] AtS AtV AtC AtG FinA Spec Post LP G.At G.WP G.WL pt own fro rdl ro hx mp lrec elt sub

open Go.AM.G.Set
def aheadL (ops : List HOp) (key : Int) (n : Nat) : List Int := ((ops.take n).filter fun o => !o.read && decide (o.key = key)).map HOp.value
theorem aheadL_next {ops : List HOp} {key : Int} {n : Nat} (hn : n < ops.length) : aheadL ops key (n + 1) = aheadL ops key n ++ if ops[n].read = false ∧ ops[n].key = key then [ops[n].value] else [] := by
  unfold aheadL
  rw [List.take_succ_eq_append_getElem hn, List.filter_append, List.map_append]
  cases h : ops[n].read <;> by_cases h2 : ops[n].key = key <;> simp [h, h2]
theorem aheadL_len (ops : List HOp) (key : Int) (n : Nat) : (aheadL ops key n).length ≤ ops.length := by
  unfold aheadL
  rw [List.length_map]
  exact Nat.le_trans (List.length_filter_le _ _) (by simp; omega)
def txnOf (h : List HTx) (x : Int) : HTx := (h.find? fun t => decide (t.id = x)).getD ⟨x, false, []⟩
theorem txnOf_at {h : List HTx} {x : Int} {j : Nat} (hj : j < h.length) (h1 : ∀ i (q : i < h.length), i < j → h[i].id ≠ x) (h2 : h[j].id = x) : txnOf h x = h[j] := by
  unfold txnOf
  have : h.find? (fun t => decide (t.id = x)) = some h[j] := by
    rw [List.find?_eq_some_iff_getElem]
    exact ⟨by simpa using h2, j, hj, rfl, fun i hi => by simpa using h1 i (by omega) hi⟩
  rw [this]; rfl
theorem txnOf_no {h : List HTx} {x : Int} (h1 : ∀ i (q : i < h.length), h[i].id ≠ x) : txnOf h x = ⟨x, false, []⟩ := by
  unfold txnOf
  have : h.find? (fun t => decide (t.id = x)) = none := by
    rw [List.find?_eq_none]
    intro t ht
    obtain ⟨i, hi, e⟩ := List.mem_iff_getElem.1 ht
    rw [← e]; simpa using h1 i hi
  rw [this]; rfl
section
variable {h : List HTx} {p q : Option Addr} {c d : Nat}
theorem r12_txn_spec {x : Int} (hh : h.length ≤ 1000) : Spec prog1 n_r12_txn [.agg #[.slice p h.length c], .int .i64 x] [fro kHTx p c h] (fun R => ∀ w : Option Addr × Nat, R (.agg #[.int .i64 (txnOf h x).id, .bool (txnOf h x).ab, .slice w.1 (txnOf h x).ops.length w.2]) [fro kHOp w.1 w.2 (txnOf h x).ops]) := by
  refine spec_code c_r12_txn rfl ?_; intro n F R hR; unfold F_r12_txn
  repeat' first | apply step | (apply g_op; · repeat first | exact Evs.nil | (apply Evs.cons; exact rfl)) | (refine Br.mk (fun _ => ?_) (fun _ => ?_) <;> try (exfalso; omega)) | (refine Sd.mk ?_ ?_; · ((repeat' apply And.intro) <;> first | omega | trivial | assumption | (simp; done) | (simp; omega))) | (refine Sx.mk ?_ ?_; · omega) | refine Fa.mk (fun _ => ?_) | refine Im.mk (fun _ => ?_) | apply Lw.go | refine g_cond ?_ | refine g_guard ?_ | refine g_keep ?_ | refine g_pass ?_ | refine g_fin ?_ | (apply g_ap; exact rfl; exact rfl; assumption)
  rename_i rb tb
  refine at_loopS (ι := Nat) (E := fun j => [(1, .int .i64 x), (2, .pointer (some ⟨rb, 0, none⟩)), (4, .pointer (some ⟨tb, 0, none⟩)), (5, .int .i64 (j : Int))]) (Δ := fun j => pt tb [.int .i64 0, .bool false, .slice none 0 0] 0 :: pt rb [.slice p h.length c] 0 :: fro kHTx p c h :: F) (P := fun j => j ≤ h.length ∧ ∀ i (q : i < h.length), i < j → h[i].id ≠ x) (μ := fun j => h.length - j) 0 ⟨Nat.zero_le _, fun i q r => by omega⟩ ?_
  rintro j ⟨hj, hn⟩
  try dsimp only
  repeat' first | apply step | (apply g_op; · repeat first | exact Evs.nil | (apply Evs.cons; exact rfl)) | (refine Br.mk (fun _ => ?_) (fun _ => ?_) <;> try (exfalso; omega)) | (refine Sd.mk ?_ ?_; · ((repeat' apply And.intro) <;> first | omega | trivial | assumption | (simp; done) | (simp; omega))) | (refine Sx.mk ?_ ?_; · omega) | refine Fa.mk (fun _ => ?_) | refine Im.mk (fun _ => ?_) | apply Lw.go | refine g_cond ?_ | refine g_guard ?_ | refine g_keep ?_ | refine g_pass ?_ | refine g_fin ?_ | (apply g_ap; exact rfl; exact rfl; assumption)
  · rename_i he w _
    rw [txnOf_at (by omega) hn he] at hR
    exact fin (hR w)
  · refine lp_next (j + 1) ⟨by omega, fun i q r => ?_⟩ (by omega)
    rcases Nat.lt_or_ge i j with k | k
    · exact hn i q k
    · have : i = j := by omega
      subst this; assumption
  · rw [txnOf_no (fun i q => hn i q (by omega))] at hR
    refine fin_ent (ent_fnil (K := kHOp)) ?_
    exact fin (hR (none, 0))
theorem r12_ahead_spec {t : HTx} {key : Int} {n0 : Nat} (hn : n0 ≤ t.ops.length) (hl : t.ops.length ≤ 1000) (hv : ∀ o ∈ t.ops, mayO o) : Spec prog1 n_r12_ahead [.agg #[.int .i64 t.id, .bool t.ab, .slice q t.ops.length d], .int .i64 key, .int .i64 (n0 : Int)] [fro kHOp q d t.ops] (fun R => ∀ p' c', R (.slice p' (aheadL t.ops key n0).length c') [own (kInt .i64) p' c' (aheadL t.ops key n0)]) := by
  refine spec_code c_r12_ahead rfl ?_; intro n F R hR; unfold F_r12_ahead
  repeat' first | apply step | (apply g_op; · repeat first | exact Evs.nil | (apply Evs.cons; exact rfl)) | (refine Br.mk (fun _ => ?_) (fun _ => ?_) <;> try (exfalso; omega)) | (refine Sd.mk ?_ ?_; · ((repeat' apply And.intro) <;> first | omega | trivial | assumption | (simp; done) | (simp; omega))) | (refine Sx.mk ?_ ?_; · omega) | refine Fa.mk (fun _ => ?_) | refine Im.mk (fun _ => ?_) | apply Lw.go | refine g_cond ?_ | refine g_guard ?_ | refine g_keep ?_ | refine g_pass ?_ | refine g_fin ?_ | (apply g_ap; exact rfl; exact rfl; assumption)
  rename_i tb
  refine at_loopS (ι := Nat × (Option Addr × Nat)) (E := fun w => [(1, .int .i64 key), (2, .int .i64 (n0 : Int)), (3, .pointer (some ⟨tb, 0, none⟩)), (7, .slice w.2.1 (aheadL t.ops key w.1).length w.2.2), (8, .int .i64 (w.1 : Int))]) (Δ := fun w => own (kInt .i64) w.2.1 w.2.2 (aheadL t.ops key w.1) :: pt tb [.int .i64 t.id, .bool t.ab, .slice q t.ops.length d] 0 :: fro kHOp q d t.ops :: F) (P := fun w => w.1 ≤ n0) (μ := fun w => n0 - w.1) (0, (none, 0)) (Nat.zero_le _) ?_
  rintro ⟨j, p1, c1⟩ hj
  dsimp only at hj ⊢
  rcases Nat.lt_or_ge j n0 with hlt | hge
  · have hlt2 : j < t.ops.length := by omega
    have hct := aheadL_next (key := key) hlt2
    have hmo := hv t.ops[j] (List.getElem_mem _)
    have hvb : -9223372036854775808 ≤ t.ops[j].value ∧ t.ops[j].value ≤ 9223372036854775807 := by unfold mayO mayN at hmo; split at hmo <;> omega
    have hal := aheadL_len t.ops key j
    cases hr : t.ops[j].read
    · rw [hr] at hct
      by_cases hk : t.ops[j].key = key
      · rw [if_pos ⟨rfl, hk⟩] at hct
        repeat' first | rw [hr] | apply step | (apply g_op; · repeat first | exact Evs.nil | (apply Evs.cons; exact rfl)) | (refine Br.mk (fun _ => ?_) (fun _ => ?_) <;> try (exfalso; omega)) | (refine Sd.mk ?_ ?_; · ((repeat' apply And.intro) <;> first | omega | trivial | assumption | (simp; done) | (simp; omega))) | (refine Sx.mk ?_ ?_; · omega) | refine Fa.mk (fun _ => ?_) | refine Im.mk (fun _ => ?_) | apply Lw.go | refine g_cond ?_ | refine g_guard ?_ | refine g_keep ?_ | refine g_pass ?_ | refine g_fin ?_ | (apply g_ap; exact rfl; exact rfl; assumption)
        exact lp_next (j + 1, _, _) (by dsimp only; omega) (by dsimp only; omega) (by dsimp only; rw [hct]) (by dsimp only; rw [hct]; repeat first | exact Ent.refl _ | (apply Ent.more; · repeat first | exact Ent.keep | exact Ent.here | exact Ent.lend | exact ent_nil | apply Ent.there) | apply Ent.drop)
      · rw [if_neg (fun q => hk q.2), List.append_nil] at hct
        repeat' first | rw [hr] | apply step | (apply g_op; · repeat first | exact Evs.nil | (apply Evs.cons; exact rfl)) | (refine Br.mk (fun _ => ?_) (fun _ => ?_) <;> try (exfalso; omega)) | (refine Sd.mk ?_ ?_; · ((repeat' apply And.intro) <;> first | omega | trivial | assumption | (simp; done) | (simp; omega))) | (refine Sx.mk ?_ ?_; · omega) | refine Fa.mk (fun _ => ?_) | refine Im.mk (fun _ => ?_) | apply Lw.go | refine g_cond ?_ | refine g_guard ?_ | refine g_keep ?_ | refine g_pass ?_ | refine g_fin ?_ | (apply g_ap; exact rfl; exact rfl; assumption)
        exact lp_next (j + 1, _, _) (by dsimp only; omega) (by dsimp only; omega) (by dsimp only; rw [hct]) (by dsimp only; rw [hct]; repeat first | exact Ent.refl _ | (apply Ent.more; · repeat first | exact Ent.keep | exact Ent.here | exact Ent.lend | exact ent_nil | apply Ent.there) | apply Ent.drop)
    · rw [hr] at hct
      rw [if_neg (fun q => by cases q.1), List.append_nil] at hct
      repeat' first | rw [hr] | apply step | (apply g_op; · repeat first | exact Evs.nil | (apply Evs.cons; exact rfl)) | (refine Br.mk (fun _ => ?_) (fun _ => ?_) <;> try (exfalso; omega)) | (refine Sd.mk ?_ ?_; · ((repeat' apply And.intro) <;> first | omega | trivial | assumption | (simp; done) | (simp; omega))) | (refine Sx.mk ?_ ?_; · omega) | refine Fa.mk (fun _ => ?_) | refine Im.mk (fun _ => ?_) | apply Lw.go | refine g_cond ?_ | refine g_guard ?_ | refine g_keep ?_ | refine g_pass ?_ | refine g_fin ?_ | (apply g_ap; exact rfl; exact rfl; assumption)
      exact lp_next (j + 1, _, _) (by dsimp only; omega) (by dsimp only; omega) (by dsimp only; rw [hct]) (by dsimp only; rw [hct]; repeat first | exact Ent.refl _ | (apply Ent.more; · repeat first | exact Ent.keep | exact Ent.here | exact Ent.lend | exact ent_nil | apply Ent.there) | apply Ent.drop)
  · have : j = n0 := by omega
    subst this
    repeat' first | apply step | (apply g_op; · repeat first | exact Evs.nil | (apply Evs.cons; exact rfl)) | (refine Br.mk (fun _ => ?_) (fun _ => ?_) <;> try (exfalso; omega)) | (refine Sd.mk ?_ ?_; · ((repeat' apply And.intro) <;> first | omega | trivial | assumption | (simp; done) | (simp; omega))) | (refine Sx.mk ?_ ?_; · omega) | refine Fa.mk (fun _ => ?_) | refine Im.mk (fun _ => ?_) | apply Lw.go | refine g_cond ?_ | refine g_guard ?_ | refine g_keep ?_ | refine g_pass ?_ | refine g_fin ?_ | (apply g_ap; exact rfl; exact rfl; assumption)
    exact fin (hR p1 c1)
theorem txnOf_mem (h : List HTx) (x : Int) : txnOf h x = ⟨x, false, []⟩ ∨ txnOf h x ∈ h := by
  unfold txnOf
  cases e : h.find? (fun t => decide (t.id = x)) with
  | none => exact .inl rfl
  | some t => exact .inr (List.mem_of_find?_eq_some e)
theorem r12_Appends_spec {x key : Int} (hf : FewH h 20 60) (hk : ∀ t ∈ h, ∀ o ∈ t.ops, mayO o) : Spec prog1 n_r12_Appends [.agg #[.slice p h.length c], .int .i64 x, .int .i64 key] [fro kHTx p c h] (fun R => ∀ p' c', R (.slice p' (aheadL (txnOf h x).ops key (txnOf h x).ops.length).length c') [own (kInt .i64) p' c' (aheadL (txnOf h x).ops key (txnOf h x).ops.length)]) := by
  refine spec_code c_r12_Appends rfl ?_; intro n F R hR; unfold F_r12_Appends
  have hh := hf.t
  have hm := txnOf_mem h x
  repeat' first | apply step | (apply g_op; · repeat first | exact Evs.nil | (apply Evs.cons; exact rfl)) | (refine Br.mk (fun _ => ?_) (fun _ => ?_) <;> try (exfalso; omega)) | (refine Sd.mk ?_ ?_; · ((repeat' apply And.intro) <;> first | omega | trivial | assumption | (simp; done) | (simp; omega))) | (refine Sx.mk ?_ ?_; · omega) | refine Fa.mk (fun _ => ?_) | refine Im.mk (fun _ => ?_) | apply Lw.go | refine g_cond ?_ | refine g_guard ?_ | refine g_keep ?_ | refine g_pass ?_ | refine g_fin ?_ | (apply g_ap; exact rfl; exact rfl; assumption)
  first | refine at_callS (r12_txn_spec (h := h) (x := x) (by omega)) ?_ | refine at_callR (r12_txn_spec (h := h) (x := x) (by omega)) ?_
  rintro ⟨p1, c1⟩
  have hl : (txnOf h x).ops.length ≤ 60 := by
    rcases hm with e | e
    · rw [e]; simp
    · exact Nat.le_trans (opsN_mem e) hf.o
  have hv : ∀ o ∈ (txnOf h x).ops, mayO o := by
    rcases hm with e | e
    · rw [e]; simp
    · exact hk _ e
  generalize txnOf h x = t at hR hl hv ⊢
  repeat' first | apply step | (apply g_op; · repeat first | exact Evs.nil | (apply Evs.cons; exact rfl)) | (refine Br.mk (fun _ => ?_) (fun _ => ?_) <;> try (exfalso; omega)) | (refine Sd.mk ?_ ?_; · ((repeat' apply And.intro) <;> first | omega | trivial | assumption | (simp; done) | (simp; omega))) | (refine Sx.mk ?_ ?_; · omega) | refine Fa.mk (fun _ => ?_) | refine Im.mk (fun _ => ?_) | apply Lw.go | refine g_cond ?_ | refine g_guard ?_ | refine g_keep ?_ | refine g_pass ?_ | refine g_fin ?_ | (apply g_ap; exact rfl; exact rfl; assumption)
  first | refine at_callS (r12_ahead_spec (t := t) (key := key) (n0 := t.ops.length) (Nat.le_refl _) (by omega) hv) ?_ | refine at_callR (r12_ahead_spec (t := t) (key := key) (n0 := t.ops.length) (Nat.le_refl _) (by omega) hv) ?_
  intro p2 c2
  repeat' first | apply step | (apply g_op; · repeat first | exact Evs.nil | (apply Evs.cons; exact rfl)) | (refine Br.mk (fun _ => ?_) (fun _ => ?_) <;> try (exfalso; omega)) | (refine Sd.mk ?_ ?_; · ((repeat' apply And.intro) <;> first | omega | trivial | assumption | (simp; done) | (simp; omega))) | (refine Sx.mk ?_ ?_; · omega) | refine Fa.mk (fun _ => ?_) | refine Im.mk (fun _ => ?_) | apply Lw.go | refine g_cond ?_ | refine g_guard ?_ | refine g_keep ?_ | refine g_pass ?_ | refine g_fin ?_ | (apply g_ap; exact rfl; exact rfl; assumption)
  exact fin (hR p2 c2)
theorem r12_Writer_spec {x y : Int} (hf : FewH h 20 60) : Spec prog1 n_r12_Writer [.agg #[.slice p h.length c], .int .i64 x, .int .i64 y] [fro kHTx p c h] (fun R => (∀ t ∈ h, ∀ i (hi : i < t.ops.length), t.ops[i].read = false → t.ops[i].key = x → t.ops[i].value = y → R (wrO (some ⟨t.id, i, x, y, t.ab⟩)) []) ∧ ((∀ t ∈ h, ∀ o ∈ t.ops, ¬ (o.read = false ∧ o.key = x ∧ o.value = y)) → R (wrO none) [])) := by
  refine spec_code c_r12_Writer rfl ?_; intro n F R hR; unfold F_r12_Writer
  have hh := hf.t
  have ho := hf.o
  repeat' first | apply step | (apply g_op; · repeat first | exact Evs.nil | (apply Evs.cons; exact rfl)) | (refine Br.mk (fun _ => ?_) (fun _ => ?_) <;> try (exfalso; omega)) | (refine Sd.mk ?_ ?_; · ((repeat' apply And.intro) <;> first | omega | trivial | assumption | (simp; done) | (simp; omega))) | (refine Sx.mk ?_ ?_; · omega) | refine Fa.mk (fun _ => ?_) | refine Im.mk (fun _ => ?_) | apply Lw.go | refine g_cond ?_ | refine g_guard ?_ | refine g_keep ?_ | refine g_pass ?_ | refine g_fin ?_ | (apply g_ap; exact rfl; exact rfl; assumption)
  rename_i rb wb
  refine at_loopS (ι := Nat) (E := fun j => [(1, .int .i64 x), (2, .int .i64 y), (3, .pointer (some ⟨rb, 0, none⟩)), (6, .pointer (some ⟨wb, 0, none⟩)), (8, .int .i64 (j : Int))]) (Δ := fun j => pt wb [.int .i64 0, .int .i64 0, .int .i64 0, .int .i64 0, .bool false] 0 :: pt rb [.slice p h.length c] 0 :: fro kHTx p c h :: F) (P := fun j => j ≤ h.length ∧ ∀ t ∈ h.take j, ∀ o ∈ t.ops, ¬ (o.read = false ∧ o.key = x ∧ o.value = y)) (μ := fun j => h.length - j) 0 ⟨Nat.zero_le _, fun t ht => by simp at ht⟩ ?_
  rintro j ⟨hj, hn⟩
  try dsimp only
  rcases Nat.lt_or_ge j h.length with hlt | hge
  · have ho2 := opsN_mem (List.getElem_mem hlt)
    have hmem := List.getElem_mem hlt
    repeat' first | apply step | (apply g_op; · repeat first | exact Evs.nil | (apply Evs.cons; exact rfl)) | (refine Br.mk (fun _ => ?_) (fun _ => ?_) <;> try (exfalso; omega)) | (refine Sd.mk ?_ ?_; · ((repeat' apply And.intro) <;> first | omega | trivial | assumption | (simp; done) | (simp; omega))) | (refine Sx.mk ?_ ?_; · omega) | refine Fa.mk (fun _ => ?_) | refine Im.mk (fun _ => ?_) | apply Lw.go | refine g_cond ?_ | refine g_guard ?_ | refine g_keep ?_ | refine g_pass ?_ | refine g_fin ?_ | (apply g_ap; exact rfl; exact rfl; assumption)
    rename_i w _ tb
    refine at_loopS (ι := Nat) (E := fun i => [(1, .int .i64 x), (2, .int .i64 y), (3, .pointer (some ⟨rb, 0, none⟩)), (6, .pointer (some ⟨wb, 0, none⟩)), (8, .int .i64 (j : Int)), (9, .pointer (some ⟨tb, 0, none⟩)), (10, .int .i64 (i : Int))]) (Δ := fun i => pt tb [.int .i64 h[j].id, .bool h[j].ab, .slice w.1 h[j].ops.length w.2] 0 :: fro kHOp w.1 w.2 h[j].ops :: pt wb [.int .i64 0, .int .i64 0, .int .i64 0, .int .i64 0, .bool false] 0 :: pt rb [.slice p h.length c] 0 :: fro kHTx p c h :: F) (P := fun i => i ≤ h[j].ops.length ∧ ∀ o ∈ h[j].ops.take i, ¬ (o.read = false ∧ o.key = x ∧ o.value = y)) (μ := fun i => h[j].ops.length - i) 0 ⟨Nat.zero_le _, fun t ht => by simp at ht⟩ ?_
    rintro i ⟨hi, hn2⟩
    try dsimp only
    rcases Nat.lt_or_ge i h[j].ops.length with hl2 | hg2
    · have nx : ¬ (h[j].ops[i].read = false ∧ h[j].ops[i].key = x ∧ h[j].ops[i].value = y) → ∀ o ∈ h[j].ops.take (i + 1), ¬ (o.read = false ∧ o.key = x ∧ o.value = y) := fun q o ho => by
        rw [List.take_succ_eq_append_getElem hl2] at ho
        rcases List.mem_append.1 ho with ho | ho
        · exact hn2 o ho
        · rw [List.mem_singleton.1 ho]; exact q
      cases hr : h[j].ops[i].read
      · repeat' first | rw [hr] | apply step | (apply g_op; · repeat first | exact Evs.nil | (apply Evs.cons; exact rfl)) | (refine Br.mk (fun _ => ?_) (fun _ => ?_) <;> try (exfalso; omega)) | (refine Sd.mk ?_ ?_; · ((repeat' apply And.intro) <;> first | omega | trivial | assumption | (simp; done) | (simp; omega))) | (refine Sx.mk ?_ ?_; · omega) | refine Fa.mk (fun _ => ?_) | refine Im.mk (fun _ => ?_) | apply Lw.go | refine g_cond ?_ | refine g_guard ?_ | refine g_keep ?_ | refine g_pass ?_ | refine g_fin ?_ | (apply g_ap; exact rfl; exact rfl; assumption)
        · exact fin (hR.1 _ hmem i hl2 hr ‹_› ‹_›)
        all_goals exact lp_next (i + 1) ⟨by omega, nx fun q => by first | exact absurd q.2.1 ‹_› | exact absurd q.2.2 ‹_›⟩ (by omega)
      · repeat' first | rw [hr] | apply step | (apply g_op; · repeat first | exact Evs.nil | (apply Evs.cons; exact rfl)) | (refine Br.mk (fun _ => ?_) (fun _ => ?_) <;> try (exfalso; omega)) | (refine Sd.mk ?_ ?_; · ((repeat' apply And.intro) <;> first | omega | trivial | assumption | (simp; done) | (simp; omega))) | (refine Sx.mk ?_ ?_; · omega) | refine Fa.mk (fun _ => ?_) | refine Im.mk (fun _ => ?_) | apply Lw.go | refine g_cond ?_ | refine g_guard ?_ | refine g_keep ?_ | refine g_pass ?_ | refine g_fin ?_ | (apply g_ap; exact rfl; exact rfl; assumption)
        exact lp_next (i + 1) ⟨by omega, nx fun q => by rw [hr] at q; cases q.1⟩ (by omega)
    · have e2 : h[j].ops.take i = h[j].ops := List.take_of_length_le hg2
      rw [e2] at hn2
      repeat' first | apply step | (apply g_op; · repeat first | exact Evs.nil | (apply Evs.cons; exact rfl)) | (refine Br.mk (fun _ => ?_) (fun _ => ?_) <;> try (exfalso; omega)) | (refine Sd.mk ?_ ?_; · ((repeat' apply And.intro) <;> first | omega | trivial | assumption | (simp; done) | (simp; omega))) | (refine Sx.mk ?_ ?_; · omega) | refine Fa.mk (fun _ => ?_) | refine Im.mk (fun _ => ?_) | apply Lw.go | refine g_cond ?_ | refine g_guard ?_ | refine g_keep ?_ | refine g_pass ?_ | refine g_fin ?_ | (apply g_ap; exact rfl; exact rfl; assumption)
      refine lp_next (j + 1) ⟨by omega, fun t ht => ?_⟩ (by omega)
      rw [List.take_succ_eq_append_getElem hlt] at ht
      rcases List.mem_append.1 ht with ht | ht
      · exact hn t ht
      · rw [List.mem_singleton.1 ht]; exact hn2
  · have e : h.take j = h := List.take_of_length_le hge
    rw [e] at hn
    repeat' first | apply step | (apply g_op; · repeat first | exact Evs.nil | (apply Evs.cons; exact rfl)) | (refine Br.mk (fun _ => ?_) (fun _ => ?_) <;> try (exfalso; omega)) | (refine Sd.mk ?_ ?_; · ((repeat' apply And.intro) <;> first | omega | trivial | assumption | (simp; done) | (simp; omega))) | (refine Sx.mk ?_ ?_; · omega) | refine Fa.mk (fun _ => ?_) | refine Im.mk (fun _ => ?_) | apply Lw.go | refine g_cond ?_ | refine g_guard ?_ | refine g_keep ?_ | refine g_pass ?_ | refine g_fin ?_ | (apply g_ap; exact rfl; exact rfl; assumption)
    exact fin (hR.2 hn)
end
end Go.AMS

namespace Go.AMS
open Go.AM hiding Kt At WP WL Runs RunsY
open Go.AM.G
open Go.AM.G.Set
set_option linter.unusedVariables false
set_option linter.unusedSimpArgs false
theorem range_getD {α β : Type} (d : α) (f : α → β) (l : List α) : (List.range l.length).map (fun i => f (l.getD i d)) = l.map f := by
  refine List.ext_getElem (by simp) fun i h1 h2 => ?_
  have hi : i < l.length := by simpa using h1
  simp [hi]
def mW (k v : Int) (x : HTx × Nat) : Bool := !(x.1.ops.getD x.2 default).read && decide ((x.1.ops.getD x.2 default).key = k) && decide ((x.1.ops.getD x.2 default).value = v)
def mkW (k v : Int) (x : HTx × Nat) : HWr := ⟨x.1.id, x.2, k, v, x.1.ab⟩
theorem one_wr (k v : Int) (T : Tb) (x : HTx × Nat) : aget (k, v) (T.one x).wr = if mW k v x = true then some (mkW k v x) else aget (k, v) T.wr := by
  unfold Tb.one
  rw [put_wr]
  unfold mW mkW
  generalize x.1.ops.getD x.2 default = o
  cases hr : o.read
  · simp only [Bool.false_eq_true, if_false, Bool.not_false, Bool.true_and]
    rw [aget_aset]
    by_cases h1 : o.key = k
    · by_cases h2 : o.value = v
      · subst h1; subst h2; simp
      · simp [h1, h2, Ne.symm h2]
    · simp [h1, Ne.symm h1]
  · simp
theorem fold_wr (k v : Int) : ∀ (xs : List (HTx × Nat)) (T : Tb), aget (k, v) (xs.foldl Tb.one T).wr = match (xs.filter (mW k v)).getLast? with
    | some x => some (mkW k v x)
    | none => aget (k, v) T.wr
  | [], _ => rfl
  | x :: xs, T => by
    rw [List.foldl_cons, fold_wr k v xs, one_wr]
    by_cases h : mW k v x = true
    · rw [List.filter_cons_of_pos h, if_pos h, List.getLast?_cons]
      cases (xs.filter (mW k v)).getLast? <;> rfl
    · rw [List.filter_cons_of_neg h, if_neg h]
theorem range_filterMap {α β : Type} (d : α) (p : α → Bool) (f : α → β) (l : List α) : ((List.range l.length).filter fun i => p (l.getD i d)).map (fun i => f (l.getD i d)) = (l.filter p).map f := by
  have h := range_getD d id l
  conv => rhs; rw [← List.map_id l, ← h, List.filter_map, List.map_map]
  rfl
theorem steps_prs (s : List HTx) : ((stepsL s).filter fun x => !(x.1.ops.getD x.2 default).read).map (fun x => ((x.1.ops.getD x.2 default).key, (x.1.ops.getD x.2 default).value)) = prsH s := by
  unfold stepsL prsH
  rw [List.filter_flatMap, List.map_flatMap]
  congr 1
  funext t
  rw [List.filter_map, List.map_map]
  exact range_filterMap default (fun o : HOp => !o.read) (fun o : HOp => (o.key, o.value)) t.ops
theorem mW_eq (k v : Int) (xs : List (HTx × Nat)) : xs.filter (mW k v) = (xs.filter fun x => !(x.1.ops.getD x.2 default).read).filter fun x => decide (((x.1.ops.getD x.2 default).key, (x.1.ops.getD x.2 default).value) = (k, v)) := by
  rw [List.filter_filter]
  congr 1
  funext x
  unfold mW
  simp only [Prod.mk.injEq, Bool.decide_and]
  rw [Bool.and_comm, Bool.and_assoc]
  cases (x.1.ops.getD x.2 default).read <;> simp [Bool.and_comm]
theorem one_of_nodup {α β : Type} [DecidableEq β] {f : α → β} {c : β} : ∀ {l : List α}, (l.map f).Nodup → ∀ x ∈ l, f x = c → l.filter (fun x => decide (f x = c)) = [x]
  | [], _, x, hx, _ => by cases hx
  | y :: l, h, x, hx, e => by
    rw [List.map_cons, List.nodup_cons] at h
    have hno : f y = c → l.filter (fun x => decide (f x = c)) = [] := fun q => by
      rw [List.filter_eq_nil_iff]
      intro z hz q2
      exact h.1 (by rw [q, ← of_decide_eq_true q2]; exact List.mem_map_of_mem hz)
    rcases List.mem_cons.1 hx with rfl | hx
    · rw [List.filter_cons_of_pos (by simpa using e), hno e]
    · rw [List.filter_cons_of_neg, one_of_nodup h.2 x hx e]
      intro q
      have := of_decide_eq_true q
      exact h.1 (by rw [this, ← e]; exact List.mem_map_of_mem hx)
theorem steps_in {s : List HTx} {t : HTx} {i : Nat} (ht : t ∈ s) (hi : i < t.ops.length) : (t, i) ∈ stepsL s :=
  List.mem_flatMap.2 ⟨t, ht, List.mem_map.2 ⟨i, List.mem_range.2 hi, rfl⟩⟩
theorem prs_sort {h : List HTx} (hp : (prsH h).Nodup) : (prsH (sortK HTx.id h)).Nodup :=
  ((sortK_perm HTx.id h).flatMap_right _).nodup_iff.2 hp
theorem wr_some {h : List HTx} {k v : Int} (hp : (prsH h).Nodup) {t : HTx} {i : Nat} (ht : t ∈ h) (hi : i < t.ops.length) (h1 : t.ops[i].read = false) (h2 : t.ops[i].key = k) (h3 : t.ops[i].value = v) : aget (k, v) (tabS (sortK HTx.id h)).fin.wr = some ⟨t.id, i, k, v, t.ab⟩ := by
  show aget (k, v) (tabS (sortK HTx.id h)).wr = _
  have hs := prs_sort hp
  generalize hsd : sortK HTx.id h = s at hs
  have ht2 : t ∈ s := by rw [← hsd]; exact (sortK_perm HTx.id h).mem_iff.2 ht
  have e : t.ops.getD i default = t.ops[i] := getD_lt hi
  have hf : (stepsL s).filter (mW k v) = [(t, i)] := by
    rw [mW_eq]
    refine one_of_nodup (f := fun x : HTx × Nat => ((x.1.ops.getD x.2 default).key, (x.1.ops.getD x.2 default).value)) (by rw [steps_prs]; exact hs) (t, i) (List.mem_filter.2 ⟨steps_in ht2 hi, by simp only [e, h1]; rfl⟩) (by simp only [e, h2, h3])
  unfold tabS
  rw [fold_wr, hf]
  rfl
theorem wr_none {h : List HTx} {k v : Int} (hn : ∀ t ∈ h, ∀ o ∈ t.ops, ¬ (o.read = false ∧ o.key = k ∧ o.value = v)) : aget (k, v) (tabS (sortK HTx.id h)).fin.wr = none := by
  show aget (k, v) (tabS (sortK HTx.id h)).wr = _
  have hf : (stepsL (sortK HTx.id h)).filter (mW k v) = [] := by
    rw [List.filter_eq_nil_iff]
    rintro ⟨t, i⟩ hx hm
    obtain ⟨t', ht, h3⟩ := List.mem_flatMap.1 hx
    obtain ⟨j, hj, e⟩ := List.mem_map.1 h3
    cases e
    have hi := List.mem_range.1 hj
    unfold mW at hm
    simp only [getD_lt hi, Bool.and_eq_true, Bool.not_eq_true', decide_eq_true_eq] at hm
    exact hn t ((sortK_perm HTx.id h).mem_iff.1 ht) t.ops[i] (List.getElem_mem hi) ⟨hm.1.1, hm.1.2, hm.2⟩
  unfold tabS
  rw [fold_wr, hf]
  rfl
def blockJ (T : Tb) (t : HTx) : Nat → Tb
  | 0 => T
  | j + 1 => (blockJ T t j).one (t, j)
theorem blockJ_eq (T : Tb) (t : HTx) : ∀ j, ((List.range j).map fun i => (t, i)).foldl Tb.one T = blockJ T t j
  | 0 => rfl
  | j + 1 => by rw [List.range_succ, List.map_append, List.foldl_append, blockJ_eq T t j]; rfl
theorem blockJ_ap {T : Tb} {t : HTx} (hT : ∀ key, agl (t.id, key) T.ap = []) : ∀ j, j ≤ t.ops.length → ∀ x key, agl (x, key) (blockJ T t j).ap = if x = t.id then aheadL t.ops key j else agl (x, key) T.ap
  | 0, _, x, key => by
    split
    · rename_i e; rw [e]; exact hT key
    · rfl
  | j + 1, h, x, key => by
    have hj : j < t.ops.length := by omega
    have ih := blockJ_ap hT j (by omega)
    show agl (x, key) ((blockJ T t j).one (t, j)).ap = _
    unfold Tb.one
    rw [put_ap, getD_lt hj]
    show agl (x, key) (if t.ops[j].read = true then (blockJ T t j).ap else adl (t.id, t.ops[j].key) t.ops[j].value (blockJ T t j).ap) = _
    rw [aheadL_next hj]
    cases hr : t.ops[j].read
    · simp only [Bool.false_eq_true, if_false, true_and]
      rw [agl_adl, ih]
      by_cases hx : x = t.id
      · rw [if_pos hx, if_pos hx]
        by_cases hk : t.ops[j].key = key
        · rw [if_pos hk, if_pos (by rw [hx, hk])]
        · rw [if_neg hk, if_neg (fun q => hk (Prod.mk.inj q).2.symm)]
      · rw [if_neg hx, if_neg hx, if_neg (fun q => hx (Prod.mk.inj q).1), List.append_nil]
    · simp only [if_true, Bool.true_eq_false, false_and, if_false, List.append_nil]
      exact ih x key
theorem fold_block (t : HTx) (s : List HTx) (T : Tb) : (stepsL (t :: s)).foldl Tb.one T = (stepsL s).foldl Tb.one (blockJ T t t.ops.length) := by
  show (((List.range t.ops.length).map fun i => (t, i)) ++ stepsL s).foldl Tb.one T = _
  rw [List.foldl_append, blockJ_eq]
theorem fold_ap : ∀ (s : List HTx) (T : Tb), (s.map HTx.id).Nodup → (∀ t ∈ s, ∀ key, agl (t.id, key) T.ap = []) → ∀ x key, agl (x, key) ((stepsL s).foldl Tb.one T).ap = match s.find? (fun t => decide (t.id = x)) with
    | some t => aheadL t.ops key t.ops.length
    | none => agl (x, key) T.ap
  | [], T, _, _, x, key => rfl
  | t :: s, T, hn, hT, x, key => by
    rw [List.map_cons, List.nodup_cons] at hn
    have h1 := blockJ_ap (hT t (List.mem_cons_self)) t.ops.length (Nat.le_refl _)
    have h2 : ∀ u ∈ s, ∀ key, agl (u.id, key) (blockJ T t t.ops.length).ap = [] := fun u hu key => by
      rw [h1, if_neg (fun e => hn.1 (by rw [← e]; exact List.mem_map_of_mem hu))]
      exact hT u (List.mem_cons_of_mem _ hu) key
    rw [fold_block, fold_ap s _ hn.2 h2, List.find?_cons]
    by_cases e : t.id = x
    · have : s.find? (fun t => decide (t.id = x)) = none := by
        rw [List.find?_eq_none]
        intro u hu q
        exact hn.1 (by rw [e, ← of_decide_eq_true q]; exact List.mem_map_of_mem hu)
      rw [this, decide_eq_true e]
      show agl (x, key) (blockJ T t t.ops.length).ap = _
      rw [h1, if_pos e.symm]
    · rw [decide_eq_false e]
      cases s.find? (fun t => decide (t.id = x)) with
      | some u => rfl
      | none => show agl (x, key) (blockJ T t t.ops.length).ap = _; rw [h1, if_neg (fun q => e q.symm)]
theorem find_nodup : ∀ {h : List HTx}, (h.map HTx.id).Nodup → ∀ {t : HTx}, t ∈ h → h.find? (fun u => decide (u.id = t.id)) = some t
  | [], _, t, ht => by cases ht
  | u :: h, hn, t, ht => by
    rw [List.map_cons, List.nodup_cons] at hn
    rcases List.mem_cons.1 ht with rfl | ht
    · rw [List.find?_cons, decide_eq_true rfl]
    · rw [List.find?_cons, decide_eq_false (fun e => hn.1 (by rw [e]; exact List.mem_map_of_mem ht))]
      exact find_nodup hn.2 ht
theorem find_sort {h : List HTx} (hn : (idsH h).Nodup) (x : Int) : (sortK HTx.id h).find? (fun t => decide (t.id = x)) = h.find? (fun t => decide (t.id = x)) := by
  have hp := sortK_perm HTx.id h
  have hn2 : ((sortK HTx.id h).map HTx.id).Nodup := (hp.map HTx.id).nodup_iff.2 hn
  cases e : h.find? (fun t => decide (t.id = x)) with
  | none =>
    rw [List.find?_eq_none] at e ⊢
    exact fun t ht => e t (hp.mem_iff.1 ht)
  | some t =>
    have h1 := List.mem_of_find?_eq_some e
    have h2 : t.id = x := by simpa using List.find?_some e
    subst h2
    exact find_nodup hn2 (hp.mem_iff.2 h1)
theorem ap_sort {h : List HTx} (hn : (idsH h).Nodup) (x key : Int) : agl (x, key) (tabS (sortK HTx.id h)).fin.ap = aheadL (txnOf h x).ops key (txnOf h x).ops.length := by
  show agl (x, key) ((stepsL (sortK HTx.id h)).foldl Tb.one (T0 _)).ap = _
  rw [fold_ap _ _ ((((sortK_perm HTx.id h).map HTx.id)).nodup_iff.2 hn) (fun t _ key => rfl), find_sort hn]
  unfold txnOf
  cases h.find? (fun t => decide (t.id = x)) with
  | some t => rfl
  | none => rfl
end Go.AMS

namespace Go.AMS
open Go.AM hiding Kt At WP WL Runs RunsY
open Go.AM.G
set_option linter.unusedVariables false
set_option linter.unusedSimpArgs false
set_option linter.unusedSectionVars false
set_option maxRecDepth 100000
set_option maxHeartbeats 1000000
attribute [local irreducible] AtS AtV AtC AtG FinA Spec Post LP G.At G.WP G.WL pt own fro rdl ro hx mp lrec elt sub

section
theorem l12_works_spec : Spec prog1 n_l12_works [] [] (fun R => R (.bool true) []) := closed_spec c_l12_works
end
end Go.AMS

namespace Go.AMS
open Go.AM hiding Kt At WP WL Runs RunsY
open Go.AM.G
set_option linter.unusedVariables false
set_option linter.unusedSimpArgs false
set_option linter.unusedSectionVars false
set_option maxRecDepth 100000
set_option maxHeartbeats 1000000
attribute [local irreducible] AtS AtV AtC AtG FinA Spec Post LP G.At G.WP G.WL pt own fro rdl ro hx mp lrec elt sub

open Go.AM.G.Set
section
variable {h : List HTx} {p q : Option Addr} {c d : Nat}
theorem l12_TableValues_spec {id key value : Int} : Spec prog1 n_l12_TableValues [.agg #[.slice p h.length c], .int .i64 id, .int .i64 key, .int .i64 value] [fro kHTx p c h] (fun R => R (.bool true) []) := by
  refine spec_code c_l12_TableValues rfl ?_; intro n F R hR; unfold F_l12_TableValues
  repeat' first | apply step | (apply g_op; · repeat first | exact Evs.nil | (apply Evs.cons; exact rfl)) | (refine Br.mk (fun _ => ?_) (fun _ => ?_) <;> try (exfalso; omega)) | (refine Sd.mk ?_ ?_; · ((repeat' apply And.intro) <;> first | omega | trivial | assumption | (simp; done) | (simp; omega))) | (refine Sx.mk ?_ ?_; · omega) | refine Fa.mk (fun _ => ?_) | refine Im.mk (fun _ => ?_) | apply Lw.go | refine g_cond ?_ | refine g_guard ?_ | refine g_keep ?_ | refine g_pass ?_ | refine g_fin ?_ | (apply g_ap; exact rfl; exact rfl; assumption)
  first | refine at_callS (r03_Few_spec (h := h) (a := 20) (b := 60) (by omega) (by omega)) ?_ | refine at_callR (r03_Few_spec (h := h) (a := 20) (b := 60) (by omega) (by omega)) ?_
  refine ⟨fun hf => ?_, ?_⟩
  · repeat' first | apply step | (apply g_op; · repeat first | exact Evs.nil | (apply Evs.cons; exact rfl)) | (refine Br.mk (fun _ => ?_) (fun _ => ?_) <;> try (exfalso; omega)) | (refine Sd.mk ?_ ?_; · ((repeat' apply And.intro) <;> first | omega | trivial | assumption | (simp; done) | (simp; omega))) | (refine Sx.mk ?_ ?_; · omega) | refine Fa.mk (fun _ => ?_) | refine Im.mk (fun _ => ?_) | apply Lw.go | refine g_cond ?_ | refine g_guard ?_ | refine g_keep ?_ | refine g_pass ?_ | refine g_fin ?_ | (apply g_ap; exact rfl; exact rfl; assumption)
    first | refine at_callS (r04_Check_spec hf) ?_ | refine at_callR (r04_Check_spec hf) ?_
    by_cases hc : chkH h = 0
    · rw [hc]
      repeat' first | apply step | (apply g_op; · repeat first | exact Evs.nil | (apply Evs.cons; exact rfl)) | (refine Br.mk (fun _ => ?_) (fun _ => ?_) <;> try (exfalso; omega)) | (refine Sd.mk ?_ ?_; · ((repeat' apply And.intro) <;> first | omega | trivial | assumption | (simp; done) | (simp; omega))) | (refine Sx.mk ?_ ?_; · omega) | refine Fa.mk (fun _ => ?_) | refine Im.mk (fun _ => ?_) | apply Lw.go | refine g_cond ?_ | refine g_guard ?_ | refine g_keep ?_ | refine g_pass ?_ | refine g_fin ?_ | (apply g_ap; exact rfl; exact rfl; assumption)
      first | refine at_callS (table_New_spec hf) ?_ | refine at_callR (table_New_spec hf) ?_
      refine ⟨fun hc2 => absurd hc hc2, fun _ b => ?_⟩
      have hk := chkH_ok hc
      have hap := ap_sort hk.i id key
      have hw1 := fun (t : HTx) (ht : t ∈ h) (i : Nat) (hi : i < t.ops.length) h1 h2 h3 => wr_some (k := key) (v := value) hk.p ht hi h1 h2 h3
      have hw2 := wr_none (h := h) (k := key) (v := value)
      generalize (tabS (sortK HTx.id h)).fin = T at hap hw1 hw2 ⊢
      repeat' first | apply step | (apply g_op; · repeat first | exact Evs.nil | (apply Evs.cons; exact rfl)) | (refine Br.mk (fun _ => ?_) (fun _ => ?_) <;> try (exfalso; omega)) | (refine Sd.mk ?_ ?_; · ((repeat' apply And.intro) <;> first | omega | trivial | assumption | (simp; done) | (simp; omega))) | (refine Sx.mk ?_ ?_; · omega) | refine Fa.mk (fun _ => ?_) | refine Im.mk (fun _ => ?_) | apply Lw.go | refine g_cond ?_ | refine g_guard ?_ | refine g_keep ?_ | refine g_pass ?_ | refine g_fin ?_ | (apply g_ap; exact rfl; exact rfl; assumption)
      first | refine at_callS (table_Table_Writer_spec (T := T) (x := key) (y := value)) ?_ | refine at_callR (table_Table_Writer_spec (T := T) (x := key) (y := value)) ?_
      have hh := hf.t
      have hmo : ∀ t ∈ h, ∀ o ∈ t.ops, mayO o := fun t ht => (hk.m t ht).2
      have hapl : (agl (id, key) T.ap).length ≤ 60 := by
        rw [hap]
        refine Nat.le_trans (aheadL_len _ _ _) ?_
        rcases txnOf_mem h id with e | e
        · rw [e]; simp
        · exact Nat.le_trans (opsN_mem e) hf.o
      by_cases hm : ∃ t ∈ h, ∃ i, ∃ hi : i < t.ops.length, t.ops[i].read = false ∧ t.ops[i].key = key ∧ t.ops[i].value = value
      · obtain ⟨t, ht, i, hi, q1, q2, q3⟩ := hm
        have hw := hw1 t ht i hi q1 q2 q3
        have hu : ∀ (t' : HTx) (ht : t' ∈ h) (i' : Nat) (hi : i' < t'.ops.length), t'.ops[i'].read = false → t'.ops[i'].key = key → t'.ops[i'].value = value → (⟨t'.id, i', key, value, t'.ab⟩ : HWr) = ⟨t.id, i, key, value, t.ab⟩ := fun t' ht' i' hi' h1 h2 h3 => Option.some.inj ((hw1 t' ht' i' hi' h1 h2 h3).symm.trans hw)
        rw [hw]
        generalize (⟨t.id, i, key, value, t.ab⟩ : HWr) = w at hu ⊢
        unfold wrO
        repeat' first | apply step | (apply g_op; · repeat first | exact Evs.nil | (apply Evs.cons; exact rfl)) | (refine Br.mk (fun _ => ?_) (fun _ => ?_) <;> try (exfalso; omega)) | (refine Sd.mk ?_ ?_; · ((repeat' apply And.intro) <;> first | omega | trivial | assumption | (simp; done) | (simp; omega))) | (refine Sx.mk ?_ ?_; · omega) | refine Fa.mk (fun _ => ?_) | refine Im.mk (fun _ => ?_) | apply Lw.go | refine g_cond ?_ | refine g_guard ?_ | refine g_keep ?_ | refine g_pass ?_ | refine g_fin ?_ | (apply g_ap; exact rfl; exact rfl; assumption)
        first | refine at_callS (r12_Writer_spec (h := h) (x := key) (y := value) hf) ?_ | refine at_callR (r12_Writer_spec (h := h) (x := key) (y := value) hf) ?_
        refine ⟨fun t' ht' i' hi' h1 h2 h3 => ?_, fun hno => absurd ⟨q1, q2, q3⟩ (hno t ht _ (List.getElem_mem hi))⟩
        rw [hu t' ht' i' hi' h1 h2 h3]
        unfold wrO
        repeat' first | apply step | (apply g_op; · repeat first | exact Evs.nil | (apply Evs.cons; exact rfl)) | (refine Br.mk (fun _ => ?_) (fun _ => ?_) <;> try (exfalso; omega)) | (refine Sd.mk ?_ ?_; · ((repeat' apply And.intro) <;> first | omega | trivial | assumption | (simp; done) | (simp; omega))) | (refine Sx.mk ?_ ?_; · omega) | refine Fa.mk (fun _ => ?_) | refine Im.mk (fun _ => ?_) | apply Lw.go | refine g_cond ?_ | refine g_guard ?_ | refine g_keep ?_ | refine g_pass ?_ | refine g_fin ?_ | (apply g_ap; exact rfl; exact rfl; assumption)
        refine at_callR (table_Table_Appends_spec (T := T) (x := id) (y := key) (by omega)) ?_
        intro p1 c1
        repeat' first | apply step | (apply g_op; · repeat first | exact Evs.nil | (apply Evs.cons; exact rfl)) | (refine Br.mk (fun _ => ?_) (fun _ => ?_) <;> try (exfalso; omega)) | (refine Sd.mk ?_ ?_; · ((repeat' apply And.intro) <;> first | omega | trivial | assumption | (simp; done) | (simp; omega))) | (refine Sx.mk ?_ ?_; · omega) | refine Fa.mk (fun _ => ?_) | refine Im.mk (fun _ => ?_) | apply Lw.go | refine g_cond ?_ | refine g_guard ?_ | refine g_keep ?_ | refine g_pass ?_ | refine g_fin ?_ | (apply g_ap; exact rfl; exact rfl; assumption)
        first | refine at_callS (r12_Appends_spec (x := id) (key := key) hf hmo) ?_ | refine at_callR (r12_Appends_spec (x := id) (key := key) hf hmo) ?_
        intro p2 c2
        repeat' first | apply step | (apply g_op; · repeat first | exact Evs.nil | (apply Evs.cons; exact rfl)) | (refine Br.mk (fun _ => ?_) (fun _ => ?_) <;> try (exfalso; omega)) | (refine Sd.mk ?_ ?_; · ((repeat' apply And.intro) <;> first | omega | trivial | assumption | (simp; done) | (simp; omega))) | (refine Sx.mk ?_ ?_; · omega) | refine Fa.mk (fun _ => ?_) | refine Im.mk (fun _ => ?_) | apply Lw.go | refine g_cond ?_ | refine g_guard ?_ | refine g_keep ?_ | refine g_pass ?_ | refine g_fin ?_ | (apply g_ap; exact rfl; exact rfl; assumption)
        refine at_callR (r01_Same_spec (a := agl (id, key) T.ap) (b := aheadL (txnOf h id).ops key (txnOf h id).ops.length) (by omega)) ?_
        refine ⟨fun _ => ?_, fun q => absurd hap q⟩
        repeat' first | apply step | (apply g_op; · repeat first | exact Evs.nil | (apply Evs.cons; exact rfl)) | (refine Br.mk (fun _ => ?_) (fun _ => ?_) <;> try (exfalso; omega)) | (refine Sd.mk ?_ ?_; · ((repeat' apply And.intro) <;> first | omega | trivial | assumption | (simp; done) | (simp; omega))) | (refine Sx.mk ?_ ?_; · omega) | refine Fa.mk (fun _ => ?_) | refine Im.mk (fun _ => ?_) | apply Lw.go | refine g_cond ?_ | refine g_guard ?_ | refine g_keep ?_ | refine g_pass ?_ | refine g_fin ?_ | (apply g_ap; exact rfl; exact rfl; assumption)
        first | refine at_callS (l12_works_spec) ?_ | refine at_callR (l12_works_spec) ?_
        repeat' first | apply step | (apply g_op; · repeat first | exact Evs.nil | (apply Evs.cons; exact rfl)) | (refine Br.mk (fun _ => ?_) (fun _ => ?_) <;> try (exfalso; omega)) | (refine Sd.mk ?_ ?_; · ((repeat' apply And.intro) <;> first | omega | trivial | assumption | (simp; done) | (simp; omega))) | (refine Sx.mk ?_ ?_; · omega) | refine Fa.mk (fun _ => ?_) | refine Im.mk (fun _ => ?_) | apply Lw.go | refine g_cond ?_ | refine g_guard ?_ | refine g_keep ?_ | refine g_pass ?_ | refine g_fin ?_ | (apply g_ap; exact rfl; exact rfl; assumption)
        exact fin hR
        all_goals (rename_i q; exact absurd rfl q)
      · rw [hw2 (fun t ht o ho q => by obtain ⟨i, hi, e⟩ := List.mem_iff_getElem.1 ho; subst e; exact hm ⟨t, ht, i, hi, q⟩)]
        unfold wrO
        repeat' first | apply step | (apply g_op; · repeat first | exact Evs.nil | (apply Evs.cons; exact rfl)) | (refine Br.mk (fun _ => ?_) (fun _ => ?_) <;> try (exfalso; omega)) | (refine Sd.mk ?_ ?_; · ((repeat' apply And.intro) <;> first | omega | trivial | assumption | (simp; done) | (simp; omega))) | (refine Sx.mk ?_ ?_; · omega) | refine Fa.mk (fun _ => ?_) | refine Im.mk (fun _ => ?_) | apply Lw.go | refine g_cond ?_ | refine g_guard ?_ | refine g_keep ?_ | refine g_pass ?_ | refine g_fin ?_ | (apply g_ap; exact rfl; exact rfl; assumption)
        first | refine at_callS (r12_Writer_spec (h := h) (x := key) (y := value) hf) ?_ | refine at_callR (r12_Writer_spec (h := h) (x := key) (y := value) hf) ?_
        refine ⟨fun t' ht' i' hi' h1 h2 h3 => absurd ⟨t', ht', i', hi', h1, h2, h3⟩ hm, fun _ => ?_⟩
        unfold wrO
        repeat' first | apply step | (apply g_op; · repeat first | exact Evs.nil | (apply Evs.cons; exact rfl)) | (refine Br.mk (fun _ => ?_) (fun _ => ?_) <;> try (exfalso; omega)) | (refine Sd.mk ?_ ?_; · ((repeat' apply And.intro) <;> first | omega | trivial | assumption | (simp; done) | (simp; omega))) | (refine Sx.mk ?_ ?_; · omega) | refine Fa.mk (fun _ => ?_) | refine Im.mk (fun _ => ?_) | apply Lw.go | refine g_cond ?_ | refine g_guard ?_ | refine g_keep ?_ | refine g_pass ?_ | refine g_fin ?_ | (apply g_ap; exact rfl; exact rfl; assumption)
        refine at_callR (table_Table_Appends_spec (T := T) (x := id) (y := key) (by omega)) ?_
        intro p1 c1
        repeat' first | apply step | (apply g_op; · repeat first | exact Evs.nil | (apply Evs.cons; exact rfl)) | (refine Br.mk (fun _ => ?_) (fun _ => ?_) <;> try (exfalso; omega)) | (refine Sd.mk ?_ ?_; · ((repeat' apply And.intro) <;> first | omega | trivial | assumption | (simp; done) | (simp; omega))) | (refine Sx.mk ?_ ?_; · omega) | refine Fa.mk (fun _ => ?_) | refine Im.mk (fun _ => ?_) | apply Lw.go | refine g_cond ?_ | refine g_guard ?_ | refine g_keep ?_ | refine g_pass ?_ | refine g_fin ?_ | (apply g_ap; exact rfl; exact rfl; assumption)
        first | refine at_callS (r12_Appends_spec (x := id) (key := key) hf hmo) ?_ | refine at_callR (r12_Appends_spec (x := id) (key := key) hf hmo) ?_
        intro p2 c2
        repeat' first | apply step | (apply g_op; · repeat first | exact Evs.nil | (apply Evs.cons; exact rfl)) | (refine Br.mk (fun _ => ?_) (fun _ => ?_) <;> try (exfalso; omega)) | (refine Sd.mk ?_ ?_; · ((repeat' apply And.intro) <;> first | omega | trivial | assumption | (simp; done) | (simp; omega))) | (refine Sx.mk ?_ ?_; · omega) | refine Fa.mk (fun _ => ?_) | refine Im.mk (fun _ => ?_) | apply Lw.go | refine g_cond ?_ | refine g_guard ?_ | refine g_keep ?_ | refine g_pass ?_ | refine g_fin ?_ | (apply g_ap; exact rfl; exact rfl; assumption)
        refine at_callR (r01_Same_spec (a := agl (id, key) T.ap) (b := aheadL (txnOf h id).ops key (txnOf h id).ops.length) (by omega)) ?_
        refine ⟨fun _ => ?_, fun q => absurd hap q⟩
        repeat' first | apply step | (apply g_op; · repeat first | exact Evs.nil | (apply Evs.cons; exact rfl)) | (refine Br.mk (fun _ => ?_) (fun _ => ?_) <;> try (exfalso; omega)) | (refine Sd.mk ?_ ?_; · ((repeat' apply And.intro) <;> first | omega | trivial | assumption | (simp; done) | (simp; omega))) | (refine Sx.mk ?_ ?_; · omega) | refine Fa.mk (fun _ => ?_) | refine Im.mk (fun _ => ?_) | apply Lw.go | refine g_cond ?_ | refine g_guard ?_ | refine g_keep ?_ | refine g_pass ?_ | refine g_fin ?_ | (apply g_ap; exact rfl; exact rfl; assumption)
        first | refine at_callS (l12_works_spec) ?_ | refine at_callR (l12_works_spec) ?_
        repeat' first | apply step | (apply g_op; · repeat first | exact Evs.nil | (apply Evs.cons; exact rfl)) | (refine Br.mk (fun _ => ?_) (fun _ => ?_) <;> try (exfalso; omega)) | (refine Sd.mk ?_ ?_; · ((repeat' apply And.intro) <;> first | omega | trivial | assumption | (simp; done) | (simp; omega))) | (refine Sx.mk ?_ ?_; · omega) | refine Fa.mk (fun _ => ?_) | refine Im.mk (fun _ => ?_) | apply Lw.go | refine g_cond ?_ | refine g_guard ?_ | refine g_keep ?_ | refine g_pass ?_ | refine g_fin ?_ | (apply g_ap; exact rfl; exact rfl; assumption)
        exact fin hR
        all_goals (rename_i q; exact absurd rfl q)
    · repeat' first | apply step | (apply g_op; · repeat first | exact Evs.nil | (apply Evs.cons; exact rfl)) | (refine Br.mk (fun _ => ?_) (fun _ => ?_) <;> try (exfalso; omega)) | (refine Sd.mk ?_ ?_; · ((repeat' apply And.intro) <;> first | omega | trivial | assumption | (simp; done) | (simp; omega))) | (refine Sx.mk ?_ ?_; · omega) | refine Fa.mk (fun _ => ?_) | refine Im.mk (fun _ => ?_) | apply Lw.go | refine g_cond ?_ | refine g_guard ?_ | refine g_keep ?_ | refine g_pass ?_ | refine g_fin ?_ | (apply g_ap; exact rfl; exact rfl; assumption)
      first | refine at_callS (l12_works_spec) ?_ | refine at_callR (l12_works_spec) ?_
      repeat' first | apply step | (apply g_op; · repeat first | exact Evs.nil | (apply Evs.cons; exact rfl)) | (refine Br.mk (fun _ => ?_) (fun _ => ?_) <;> try (exfalso; omega)) | (refine Sd.mk ?_ ?_; · ((repeat' apply And.intro) <;> first | omega | trivial | assumption | (simp; done) | (simp; omega))) | (refine Sx.mk ?_ ?_; · omega) | refine Fa.mk (fun _ => ?_) | refine Im.mk (fun _ => ?_) | apply Lw.go | refine g_cond ?_ | refine g_guard ?_ | refine g_keep ?_ | refine g_pass ?_ | refine g_fin ?_ | (apply g_ap; exact rfl; exact rfl; assumption)
      exact fin hR
  · repeat' first | apply step | (apply g_op; · repeat first | exact Evs.nil | (apply Evs.cons; exact rfl)) | (refine Br.mk (fun _ => ?_) (fun _ => ?_) <;> try (exfalso; omega)) | (refine Sd.mk ?_ ?_; · ((repeat' apply And.intro) <;> first | omega | trivial | assumption | (simp; done) | (simp; omega))) | (refine Sx.mk ?_ ?_; · omega) | refine Fa.mk (fun _ => ?_) | refine Im.mk (fun _ => ?_) | apply Lw.go | refine g_cond ?_ | refine g_guard ?_ | refine g_keep ?_ | refine g_pass ?_ | refine g_fin ?_ | (apply g_ap; exact rfl; exact rfl; assumption)
    first | refine at_callS (l12_works_spec) ?_ | refine at_callR (l12_works_spec) ?_
    repeat' first | apply step | (apply g_op; · repeat first | exact Evs.nil | (apply Evs.cons; exact rfl)) | (refine Br.mk (fun _ => ?_) (fun _ => ?_) <;> try (exfalso; omega)) | (refine Sd.mk ?_ ?_; · ((repeat' apply And.intro) <;> first | omega | trivial | assumption | (simp; done) | (simp; omega))) | (refine Sx.mk ?_ ?_; · omega) | refine Fa.mk (fun _ => ?_) | refine Im.mk (fun _ => ?_) | apply Lw.go | refine g_cond ?_ | refine g_guard ?_ | refine g_keep ?_ | refine g_pass ?_ | refine g_fin ?_ | (apply g_ap; exact rfl; exact rfl; assumption)
    exact fin hR
end
end Go.AMS

