/- What the functions do, part 2. -/
import Derived.Test.YtjnipkbnmbnfpaaPart1
import Derived.Test.YtjnipkbnmbnfpaaSetLaw
namespace Go.AMS
open Go.AM hiding Kt At WP WL Runs RunsY
open Go.AM.G
set_option linter.unusedVariables false
set_option linter.unusedSimpArgs false
set_option linter.unusedSectionVars false
set_option maxRecDepth 100000
set_option maxHeartbeats 1000000
attribute [local irreducible] AtS AtV AtC AtG FinA Spec Post LP G.At G.WP G.WL pt own fro rdl ro hx mp lrec elt sub

open Go.AM.G.Set
section
theorem r11_Few_spec {p : Option Addr} {c : Nat} {rows : List (List Int)} : Spec prog1 n_r11_Few [.slice p rows.length c] [rdl (kSl (kInt .i64)) p rows] (fun R => (rows.length ≤ 20 → (∀ x ∈ rows, x.length ≤ 40) → R (.bool true) []) ∧ R (.bool false) []) := by
  refine spec_code c_r11_Few rfl ?_; intro n F R hR; unfold F_r11_Few
  repeat' first | apply step | (apply g_op; · repeat first | exact Evs.nil | (apply Evs.cons; exact rfl)) | (refine Br.mk (fun _ => ?_) (fun _ => ?_) <;> try (exfalso; omega)) | (refine Sd.mk ?_ ?_; · ((repeat' apply And.intro) <;> first | omega | trivial | assumption | (simp; done) | (simp; omega))) | (refine Sx.mk ?_ ?_; · omega) | refine Fa.mk (fun _ => ?_) | refine Im.mk (fun _ => ?_) | apply Lw.go | refine g_cond ?_ | refine g_guard ?_ | refine g_keep ?_ | refine g_pass ?_ | refine g_fin ?_ | (apply g_ap; exact rfl; exact rfl; assumption)
  · exact fin hR.2
  have hln : rows.length ≤ 20 := by omega
  refine at_loopS (ι := Nat) (E := fun k => [(0, .slice p rows.length c), (3, .int .i64 (k : Int))]) (Δ := fun k => rdl (kSl (kInt .i64)) p rows :: F) (P := fun k => k ≤ rows.length ∧ ∀ x ∈ rows.take k, x.length ≤ 40) (μ := fun k => rows.length - k) 0 ⟨Nat.zero_le _, by simp⟩ ?_
  rintro k ⟨hk, hle⟩
  try dsimp only
  repeat' first | apply step | (apply g_op; · repeat first | exact Evs.nil | (apply Evs.cons; exact rfl)) | (refine Br.mk (fun _ => ?_) (fun _ => ?_) <;> try (exfalso; omega)) | (refine Sd.mk ?_ ?_; · ((repeat' apply And.intro) <;> first | omega | trivial | assumption | (simp; done) | (simp; omega))) | (refine Sx.mk ?_ ?_; · omega) | refine Fa.mk (fun _ => ?_) | refine Im.mk (fun _ => ?_) | apply Lw.go | refine g_cond ?_ | refine g_guard ?_ | refine g_keep ?_ | refine g_pass ?_ | refine g_fin ?_ | (apply g_ap; exact rfl; exact rfl; assumption)
  · exact fin hR.2
  · have hk' : k < rows.length := by omega
    refine lp_next (k + 1) ⟨by omega, fun x hx => ?_⟩ (by omega)
    rw [List.take_succ_eq_append_getElem hk'] at hx
    rcases List.mem_append.1 hx with hx | hx
    · exact hle x hx
    · rw [List.mem_singleton.1 hx]; omega
  · have e : rows.take k = rows := List.take_of_length_le (by omega)
    rw [e] at hle
    exact fin (hR.1 hln hle)
theorem cnt_succ {rows : List (List Int)} {k : Nat} (hk : k < rows.length) : cnt (rows.take (k + 1)) = cnt (rows.take k) + rows[k].length := by
  unfold cnt
  rw [List.take_succ_eq_append_getElem hk, List.map_append, List.sum_append]; simp
theorem cnt_take_le (rows : List (List Int)) (k : Nat) : cnt (rows.take k) ≤ cnt rows := by
  conv => rhs; rw [← List.take_append_drop k rows]
  unfold cnt
  rw [List.map_append, List.sum_append]; omega
theorem r11_Count_spec {p : Option Addr} {c : Nat} {rows : List (List Int)} (hf : rows.length ≤ 1000) (hc : cnt rows ≤ 1000000) : Spec prog1 n_r11_Count [.slice p rows.length c] [rdl (kSl (kInt .i64)) p rows] (fun R => R (.int .i64 (cnt rows : Int)) []) := by
  refine spec_code c_r11_Count rfl ?_; intro n F R hR; unfold F_r11_Count
  repeat' first | apply step | (apply g_op; · repeat first | exact Evs.nil | (apply Evs.cons; exact rfl)) | (refine Br.mk (fun _ => ?_) (fun _ => ?_) <;> try (exfalso; omega)) | (refine Sd.mk ?_ ?_; · ((repeat' apply And.intro) <;> first | omega | trivial | assumption | (simp; done) | (simp; omega))) | (refine Sx.mk ?_ ?_; · omega) | refine Fa.mk (fun _ => ?_) | refine Im.mk (fun _ => ?_) | apply Lw.go | refine g_cond ?_ | refine g_guard ?_ | refine g_keep ?_ | refine g_pass ?_ | refine g_fin ?_ | (apply g_ap; exact rfl; exact rfl; assumption)
  refine at_loopS (ι := Nat) (E := fun k => [(0, .slice p rows.length c), (3, .int .i64 (cnt (rows.take k) : Int)), (4, .int .i64 (k : Int))]) (Δ := fun k => rdl (kSl (kInt .i64)) p rows :: F) (P := fun k => k ≤ rows.length) (μ := fun k => rows.length - k) 0 (Nat.zero_le _) ?_
  rintro k hk
  try dsimp only
  rcases Nat.lt_or_ge k rows.length with hk' | hk'
  · have h1 := cnt_succ hk'
    have h2 := cnt_take_le rows (k + 1)
    repeat' first | apply step | (apply g_op; · repeat first | exact Evs.nil | (apply Evs.cons; exact rfl)) | (refine Br.mk (fun _ => ?_) (fun _ => ?_) <;> try (exfalso; omega)) | (refine Sd.mk ?_ ?_; · ((repeat' apply And.intro) <;> first | omega | trivial | assumption | (simp; done) | (simp; omega))) | (refine Sx.mk ?_ ?_; · omega) | refine Fa.mk (fun _ => ?_) | refine Im.mk (fun _ => ?_) | apply Lw.go | refine g_cond ?_ | refine g_guard ?_ | refine g_keep ?_ | refine g_pass ?_ | refine g_fin ?_ | (apply g_ap; exact rfl; exact rfl; assumption)
    exact lp_next (k + 1) (by omega) (by omega) (by rw [h1])
  · have e : rows.take k = rows := List.take_of_length_le (by omega)
    rw [e]
    repeat' first | apply step | (apply g_op; · repeat first | exact Evs.nil | (apply Evs.cons; exact rfl)) | (refine Br.mk (fun _ => ?_) (fun _ => ?_) <;> try (exfalso; omega)) | (refine Sd.mk ?_ ?_; · ((repeat' apply And.intro) <;> first | omega | trivial | assumption | (simp; done) | (simp; omega))) | (refine Sx.mk ?_ ?_; · omega) | refine Fa.mk (fun _ => ?_) | refine Im.mk (fun _ => ?_) | apply Lw.go | refine g_cond ?_ | refine g_guard ?_ | refine g_keep ?_ | refine g_pass ?_ | refine g_fin ?_ | (apply g_ap; exact rfl; exact rfl; assumption)
    exact fin hR
theorem hd_some {l : List (List Int)} {k : Nat} (hk : k < l.length) (h0 : 0 < l[k].length) : hd l k = some l[k][0] := by
  unfold hd; rw [List.getElem?_eq_getElem hk]
  show l[k].head? = _
  rw [List.head?_eq_getElem?, List.getElem?_eq_getElem h0]
theorem hd_none {l : List (List Int)} {k : Nat} (hk : k < l.length) (h0 : ¬ 0 < l[k].length) : hd l k = none := by
  unfold hd; rw [List.getElem?_eq_getElem hk]
  show l[k].head? = _
  rw [List.eq_nil_of_length_eq_zero (show l[k].length = 0 by omega)]; rfl
theorem hd_inv {l : List (List Int)} {k : Nat} {x : Int} (h : hd l k = some x) : ∃ hk : k < l.length, ∃ h0 : 0 < l[k].length, l[k][0] = x := by
  obtain ⟨hk, r, h1, _⟩ := cnt_tail h
  have h0 : 0 < l[k].length := by rw [h1]; simp
  refine ⟨hk, h0, ?_⟩
  have := hd_some hk h0
  rw [h] at this; simpa using this.symm
theorem r11_take_spec {p : Option Addr} {c : Nat} {l : List (List Int)} (hl : l.length ≤ 1000000) : Spec prog1 n_r11_take [.slice p l.length c] [rdl (kSl (kInt .i64)) p l] (fun R => R (.int .i64 (bI (bestN (hd l) l.length))) []) := by
  refine spec_code c_r11_take rfl ?_; intro n F R hR; unfold F_r11_take
  repeat' first | apply step | (apply g_op; · repeat first | exact Evs.nil | (apply Evs.cons; exact rfl)) | (refine Br.mk (fun _ => ?_) (fun _ => ?_) <;> try (exfalso; omega)) | (refine Sd.mk ?_ ?_; · ((repeat' apply And.intro) <;> first | omega | trivial | assumption | (simp; done) | (simp; omega))) | (refine Sx.mk ?_ ?_; · omega) | refine Fa.mk (fun _ => ?_) | refine Im.mk (fun _ => ?_) | apply Lw.go | refine g_cond ?_ | refine g_guard ?_ | refine g_keep ?_ | refine g_pass ?_ | refine g_fin ?_ | (apply g_ap; exact rfl; exact rfl; assumption)
  refine at_loopS (ι := Nat) (E := fun k => [(0, .slice p l.length c), (3, .int .i64 (bI (bestN (hd l) k))), (4, .int .i64 (k : Int))]) (Δ := fun k => rdl (kSl (kInt .i64)) p l :: F) (P := fun k => k ≤ l.length) (μ := fun k => l.length - k) 0 (Nat.zero_le _) ?_
  rintro k hk
  try dsimp only
  rcases Nat.lt_or_ge k l.length with hk' | hk'
  · cases hbn : bestN (hd l) k with
    | none =>
      rw [bI_none]
      repeat' first | apply step | (apply g_op; · repeat first | exact Evs.nil | (apply Evs.cons; exact rfl)) | (refine Br.mk (fun _ => ?_) (fun _ => ?_) <;> try (exfalso; omega)) | (refine Sd.mk ?_ ?_; · ((repeat' apply And.intro) <;> first | omega | trivial | assumption | (simp; done) | (simp; omega))) | (refine Sx.mk ?_ ?_; · omega) | refine Fa.mk (fun _ => ?_) | refine Im.mk (fun _ => ?_) | apply Lw.go | refine g_cond ?_ | refine g_guard ?_ | refine g_keep ?_ | refine g_pass ?_ | refine g_fin ?_ | (apply g_ap; exact rfl; exact rfl; assumption)
      · have e1 := best_first (hd_some hk' (by omega)) hbn
        exact lp_next (k + 1) (by omega) (by omega) (by rw [e1, bI_some])
      · have e1 := best_skip (hd_none hk' (by omega))
        exact lp_next (k + 1) (by omega) (by omega) (by rw [e1, hbn, bI_none])
    | some q =>
      obtain ⟨hq, y, hy, _⟩ := (best_spec (hd l) k).2 q hbn
      obtain ⟨hql, hq0, rfl⟩ := hd_inv hy
      rw [bI_some]
      repeat' first | apply step | (apply g_op; · repeat first | exact Evs.nil | (apply Evs.cons; exact rfl)) | (refine Br.mk (fun _ => ?_) (fun _ => ?_) <;> try (exfalso; omega)) | (refine Sd.mk ?_ ?_; · ((repeat' apply And.intro) <;> first | omega | trivial | assumption | (simp; done) | (simp; omega))) | (refine Sx.mk ?_ ?_; · omega) | refine Fa.mk (fun _ => ?_) | refine Im.mk (fun _ => ?_) | apply Lw.go | refine g_cond ?_ | refine g_guard ?_ | refine g_keep ?_ | refine g_pass ?_ | refine g_fin ?_ | (apply g_ap; exact rfl; exact rfl; assumption)
      · have e1 := best_less (hd_some hk' (by omega)) hbn hy (by assumption)
        exact lp_next (k + 1) (by omega) (by omega) (by rw [e1, bI_some])
      · have e1 := best_keep (hd_some hk' (by omega)) hbn hy (by assumption)
        exact lp_next (k + 1) (by omega) (by omega) (by rw [e1, bI_some])
      · have e1 := best_skip (hd_none hk' (by omega))
        exact lp_next (k + 1) (by omega) (by omega) (by rw [e1, hbn, bI_some])
  · have hkk : k = l.length := by omega
    subst hkk
    repeat' first | apply step | (apply g_op; · repeat first | exact Evs.nil | (apply Evs.cons; exact rfl)) | (refine Br.mk (fun _ => ?_) (fun _ => ?_) <;> try (exfalso; omega)) | (refine Sd.mk ?_ ?_; · ((repeat' apply And.intro) <;> first | omega | trivial | assumption | (simp; done) | (simp; omega))) | (refine Sx.mk ?_ ?_; · omega) | refine Fa.mk (fun _ => ?_) | refine Im.mk (fun _ => ?_) | apply Lw.go | refine g_cond ?_ | refine g_guard ?_ | refine g_keep ?_ | refine g_pass ?_ | refine g_fin ?_ | (apply g_ap; exact rfl; exact rfl; assumption)
    exact fin hR
theorem putS_yes {out : List Int} {x : Int} (h : out.length = 0 ∨ ∃ h : 0 < out.length, out[out.length - 1] ≠ x) : putS out x = out ++ [x] := by
  unfold putS
  rw [if_neg]
  rw [List.getLast?_eq_getElem?]
  rcases h with h | ⟨h0, h⟩
  · rw [List.getElem?_eq_none (by omega)]; simp
  · rw [List.getElem?_eq_getElem (by omega)]; simpa using h
theorem putS_no {out : List Int} {x : Int} (h0 : 0 < out.length) (h : out[out.length - 1] = x) : putS out x = out := by
  unfold putS
  rw [if_pos]
  rw [List.getLast?_eq_getElem?, List.getElem?_eq_getElem (by omega), h]
theorem r11_Rows_spec {p : Option Addr} {c : Nat} {rows : List (List Int)} (hf : rows.length ≤ 1000) (hc : cnt rows ≤ 1000000) : Spec prog1 n_r11_Rows [.slice p rows.length c] [rdl (kSl (kInt .i64)) p rows] (fun R => ∀ p' c', R (.slice p' (rowsL rows []).length c') [own (kInt .i64) p' c' (rowsL rows [])]) := by
  refine spec_code c_r11_Rows rfl ?_; intro n F R hR; unfold F_r11_Rows
  repeat' first | apply step | (apply g_op; · repeat first | exact Evs.nil | (apply Evs.cons; exact rfl)) | (refine Br.mk (fun _ => ?_) (fun _ => ?_) <;> try (exfalso; omega)) | (refine Sd.mk ?_ ?_; · ((repeat' apply And.intro) <;> first | omega | trivial | assumption | (simp; done) | (simp; omega))) | (refine Sx.mk ?_ ?_; · omega) | refine Fa.mk (fun _ => ?_) | refine Im.mk (fun _ => ?_) | apply Lw.go | refine g_cond ?_ | refine g_guard ?_ | refine g_keep ?_ | refine g_pass ?_ | refine g_fin ?_ | (apply g_ap; exact rfl; exact rfl; assumption)
  rename_i _ lp0 lc0
  first | refine at_callS (r11_take_spec (l := rows) (by omega)) ?_ | refine at_callR (r11_take_spec (l := rows) (by omega)) ?_
  repeat' first | apply step | (apply g_op; · repeat first | exact Evs.nil | (apply Evs.cons; exact rfl)) | (refine Br.mk (fun _ => ?_) (fun _ => ?_) <;> try (exfalso; omega)) | (refine Sd.mk ?_ ?_; · ((repeat' apply And.intro) <;> first | omega | trivial | assumption | (simp; done) | (simp; omega))) | (refine Sx.mk ?_ ?_; · omega) | refine Fa.mk (fun _ => ?_) | refine Im.mk (fun _ => ?_) | apply Lw.go | refine g_cond ?_ | refine g_guard ?_ | refine g_keep ?_ | refine g_pass ?_ | refine g_fin ?_ | (apply g_ap; exact rfl; exact rfl; assumption)
  obtain ⟨LI, hLI⟩ : ∃ LI : (List (List Int) × Option Addr × Nat) × (List Int × Option Addr × Nat) → Prop, ∀ w, LI w ↔ (w.1.1.length = rows.length ∧ w.2.1.length + cnt w.1.1 ≤ cnt rows ∧ rowsL w.1.1 w.2.1 = rowsL rows []) := ⟨_, fun _ => Iff.rfl⟩
  refine at_loopS (ι := (List (List Int) × Option Addr × Nat) × (List Int × Option Addr × Nat)) (E := fun w => [(3, .slice w.1.2.1 w.1.1.length w.1.2.2), (4, .slice w.2.2.1 w.2.1.length w.2.2.2), (5, .int .i64 (bI (bestN (hd w.1.1) w.1.1.length)))]) (Δ := fun w => own (kSl (kInt .i64)) w.1.2.1 w.1.2.2 w.1.1 :: own (kInt .i64) w.2.2.1 w.2.2.2 w.2.1 :: F) (P := LI) (μ := fun w => cnt w.1.1) ((rows, lp0, lc0), ([], none, 0)) ((hLI _).2 ⟨rfl, by simp, rfl⟩) ?_
  rintro ⟨⟨l, lp, lc⟩, out, op, oc⟩ hL
  obtain ⟨hl, ho, hrs⟩ := (hLI _).1 hL
  dsimp only at hl ho hrs ⊢
  cases hbn : bestN (hd l) l.length with
  | none =>
    rw [bI_none]
    rw [← hrs, rows_end hbn] at hR
    repeat' first | apply step | (apply g_op; · repeat first | exact Evs.nil | (apply Evs.cons; exact rfl)) | (refine Br.mk (fun _ => ?_) (fun _ => ?_) <;> try (exfalso; omega)) | (refine Sd.mk ?_ ?_; · ((repeat' apply And.intro) <;> first | omega | trivial | assumption | (simp; done) | (simp; omega))) | (refine Sx.mk ?_ ?_; · omega) | refine Fa.mk (fun _ => ?_) | refine Im.mk (fun _ => ?_) | apply Lw.go | refine g_cond ?_ | refine g_guard ?_ | refine g_keep ?_ | refine g_pass ?_ | refine g_fin ?_ | (apply g_ap; exact rfl; exact rfl; assumption)
    exact fin (hR op oc)
  | some q =>
    obtain ⟨hq, y, hy, _⟩ := (best_spec (hd l) l.length).2 q hbn
    obtain ⟨hql, hq0, rfl⟩ := hd_inv hy
    rw [bI_some]
    have hcons : l[q] = l[q][0] :: l[q].drop 1 := (List.getElem_cons_drop hq0).symm
    obtain ⟨r1, r2⟩ := rows_put (out := out) hbn hql hcons
    have hsl : (l.set q (l[q].drop 1)).length = l.length := List.length_set ..
    have hpl := put_len out l[q][0]
    have e : ((out.length : Int) - 1).toNat = out.length - 1 := by omega
    have hset : l.length = (l.set q (l[q].drop 1)).length := hsl.symm
    rcases Nat.eq_zero_or_pos out.length with h0 | h0
    · have ep := putS_yes (out := out) (x := l[q][0]) (.inl h0)
      repeat' first | apply step | (apply g_op; · repeat first | exact Evs.nil | (apply Evs.cons; exact rfl)) | (refine Br.mk (fun _ => ?_) (fun _ => ?_) <;> try (exfalso; omega)) | (refine Sd.mk ?_ ?_; · ((repeat' apply And.intro) <;> first | omega | trivial | assumption | (simp; done) | (simp; omega))) | (refine Sx.mk ?_ ?_; · omega) | refine Fa.mk (fun _ => ?_) | refine Im.mk (fun _ => ?_) | apply Lw.go | refine g_cond ?_ | refine g_guard ?_ | refine g_keep ?_ | refine g_pass ?_ | refine g_fin ?_ | (apply g_ap; exact rfl; exact rfl; assumption)
      all_goals first | (exfalso; omega) | skip
      rename_i op2 oc2 _ _ _
      rw [← ep]
      rw [hset]
      first | refine at_callS (r11_take_spec (l := l.set q (l[q].drop 1)) (by omega)) ?_ | refine at_callR (r11_take_spec (l := l.set q (l[q].drop 1)) (by omega)) ?_
      repeat' first | apply step | (apply g_op; · repeat first | exact Evs.nil | (apply Evs.cons; exact rfl)) | (refine Br.mk (fun _ => ?_) (fun _ => ?_) <;> try (exfalso; omega)) | (refine Sd.mk ?_ ?_; · ((repeat' apply And.intro) <;> first | omega | trivial | assumption | (simp; done) | (simp; omega))) | (refine Sx.mk ?_ ?_; · omega) | refine Fa.mk (fun _ => ?_) | refine Im.mk (fun _ => ?_) | apply Lw.go | refine g_cond ?_ | refine g_guard ?_ | refine g_keep ?_ | refine g_pass ?_ | refine g_fin ?_ | (apply g_ap; exact rfl; exact rfl; assumption)
      exact lp_next ((l.set q (l[q].drop 1), lp, lc), (putS out l[q][0], op2, oc2)) ((hLI _).2 ⟨by dsimp only; omega, by dsimp only; omega, by dsimp only; rw [← r1, hrs]⟩) (by dsimp only; omega)
    · repeat' first | apply step | (apply g_op; · repeat first | exact Evs.nil | (apply Evs.cons; exact rfl)) | (refine Br.mk (fun _ => ?_) (fun _ => ?_) <;> try (exfalso; omega)) | (refine Sd.mk ?_ ?_; · ((repeat' apply And.intro) <;> first | omega | trivial | assumption | (simp; done) | (simp; omega))) | (refine Sx.mk ?_ ?_; · omega) | refine Fa.mk (fun _ => ?_) | refine Im.mk (fun _ => ?_) | apply Lw.go | refine g_cond ?_ | refine g_guard ?_ | refine g_keep ?_ | refine g_pass ?_ | refine g_fin ?_ | (apply g_ap; exact rfl; exact rfl; assumption)
      all_goals first | (exfalso; omega) | skip
      all_goals simp only [e] at *
      · rename_i op2 oc2 _ _ _ _ _
        have hne : out[out.length - 1] ≠ l[q][0] := by assumption
        have ep := putS_yes (out := out) (x := l[q][0]) (.inr ⟨h0, hne⟩)
        rw [← ep]
        rw [hset]
        first | refine at_callS (r11_take_spec (l := l.set q (l[q].drop 1)) (by omega)) ?_ | refine at_callR (r11_take_spec (l := l.set q (l[q].drop 1)) (by omega)) ?_
        repeat' first | apply step | (apply g_op; · repeat first | exact Evs.nil | (apply Evs.cons; exact rfl)) | (refine Br.mk (fun _ => ?_) (fun _ => ?_) <;> try (exfalso; omega)) | (refine Sd.mk ?_ ?_; · ((repeat' apply And.intro) <;> first | omega | trivial | assumption | (simp; done) | (simp; omega))) | (refine Sx.mk ?_ ?_; · omega) | refine Fa.mk (fun _ => ?_) | refine Im.mk (fun _ => ?_) | apply Lw.go | refine g_cond ?_ | refine g_guard ?_ | refine g_keep ?_ | refine g_pass ?_ | refine g_fin ?_ | (apply g_ap; exact rfl; exact rfl; assumption)
        exact lp_next ((l.set q (l[q].drop 1), lp, lc), (putS out l[q][0], op2, oc2)) ((hLI _).2 ⟨by dsimp only; omega, by dsimp only; omega, by dsimp only; rw [← r1, hrs]⟩) (by dsimp only; omega)
      · have hne : ¬ out[out.length - 1] ≠ l[q][0] := by assumption
        have ep := putS_no (out := out) (x := l[q][0]) h0 (by simpa using hne)
        rw [hset]
        first | refine at_callS (r11_take_spec (l := l.set q (l[q].drop 1)) (by omega)) ?_ | refine at_callR (r11_take_spec (l := l.set q (l[q].drop 1)) (by omega)) ?_
        repeat' first | apply step | (apply g_op; · repeat first | exact Evs.nil | (apply Evs.cons; exact rfl)) | (refine Br.mk (fun _ => ?_) (fun _ => ?_) <;> try (exfalso; omega)) | (refine Sd.mk ?_ ?_; · ((repeat' apply And.intro) <;> first | omega | trivial | assumption | (simp; done) | (simp; omega))) | (refine Sx.mk ?_ ?_; · omega) | refine Fa.mk (fun _ => ?_) | refine Im.mk (fun _ => ?_) | apply Lw.go | refine g_cond ?_ | refine g_guard ?_ | refine g_keep ?_ | refine g_pass ?_ | refine g_fin ?_ | (apply g_ap; exact rfl; exact rfl; assumption)
        rw [ep] at r1
        exact lp_next ((l.set q (l[q].drop 1), lp, lc), (out, op, oc)) ((hLI _).2 ⟨by dsimp only; omega, by dsimp only; omega, by dsimp only; rw [← r1, hrs]⟩) (by dsimp only; omega)
end
end Go.AMS

namespace Go.AMS
open Go.AM hiding Kt At WP WL Runs RunsY
open Go.AM.G
set_option linter.unusedVariables false
set_option linter.unusedSimpArgs false
set_option linter.unusedSectionVars false
set_option maxRecDepth 100000
set_option maxHeartbeats 1000000
attribute [local irreducible] AtS AtV AtC AtG FinA Spec Post LP G.At G.WP G.WL pt own fro rdl ro hx mp lrec elt sub

open Go.AM.G.Set
section
theorem l11_works_spec : Spec prog1 n_l11_works [] [] (fun R => R (.bool true) []) := closed_spec c_l11_works
theorem M0_res (rows : List (List Int)) : (M0 rows).res = rowsL rows [] := by
  unfold Ms.res M0; dsimp only
  rw [List.map_map]
  have : (Ce.rest ∘ Ce.new) = id := by funext r; simp [Ce.rest, Ce.new]
  rw [this, List.map_id]
theorem M0_rows (rows : List (List Int)) : (M0 rows).c.map Ce.row = rows := by
  unfold M0; dsimp only
  rw [List.map_map]
  have : (Ce.row ∘ Ce.new) = id := rfl
  rw [this, List.map_id]
theorem rows_len {m : Nat} {M : Ms} {rows : List (List Int)} (h : M.c.map Ce.row = rows) : M.c.length = rows.length := by rw [← h]; simp
theorem done_sent {m : Nat} {M : Ms} {rows : List (List Int)} (ok : M.ok m) (hx : M.exited = true) (h : M.c.map Ce.row = rows) : (M.mg m).sentN (M.mg m).l.length = cnt rows := by
  unfold Mg.sentN
  rw [List.take_length, ← h]
  unfold cnt Ms.mg; dsimp only
  rw [List.map_map, List.map_map]
  congr 1
  refine List.map_congr_left fun c hc => ?_
  have h1 := ok.x hx c hc
  have h2 := (ok.c c hc).s
  unfold Ce.w at h1
  show c.sent = c.row.length
  omega
theorem done_ex {m : Nat} {M : Ms} {rows : List (List Int)} (ok : M.ok m) (hx : M.exited = true) (h : M.c.map Ce.row = rows) : (M.mg m).exN (M.mg m).l.length = rows.length := by
  unfold Mg.exN
  rw [List.take_length, List.filter_eq_self.2, mg_len, rows_len (m := m) h]
  intro s hs
  obtain ⟨c, hc, rfl⟩ := List.mem_map.1 hs
  have h1 := ok.x hx c hc
  unfold Ce.w at h1
  show c.exited = true
  cases he : c.exited with
  | true => rfl
  | false => rw [he] at h1; simp at h1
theorem rowsL_len (rows : List (List Int)) : ∀ (f : Nat) (l : List (List Int)) (out : List Int), (mrow f l out).length ≤ out.length + f
  | 0, l, out => by simp [mrow]
  | f + 1, l, out => by
    rw [mrow]
    split
    · omega
    · rename_i k _
      have := rowsL_len rows f (l.set k (l.getD k []).tail) (putS out ((hd l k).getD 0))
      have := put_len out ((hd l k).getD 0)
      omega
theorem l11_MergeCancel_spec {p q : Option Addr} {c cq : Nat} {rows : List (List Int)} {l : List Int} {ca w : Int} (hca : 0 ≤ ca ∧ ca ≤ 65535) (hw : 0 ≤ w ∧ w ≤ 255) : Spec prog1 n_l11_MergeCancel [.slice p rows.length c, .slice q l.length cq, .int .u16 ca, .int .u8 w] [fro (kSl (kInt .i64)) p c rows, fro (kInt .i64) q cq l] (fun R => R (.bool true) []) := by
  refine spec_code c_l11_MergeCancel rfl ?_; intro n F R hR; unfold F_l11_MergeCancel
  repeat' first | apply step | (apply g_op; · repeat first | exact Evs.nil | (apply Evs.cons; exact rfl)) | (refine Br.mk (fun _ => ?_) (fun _ => ?_) <;> try (exfalso; omega)) | (refine Sd.mk ?_ ?_; · ((repeat' apply And.intro) <;> first | omega | trivial | assumption | (simp; done) | (simp; omega))) | (refine Sx.mk ?_ ?_; · omega) | refine Fa.mk (fun _ => ?_) | refine Im.mk (fun _ => ?_) | apply Lw.go | refine g_cond ?_ | refine g_guard ?_ | refine g_keep ?_ | refine g_pass ?_ | refine g_fin ?_ | (apply g_ap; exact rfl; exact rfl; assumption)
  first | refine at_callS (r11_Few_spec (rows := rows)) ?_ | refine at_callR (r11_Few_spec (rows := rows)) ?_
  refine ⟨fun hf hr => ?_, ?_⟩
  rotate_left
  · repeat' first | apply step | (apply g_op; · repeat first | exact Evs.nil | (apply Evs.cons; exact rfl)) | (refine Br.mk (fun _ => ?_) (fun _ => ?_) <;> try (exfalso; omega)) | (refine Sd.mk ?_ ?_; · ((repeat' apply And.intro) <;> first | omega | trivial | assumption | (simp; done) | (simp; omega))) | (refine Sx.mk ?_ ?_; · omega) | refine Fa.mk (fun _ => ?_) | refine Im.mk (fun _ => ?_) | apply Lw.go | refine g_cond ?_ | refine g_guard ?_ | refine g_keep ?_ | refine g_pass ?_ | refine g_fin ?_ | (apply g_ap; exact rfl; exact rfl; assumption)
    first | refine at_callS (l11_works_spec) ?_ | refine at_callR (l11_works_spec) ?_
    repeat' first | apply step | (apply g_op; · repeat first | exact Evs.nil | (apply Evs.cons; exact rfl)) | (refine Br.mk (fun _ => ?_) (fun _ => ?_) <;> try (exfalso; omega)) | (refine Sd.mk ?_ ?_; · ((repeat' apply And.intro) <;> first | omega | trivial | assumption | (simp; done) | (simp; omega))) | (refine Sx.mk ?_ ?_; · omega) | refine Fa.mk (fun _ => ?_) | refine Im.mk (fun _ => ?_) | apply Lw.go | refine g_cond ?_ | refine g_guard ?_ | refine g_keep ?_ | refine g_pass ?_ | refine g_fin ?_ | (apply g_ap; exact rfl; exact rfl; assumption)
    exact fin hR
  have hc := cnt_le hr
  have hmu := M0_mu rows
  have hm1 : w.tmod 64 = w % 64 := Int.tmod_eq_emod_of_nonneg hw.1
  have hm2 : 0 ≤ w.tmod 64 ∧ w.tmod 64 < 64 := by omega
  repeat' first | apply step | (apply g_op; · repeat first | exact Evs.nil | (apply Evs.cons; exact rfl)) | (refine Br.mk (fun _ => ?_) (fun _ => ?_) <;> try (exfalso; omega)) | (refine Sd.mk ?_ ?_; · ((repeat' apply And.intro) <;> first | omega | trivial | assumption | (simp; done) | (simp; omega))) | (refine Sx.mk ?_ ?_; · omega) | refine Fa.mk (fun _ => ?_) | refine Im.mk (fun _ => ?_) | apply Lw.go | refine g_cond ?_ | refine g_guard ?_ | refine g_keep ?_ | refine g_pass ?_ | refine g_fin ?_ | (apply g_ap; exact rfl; exact rfl; assumption)
  · first | refine at_callS (l11_works_spec) ?_ | refine at_callR (l11_works_spec) ?_
    repeat' first | apply step | (apply g_op; · repeat first | exact Evs.nil | (apply Evs.cons; exact rfl)) | (refine Br.mk (fun _ => ?_) (fun _ => ?_) <;> try (exfalso; omega)) | (refine Sd.mk ?_ ?_; · ((repeat' apply And.intro) <;> first | omega | trivial | assumption | (simp; done) | (simp; omega))) | (refine Sx.mk ?_ ?_; · omega) | refine Fa.mk (fun _ => ?_) | refine Im.mk (fun _ => ?_) | apply Lw.go | refine g_cond ?_ | refine g_guard ?_ | refine g_keep ?_ | refine g_pass ?_ | refine g_fin ?_ | (apply g_ap; exact rfl; exact rfl; assumption)
    exact fin hR
  first | refine at_callS (picks_New_spec (l := l) (k := ca) (by omega) (by omega)) ?_ | refine at_callR (picks_New_spec (l := l) (k := ca) (by omega) (by omega)) ?_
  intro sb
  repeat' first | apply step | (apply g_op; · repeat first | exact Evs.nil | (apply Evs.cons; exact rfl)) | (refine Br.mk (fun _ => ?_) (fun _ => ?_) <;> try (exfalso; omega)) | (refine Sd.mk ?_ ?_; · ((repeat' apply And.intro) <;> first | omega | trivial | assumption | (simp; done) | (simp; omega))) | (refine Sx.mk ?_ ?_; · omega) | refine Fa.mk (fun _ => ?_) | refine Im.mk (fun _ => ?_) | apply Lw.go | refine g_cond ?_ | refine g_guard ?_ | refine g_keep ?_ | refine g_pass ?_ | refine g_fin ?_ | (apply g_ap; exact rfl; exact rfl; assumption)
  first | refine at_callS (merge_Run_int_spec (sb := sb) (s := ⟨l, ca, 0, 0⟩) (w := 1 + w.tmod 64) hf hr rfl (by simp)) ?_ | refine at_callR (merge_Run_int_spec (sb := sb) (s := ⟨l, ca, 0, 0⟩) (w := 1 + w.tmod 64) hf hr rfl (by simp)) ?_
  refine ⟨fun h => by exfalso; omega, fun m hm h1 h2 M' s' e p' c' hrun => ?_⟩
  have ok0 := M0_ok h1 h2 hf hr
  have hrl : (rowsL rows []).length ≤ 1000000000000 := by
    have := rowsL_len rows (cnt rows) rows []
    unfold rowsL; simp at this; omega
  rcases Int.lt_or_le ca (M0 rows).mu with hcut | hall
  · obtain ⟨g1, g2, g3, g4, g6⟩ := runM_cut (m := (M0 rows).mu) (M := M0 rows) (s := ⟨l, ca, 0, 0⟩) rfl ok0 (by dsimp only; omega) (by dsimp only; omega)
    rw [hrun] at g1 g2 g3 g4 g6
    dsimp only at g1 g2 g3 g4 g6
    subst g1
    rw [M0_rows] at g6
    have hex := exN_le (M'.mg m) (M'.mg m).l.length
    rw [mg_len, rows_len (m := m) g6] at hex
    have hsx := sentN_le g4 (M'.mg m).l.length
    rw [if_neg (by decide), g3, mg_len, rows_len (m := m) g6, show ((M'.mg m).exN rows.length + bif false then 1 else 0) = (M'.mg m).exN rows.length from rfl]
    repeat' first | apply step | (apply g_op; · repeat first | exact Evs.nil | (apply Evs.cons; exact rfl)) | (refine Br.mk (fun _ => ?_) (fun _ => ?_) <;> try (exfalso; omega)) | (refine Sd.mk ?_ ?_; · ((repeat' apply And.intro) <;> first | omega | trivial | assumption | (simp; done) | (simp; omega))) | (refine Sx.mk ?_ ?_; · omega) | refine Fa.mk (fun _ => ?_) | refine Im.mk (fun _ => ?_) | apply Lw.go | refine g_cond ?_ | refine g_guard ?_ | refine g_keep ?_ | refine g_pass ?_ | refine g_fin ?_ | (apply g_ap; exact rfl; exact rfl; assumption)
    first | refine at_callS (r11_Count_spec (rows := rows) (by omega) (by omega)) ?_ | refine at_callR (r11_Count_spec (rows := rows) (by omega) (by omega)) ?_
    repeat' first | apply step | (apply g_op; · repeat first | exact Evs.nil | (apply Evs.cons; exact rfl)) | (refine Br.mk (fun _ => ?_) (fun _ => ?_) <;> try (exfalso; omega)) | (refine Sd.mk ?_ ?_; · ((repeat' apply And.intro) <;> first | omega | trivial | assumption | (simp; done) | (simp; omega))) | (refine Sx.mk ?_ ?_; · omega) | refine Fa.mk (fun _ => ?_) | refine Im.mk (fun _ => ?_) | apply Lw.go | refine g_cond ?_ | refine g_guard ?_ | refine g_keep ?_ | refine g_pass ?_ | refine g_fin ?_ | (apply g_ap; exact rfl; exact rfl; assumption)
    first | refine at_callS (picks_Script_Steps_spec (b := sb) (s := s')) ?_ | refine at_callR (picks_Script_Steps_spec (b := sb) (s := s')) ?_
    repeat' first | apply step | (apply g_op; · repeat first | exact Evs.nil | (apply Evs.cons; exact rfl)) | (refine Br.mk (fun _ => ?_) (fun _ => ?_) <;> try (exfalso; omega)) | (refine Sd.mk ?_ ?_; · ((repeat' apply And.intro) <;> first | omega | trivial | assumption | (simp; done) | (simp; omega))) | (refine Sx.mk ?_ ?_; · omega) | refine Fa.mk (fun _ => ?_) | refine Im.mk (fun _ => ?_) | apply Lw.go | refine g_cond ?_ | refine g_guard ?_ | refine g_keep ?_ | refine g_pass ?_ | refine g_fin ?_ | (apply g_ap; exact rfl; exact rfl; assumption)
    first | refine at_callS (l11_works_spec) ?_ | refine at_callR (l11_works_spec) ?_
    repeat' first | apply step | (apply g_op; · repeat first | exact Evs.nil | (apply Evs.cons; exact rfl)) | (refine Br.mk (fun _ => ?_) (fun _ => ?_) <;> try (exfalso; omega)) | (refine Sd.mk ?_ ?_; · ((repeat' apply And.intro) <;> first | omega | trivial | assumption | (simp; done) | (simp; omega))) | (refine Sx.mk ?_ ?_; · omega) | refine Fa.mk (fun _ => ?_) | refine Im.mk (fun _ => ?_) | apply Lw.go | refine g_cond ?_ | refine g_guard ?_ | refine g_keep ?_ | refine g_pass ?_ | refine g_fin ?_ | (apply g_ap; exact rfl; exact rfl; assumption)
    exact fin hR
    exfalso; rename_i h; exact h rfl
  · obtain ⟨g1, g2, g3, g4, g5, g6⟩ := runM_all (m := (M0 rows).mu) (M := M0 rows) (s := ⟨l, ca, 0, 0⟩) rfl ok0 (.inr (by dsimp only; omega))
    rw [hrun] at g1 g2 g3 g4 g5 g6
    dsimp only at g1 g2 g3 g4 g5 g6
    subst g1
    rw [M0_rows] at g6
    rw [M0_res] at g5
    rw [if_pos rfl, g5, done_sent g4 g3 g6, done_ex g4 g3 g6, g3, show (rows.length + bif true then 1 else 0) = rows.length + 1 from rfl]
    repeat' first | apply step | (apply g_op; · repeat first | exact Evs.nil | (apply Evs.cons; exact rfl)) | (refine Br.mk (fun _ => ?_) (fun _ => ?_) <;> try (exfalso; omega)) | (refine Sd.mk ?_ ?_; · ((repeat' apply And.intro) <;> first | omega | trivial | assumption | (simp; done) | (simp; omega))) | (refine Sx.mk ?_ ?_; · omega) | refine Fa.mk (fun _ => ?_) | refine Im.mk (fun _ => ?_) | apply Lw.go | refine g_cond ?_ | refine g_guard ?_ | refine g_keep ?_ | refine g_pass ?_ | refine g_fin ?_ | (apply g_ap; exact rfl; exact rfl; assumption)
    first | refine at_callS (r11_Count_spec (rows := rows) (by omega) (by omega)) ?_ | refine at_callR (r11_Count_spec (rows := rows) (by omega) (by omega)) ?_
    repeat' first | apply step | (apply g_op; · repeat first | exact Evs.nil | (apply Evs.cons; exact rfl)) | (refine Br.mk (fun _ => ?_) (fun _ => ?_) <;> try (exfalso; omega)) | (refine Sd.mk ?_ ?_; · ((repeat' apply And.intro) <;> first | omega | trivial | assumption | (simp; done) | (simp; omega))) | (refine Sx.mk ?_ ?_; · omega) | refine Fa.mk (fun _ => ?_) | refine Im.mk (fun _ => ?_) | apply Lw.go | refine g_cond ?_ | refine g_guard ?_ | refine g_keep ?_ | refine g_pass ?_ | refine g_fin ?_ | (apply g_ap; exact rfl; exact rfl; assumption)
    first | refine at_callS (r11_Rows_spec (rows := rows) (by omega) (by omega)) ?_ | refine at_callR (r11_Rows_spec (rows := rows) (by omega) (by omega)) ?_
    intro p2 c2
    repeat' first | apply step | (apply g_op; · repeat first | exact Evs.nil | (apply Evs.cons; exact rfl)) | (refine Br.mk (fun _ => ?_) (fun _ => ?_) <;> try (exfalso; omega)) | (refine Sd.mk ?_ ?_; · ((repeat' apply And.intro) <;> first | omega | trivial | assumption | (simp; done) | (simp; omega))) | (refine Sx.mk ?_ ?_; · omega) | refine Fa.mk (fun _ => ?_) | refine Im.mk (fun _ => ?_) | apply Lw.go | refine g_cond ?_ | refine g_guard ?_ | refine g_keep ?_ | refine g_pass ?_ | refine g_fin ?_ | (apply g_ap; exact rfl; exact rfl; assumption)
    first | refine at_callS (r01_Same_spec (a := rowsL rows []) (b := rowsL rows []) hrl) ?_ | refine at_callR (r01_Same_spec (a := rowsL rows []) (b := rowsL rows []) hrl) ?_
    refine ⟨fun _ => ?_, fun h => absurd rfl h⟩
    repeat' first | apply step | (apply g_op; · repeat first | exact Evs.nil | (apply Evs.cons; exact rfl)) | (refine Br.mk (fun _ => ?_) (fun _ => ?_) <;> try (exfalso; omega)) | (refine Sd.mk ?_ ?_; · ((repeat' apply And.intro) <;> first | omega | trivial | assumption | (simp; done) | (simp; omega))) | (refine Sx.mk ?_ ?_; · omega) | refine Fa.mk (fun _ => ?_) | refine Im.mk (fun _ => ?_) | apply Lw.go | refine g_cond ?_ | refine g_guard ?_ | refine g_keep ?_ | refine g_pass ?_ | refine g_fin ?_ | (apply g_ap; exact rfl; exact rfl; assumption)
    first | refine at_callS (l11_works_spec) ?_ | refine at_callR (l11_works_spec) ?_
    repeat' first | apply step | (apply g_op; · repeat first | exact Evs.nil | (apply Evs.cons; exact rfl)) | (refine Br.mk (fun _ => ?_) (fun _ => ?_) <;> try (exfalso; omega)) | (refine Sd.mk ?_ ?_; · ((repeat' apply And.intro) <;> first | omega | trivial | assumption | (simp; done) | (simp; omega))) | (refine Sx.mk ?_ ?_; · omega) | refine Fa.mk (fun _ => ?_) | refine Im.mk (fun _ => ?_) | apply Lw.go | refine g_cond ?_ | refine g_guard ?_ | refine g_keep ?_ | refine g_pass ?_ | refine g_fin ?_ | (apply g_ap; exact rfl; exact rfl; assumption)
    exact fin hR
end
end Go.AMS

