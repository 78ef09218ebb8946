/- What the functions do, part 1. -/
import Derived.Test.YtjnipkbnmbnfpaaCode
import Derived.Test.YtjnipkbnmbnfpaaSetLaw
namespace Go.AMS
open Go.AM hiding Kt At WP WL Runs RunsY
open Go.AM.G
set_option linter.unusedVariables false
set_option linter.unusedSimpArgs false
theorem sortL_len (l : List Int) : (sortL l).length = l.length := by unfold sortL; simp
theorem slices_Sort_int_int_spec {p : Option Addr} {c : Nat} {l : List Int} (hl : l.length ≤ 1000000000) : Spec prog1 n_slices_Sort_int_int [.slice p l.length c] [own (kInt .i64) p c l] (fun R => R (.tuple #[]) [own (kInt .i64) p c (sortL l)]) := by
  intro n F h R hs hw H hH
  obtain ⟨⟨S, ⟨t1, t2, k1, k3, k4, k5⟩, k6⟩, hp, hn⟩ := id hs
  have hsl := sortL_len l
  by_cases h0 : l = []
  · subst h0
    have e : sortL [] = [] := by simp [sortL]
    rw [e] at hw
    exact ⟨1, .tuple #[], H, h, by simp only [callV, c_slices_Sort_int_int]; rfl, rfl, hH, .refl h, rfl, _, hw, hs⟩
  · rcases k1 with ⟨_, _, h1, _⟩ | ⟨b, cs, rfl, h2, h3, h4, rfl⟩
    · exact absurd h1 h0
    have hcs := cells_int_eq h4
    subst hcs
    have hn0 : ¬ l.length = 0 := by simpa using h0
    have hb : n ≤ b := k6 b ((k5 b).2 (.inl rfl))
    obtain ⟨own', e1, e2⟩ := hH.cells h3
    have e3 : H.get b = some (.cells (l.map (.int .i64)) (some 1)) := by
      rcases e2 with rfl | e2
      · exact e1
      · cases e2
    have hsp : splice (l.map (Value.int .i64)) 0 ((sortL l).map (.int .i64)) = (sortL l).map (.int .i64) := by
      unfold splice
      simp only [List.take_zero, List.nil_append, List.length_map, hsl, Nat.zero_add]
      rw [List.drop_eq_nil_of_le (by simp), List.append_nil]
    have hst : St h (h.set b (.cells ((sortL l).map (.int .i64)) (some 1))) := .set _ (by rw [hp]; exact hb) (fun x hx => by rw [h3] at hx; cases hx)
    refine ⟨1, .tuple #[], H.set b (.cells ((sortL l).map (.int .i64)) (some 1)), h.set b (.cells ((sortL l).map (.int .i64)) (some 1)), ?_, rfl, hH.set _ _, hst, rfl, _, hw, ⟨S, ⟨(· = b), t2, .inr ⟨b, _, rfl, h2, by rw [Heap.get_set, if_pos rfl]; rfl, cells_int fun x hx => ?_, rfl⟩, k3.loc hst (fun x hx => by rw [Heap.get_set, if_neg (fun e => k4 x e hx)]), k4, k5⟩, k6⟩, hp, hn⟩
    · simp only [callV, c_slices_Sort_int_int, sortO]
      rw [if_neg hn0]
      simp only [e3]
      rw [if_pos ⟨by have := hH.prot; omega, by simp, by omega⟩]
      rw [List.drop_zero, show l.length = (l.map (Value.int .i64)).length by simp, List.take_length, intsOf_map]
      simp only [hsp]
    · have hx' : x ∈ l := by unfold sortL at hx; rwa [List.mem_mergeSort] at hx
      obtain ⟨c, h⟩ := h4.mem x hx'
      exact h.2

end Go.AMS

namespace Go.AMS
open Go.AM hiding Kt At WP WL Runs RunsY
open Go.AM.G
set_option linter.unusedVariables false
set_option linter.unusedSimpArgs false
set_option linter.unusedSectionVars false
set_option maxRecDepth 100000
set_option maxHeartbeats 1000000
attribute [local irreducible] AtS AtV AtC AtG FinA Spec Post LP G.At G.WP G.WL pt own fro rdl ro hx mp lrec elt sub

open Go.AM.G.Set
section
theorem slices_Clone_int_int_spec {p : Option Addr} {c : Nat} {l : List Int} (hl : l.length ≤ 1000000000) : Spec prog1 n_slices_Clone_int_int [.slice p l.length c] [rdl (kInt .i64) p l] (fun R => ∀ p' c', R (.slice p' l.length c') [own (kInt .i64) p' c' l]) := by
  refine spec_code c_slices_Clone_int_int rfl ?_; intro n F R hR; unfold F_slices_Clone_int_int
  repeat' first | apply step | (apply g_op; · repeat first | exact Evs.nil | (apply Evs.cons; exact rfl)) | (refine Br.mk (fun _ => ?_) (fun _ => ?_) <;> try (exfalso; omega)) | (refine Sd.mk ?_ ?_; · ((repeat' apply And.intro) <;> first | omega | trivial | assumption | (simp; done) | (simp; omega))) | (refine Sx.mk ?_ ?_; · omega) | refine Fa.mk (fun _ => ?_) | refine Im.mk (fun _ => ?_) | apply Lw.go | refine g_cond ?_ | refine g_guard ?_ | refine g_keep ?_ | refine g_pass ?_ | refine g_fin ?_ | (apply g_ap; exact rfl; exact rfl; assumption)
  · subst_vars
    exact fin (hR none 0)
  · exact fin (hR _ _)

theorem take_set_snoc {l : List Int} {i : Nat} {a : Int} (h : i < l.length) : (l.set i a).take (i + 1) = l.take i ++ [a] := by
  rw [List.take_succ_eq_append_getElem (by simp; omega), List.take_set_of_le (Nat.le_refl _)]; simp
theorem slices_Compact_int_int_spec {p : Option Addr} {c : Nat} {l : List Int} (hl : l.length ≤ 1000000000) : Spec prog1 n_slices_Compact_int_int [.slice p l.length c] [own (kInt .i64) p c l] (fun R => ∀ c' (l' : List Int), l'.take (compactL l).length = compactL l → (compactL l).length ≤ l'.length → R (.slice p (compactL l).length c') [own (kInt .i64) p c l']) := by
  refine spec_code c_slices_Compact_int_int rfl ?_; intro n F R hR; unfold F_slices_Compact_int_int
  have same : compactL l = l → R (.slice p l.length c) [own (kInt .i64) p c l] := fun e => by
    have := hR c l (by rw [e, List.take_length]) (by rw [e]; exact Nat.le_refl _)
    rwa [e] at this
  repeat' first | apply step | (apply g_op; · repeat first | exact Evs.nil | (apply Evs.cons; exact rfl)) | (refine Br.mk (fun _ => ?_) (fun _ => ?_) <;> try (exfalso; omega)) | (refine Sd.mk ?_ ?_; · ((repeat' apply And.intro) <;> first | omega | trivial | assumption | (simp; done) | (simp; omega))) | (refine Sx.mk ?_ ?_; · omega) | refine Fa.mk (fun _ => ?_) | refine Im.mk (fun _ => ?_) | apply Lw.go | refine g_cond ?_ | refine g_guard ?_ | refine g_keep ?_ | refine g_pass ?_ | refine g_fin ?_ | (apply g_ap; exact rfl; exact rfl; assumption)
  · exact fin (same (compactL_short (by omega)))
  refine at_loopS (ι := Nat) (E := fun k => [(0, .slice p l.length c), (3, .int .i64 (k : Int))]) (Δ := fun _ => own (kInt .i64) p c l :: F) (P := fun k => 0 < k ∧ k ≤ l.length ∧ ∀ i, 0 < i → (hi : i < l.length) → i < k → l[i] ≠ l[i - 1]) (μ := fun k => l.length - k) 1 ⟨by omega, by omega, fun i h1 h2 h3 => by omega⟩ ?_
  rintro k ⟨hk0, hk, hI⟩
  repeat' first | apply step | (apply g_op; · repeat first | exact Evs.nil | (apply Evs.cons; exact rfl)) | (refine Br.mk (fun _ => ?_) (fun _ => ?_) <;> try (exfalso; omega)) | (refine Sd.mk ?_ ?_; · ((repeat' apply And.intro) <;> first | omega | trivial | assumption | (simp; done) | (simp; omega))) | (refine Sx.mk ?_ ?_; · omega) | refine Fa.mk (fun _ => ?_) | refine Im.mk (fun _ => ?_) | apply Lw.go | refine g_cond ?_ | refine g_guard ?_ | refine g_keep ?_ | refine g_pass ?_ | refine g_fin ?_ | (apply g_ap; exact rfl; exact rfl; assumption)
  · -- two alike
    rename_i hi1 _ hi2 _ hdup
    have hk1 : ((k : Int) - 1).toNat = k - 1 := by omega
    simp only [hk1] at hdup
    have hkl : k < l.length := by omega
    have hstart : compactL (l.take (k + 1)) = l.take k := by
      rw [compactL_take hk0 hkl, if_pos hdup]
      refine compactL_id fun i h1 h2 => ?_
      have h3 : i < k := by simp at h2; omega
      simp only [List.getElem_take]
      exact hI i h1 (by omega) h3
    refine at_loopS (ι := Nat × Nat × List Int) (E := fun w => [(0, .slice p l.length c), (3, .int .i64 (w.2.1 : Int)), (4, .slice (sub p k 1) (l.length - k) (l.length - k)), (5, .int .i64 (w.1 : Int))]) (Δ := fun w => own (kInt .i64) p c w.2.2 :: F)
      (P := fun w => w.2.2.length = l.length ∧ 1 ≤ w.1 ∧ w.1 ≤ l.length - k ∧ w.2.1 ≤ k + w.1 - 1 ∧ w.2.2.take w.2.1 = compactL (l.take (k + w.1)) ∧ w.2.2.drop (k + w.1 - 1) = l.drop (k + w.1 - 1)) (μ := fun w => l.length - w.1) (1, k, l) ⟨rfl, by omega, by omega, by simp, hstart.symm, rfl⟩ ?_
    rintro ⟨j, kk, l2⟩ ⟨hl2, hj1, hj2, hkk, htk, hdr⟩
    simp only at hl2 hj1 hj2 hkk htk hdr
    have hdl : (l2.drop k).length = l.length - k := by simp; omega
    have hsame : ∀ q, k + j - 1 ≤ q → (hq : q < l.length) → l2[q]'(by omega) = l[q] := by
      intro q h1 h3
      have := congrArg (fun z => z[q - (k + j - 1)]?) hdr
      simp only [List.getElem?_drop] at this
      rw [show k + j - 1 + (q - (k + j - 1)) = q by omega, List.getElem?_eq_getElem (by omega), List.getElem?_eq_getElem h3] at this
      exact Option.some.inj this
    have hct : ∀ hq : k + j < l.length, compactL (l.take (k + j + 1)) = if l[k + j] = l[k + j - 1] then compactL (l.take (k + j)) else compactL (l.take (k + j)) ++ [l[k + j]] := fun hq => compactL_take (by omega) hq
    have hj : ((j : Int) - 1).toNat = j - 1 := by omega
    dsimp only
    repeat' first | apply step | (apply g_op; · repeat first | exact Evs.nil | (apply Evs.cons; exact rfl)) | (refine Br.mk (fun _ => ?_) (fun _ => ?_) <;> try (exfalso; omega)) | (refine Sd.mk ?_ ?_; · ((repeat' apply And.intro) <;> first | omega | trivial | assumption | (simp; done) | (simp; omega))) | (refine Sx.mk ?_ ?_; · omega) | refine Fa.mk (fun _ => ?_) | refine Im.mk (fun _ => ?_) | apply Lw.go | refine g_cond ?_ | refine g_guard ?_ | refine g_keep ?_ | refine g_pass ?_ | refine g_fin ?_ | (apply g_ap; exact rfl; exact rfl; assumption)
    · have hjn : j < l.length - k := by omega
      have hq : k + j < l.length := by omega
      have e1 : (l2.drop k)[j]'(by omega) = l[k + j] := by rw [List.getElem_drop]; exact hsame _ (by omega) hq
      have e2 : (l2.drop k)[((j : Int) - 1).toNat]'(by omega) = l[k + j - 1] := by
        rw [List.getElem_drop]
        have := hsame (k + (j - 1)) (by omega) (by omega)
        simp only [hj]
        rw [this]; congr 1; omega
      have hcmp : ¬ l[k + j] = l[k + j - 1] := by rw [← e1, ← e2]; assumption
      have hkn : kk < l2.length := by omega
      rw [e1]
      refine lp_next (j + 1, kk + 1, l2.set kk l[k + j]) ⟨by simp [hl2], by dsimp only; omega, by dsimp only; omega, by dsimp only; omega, ?_, ?_⟩ (by dsimp only; omega)
      · show (l2.set kk l[k + j]).take (kk + 1) = compactL (l.take (k + (j + 1)))
        rw [show k + (j + 1) = k + j + 1 by omega, hct hq, if_neg hcmp, ← htk, take_set_snoc hkn]
      · show (l2.set kk l[k + j]).drop (k + (j + 1) - 1) = l.drop (k + (j + 1) - 1)
        rw [show k + (j + 1) - 1 = k + j by omega, List.drop_set_of_lt (by omega)]
        have := congrArg (List.drop 1) hdr
        rw [List.drop_drop, List.drop_drop, show k + j - 1 + 1 = k + j by omega] at this
        exact this
    · have hjn : j < l.length - k := by omega
      have hq : k + j < l.length := by omega
      have e1 : (l2.drop k)[j]'(by omega) = l[k + j] := by rw [List.getElem_drop]; exact hsame _ (by omega) hq
      have e2 : (l2.drop k)[((j : Int) - 1).toNat]'(by omega) = l[k + j - 1] := by
        rw [List.getElem_drop]
        have := hsame (k + (j - 1)) (by omega) (by omega)
        simp only [hj]
        rw [this]; congr 1; omega
      have hcmp : ¬ l[k + j] ≠ l[k + j - 1] := by rw [← e1, ← e2]; assumption
      refine lp_next (j + 1, kk, l2) ⟨hl2, by dsimp only; omega, by dsimp only; omega, by dsimp only; omega, ?_, ?_⟩ (by dsimp only; omega)
      · show l2.take kk = compactL (l.take (k + (j + 1)))
        rw [show k + (j + 1) = k + j + 1 by omega, hct hq, if_pos (by simpa using hcmp)]; exact htk
      · show l2.drop (k + (j + 1) - 1) = l.drop (k + (j + 1) - 1)
        have := congrArg (List.drop 1) hdr
        rw [List.drop_drop, List.drop_drop, show k + j - 1 + 1 = k + j by omega] at this
        rw [show k + (j + 1) - 1 = k + j by omega]; exact this
    · have hkl2 : compactL l = l2.take kk := by rw [htk, show k + j = l.length by omega, List.take_length]
      have hlen : (compactL l).length = kk := by rw [hkl2]; simp; omega
      have := hR kk (l2.take kk ++ List.replicate (l.length - kk) 0 ++ l2.drop (kk + (l.length - kk))) (by rw [hlen, hkl2, List.append_assoc, List.take_left' (by simp; omega)]) (by rw [hlen]; simp; omega)
      rw [hlen] at this
      exact fin this
  · refine lp_next (k + 1) ⟨by omega, by omega, fun i h1 h2 h3 => ?_⟩ (by omega)
    rename_i hdup
    have hk1 : ((k : Int) - 1).toNat = k - 1 := by omega
    simp only [hk1] at hdup
    by_cases e : i = k
    · subst e; exact hdup
    · exact hI i h1 h2 (by omega)
  · exact fin (same (compactL_id fun i h1 h2 => hI i h1 h2 (by omega)))
end
end Go.AMS

namespace Go.AMS
open Go.AM hiding Kt At WP WL Runs RunsY
open Go.AM.G
set_option linter.unusedVariables false
set_option linter.unusedSimpArgs false
set_option linter.unusedSectionVars false
set_option maxRecDepth 100000
set_option maxHeartbeats 1000000
attribute [local irreducible] AtS AtV AtC AtG FinA Spec Post LP G.At G.WP G.WL pt own fro rdl ro hx mp lrec elt sub

open Go.AM.G.Set
section
theorem sorted_Of_int_spec {p : Option Addr} {c : Nat} {l : List Int} (hl : l.length ≤ 1000000000) : Spec prog1 n_sorted_Of_int [.slice p l.length c] [rdl (kInt .i64) p l] (fun R => ∀ p' c', R (.agg #[.slice p' (setL l).length c']) [lst (kInt .i64) p' (setL l)]) := by
  refine spec_code c_sorted_Of_int rfl ?_; intro n F R hR; unfold F_sorted_Of_int
  repeat' first | apply step | (apply g_op; · repeat first | exact Evs.nil | (apply Evs.cons; exact rfl)) | (refine Br.mk (fun _ => ?_) (fun _ => ?_) <;> try (exfalso; omega)) | (refine Sd.mk ?_ ?_; · ((repeat' apply And.intro) <;> first | omega | trivial | assumption | (simp; done) | (simp; omega))) | (refine Sx.mk ?_ ?_; · omega) | refine Fa.mk (fun _ => ?_) | refine Im.mk (fun _ => ?_) | apply Lw.go | refine g_cond ?_ | refine g_guard ?_ | refine g_keep ?_ | refine g_pass ?_ | refine g_fin ?_ | (apply g_ap; exact rfl; exact rfl; assumption)
  first | refine at_callS (slices_Clone_int_int_spec hl) ?_ | refine at_callR (slices_Clone_int_int_spec hl) ?_
  intro p1 c1
  repeat' first | apply step | (apply g_op; · repeat first | exact Evs.nil | (apply Evs.cons; exact rfl)) | (refine Br.mk (fun _ => ?_) (fun _ => ?_) <;> try (exfalso; omega)) | (refine Sd.mk ?_ ?_; · ((repeat' apply And.intro) <;> first | omega | trivial | assumption | (simp; done) | (simp; omega))) | (refine Sx.mk ?_ ?_; · omega) | refine Fa.mk (fun _ => ?_) | refine Im.mk (fun _ => ?_) | apply Lw.go | refine g_cond ?_ | refine g_guard ?_ | refine g_keep ?_ | refine g_pass ?_ | refine g_fin ?_ | (apply g_ap; exact rfl; exact rfl; assumption)
  first | refine at_callS (slices_Sort_int_int_spec hl) ?_ | refine at_callR (slices_Sort_int_int_spec hl) ?_
  repeat' first | apply step | (apply g_op; · repeat first | exact Evs.nil | (apply Evs.cons; exact rfl)) | (refine Br.mk (fun _ => ?_) (fun _ => ?_) <;> try (exfalso; omega)) | (refine Sd.mk ?_ ?_; · ((repeat' apply And.intro) <;> first | omega | trivial | assumption | (simp; done) | (simp; omega))) | (refine Sx.mk ?_ ?_; · omega) | refine Fa.mk (fun _ => ?_) | refine Im.mk (fun _ => ?_) | apply Lw.go | refine g_cond ?_ | refine g_guard ?_ | refine g_keep ?_ | refine g_pass ?_ | refine g_fin ?_ | (apply g_ap; exact rfl; exact rfl; assumption)
  rw [← sortL_len l]
  first | refine at_callS (slices_Compact_int_int_spec (by rw [sortL_len]; exact hl)) ?_ | refine at_callR (slices_Compact_int_int_spec (by rw [sortL_len]; exact hl)) ?_
  intro c2 l2 h1 h2
  repeat' first | apply step | (apply g_op; · repeat first | exact Evs.nil | (apply Evs.cons; exact rfl)) | (refine Br.mk (fun _ => ?_) (fun _ => ?_) <;> try (exfalso; omega)) | (refine Sd.mk ?_ ?_; · ((repeat' apply And.intro) <;> first | omega | trivial | assumption | (simp; done) | (simp; omega))) | (refine Sx.mk ?_ ?_; · omega) | refine Fa.mk (fun _ => ?_) | refine Im.mk (fun _ => ?_) | apply Lw.go | refine g_cond ?_ | refine g_guard ?_ | refine g_keep ?_ | refine g_pass ?_ | refine g_fin ?_ | (apply g_ap; exact rfl; exact rfl; assumption)
  refine fin_via (own_lst (p := p1) (l := l2) _ h1) ?_
  exact fin (hR p1 c2)
/-- A script: picks, where all is cancelled, how many steps there were, how many picks were used. -/
structure Scr where
  l : List Int
  cancel : Int
  steps : Nat
  used : Nat
def Scr.off (s : Scr) : Prop := 0 ≤ s.cancel ∧ s.cancel ≤ s.steps
instance (s : Scr) : Decidable s.off := by unfold Scr.off; exact inferInstance
def Scr.took (s : Scr) : Scr := if s.used < s.l.length then { s with used := s.used + 1 } else s
structure Scr.ok (s : Scr) : Prop where
  hc : -9223372036854775808 ≤ s.cancel ∧ s.cancel ≤ 9223372036854775807
  hs : s.steps ≤ 1000000000000
  hu : s.used ≤ 1000000000000
  hl : s.l.length ≤ 1000000000
/-- A script in a heap. -/
def scr (m : Bool) (b : Nat) (s : Scr) : HP := hx fun (w : Option Addr × Nat) => (s.ok, [pt b [.bool m, .slice w.1 s.l.length w.2, .int .i64 s.cancel, .int .i64 s.steps, .int .i64 s.used] 0, own (kInt .i64) w.1 w.2 s.l])
instance low_scr {m : Bool} {b : Nat} {s : Scr} : Low (scr m b s) := low_hx fun _ => inferInstance
section
variable {b : Nat} {s : Scr} {m : Bool}
theorem picks_Script_is_nil : Spec prog1 n_picks_Script_is [.pointer none] [] (fun R => R (.bool false) []) := by
  refine spec_code c_picks_Script_is rfl ?_; intro n F R hR; unfold F_picks_Script_is
  repeat' first | apply step | (apply g_op; · repeat first | exact Evs.nil | (apply Evs.cons; exact rfl)) | (refine Br.mk (fun _ => ?_) (fun _ => ?_) <;> try (exfalso; omega)) | (refine Sd.mk ?_ ?_; · ((repeat' apply And.intro) <;> first | omega | trivial | assumption | (simp; done) | (simp; omega))) | (refine Sx.mk ?_ ?_; · omega) | refine Fa.mk (fun _ => ?_) | refine Im.mk (fun _ => ?_) | apply Lw.go | refine g_cond ?_ | refine g_guard ?_ | refine g_keep ?_ | refine g_pass ?_ | refine g_fin ?_ | (apply g_ap; exact rfl; exact rfl; assumption)
  exact fin hR
theorem picks_New_spec {p : Option Addr} {c : Nat} {l : List Int} {k : Int} (hl : l.length ≤ 1000000000) (hk : -9223372036854775808 ≤ k ∧ k ≤ 9223372036854775807) : Spec prog1 n_picks_New [.slice p l.length c, .int .i64 k] [rdl (kInt .i64) p l] (fun R => ∀ b, R (.pointer (some ⟨b, 0, none⟩)) [scr true b ⟨l, k, 0, 0⟩]) := by
  refine spec_code c_picks_New rfl ?_; intro n F R hR; unfold F_picks_New
  repeat' first | apply step | (apply g_op; · repeat first | exact Evs.nil | (apply Evs.cons; exact rfl)) | (refine Br.mk (fun _ => ?_) (fun _ => ?_) <;> try (exfalso; omega)) | (refine Sd.mk ?_ ?_; · ((repeat' apply And.intro) <;> first | omega | trivial | assumption | (simp; done) | (simp; omega))) | (refine Sx.mk ?_ ?_; · omega) | refine Fa.mk (fun _ => ?_) | refine Im.mk (fun _ => ?_) | apply Lw.go | refine g_cond ?_ | refine g_guard ?_ | refine g_keep ?_ | refine g_pass ?_ | refine g_fin ?_ | (apply g_ap; exact rfl; exact rfl; assumption)
  first | refine at_callS (slices_Clone_int_int_spec hl) ?_ | refine at_callR (slices_Clone_int_int_spec hl) ?_
  intro p1 c1
  repeat' first | apply step | (apply g_op; · repeat first | exact Evs.nil | (apply Evs.cons; exact rfl)) | (refine Br.mk (fun _ => ?_) (fun _ => ?_) <;> try (exfalso; omega)) | (refine Sd.mk ?_ ?_; · ((repeat' apply And.intro) <;> first | omega | trivial | assumption | (simp; done) | (simp; omega))) | (refine Sx.mk ?_ ?_; · omega) | refine Fa.mk (fun _ => ?_) | refine Im.mk (fun _ => ?_) | apply Lw.go | refine g_cond ?_ | refine g_guard ?_ | refine g_keep ?_ | refine g_pass ?_ | refine g_fin ?_ | (apply g_ap; exact rfl; exact rfl; assumption)
  rename_i b
  refine fin_foldP (scr true b ⟨l, k, 0, 0⟩) rfl (p1, c1) ⟨hk, by simp, by simp, hl⟩ ?_
  exact fin (hR b)
end
end
end Go.AMS

namespace Go.AMS
open Go.AM hiding Kt At WP WL Runs RunsY
open Go.AM.G Go.AM.G.Set
set_option linter.unusedVariables false
set_option linter.unusedSimpArgs false
/-- A worker: its row, and the job that it holds. -/
structure Wk where
  row : List Int
  job : Int
  holds : Bool
  deriving Inhabited
/-- What comes of a job. -/
def hv (x : Int) : List Int := if x < 2 then [] else [x / 2, x - x / 2]
/-- How many jobs come of a job, itself too. -/
def wt (x : Int) : Nat := if x < 2 then 1 else 2 * x.toNat - 1
def wts (l : List Int) : Nat := (l.map wt).sum
structure Po where
  ws : List Wk
  next : Nat
  did : List Int
  stolen : Nat
  who : List Int
def wait (ws : List Wk) : Nat := (ws.map fun w => w.row.length).sum
def rdy (ws : List Wk) (w : Wk) : Bool := w.holds || decide (0 < wait ws)
def readyL (ws : List Wk) : List Nat := (List.range ws.length).filter fun k => rdy ws (ws.getD k default)
def rowAt (ws : List Wk) (k : Nat) : List Int := (ws.getD k default).row
/-- The first other worker that has something. -/
def firstJ (ws : List Wk) (k : Nat) : Option Nat := (List.range' 1 (ws.length - 1)).find? fun j => !(rowAt ws ((k + j) % ws.length)).isEmpty
def Po.took (P : Po) (k : Nat) : Po :=
  let w := P.ws.getD k default
  if w.row ≠ [] then { P with ws := P.ws.set k ⟨w.row.dropLast, w.row.getLastD 0, true⟩ }
  else match firstJ P.ws k with
    | some j =>
      let f := (k + j) % P.ws.length
      let v := P.ws.getD f default
      { P with ws := (P.ws.set f ⟨v.row.tail, v.job, v.holds⟩).set k ⟨[], v.row.headD 0, true⟩, stolen := P.stolen + 1 }
    | none => { P with ws := P.ws.set k ⟨[], 0, false⟩ }
def Po.step (P : Po) (k : Nat) : Po :=
  let w := P.ws.getD k default
  let P := { P with who := P.who ++ [(k : Int)] }
  if w.holds then { P with ws := P.ws.set k ⟨w.row ++ hv w.job, 0, false⟩, did := P.did ++ [w.job] }
  else P.took k
/-- How many steps are still to come. -/
def mw (w : Wk) : Nat := 2 * wts w.row + bif w.holds then 2 * wt w.job - 1 else 0
def mm (ws : List Wk) : Nat := (ws.map mw).sum
structure Po.ok (P : Po) : Prop where
  n : 0 < P.ws.length ∧ P.ws.length ≤ 64
  x : P.next < P.ws.length
  w : P.who.length + mm P.ws ≤ 1000000
  d : P.did.length + mm P.ws ≤ 1000000
  s : P.stolen + mm P.ws ≤ 1000000
end Go.AMS

namespace Go.AMS
open Go.AM hiding Kt At WP WL Runs RunsY
open Go.AM.G
set_option linter.unusedVariables false
set_option linter.unusedSimpArgs false
set_option linter.unusedSectionVars false
set_option maxRecDepth 100000
set_option maxHeartbeats 1000000
attribute [local irreducible] AtS AtV AtC AtG FinA Spec Post LP G.At G.WP G.WL pt own fro rdl ro hx mp lrec elt sub

section
/-- A row in a ring. -/
structure Rg (ring : List Int) (top : Nat) (l : List Int) : Prop where
  le : l.length ≤ ring.length
  tp : top < ring.length ∨ ring.length = 0
  tt : top ≤ 1000000000
  rl : ring.length ≤ 1000000000
  ats : ∀ i (hi : i < l.length), ring[(top + i) % ring.length]? = some l[i]
section
variable {pre post : List Value} {b z m c top n : Nat} {p : Option Addr}
theorem deque_Deque_int_Len_spec : Spec prog1 n_deque_Deque_int_Len [.pointer (some ⟨b, pre.length, none⟩)] [ro (pt b (pre ++ (.slice p m c :: .int .i64 (top : Int) :: .int .i64 (n : Int) :: post)) z)] (fun R => R (.int .i64 (n : Int)) []) := by
  refine spec_code c_deque_Deque_int_Len rfl ?_; intro n F R hR; unfold F_deque_Deque_int_Len
  repeat' first | apply step | (apply g_op; · repeat first | exact Evs.nil | (apply Evs.cons; exact rfl)) | (refine Br.mk (fun _ => ?_) (fun _ => ?_) <;> try (exfalso; omega)) | (refine Sd.mk ?_ ?_; · ((repeat' apply And.intro) <;> first | omega | trivial | assumption | (simp; done) | (simp; omega))) | (refine Sx.mk ?_ ?_; · omega) | refine Fa.mk (fun _ => ?_) | refine Im.mk (fun _ => ?_) | apply Lw.go | refine g_cond ?_ | refine g_guard ?_ | refine g_keep ?_ | refine g_pass ?_ | refine g_fin ?_ | (apply g_ap; exact rfl; exact rfl; assumption)
  exact fin hR
theorem Rg.fresh {l : List Int} {k : Nat} (h1 : l.length ≤ k) (h2 : k ≤ 1000000000) : Rg (l ++ List.drop l.length (List.replicate k 0)) 0 l := by
  have e : (l ++ List.drop l.length (List.replicate k (0 : Int))).length = k := by simp; omega
  refine ⟨by omega, by omega, by omega, by omega, fun i hi => ?_⟩
  rw [e, Nat.zero_add, Nat.mod_eq_of_lt (by omega), List.getElem?_append_left hi, List.getElem?_eq_getElem hi]
end
end
end Go.AMS

namespace Go.AMS
open Go.AM hiding Kt At WP WL Runs RunsY
open Go.AM.G
set_option linter.unusedVariables false
set_option linter.unusedSimpArgs false
set_option linter.unusedSectionVars false
set_option maxRecDepth 100000
set_option maxHeartbeats 1000000
attribute [local irreducible] AtS AtV AtC AtG FinA Spec Post LP G.At G.WP G.WL pt own fro rdl ro hx mp lrec elt sub

section
structure Pi where
  room : Nat
  q : List Int
  closed : Bool
  sent : Nat
  recv : Nat
structure Pi.ok (P : Pi) : Prop where
  r : 0 < P.room ∧ P.room ≤ 64
  q : P.q.length ≤ 100000
  s : P.sent ≤ 100000
  v : P.recv ≤ 100000
/-- A pipe in a heap. -/
def pipe (b : Nat) (P : Pi) : HP := hx fun (x : Option Addr × Nat × List Int × Nat) => (Rg x.2.2.1 x.2.2.2 P.q ∧ P.ok, [pt b [.int .i64 (P.room : Int), .slice x.1 x.2.2.1.length x.2.1, .int .i64 (x.2.2.2 : Int), .int .i64 (P.q.length : Int), .bool P.closed, .int .i64 (P.sent : Int), .int .i64 (P.recv : Int)] 0, own (kInt .i64) x.1 x.2.1 x.2.2.1])
instance low_pipe {b : Nat} {P : Pi} : Low (pipe b P) := low_hx fun _ => inferInstance
variable {b : Nat} {P : Pi}
theorem pipe_Pipe_int_is_spec : Spec prog1 n_pipe_Pipe_int_is [.pointer (some ⟨b, 0, none⟩)] [ro (pipe b P)] (fun R => R (.bool true) []) := by
  refine spec_code c_pipe_Pipe_int_is rfl ?_; intro n F R hR; unfold F_pipe_Pipe_int_is
  refine at_openRP (pipe b P) rfl ?_
  rintro ⟨p, c, ring, top⟩ ⟨hr, ⟨⟨r1, r2⟩, oq, os, ov⟩⟩
  dsimp only at hr ⊢
  repeat' first | apply step | (apply g_op; · repeat first | exact Evs.nil | (apply Evs.cons; exact rfl)) | (refine Br.mk (fun _ => ?_) (fun _ => ?_) <;> try (exfalso; omega)) | (refine Sd.mk ?_ ?_; · ((repeat' apply And.intro) <;> first | omega | trivial | assumption | (simp; done) | (simp; omega))) | (refine Sx.mk ?_ ?_; · omega) | refine Fa.mk (fun _ => ?_) | refine Im.mk (fun _ => ?_) | apply Lw.go | refine g_cond ?_ | refine g_guard ?_ | refine g_keep ?_ | refine g_pass ?_ | refine g_fin ?_ | (apply g_ap; exact rfl; exact rfl; assumption)
  exact fin hR
theorem pipe_Pipe_int_Room_spec : Spec prog1 n_pipe_Pipe_int_Room [.pointer (some ⟨b, 0, none⟩)] [ro (pipe b P)] (fun R => R (.int .i64 (P.room : Int)) []) := by
  refine spec_code c_pipe_Pipe_int_Room rfl ?_; intro n F R hR; unfold F_pipe_Pipe_int_Room
  refine at_openRP (pipe b P) rfl ?_
  rintro ⟨p, c, ring, top⟩ ⟨hr, ⟨⟨r1, r2⟩, oq, os, ov⟩⟩
  dsimp only at hr ⊢
  repeat' first | apply step | (apply g_op; · repeat first | exact Evs.nil | (apply Evs.cons; exact rfl)) | (refine Br.mk (fun _ => ?_) (fun _ => ?_) <;> try (exfalso; omega)) | (refine Sd.mk ?_ ?_; · ((repeat' apply And.intro) <;> first | omega | trivial | assumption | (simp; done) | (simp; omega))) | (refine Sx.mk ?_ ?_; · omega) | refine Fa.mk (fun _ => ?_) | refine Im.mk (fun _ => ?_) | apply Lw.go | refine g_cond ?_ | refine g_guard ?_ | refine g_keep ?_ | refine g_pass ?_ | refine g_fin ?_ | (apply g_ap; exact rfl; exact rfl; assumption)
  first | refine at_callS (pipe_Pipe_int_is_spec (P := P)) ?_ | refine at_callR (pipe_Pipe_int_is_spec (P := P)) ?_
  repeat' first | apply step | (apply g_op; · repeat first | exact Evs.nil | (apply Evs.cons; exact rfl)) | (refine Br.mk (fun _ => ?_) (fun _ => ?_) <;> try (exfalso; omega)) | (refine Sd.mk ?_ ?_; · ((repeat' apply And.intro) <;> first | omega | trivial | assumption | (simp; done) | (simp; omega))) | (refine Sx.mk ?_ ?_; · omega) | refine Fa.mk (fun _ => ?_) | refine Im.mk (fun _ => ?_) | apply Lw.go | refine g_cond ?_ | refine g_guard ?_ | refine g_keep ?_ | refine g_pass ?_ | refine g_fin ?_ | (apply g_ap; exact rfl; exact rfl; assumption)
  exact fin hR
theorem pipe_Pipe_int_Closed_spec : Spec prog1 n_pipe_Pipe_int_Closed [.pointer (some ⟨b, 0, none⟩)] [ro (pipe b P)] (fun R => R (.bool P.closed) []) := by
  refine spec_code c_pipe_Pipe_int_Closed rfl ?_; intro n F R hR; unfold F_pipe_Pipe_int_Closed
  refine at_openRP (pipe b P) rfl ?_
  rintro ⟨p, c, ring, top⟩ ⟨hr, ⟨⟨r1, r2⟩, oq, os, ov⟩⟩
  dsimp only at hr ⊢
  repeat' first | apply step | (apply g_op; · repeat first | exact Evs.nil | (apply Evs.cons; exact rfl)) | (refine Br.mk (fun _ => ?_) (fun _ => ?_) <;> try (exfalso; omega)) | (refine Sd.mk ?_ ?_; · ((repeat' apply And.intro) <;> first | omega | trivial | assumption | (simp; done) | (simp; omega))) | (refine Sx.mk ?_ ?_; · omega) | refine Fa.mk (fun _ => ?_) | refine Im.mk (fun _ => ?_) | apply Lw.go | refine g_cond ?_ | refine g_guard ?_ | refine g_keep ?_ | refine g_pass ?_ | refine g_fin ?_ | (apply g_ap; exact rfl; exact rfl; assumption)
  first | refine at_callS (pipe_Pipe_int_is_spec (P := P)) ?_ | refine at_callR (pipe_Pipe_int_is_spec (P := P)) ?_
  repeat' first | apply step | (apply g_op; · repeat first | exact Evs.nil | (apply Evs.cons; exact rfl)) | (refine Br.mk (fun _ => ?_) (fun _ => ?_) <;> try (exfalso; omega)) | (refine Sd.mk ?_ ?_; · ((repeat' apply And.intro) <;> first | omega | trivial | assumption | (simp; done) | (simp; omega))) | (refine Sx.mk ?_ ?_; · omega) | refine Fa.mk (fun _ => ?_) | refine Im.mk (fun _ => ?_) | apply Lw.go | refine g_cond ?_ | refine g_guard ?_ | refine g_keep ?_ | refine g_pass ?_ | refine g_fin ?_ | (apply g_ap; exact rfl; exact rfl; assumption)
  exact fin hR
theorem pipe_Pipe_int_Len_spec : Spec prog1 n_pipe_Pipe_int_Len [.pointer (some ⟨b, 0, none⟩)] [ro (pipe b P)] (fun R => R (.int .i64 (P.q.length : Int)) []) := by
  refine spec_code c_pipe_Pipe_int_Len rfl ?_; intro n F R hR; unfold F_pipe_Pipe_int_Len
  refine at_openRP (pipe b P) rfl ?_
  rintro ⟨p, c, ring, top⟩ ⟨hr, ⟨⟨r1, r2⟩, oq, os, ov⟩⟩
  dsimp only at hr ⊢
  repeat' first | apply step | (apply g_op; · repeat first | exact Evs.nil | (apply Evs.cons; exact rfl)) | (refine Br.mk (fun _ => ?_) (fun _ => ?_) <;> try (exfalso; omega)) | (refine Sd.mk ?_ ?_; · ((repeat' apply And.intro) <;> first | omega | trivial | assumption | (simp; done) | (simp; omega))) | (refine Sx.mk ?_ ?_; · omega) | refine Fa.mk (fun _ => ?_) | refine Im.mk (fun _ => ?_) | apply Lw.go | refine g_cond ?_ | refine g_guard ?_ | refine g_keep ?_ | refine g_pass ?_ | refine g_fin ?_ | (apply g_ap; exact rfl; exact rfl; assumption)
  first | refine at_callS (pipe_Pipe_int_is_spec (P := P)) ?_ | refine at_callR (pipe_Pipe_int_is_spec (P := P)) ?_
  repeat' first | apply step | (apply g_op; · repeat first | exact Evs.nil | (apply Evs.cons; exact rfl)) | (refine Br.mk (fun _ => ?_) (fun _ => ?_) <;> try (exfalso; omega)) | (refine Sd.mk ?_ ?_; · ((repeat' apply And.intro) <;> first | omega | trivial | assumption | (simp; done) | (simp; omega))) | (refine Sx.mk ?_ ?_; · omega) | refine Fa.mk (fun _ => ?_) | refine Im.mk (fun _ => ?_) | apply Lw.go | refine g_cond ?_ | refine g_guard ?_ | refine g_keep ?_ | refine g_pass ?_ | refine g_fin ?_ | (apply g_ap; exact rfl; exact rfl; assumption)
  first | refine at_callS (deque_Deque_int_Len_spec (pre := [.int .i64 (P.room : Int)])) ?_ | refine at_callR (deque_Deque_int_Len_spec (pre := [.int .i64 (P.room : Int)])) ?_
  repeat' first | apply step | (apply g_op; · repeat first | exact Evs.nil | (apply Evs.cons; exact rfl)) | (refine Br.mk (fun _ => ?_) (fun _ => ?_) <;> try (exfalso; omega)) | (refine Sd.mk ?_ ?_; · ((repeat' apply And.intro) <;> first | omega | trivial | assumption | (simp; done) | (simp; omega))) | (refine Sx.mk ?_ ?_; · omega) | refine Fa.mk (fun _ => ?_) | refine Im.mk (fun _ => ?_) | apply Lw.go | refine g_cond ?_ | refine g_guard ?_ | refine g_keep ?_ | refine g_pass ?_ | refine g_fin ?_ | (apply g_ap; exact rfl; exact rfl; assumption)
  exact fin hR
theorem pipe_Pipe_int_Done_spec : Spec prog1 n_pipe_Pipe_int_Done [.pointer (some ⟨b, 0, none⟩)] [ro (pipe b P)] (fun R => R (.bool (P.closed && decide (P.q.length = 0))) []) := by
  refine spec_code c_pipe_Pipe_int_Done rfl ?_; intro n F R hR; unfold F_pipe_Pipe_int_Done
  refine at_openRP (pipe b P) rfl ?_
  rintro ⟨p, c, ring, top⟩ ⟨hr, ⟨⟨r1, r2⟩, oq, os, ov⟩⟩
  dsimp only at hr ⊢
  repeat' first | apply step | (apply g_op; · repeat first | exact Evs.nil | (apply Evs.cons; exact rfl)) | (refine Br.mk (fun _ => ?_) (fun _ => ?_) <;> try (exfalso; omega)) | (refine Sd.mk ?_ ?_; · ((repeat' apply And.intro) <;> first | omega | trivial | assumption | (simp; done) | (simp; omega))) | (refine Sx.mk ?_ ?_; · omega) | refine Fa.mk (fun _ => ?_) | refine Im.mk (fun _ => ?_) | apply Lw.go | refine g_cond ?_ | refine g_guard ?_ | refine g_keep ?_ | refine g_pass ?_ | refine g_fin ?_ | (apply g_ap; exact rfl; exact rfl; assumption)
  first | refine at_callS (pipe_Pipe_int_Closed_spec (P := P)) ?_ | refine at_callR (pipe_Pipe_int_Closed_spec (P := P)) ?_
  cases hc : P.closed
  · rw [hc] at hR
    repeat' first | apply step | (apply g_op; · repeat first | exact Evs.nil | (apply Evs.cons; exact rfl)) | (refine Br.mk (fun _ => ?_) (fun _ => ?_) <;> try (exfalso; omega)) | (refine Sd.mk ?_ ?_; · ((repeat' apply And.intro) <;> first | omega | trivial | assumption | (simp; done) | (simp; omega))) | (refine Sx.mk ?_ ?_; · omega) | refine Fa.mk (fun _ => ?_) | refine Im.mk (fun _ => ?_) | apply Lw.go | refine g_cond ?_ | refine g_guard ?_ | refine g_keep ?_ | refine g_pass ?_ | refine g_fin ?_ | (apply g_ap; exact rfl; exact rfl; assumption)
    exact fin hR
  · rw [hc] at hR
    repeat' first | apply step | (apply g_op; · repeat first | exact Evs.nil | (apply Evs.cons; exact rfl)) | (refine Br.mk (fun _ => ?_) (fun _ => ?_) <;> try (exfalso; omega)) | (refine Sd.mk ?_ ?_; · ((repeat' apply And.intro) <;> first | omega | trivial | assumption | (simp; done) | (simp; omega))) | (refine Sx.mk ?_ ?_; · omega) | refine Fa.mk (fun _ => ?_) | refine Im.mk (fun _ => ?_) | apply Lw.go | refine g_cond ?_ | refine g_guard ?_ | refine g_keep ?_ | refine g_pass ?_ | refine g_fin ?_ | (apply g_ap; exact rfl; exact rfl; assumption)
    first | refine at_callS (deque_Deque_int_Len_spec (pre := [.int .i64 (P.room : Int)])) ?_ | refine at_callR (deque_Deque_int_Len_spec (pre := [.int .i64 (P.room : Int)])) ?_
    repeat' first | apply step | (apply g_op; · repeat first | exact Evs.nil | (apply Evs.cons; exact rfl)) | (refine Br.mk (fun _ => ?_) (fun _ => ?_) <;> try (exfalso; omega)) | (refine Sd.mk ?_ ?_; · ((repeat' apply And.intro) <;> first | omega | trivial | assumption | (simp; done) | (simp; omega))) | (refine Sx.mk ?_ ?_; · omega) | refine Fa.mk (fun _ => ?_) | refine Im.mk (fun _ => ?_) | apply Lw.go | refine g_cond ?_ | refine g_guard ?_ | refine g_keep ?_ | refine g_pass ?_ | refine g_fin ?_ | (apply g_ap; exact rfl; exact rfl; assumption)
    · rw [decide_eq_true (by omega)] at hR
      exact fin hR
    · rw [decide_eq_false (by omega)] at hR
      exact fin hR
theorem pipe_New_int_spec {w : Int} : Spec prog1 n_pipe_New_int [.int .i64 w] [] (fun R => (w < 1 ∨ 64 < w → R (.tuple #[.pointer none, .int .i64 2]) []) ∧ ∀ n : Nat, w = n → 0 < n → n ≤ 64 → ∀ b, R (.tuple #[.pointer (some ⟨b, 0, none⟩), .int .i64 0]) [pipe b ⟨n, [], false, 0, 0⟩]) := by
  refine spec_code c_pipe_New_int rfl ?_; intro n F R hR; unfold F_pipe_New_int
  repeat' first | apply step | (apply g_op; · repeat first | exact Evs.nil | (apply Evs.cons; exact rfl)) | (refine Br.mk (fun _ => ?_) (fun _ => ?_) <;> try (exfalso; omega)) | (refine Sd.mk ?_ ?_; · ((repeat' apply And.intro) <;> first | omega | trivial | assumption | (simp; done) | (simp; omega))) | (refine Sx.mk ?_ ?_; · omega) | refine Fa.mk (fun _ => ?_) | refine Im.mk (fun _ => ?_) | apply Lw.go | refine g_cond ?_ | refine g_guard ?_ | refine g_keep ?_ | refine g_pass ?_ | refine g_fin ?_ | (apply g_ap; exact rfl; exact rfl; assumption)
  · exact fin (hR.1 (by omega))
  · exact fin (hR.1 (by omega))
  · rename_i bo
    obtain ⟨m, rfl⟩ : ∃ m : Nat, w = m := ⟨w.toNat, by omega⟩
    refine fin_foldP (pipe bo ⟨m, [], false, 0, 0⟩) rfl (none, 0, [], 0) ⟨Rg.fresh (l := []) (k := 0) (by simp) (by omega), ⟨⟨by dsimp only; omega, by dsimp only; omega⟩, by simp, by simp, by simp⟩⟩ ?_
    exact fin (hR.2 m rfl (by omega) (by omega) bo)
end
end Go.AMS

namespace Go.AMS
open Go.AM hiding Kt At WP WL Runs RunsY
open Go.AM.G
set_option linter.unusedVariables false
set_option linter.unusedSimpArgs false
set_option linter.unusedSectionVars false
set_option maxRecDepth 100000
set_option maxHeartbeats 1000000
attribute [local irreducible] AtS AtV AtC AtG FinA Spec Post LP G.At G.WP G.WL pt own fro rdl ro hx mp lrec elt sub

section
/-- A sender: its row, how many were sent, its pipe. -/
structure Sn where
  row : List Int
  sent : Nat
  pi : Pi
  exited : Bool
def snd (b : Nat) (s : Sn) : HP := hx fun (x : (Option Addr × Nat) × Nat) => (s.row.length ≤ 1000 ∧ s.sent ≤ s.row.length, [pt b [.slice x.1.1 s.row.length x.1.2, .int .i64 (s.sent : Int), .pointer (some ⟨x.2, 0, none⟩), .bool s.exited] 0, fro (kInt .i64) x.1.1 x.1.2 s.row, pipe x.2 s.pi])
instance low_snd {b : Nat} {s : Sn} : Low (snd b s) := low_hx fun _ => inferInstance
def Sn.rdy (s : Sn) : Bool := !s.exited && (decide (s.row.length ≤ s.sent) || decide (s.pi.q.length < s.pi.room))
variable {b : Nat} {s : Sn}
theorem merge_sender_int_ready_spec : Spec prog1 n_merge_sender_int_ready [.pointer (some ⟨b, 0, none⟩)] [ro (snd b s)] (fun R => R (.bool s.rdy) []) := by
  refine spec_code c_merge_sender_int_ready rfl ?_; intro n F R hR; unfold F_merge_sender_int_ready
  refine at_openRP (snd b s) rfl ?_
  rintro ⟨⟨p, c⟩, pb⟩ ⟨h1, h2⟩
  dsimp only at h1 h2 ⊢
  unfold Sn.rdy at hR
  cases hx : s.exited
  · rw [hx] at hR
    repeat' first | apply step | (apply g_op; · repeat first | exact Evs.nil | (apply Evs.cons; exact rfl)) | (refine Br.mk (fun _ => ?_) (fun _ => ?_) <;> try (exfalso; omega)) | (refine Sd.mk ?_ ?_; · ((repeat' apply And.intro) <;> first | omega | trivial | assumption | (simp; done) | (simp; omega))) | (refine Sx.mk ?_ ?_; · omega) | refine Fa.mk (fun _ => ?_) | refine Im.mk (fun _ => ?_) | apply Lw.go | refine g_cond ?_ | refine g_guard ?_ | refine g_keep ?_ | refine g_pass ?_ | refine g_fin ?_ | (apply g_ap; exact rfl; exact rfl; assumption)
    · rw [decide_eq_true (show s.row.length ≤ s.sent by omega)] at hR
      exact fin hR
    · rw [decide_eq_false (show ¬ s.row.length ≤ s.sent by omega)] at hR
      first | refine at_callS (pipe_Pipe_int_Len_spec (P := s.pi)) ?_ | refine at_callR (pipe_Pipe_int_Len_spec (P := s.pi)) ?_
      repeat' first | apply step | (apply g_op; · repeat first | exact Evs.nil | (apply Evs.cons; exact rfl)) | (refine Br.mk (fun _ => ?_) (fun _ => ?_) <;> try (exfalso; omega)) | (refine Sd.mk ?_ ?_; · ((repeat' apply And.intro) <;> first | omega | trivial | assumption | (simp; done) | (simp; omega))) | (refine Sx.mk ?_ ?_; · omega) | refine Fa.mk (fun _ => ?_) | refine Im.mk (fun _ => ?_) | apply Lw.go | refine g_cond ?_ | refine g_guard ?_ | refine g_keep ?_ | refine g_pass ?_ | refine g_fin ?_ | (apply g_ap; exact rfl; exact rfl; assumption)
      first | refine at_callS (pipe_Pipe_int_Room_spec (P := s.pi)) ?_ | refine at_callR (pipe_Pipe_int_Room_spec (P := s.pi)) ?_
      repeat' first | apply step | (apply g_op; · repeat first | exact Evs.nil | (apply Evs.cons; exact rfl)) | (refine Br.mk (fun _ => ?_) (fun _ => ?_) <;> try (exfalso; omega)) | (refine Sd.mk ?_ ?_; · ((repeat' apply And.intro) <;> first | omega | trivial | assumption | (simp; done) | (simp; omega))) | (refine Sx.mk ?_ ?_; · omega) | refine Fa.mk (fun _ => ?_) | refine Im.mk (fun _ => ?_) | apply Lw.go | refine g_cond ?_ | refine g_guard ?_ | refine g_keep ?_ | refine g_pass ?_ | refine g_fin ?_ | (apply g_ap; exact rfl; exact rfl; assumption)
      · rw [decide_eq_true (by omega)] at hR
        exact fin hR
      · rw [decide_eq_false (by omega)] at hR
        exact fin hR
  · rw [hx] at hR
    repeat' first | apply step | (apply g_op; · repeat first | exact Evs.nil | (apply Evs.cons; exact rfl)) | (refine Br.mk (fun _ => ?_) (fun _ => ?_) <;> try (exfalso; omega)) | (refine Sd.mk ?_ ?_; · ((repeat' apply And.intro) <;> first | omega | trivial | assumption | (simp; done) | (simp; omega))) | (refine Sx.mk ?_ ?_; · omega) | refine Fa.mk (fun _ => ?_) | refine Im.mk (fun _ => ?_) | apply Lw.go | refine g_cond ?_ | refine g_guard ?_ | refine g_keep ?_ | refine g_pass ?_ | refine g_fin ?_ | (apply g_ap; exact rfl; exact rfl; assumption)
    exact fin hR
/-- What the merger has. -/
structure Mg where
  l : List Sn
  heads : List Int
  has : List Bool
  out : List Int
  exited : Bool
structure Mg.ok (M : Mg) : Prop where
  h : M.heads.length = M.l.length
  s : M.has.length = M.l.length
  n : M.l.length ≤ 1000
  o : M.out.length ≤ 1000000
def mrg (b : Nat) (f : Value) (M : Mg) : HP := hx fun (x : ((Option Addr × Nat) × List Nat) × (Option Addr × Nat) × (Option Addr × Nat) × (Option Addr × Nat)) => (M.ok ∧ x.1.2.length = M.l.length, [pt b [.slice x.1.1.1 x.1.2.length x.1.1.2, f, .slice x.2.1.1 M.heads.length x.2.1.2, .slice x.2.2.1.1 M.has.length x.2.2.1.2, .slice x.2.2.2.1 M.out.length x.2.2.2.2, .bool M.exited] 0, own kPtr x.1.1.1 x.1.1.2 x.1.2, each snd x.1.2 M.l, own (kInt .i64) x.2.1.1 x.2.1.2 M.heads, own kBool x.2.2.1.1 x.2.2.1.2 M.has, own (kInt .i64) x.2.2.2.1 x.2.2.2.2 M.out])
/-- The first pipe that something can be received from. -/
def Mg.can (M : Mg) (k : Nat) : Bool := !M.has.getD k false && decide (0 < ((M.l[k]?).map fun s => s.pi.q.length).getD 0)
def Mg.recv (M : Mg) : Int := match (List.range M.l.length).find? M.can with
  | some k => k
  | none => -1
theorem recv_none {M : Mg} (h : ∀ j, j < M.l.length → M.can j = false) : M.recv = -1 := by
  have : (List.range M.l.length).find? M.can = none := List.find?_eq_none.2 fun j hj => by rw [h j (List.mem_range.1 hj)]; simp
  unfold Mg.recv; rw [this]
theorem recv_some {M : Mg} {k : Nat} (hk : k < M.l.length) (hc : M.can k = true) (h : ∀ j, j < k → M.can j = false) : M.recv = k := by
  have : (List.range M.l.length).find? M.can = some k := by
    rw [List.find?_range_eq_some]
    exact ⟨hc, List.mem_range.2 hk, fun j hj => by rw [h j hj]; rfl⟩
  unfold Mg.recv; rw [this]
theorem merge_merger_int_receives_spec {f : Value} {M : Mg} : Spec prog1 n_merge_merger_int_receives [.pointer (some ⟨b, 0, none⟩)] [ro (mrg b f M)] (fun R => R (.int .i64 M.recv) []) := by
  refine spec_code c_merge_merger_int_receives rfl ?_; intro n F R hR; unfold F_merge_merger_int_receives
  refine at_openRP (mrg b f M) rfl ?_
  rintro ⟨⟨⟨lp, lc⟩, bs⟩, ⟨hp, hc⟩, ⟨sp, sc⟩, ⟨op, oc⟩⟩ ⟨⟨o1, o2, o3, o4⟩, hl⟩
  dsimp only at hl ⊢
  repeat' first | apply step | (apply g_op; · repeat first | exact Evs.nil | (apply Evs.cons; exact rfl)) | (refine Br.mk (fun _ => ?_) (fun _ => ?_) <;> try (exfalso; omega)) | (refine Sd.mk ?_ ?_; · ((repeat' apply And.intro) <;> first | omega | trivial | assumption | (simp; done) | (simp; omega))) | (refine Sx.mk ?_ ?_; · omega) | refine Fa.mk (fun _ => ?_) | refine Im.mk (fun _ => ?_) | apply Lw.go | refine g_cond ?_ | refine g_guard ?_ | refine g_keep ?_ | refine g_pass ?_ | refine g_fin ?_ | (apply g_ap; exact rfl; exact rfl; assumption)
  refine at_loopS (ι := Nat) (E := fun k => [(0, .pointer (some ⟨b, 0, none⟩)), (8, .slice lp bs.length lc), (9, .int .i64 (bs.length : Int)), (10, .int .i64 (k : Int))]) (Δ := fun k => ro (pt b [.slice lp bs.length lc, f, .slice hp M.heads.length hc, .slice sp M.has.length sc, .slice op M.out.length oc, .bool M.exited] 0) :: rdl kPtr lp bs :: ro (each snd bs M.l) :: rdl kBool sp M.has :: F) (P := fun k => k ≤ M.l.length ∧ ∀ j, j < k → M.can j = false) (μ := fun k => M.l.length - k) 0 ⟨Nat.zero_le _, by simp⟩ ?_
  rintro k ⟨hk, hno⟩
  try dsimp only
  rcases Nat.lt_or_ge k M.l.length with hk' | hk'
  · have hks : k < M.has.length := by omega
    have hcan : M.can k = (!M.has[k] && decide (0 < M.l[k].pi.q.length)) := by
      unfold Mg.can; rw [getD_lt hks, List.getElem?_eq_getElem hk']; rfl
    cases hb : M.has[k]
    · rw [hb] at hcan
      repeat' first | rw [hb] | apply step | (apply g_op; · repeat first | exact Evs.nil | (apply Evs.cons; exact rfl)) | (refine Br.mk (fun _ => ?_) (fun _ => ?_) <;> try (exfalso; omega)) | (refine Sd.mk ?_ ?_; · ((repeat' apply And.intro) <;> first | omega | trivial | assumption | (simp; done) | (simp; omega))) | (refine Sx.mk ?_ ?_; · omega) | refine Fa.mk (fun _ => ?_) | refine Im.mk (fun _ => ?_) | apply Lw.go | refine g_cond ?_ | refine g_guard ?_ | refine g_keep ?_ | refine g_pass ?_ | refine g_fin ?_ | (apply g_ap; exact rfl; exact rfl; assumption)
      refine av_via (each_ro (g := snd) (xs := bs) (i := k) (by omega) hk') ?_
      refine av_openRP (snd bs[k] M.l[k]) rfl ?_
      rintro ⟨⟨p, c⟩, pb⟩ ⟨q1, q2⟩
      dsimp only at q1 q2 ⊢
      repeat' first | apply step | (apply g_op; · repeat first | exact Evs.nil | (apply Evs.cons; exact rfl)) | (refine Br.mk (fun _ => ?_) (fun _ => ?_) <;> try (exfalso; omega)) | (refine Sd.mk ?_ ?_; · ((repeat' apply And.intro) <;> first | omega | trivial | assumption | (simp; done) | (simp; omega))) | (refine Sx.mk ?_ ?_; · omega) | refine Fa.mk (fun _ => ?_) | refine Im.mk (fun _ => ?_) | apply Lw.go | refine g_cond ?_ | refine g_guard ?_ | refine g_keep ?_ | refine g_pass ?_ | refine g_fin ?_ | (apply g_ap; exact rfl; exact rfl; assumption)
      first | refine at_callS (pipe_Pipe_int_Len_spec (P := M.l[k].pi)) ?_ | refine at_callR (pipe_Pipe_int_Len_spec (P := M.l[k].pi)) ?_
      repeat' first | apply step | (apply g_op; · repeat first | exact Evs.nil | (apply Evs.cons; exact rfl)) | (refine Br.mk (fun _ => ?_) (fun _ => ?_) <;> try (exfalso; omega)) | (refine Sd.mk ?_ ?_; · ((repeat' apply And.intro) <;> first | omega | trivial | assumption | (simp; done) | (simp; omega))) | (refine Sx.mk ?_ ?_; · omega) | refine Fa.mk (fun _ => ?_) | refine Im.mk (fun _ => ?_) | apply Lw.go | refine g_cond ?_ | refine g_guard ?_ | refine g_keep ?_ | refine g_pass ?_ | refine g_fin ?_ | (apply g_ap; exact rfl; exact rfl; assumption)
      · rw [decide_eq_true (by omega)] at hcan
        rw [recv_some hk' hcan hno] at hR
        exact fin hR
      · rw [decide_eq_false (by omega)] at hcan
        refine lp_next (k + 1) ⟨by omega, fun j hj => ?_⟩ (by omega)
        rcases Nat.lt_or_ge j k with q | q
        · exact hno j q
        · rw [show j = k by omega]; exact hcan
    · rw [hb] at hcan
      repeat' first | rw [hb] | apply step | (apply g_op; · repeat first | exact Evs.nil | (apply Evs.cons; exact rfl)) | (refine Br.mk (fun _ => ?_) (fun _ => ?_) <;> try (exfalso; omega)) | (refine Sd.mk ?_ ?_; · ((repeat' apply And.intro) <;> first | omega | trivial | assumption | (simp; done) | (simp; omega))) | (refine Sx.mk ?_ ?_; · omega) | refine Fa.mk (fun _ => ?_) | refine Im.mk (fun _ => ?_) | apply Lw.go | refine g_cond ?_ | refine g_guard ?_ | refine g_keep ?_ | refine g_pass ?_ | refine g_fin ?_ | (apply g_ap; exact rfl; exact rfl; assumption)
      refine lp_next (k + 1) ⟨by omega, fun j hj => ?_⟩ (by omega)
      rcases Nat.lt_or_ge j k with q | q
      · exact hno j q
      · rw [show j = k by omega]; exact hcan
  · have : M.recv = -1 := recv_none (fun j hj => hno j (by omega))
    rw [this] at hR
    repeat' first | apply step | (apply g_op; · repeat first | exact Evs.nil | (apply Evs.cons; exact rfl)) | (refine Br.mk (fun _ => ?_) (fun _ => ?_) <;> try (exfalso; omega)) | (refine Sd.mk ?_ ?_; · ((repeat' apply And.intro) <;> first | omega | trivial | assumption | (simp; done) | (simp; omega))) | (refine Sx.mk ?_ ?_; · omega) | refine Fa.mk (fun _ => ?_) | refine Im.mk (fun _ => ?_) | apply Lw.go | refine g_cond ?_ | refine g_guard ?_ | refine g_keep ?_ | refine g_pass ?_ | refine g_fin ?_ | (apply g_ap; exact rfl; exact rfl; assumption)
    exact fin hR
/-- Whether a head is still to come. -/
def Mg.wants (M : Mg) (k : Nat) : Bool := !M.has.getD k false && !(((M.l[k]?).map fun s => s.pi.closed && decide (s.pi.q.length = 0)).getD true)
def Mg.full (M : Mg) : Bool := !(List.range M.l.length).any M.wants
theorem full_yes {M : Mg} (h : ∀ j, j < M.l.length → M.wants j = false) : M.full = true := by
  unfold Mg.full
  rw [List.any_eq_false.2 fun j hj => by rw [h j (List.mem_range.1 hj)]; simp]; rfl
theorem full_no {M : Mg} {k : Nat} (hk : k < M.l.length) (hc : M.wants k = true) : M.full = false := by
  unfold Mg.full
  rw [List.any_eq_true.2 ⟨k, List.mem_range.2 hk, hc⟩]; rfl
theorem merge_merger_int_full_spec {f : Value} {M : Mg} : Spec prog1 n_merge_merger_int_full [.pointer (some ⟨b, 0, none⟩)] [ro (mrg b f M)] (fun R => R (.bool M.full) []) := by
  refine spec_code c_merge_merger_int_full rfl ?_; intro n F R hR; unfold F_merge_merger_int_full
  refine at_openRP (mrg b f M) rfl ?_
  rintro ⟨⟨⟨lp, lc⟩, bs⟩, ⟨hp, hc⟩, ⟨sp, sc⟩, ⟨op, oc⟩⟩ ⟨⟨o1, o2, o3, o4⟩, hl⟩
  dsimp only at hl ⊢
  repeat' first | apply step | (apply g_op; · repeat first | exact Evs.nil | (apply Evs.cons; exact rfl)) | (refine Br.mk (fun _ => ?_) (fun _ => ?_) <;> try (exfalso; omega)) | (refine Sd.mk ?_ ?_; · ((repeat' apply And.intro) <;> first | omega | trivial | assumption | (simp; done) | (simp; omega))) | (refine Sx.mk ?_ ?_; · omega) | refine Fa.mk (fun _ => ?_) | refine Im.mk (fun _ => ?_) | apply Lw.go | refine g_cond ?_ | refine g_guard ?_ | refine g_keep ?_ | refine g_pass ?_ | refine g_fin ?_ | (apply g_ap; exact rfl; exact rfl; assumption)
  refine at_loopS (ι := Nat) (E := fun k => [(0, .pointer (some ⟨b, 0, none⟩)), (8, .slice lp bs.length lc), (9, .int .i64 (bs.length : Int)), (10, .int .i64 (k : Int))]) (Δ := fun k => ro (pt b [.slice lp bs.length lc, f, .slice hp M.heads.length hc, .slice sp M.has.length sc, .slice op M.out.length oc, .bool M.exited] 0) :: rdl kPtr lp bs :: ro (each snd bs M.l) :: rdl kBool sp M.has :: F) (P := fun k => k ≤ M.l.length ∧ ∀ j, j < k → M.wants j = false) (μ := fun k => M.l.length - k) 0 ⟨Nat.zero_le _, by simp⟩ ?_
  rintro k ⟨hk, hno⟩
  try dsimp only
  rcases Nat.lt_or_ge k M.l.length with hk' | hk'
  · have hks : k < M.has.length := by omega
    have hcan : M.wants k = (!M.has[k] && !(M.l[k].pi.closed && decide (M.l[k].pi.q.length = 0))) := by
      unfold Mg.wants; rw [getD_lt hks, List.getElem?_eq_getElem hk']; rfl
    cases hb : M.has[k]
    · rw [hb] at hcan
      repeat' first | rw [hb] | apply step | (apply g_op; · repeat first | exact Evs.nil | (apply Evs.cons; exact rfl)) | (refine Br.mk (fun _ => ?_) (fun _ => ?_) <;> try (exfalso; omega)) | (refine Sd.mk ?_ ?_; · ((repeat' apply And.intro) <;> first | omega | trivial | assumption | (simp; done) | (simp; omega))) | (refine Sx.mk ?_ ?_; · omega) | refine Fa.mk (fun _ => ?_) | refine Im.mk (fun _ => ?_) | apply Lw.go | refine g_cond ?_ | refine g_guard ?_ | refine g_keep ?_ | refine g_pass ?_ | refine g_fin ?_ | (apply g_ap; exact rfl; exact rfl; assumption)
      refine av_via (each_ro (g := snd) (xs := bs) (i := k) (by omega) hk') ?_
      refine av_openRP (snd bs[k] M.l[k]) rfl ?_
      rintro ⟨⟨p, c⟩, pb⟩ ⟨q1, q2⟩
      dsimp only at q1 q2 ⊢
      repeat' first | apply step | (apply g_op; · repeat first | exact Evs.nil | (apply Evs.cons; exact rfl)) | (refine Br.mk (fun _ => ?_) (fun _ => ?_) <;> try (exfalso; omega)) | (refine Sd.mk ?_ ?_; · ((repeat' apply And.intro) <;> first | omega | trivial | assumption | (simp; done) | (simp; omega))) | (refine Sx.mk ?_ ?_; · omega) | refine Fa.mk (fun _ => ?_) | refine Im.mk (fun _ => ?_) | apply Lw.go | refine g_cond ?_ | refine g_guard ?_ | refine g_keep ?_ | refine g_pass ?_ | refine g_fin ?_ | (apply g_ap; exact rfl; exact rfl; assumption)
      first | refine at_callS (pipe_Pipe_int_Done_spec (P := M.l[k].pi)) ?_ | refine at_callR (pipe_Pipe_int_Done_spec (P := M.l[k].pi)) ?_
      generalize (M.l[k].pi.closed && decide (M.l[k].pi.q.length = 0)) = dn at *
      cases dn
      · repeat' first | apply step | (apply g_op; · repeat first | exact Evs.nil | (apply Evs.cons; exact rfl)) | (refine Br.mk (fun _ => ?_) (fun _ => ?_) <;> try (exfalso; omega)) | (refine Sd.mk ?_ ?_; · ((repeat' apply And.intro) <;> first | omega | trivial | assumption | (simp; done) | (simp; omega))) | (refine Sx.mk ?_ ?_; · omega) | refine Fa.mk (fun _ => ?_) | refine Im.mk (fun _ => ?_) | apply Lw.go | refine g_cond ?_ | refine g_guard ?_ | refine g_keep ?_ | refine g_pass ?_ | refine g_fin ?_ | (apply g_ap; exact rfl; exact rfl; assumption)
        rw [full_no hk' hcan] at hR
        exact fin hR
      · repeat' first | apply step | (apply g_op; · repeat first | exact Evs.nil | (apply Evs.cons; exact rfl)) | (refine Br.mk (fun _ => ?_) (fun _ => ?_) <;> try (exfalso; omega)) | (refine Sd.mk ?_ ?_; · ((repeat' apply And.intro) <;> first | omega | trivial | assumption | (simp; done) | (simp; omega))) | (refine Sx.mk ?_ ?_; · omega) | refine Fa.mk (fun _ => ?_) | refine Im.mk (fun _ => ?_) | apply Lw.go | refine g_cond ?_ | refine g_guard ?_ | refine g_keep ?_ | refine g_pass ?_ | refine g_fin ?_ | (apply g_ap; exact rfl; exact rfl; assumption)
        refine lp_next (k + 1) ⟨by omega, fun j hj => ?_⟩ (by omega)
        rcases Nat.lt_or_ge j k with q | q
        · exact hno j q
        · rw [show j = k by omega]; exact hcan
    · rw [hb] at hcan
      repeat' first | rw [hb] | apply step | (apply g_op; · repeat first | exact Evs.nil | (apply Evs.cons; exact rfl)) | (refine Br.mk (fun _ => ?_) (fun _ => ?_) <;> try (exfalso; omega)) | (refine Sd.mk ?_ ?_; · ((repeat' apply And.intro) <;> first | omega | trivial | assumption | (simp; done) | (simp; omega))) | (refine Sx.mk ?_ ?_; · omega) | refine Fa.mk (fun _ => ?_) | refine Im.mk (fun _ => ?_) | apply Lw.go | refine g_cond ?_ | refine g_guard ?_ | refine g_keep ?_ | refine g_pass ?_ | refine g_fin ?_ | (apply g_ap; exact rfl; exact rfl; assumption)
      refine lp_next (k + 1) ⟨by omega, fun j hj => ?_⟩ (by omega)
      rcases Nat.lt_or_ge j k with q | q
      · exact hno j q
      · rw [show j = k by omega]; exact hcan
  · have : M.full = true := full_yes (fun j hj => hno j (by omega))
    rw [this] at hR
    repeat' first | apply step | (apply g_op; · repeat first | exact Evs.nil | (apply Evs.cons; exact rfl)) | (refine Br.mk (fun _ => ?_) (fun _ => ?_) <;> try (exfalso; omega)) | (refine Sd.mk ?_ ?_; · ((repeat' apply And.intro) <;> first | omega | trivial | assumption | (simp; done) | (simp; omega))) | (refine Sx.mk ?_ ?_; · omega) | refine Fa.mk (fun _ => ?_) | refine Im.mk (fun _ => ?_) | apply Lw.go | refine g_cond ?_ | refine g_guard ?_ | refine g_keep ?_ | refine g_pass ?_ | refine g_fin ?_ | (apply g_ap; exact rfl; exact rfl; assumption)
    exact fin hR
/-- The senders that go on, of the first so many. -/
def Mg.goes (M : Mg) (k : Nat) : List Int := ((List.range k).filter fun k => ((M.l[k]?).map Sn.rdy).getD false).map Int.ofNat
theorem goes_succ {M : Mg} {k : Nat} (hk : k < M.l.length) : M.goes (k + 1) = M.goes k ++ (if M.l[k].rdy = true then [(k : Int)] else []) := by
  unfold Mg.goes
  rw [List.range_succ, List.filter_append, List.map_append]
  congr 1
  have : ((M.l[k]?).map Sn.rdy).getD false = M.l[k].rdy := by rw [List.getElem?_eq_getElem hk]; rfl
  by_cases h : M.l[k].rdy = true
  · rw [if_pos h]; simp only [List.filter_cons, this, h, if_true, List.filter_nil]; rfl
  · rw [if_neg h]; simp only [List.filter_cons, this, List.filter_nil]; rw [if_neg h]; rfl
theorem goes_len (M : Mg) (k : Nat) : (M.goes k).length ≤ k := by
  unfold Mg.goes
  rw [List.length_map]
  exact Nat.le_trans (List.length_filter_le _ _) (by simp)
def Mg.readyL (M : Mg) : List Int := M.goes M.l.length ++ (if (!M.exited && (decide (0 ≤ M.recv) || M.full)) = true then [(M.l.length : Int)] else [])
theorem merge_merger_int_ready_spec {f : Value} {M : Mg} : Spec prog1 n_merge_merger_int_ready [.pointer (some ⟨b, 0, none⟩)] [ro (mrg b f M)] (fun R => ∀ p c, R (.slice p M.readyL.length c) [own (kInt .i64) p c M.readyL]) := by
  refine spec_code c_merge_merger_int_ready rfl ?_; intro n F R hR; unfold F_merge_merger_int_ready
  refine at_openRP (mrg b f M) rfl ?_
  rintro ⟨⟨⟨lp, lc⟩, bs⟩, ⟨hp, hc⟩, ⟨sp, sc⟩, ⟨op, oc⟩⟩ ⟨⟨o1, o2, o3, o4⟩, hl⟩
  dsimp only at hl ⊢
  repeat' first | apply step | (apply g_op; · repeat first | exact Evs.nil | (apply Evs.cons; exact rfl)) | (refine Br.mk (fun _ => ?_) (fun _ => ?_) <;> try (exfalso; omega)) | (refine Sd.mk ?_ ?_; · ((repeat' apply And.intro) <;> first | omega | trivial | assumption | (simp; done) | (simp; omega))) | (refine Sx.mk ?_ ?_; · omega) | refine Fa.mk (fun _ => ?_) | refine Im.mk (fun _ => ?_) | apply Lw.go | refine g_cond ?_ | refine g_guard ?_ | refine g_keep ?_ | refine g_pass ?_ | refine g_fin ?_ | (apply g_ap; exact rfl; exact rfl; assumption)
  refine at_loopS (ι := Nat × Option Addr × Nat) (E := fun k => [(0, .pointer (some ⟨b, 0, none⟩)), (3, .slice k.2.1 (M.goes k.1).length k.2.2), (9, .slice lp bs.length lc), (10, .int .i64 (bs.length : Int)), (11, .int .i64 (k.1 : Int))]) (Δ := fun k => own (kInt .i64) k.2.1 k.2.2 (M.goes k.1) :: ro (pt b [.slice lp bs.length lc, f, .slice hp M.heads.length hc, .slice sp M.has.length sc, .slice op M.out.length oc, .bool M.exited] 0) :: rdl kPtr lp bs :: ro (each snd bs M.l) :: ro (mrg b f M) :: F) (P := fun k => k.1 ≤ M.l.length) (μ := fun k => M.l.length - k.1) (0, none, 0) (Nat.zero_le _) ?_
  rintro ⟨k, p, c⟩ hk
  dsimp only at hk ⊢
  have hgl := goes_len M k
  rcases Nat.lt_or_ge k M.l.length with hk' | hk'
  · have hgs := goes_succ hk'
    repeat' first | apply step | (apply g_op; · repeat first | exact Evs.nil | (apply Evs.cons; exact rfl)) | (refine Br.mk (fun _ => ?_) (fun _ => ?_) <;> try (exfalso; omega)) | (refine Sd.mk ?_ ?_; · ((repeat' apply And.intro) <;> first | omega | trivial | assumption | (simp; done) | (simp; omega))) | (refine Sx.mk ?_ ?_; · omega) | refine Fa.mk (fun _ => ?_) | refine Im.mk (fun _ => ?_) | apply Lw.go | refine g_cond ?_ | refine g_guard ?_ | refine g_keep ?_ | refine g_pass ?_ | refine g_fin ?_ | (apply g_ap; exact rfl; exact rfl; assumption)
    refine av_via (each_ro (g := snd) (xs := bs) (i := k) (by omega) hk') ?_
    first | refine at_callS (merge_sender_int_ready_spec (s := M.l[k])) ?_ | refine at_callR (merge_sender_int_ready_spec (s := M.l[k])) ?_
    cases hrd : M.l[k].rdy
    · rw [hrd] at hgs
      simp only [Bool.false_eq_true, if_false, List.append_nil] at hgs
      repeat' first | apply step | (apply g_op; · repeat first | exact Evs.nil | (apply Evs.cons; exact rfl)) | (refine Br.mk (fun _ => ?_) (fun _ => ?_) <;> try (exfalso; omega)) | (refine Sd.mk ?_ ?_; · ((repeat' apply And.intro) <;> first | omega | trivial | assumption | (simp; done) | (simp; omega))) | (refine Sx.mk ?_ ?_; · omega) | refine Fa.mk (fun _ => ?_) | refine Im.mk (fun _ => ?_) | apply Lw.go | refine g_cond ?_ | refine g_guard ?_ | refine g_keep ?_ | refine g_pass ?_ | refine g_fin ?_ | (apply g_ap; exact rfl; exact rfl; assumption)
      exact lp_next (k + 1, p, c) (by dsimp only; omega) (by dsimp only; omega) (by simp only [hgs]) (hs := by simp only [hgs]; repeat first | exact Ent.refl _ | (apply Ent.more; · repeat first | exact Ent.keep | exact Ent.here | exact Ent.lend | exact ent_nil | apply Ent.there) | apply Ent.drop)
    · rw [hrd] at hgs
      simp only [if_true] at hgs
      repeat' first | apply step | (apply g_op; · repeat first | exact Evs.nil | (apply Evs.cons; exact rfl)) | (refine Br.mk (fun _ => ?_) (fun _ => ?_) <;> try (exfalso; omega)) | (refine Sd.mk ?_ ?_; · ((repeat' apply And.intro) <;> first | omega | trivial | assumption | (simp; done) | (simp; omega))) | (refine Sx.mk ?_ ?_; · omega) | refine Fa.mk (fun _ => ?_) | refine Im.mk (fun _ => ?_) | apply Lw.go | refine g_cond ?_ | refine g_guard ?_ | refine g_keep ?_ | refine g_pass ?_ | refine g_fin ?_ | (apply g_ap; exact rfl; exact rfl; assumption)
      rename_i p2 c2
      exact lp_next (k + 1, p2, c2) (by dsimp only; omega) (by dsimp only; omega) (by simp only [hgs]) (hs := by simp only [hgs]; repeat first | exact Ent.refl _ | (apply Ent.more; · repeat first | exact Ent.keep | exact Ent.here | exact Ent.lend | exact ent_nil | apply Ent.there) | apply Ent.drop)
  · have hkk : k = M.l.length := by omega
    subst hkk
    unfold Mg.readyL at hR
    cases hx : M.exited
    · rw [hx] at hR
      repeat' first | rw [hx] | apply step | (apply g_op; · repeat first | exact Evs.nil | (apply Evs.cons; exact rfl)) | (refine Br.mk (fun _ => ?_) (fun _ => ?_) <;> try (exfalso; omega)) | (refine Sd.mk ?_ ?_; · ((repeat' apply And.intro) <;> first | omega | trivial | assumption | (simp; done) | (simp; omega))) | (refine Sx.mk ?_ ?_; · omega) | refine Fa.mk (fun _ => ?_) | refine Im.mk (fun _ => ?_) | apply Lw.go | refine g_cond ?_ | refine g_guard ?_ | refine g_keep ?_ | refine g_pass ?_ | refine g_fin ?_ | (apply g_ap; exact rfl; exact rfl; assumption)
      first | refine at_callS (merge_merger_int_receives_spec (f := f) (M := M)) ?_ | refine at_callR (merge_merger_int_receives_spec (f := f) (M := M)) ?_
      by_cases hrv : 0 ≤ M.recv
      · rw [decide_eq_true hrv] at hR
        simp only [Bool.not_false, Bool.true_and, Bool.true_or, if_true] at hR
        repeat' first | apply step | (apply g_op; · repeat first | exact Evs.nil | (apply Evs.cons; exact rfl)) | (refine Br.mk (fun _ => ?_) (fun _ => ?_) <;> try (exfalso; omega)) | (refine Sd.mk ?_ ?_; · ((repeat' apply And.intro) <;> first | omega | trivial | assumption | (simp; done) | (simp; omega))) | (refine Sx.mk ?_ ?_; · omega) | refine Fa.mk (fun _ => ?_) | refine Im.mk (fun _ => ?_) | apply Lw.go | refine g_cond ?_ | refine g_guard ?_ | refine g_keep ?_ | refine g_pass ?_ | refine g_fin ?_ | (apply g_ap; exact rfl; exact rfl; assumption)
        rename_i p2 c2
        rw [hl]; exact fin (hR p2 c2)
      · rw [decide_eq_false hrv] at hR
        repeat' first | apply step | (apply g_op; · repeat first | exact Evs.nil | (apply Evs.cons; exact rfl)) | (refine Br.mk (fun _ => ?_) (fun _ => ?_) <;> try (exfalso; omega)) | (refine Sd.mk ?_ ?_; · ((repeat' apply And.intro) <;> first | omega | trivial | assumption | (simp; done) | (simp; omega))) | (refine Sx.mk ?_ ?_; · omega) | refine Fa.mk (fun _ => ?_) | refine Im.mk (fun _ => ?_) | apply Lw.go | refine g_cond ?_ | refine g_guard ?_ | refine g_keep ?_ | refine g_pass ?_ | refine g_fin ?_ | (apply g_ap; exact rfl; exact rfl; assumption)
        first | refine at_callS (merge_merger_int_full_spec (f := f) (M := M)) ?_ | refine at_callR (merge_merger_int_full_spec (f := f) (M := M)) ?_
        cases hfl : M.full
        · rw [hfl] at hR
          simp only [Bool.not_false, Bool.true_and, Bool.false_or, Bool.or_false, Bool.false_eq_true, if_false, List.append_nil] at hR
          repeat' first | apply step | (apply g_op; · repeat first | exact Evs.nil | (apply Evs.cons; exact rfl)) | (refine Br.mk (fun _ => ?_) (fun _ => ?_) <;> try (exfalso; omega)) | (refine Sd.mk ?_ ?_; · ((repeat' apply And.intro) <;> first | omega | trivial | assumption | (simp; done) | (simp; omega))) | (refine Sx.mk ?_ ?_; · omega) | refine Fa.mk (fun _ => ?_) | refine Im.mk (fun _ => ?_) | apply Lw.go | refine g_cond ?_ | refine g_guard ?_ | refine g_keep ?_ | refine g_pass ?_ | refine g_fin ?_ | (apply g_ap; exact rfl; exact rfl; assumption)
          exact fin (hR p c)
        · rw [hfl] at hR
          simp only [Bool.not_false, Bool.true_and, Bool.or_true, if_true] at hR
          repeat' first | apply step | (apply g_op; · repeat first | exact Evs.nil | (apply Evs.cons; exact rfl)) | (refine Br.mk (fun _ => ?_) (fun _ => ?_) <;> try (exfalso; omega)) | (refine Sd.mk ?_ ?_; · ((repeat' apply And.intro) <;> first | omega | trivial | assumption | (simp; done) | (simp; omega))) | (refine Sx.mk ?_ ?_; · omega) | refine Fa.mk (fun _ => ?_) | refine Im.mk (fun _ => ?_) | apply Lw.go | refine g_cond ?_ | refine g_guard ?_ | refine g_keep ?_ | refine g_pass ?_ | refine g_fin ?_ | (apply g_ap; exact rfl; exact rfl; assumption)
          rename_i p2 c2
          rw [hl]; exact fin (hR p2 c2)
    · rw [hx] at hR
      simp only [Bool.not_true, Bool.false_and, Bool.false_eq_true, if_false, List.append_nil] at hR
      repeat' first | rw [hx] | apply step | (apply g_op; · repeat first | exact Evs.nil | (apply Evs.cons; exact rfl)) | (refine Br.mk (fun _ => ?_) (fun _ => ?_) <;> try (exfalso; omega)) | (refine Sd.mk ?_ ?_; · ((repeat' apply And.intro) <;> first | omega | trivial | assumption | (simp; done) | (simp; omega))) | (refine Sx.mk ?_ ?_; · omega) | refine Fa.mk (fun _ => ?_) | refine Im.mk (fun _ => ?_) | apply Lw.go | refine g_cond ?_ | refine g_guard ?_ | refine g_keep ?_ | refine g_pass ?_ | refine g_fin ?_ | (apply g_ap; exact rfl; exact rfl; assumption)
      exact fin (hR p c)
def Mg.sentN (M : Mg) (k : Nat) : Nat := ((M.l.take k).map (·.sent)).sum
def Mg.exN (M : Mg) (k : Nat) : Nat := ((M.l.take k).filter (·.exited)).length
theorem sentN_succ {M : Mg} {k : Nat} (hk : k < M.l.length) : M.sentN (k + 1) = M.sentN k + M.l[k].sent := by
  unfold Mg.sentN
  rw [List.take_succ_eq_append_getElem hk, List.map_append, List.sum_append]; simp
theorem exN_succ {M : Mg} {k : Nat} (hk : k < M.l.length) : M.exN (k + 1) = M.exN k + (bif M.l[k].exited then 1 else 0) := by
  unfold Mg.exN
  rw [List.take_succ_eq_append_getElem hk, List.filter_append, List.length_append]
  cases h : M.l[k].exited <;> simp [h]
theorem exN_le (M : Mg) (k : Nat) : M.exN k ≤ k := by
  unfold Mg.exN
  exact Nat.le_trans (List.length_filter_le _ _) (by rw [List.length_take]; omega)
theorem merge_merger_int_stats_spec {f : Value} {M : Mg} {st : Nat} (hs : st ≤ 1000000) (hsn : ∀ k, M.sentN k ≤ 1000000) : Spec prog1 n_merge_merger_int_stats [.pointer (some ⟨b, 0, none⟩), .int .i64 (st : Int)] [ro (mrg b f M)] (fun R => R (.agg #[.int .i64 (st : Int), .int .i64 (M.sentN M.l.length : Int), .int .i64 ((M.exN M.l.length + (bif M.exited then 1 else 0) : Nat) : Int)]) []) := by
  refine spec_code c_merge_merger_int_stats rfl ?_; intro n F R hR; unfold F_merge_merger_int_stats
  refine at_openRP (mrg b f M) rfl ?_
  rintro ⟨⟨⟨lp, lc⟩, bs⟩, ⟨hp, hc⟩, ⟨sp, sc⟩, ⟨op, oc⟩⟩ ⟨⟨o1, o2, o3, o4⟩, hl⟩
  dsimp only at hl ⊢
  repeat' first | apply step | (apply g_op; · repeat first | exact Evs.nil | (apply Evs.cons; exact rfl)) | (refine Br.mk (fun _ => ?_) (fun _ => ?_) <;> try (exfalso; omega)) | (refine Sd.mk ?_ ?_; · ((repeat' apply And.intro) <;> first | omega | trivial | assumption | (simp; done) | (simp; omega))) | (refine Sx.mk ?_ ?_; · omega) | refine Fa.mk (fun _ => ?_) | refine Im.mk (fun _ => ?_) | apply Lw.go | refine g_cond ?_ | refine g_guard ?_ | refine g_keep ?_ | refine g_pass ?_ | refine g_fin ?_ | (apply g_ap; exact rfl; exact rfl; assumption)
  rename_i xr xo
  refine at_loopS (ι := Nat) (E := fun k => [(0, .pointer (some ⟨b, 0, none⟩)), (4, .pointer (some ⟨xr, 0, none⟩)), (5, .pointer (some ⟨xo, 0, none⟩)), (13, .slice lp bs.length lc), (14, .int .i64 (bs.length : Int)), (15, .int .i64 (k : Int))]) (Δ := fun k => pt xo [.int .i64 (st : Int), .int .i64 (M.sentN k : Int), .int .i64 (M.exN k : Int)] 0 :: pt xr [.int .i64 0, .int .i64 0, .int .i64 0] 0 :: ro (pt b [.slice lp bs.length lc, f, .slice hp M.heads.length hc, .slice sp M.has.length sc, .slice op M.out.length oc, .bool M.exited] 0) :: rdl kPtr lp bs :: ro (each snd bs M.l) :: F) (P := fun k => k ≤ M.l.length) (μ := fun k => M.l.length - k) 0 (Nat.zero_le _) ?_
  rintro k hk
  try dsimp only
  have hxl := exN_le M k
  have hsk := hsn k
  rcases Nat.lt_or_ge k M.l.length with hk' | hk'
  · have g1 := sentN_succ hk'
    have g2 := exN_succ hk'
    have hsk1 := hsn (k + 1)
    repeat' first | apply step | (apply g_op; · repeat first | exact Evs.nil | (apply Evs.cons; exact rfl)) | (refine Br.mk (fun _ => ?_) (fun _ => ?_) <;> try (exfalso; omega)) | (refine Sd.mk ?_ ?_; · ((repeat' apply And.intro) <;> first | omega | trivial | assumption | (simp; done) | (simp; omega))) | (refine Sx.mk ?_ ?_; · omega) | refine Fa.mk (fun _ => ?_) | refine Im.mk (fun _ => ?_) | apply Lw.go | refine g_cond ?_ | refine g_guard ?_ | refine g_keep ?_ | refine g_pass ?_ | refine g_fin ?_ | (apply g_ap; exact rfl; exact rfl; assumption)
    refine av_via (each_ro (g := snd) (xs := bs) (i := k) (by omega) hk') ?_
    refine av_openRP (snd bs[k] M.l[k]) rfl ?_
    rintro ⟨⟨p, c⟩, pb⟩ ⟨q1, q2⟩
    dsimp only at q1 q2 ⊢
    cases hx : M.l[k].exited
    · rw [hx] at g2
      repeat' first | apply step | (apply g_op; · repeat first | exact Evs.nil | (apply Evs.cons; exact rfl)) | (refine Br.mk (fun _ => ?_) (fun _ => ?_) <;> try (exfalso; omega)) | (refine Sd.mk ?_ ?_; · ((repeat' apply And.intro) <;> first | omega | trivial | assumption | (simp; done) | (simp; omega))) | (refine Sx.mk ?_ ?_; · omega) | refine Fa.mk (fun _ => ?_) | refine Im.mk (fun _ => ?_) | apply Lw.go | refine g_cond ?_ | refine g_guard ?_ | refine g_keep ?_ | refine g_pass ?_ | refine g_fin ?_ | (apply g_ap; exact rfl; exact rfl; assumption)
      exact lp_next (k + 1) (by omega) (by omega) (hs := by (try dsimp only); rw [g1, g2]; repeat first | exact Ent.refl _ | (apply Ent.more; · repeat first | exact Ent.keep | exact Ent.here | exact Ent.lend | exact ent_nil | apply Ent.there) | apply Ent.drop)
    · rw [hx] at g2
      repeat' first | apply step | (apply g_op; · repeat first | exact Evs.nil | (apply Evs.cons; exact rfl)) | (refine Br.mk (fun _ => ?_) (fun _ => ?_) <;> try (exfalso; omega)) | (refine Sd.mk ?_ ?_; · ((repeat' apply And.intro) <;> first | omega | trivial | assumption | (simp; done) | (simp; omega))) | (refine Sx.mk ?_ ?_; · omega) | refine Fa.mk (fun _ => ?_) | refine Im.mk (fun _ => ?_) | apply Lw.go | refine g_cond ?_ | refine g_guard ?_ | refine g_keep ?_ | refine g_pass ?_ | refine g_fin ?_ | (apply g_ap; exact rfl; exact rfl; assumption)
      exact lp_next (k + 1) (by omega) (by omega) (hs := by (try dsimp only); rw [g1, g2]; repeat first | exact Ent.refl _ | (apply Ent.more; · repeat first | exact Ent.keep | exact Ent.here | exact Ent.lend | exact ent_nil | apply Ent.there) | apply Ent.drop)
  · have hkk : k = M.l.length := by omega
    subst hkk
    cases hx : M.exited
    · rw [hx] at hR
      repeat' first | apply step | (apply g_op; · repeat first | exact Evs.nil | (apply Evs.cons; exact rfl)) | (refine Br.mk (fun _ => ?_) (fun _ => ?_) <;> try (exfalso; omega)) | (refine Sd.mk ?_ ?_; · ((repeat' apply And.intro) <;> first | omega | trivial | assumption | (simp; done) | (simp; omega))) | (refine Sx.mk ?_ ?_; · omega) | refine Fa.mk (fun _ => ?_) | refine Im.mk (fun _ => ?_) | apply Lw.go | refine g_cond ?_ | refine g_guard ?_ | refine g_keep ?_ | refine g_pass ?_ | refine g_fin ?_ | (apply g_ap; exact rfl; exact rfl; assumption)
      exact fin hR
    · rw [hx] at hR
      repeat' first | apply step | (apply g_op; · repeat first | exact Evs.nil | (apply Evs.cons; exact rfl)) | (refine Br.mk (fun _ => ?_) (fun _ => ?_) <;> try (exfalso; omega)) | (refine Sd.mk ?_ ?_; · ((repeat' apply And.intro) <;> first | omega | trivial | assumption | (simp; done) | (simp; omega))) | (refine Sx.mk ?_ ?_; · omega) | refine Fa.mk (fun _ => ?_) | refine Im.mk (fun _ => ?_) | apply Lw.go | refine g_cond ?_ | refine g_guard ?_ | refine g_keep ?_ | refine g_pass ?_ | refine g_fin ?_ | (apply g_ap; exact rfl; exact rfl; assumption)
      exact fin hR
end
end Go.AMS

namespace Go.AMS
open Go.AM hiding Kt At WP WL Runs RunsY
open Go.AM.G
set_option linter.unusedVariables false
set_option linter.unusedSimpArgs false
set_option linter.unusedSectionVars false
set_option maxRecDepth 100000
set_option maxHeartbeats 1000000
attribute [local irreducible] AtS AtV AtC AtG FinA Spec Post LP G.At G.WP G.WL pt own fro rdl ro hx mp lrec elt sub

open Go.AM.G.Set
section
/-- The first place of the least of so many things. -/
def bestN (v : Nat → Option Int) : Nat → Option Nat
  | 0 => none
  | k + 1 => match v k with
    | none => bestN v k
    | some x => match bestN v k with
      | none => some k
      | some b => if x < (v b).getD 0 then some k else some b
def putS (out : List Int) (x : Int) : List Int := if out.getLast? = some x then out else out ++ [x]
def hd (l : List (List Int)) (k : Nat) : Option Int := (l[k]?).bind List.head?
def cnt (l : List (List Int)) : Nat := (l.map List.length).sum
structure Ce where
  row : List Int
  sent : Nat
  q : List Int
  recv : Nat
  exited : Bool
  head : Int
  has : Bool
def Ce.sn (R : Nat) (c : Ce) : Sn := ⟨c.row, c.sent, ⟨R, c.q, c.exited, c.sent, c.recv⟩, c.exited⟩
structure Ms where
  c : List Ce
  out : List Int
  exited : Bool
def Ms.mg (R : Nat) (M : Ms) : Mg := ⟨M.c.map (Ce.sn R), M.c.map Ce.head, M.c.map Ce.has, M.out, M.exited⟩
def Ce.can (c : Ce) : Bool := !c.has && decide (0 < c.q.length)
def Ce.fll (c : Ce) : Bool := c.has || (c.exited && decide (c.q.length = 0))
def Ce.rdy (R : Nat) (c : Ce) : Bool := !c.exited && (decide (c.row.length ≤ c.sent) || decide (c.q.length < R))
def Ce.step (c : Ce) : Ce := if c.row.length ≤ c.sent then { c with exited := true } else { c with sent := c.sent + 1, q := c.q ++ [c.row.getD c.sent 0] }
def Ce.get (c : Ce) : Ce := { c with head := c.q.headD 0, q := c.q.tail, recv := c.recv + 1, has := true }
def Ce.off (c : Ce) : Ce := { c with has := false }
def Ce.w (c : Ce) : Nat := 3 * (c.row.length - c.sent) + 2 * c.q.length + (bif c.has then 1 else 0) + (bif c.exited then 0 else 1)
def Ce.hd (c : Ce) : Option Int := bif c.has then some c.head else none
def Ms.hv (M : Ms) (k : Nat) : Option Int := (M.c[k]?).bind Ce.hd
def Ms.recv (M : Ms) : Option Nat := M.c.findIdx? Ce.can
def Ms.full (M : Ms) : Bool := M.c.all Ce.fll
def Ms.least (M : Ms) : Option Nat := bestN M.hv M.c.length
def Ms.upd (M : Ms) (k : Nat) (f : Ce → Ce) : Ms := match M.c[k]? with
  | some c => { M with c := M.c.set k (f c) }
  | none => M
def Ms.put (M : Ms) : Ms := match M.least with
  | none => { M with exited := true }
  | some k => { M.upd k Ce.off with out := putS M.out ((M.hv k).getD 0) }
def Ms.step (M : Ms) : Ms := match M.recv with
  | some k => M.upd k Ce.get
  | none => M.put
def Ms.goes (R : Nat) (M : Ms) : Bool := !M.exited && (M.recv.isSome || M.full)
def Ms.ready (R : Nat) (M : Ms) : List Nat := ((List.range M.c.length).filter fun k => ((M.c[k]?).map (Ce.rdy R)).getD false) ++ (if M.goes R = true then [M.c.length] else [])
def Ms.mu (M : Ms) : Nat := (M.c.map Ce.w).sum + (bif M.exited then 0 else 1)
structure Ce.ok (R : Nat) (c : Ce) : Prop where
  s : c.sent ≤ c.row.length
  q : c.q.length ≤ R
  e : c.exited = true → c.sent = c.row.length
  v : c.recv + c.q.length = c.sent
  p : c.q = (c.row.take c.sent).drop c.recv
  n : c.row.length ≤ 1000
structure Ms.ok (R : Nat) (M : Ms) : Prop where
  r : 0 < R ∧ R ≤ 64
  n : M.c.length ≤ 1000
  c : ∀ c ∈ M.c, c.ok R
  o : M.out.length + M.mu ≤ 1000000
  x : M.exited = true → ∀ c ∈ M.c, c.w = 0
variable {R : Nat} {M : Ms} {k : Nat}
theorem recv_no (h : M.recv = none) : ∀ c ∈ M.c, c.can = false := List.findIdx?_eq_none_iff.1 h
end
end Go.AMS

namespace Go.AMS
open Go.AM hiding Kt At WP WL Runs RunsY
open Go.AM.G
set_option linter.unusedVariables false
set_option linter.unusedSimpArgs false
set_option linter.unusedSectionVars false
set_option maxRecDepth 100000
set_option maxHeartbeats 1000000
attribute [local irreducible] AtS AtV AtC AtG FinA Spec Post LP G.At G.WP G.WL pt own fro rdl ro hx mp lrec elt sub

open Go.AM.G.Set
section
abbrev ordV (n : Nat) : Value := .func (.func n) #[] #[]
def bI : Option Nat → Int
  | some k => k
  | none => -1
theorem bI_some (k : Nat) : bI (some k) = k := rfl
variable {b : Nat} {R : Nat} {M : Ms}
theorem mg_can {j : Nat} (hj : j < M.c.length) : (M.mg R).can j = M.c[j].can := by
  unfold Mg.can Ms.mg Ce.can; dsimp only
  rw [getD_lt (by simpa using hj), List.getElem?_map, List.getElem?_eq_getElem hj, List.getElem_map]; rfl
theorem mg_len : (M.mg R).l.length = M.c.length := by simp [Ms.mg]
theorem mg_recv : (M.mg R).recv = bI M.recv := by
  cases h : M.recv with
  | none =>
    refine recv_none fun j hj => ?_
    rw [mg_len] at hj
    rw [mg_can hj]; exact recv_no h _ (List.getElem_mem hj)
  | some k =>
    obtain ⟨h1, h2, h3⟩ := List.findIdx?_eq_some_iff_getElem.1 h
    refine recv_some (k := k) (by rw [mg_len]; exact h1) (by rw [mg_can h1]; exact h2) fun j hj => ?_
    rw [mg_can (by omega)]
    have := h3 j hj
    simpa using this
theorem mg_wants {j : Nat} (hj : j < M.c.length) : (M.mg R).wants j = !M.c[j].fll := by
  unfold Mg.wants Ms.mg Ce.fll; dsimp only
  rw [getD_lt (by simpa using hj), List.getElem?_map, List.getElem?_eq_getElem hj, List.getElem_map, Bool.not_or]; rfl
theorem mg_full : (M.mg R).full = M.full := by
  cases h : M.full with
  | true =>
    refine full_yes fun j hj => ?_
    rw [mg_len] at hj
    rw [mg_wants hj, List.all_eq_true.1 h _ (List.getElem_mem hj)]; rfl
  | false =>
    obtain ⟨c, hm, hf⟩ := List.all_eq_false.1 h
    obtain ⟨j, hj, rfl⟩ := List.mem_iff_getElem.1 hm
    refine full_no (k := j) (by rw [mg_len]; exact hj) ?_
    rw [mg_wants hj]; simpa using hf
theorem mg_ready : (M.mg R).readyL = (M.ready R).map Int.ofNat := by
  unfold Mg.readyL Ms.ready
  rw [List.map_append]
  congr 1
  · unfold Mg.goes
    rw [mg_len]
    congr 1
    refine List.filter_congr fun k _ => ?_
    show (((M.c.map (Ce.sn R))[k]?).map Sn.rdy).getD false = _
    rw [List.getElem?_map, Option.map_map]; rfl
  · have e : (!(M.mg R).exited && (decide (0 ≤ (M.mg R).recv) || (M.mg R).full)) = M.goes R := by
      unfold Ms.goes
      rw [mg_recv, mg_full]
      show (!M.exited && _) = _
      cases M.recv with
      | none => rfl
      | some k => rw [bI_some, decide_eq_true (by omega)]; rfl
    rw [e, mg_len]
    split <;> rfl
def Mg.hv (M : Mg) (k : Nat) : Option Int := bif M.has.getD k false then some (M.heads.getD k 0) else none
def Mg.least (M : Mg) : Option Nat := bestN M.hv M.l.length
theorem mg_ok (ok : M.ok R) : (M.mg R).ok := ⟨by simp [Ms.mg], by simp [Ms.mg], by rw [mg_len]; exact ok.n, by have := ok.o; show M.out.length ≤ _; omega⟩

end
end Go.AMS

namespace Go.AMS
open Go.AM hiding Kt At WP WL Runs RunsY
open Go.AM.G
set_option linter.unusedVariables false
set_option linter.unusedSimpArgs false
set_option linter.unusedSectionVars false
set_option maxRecDepth 100000
set_option maxHeartbeats 1000000
attribute [local irreducible] AtS AtV AtC AtG FinA Spec Post LP G.At G.WP G.WL pt own fro rdl ro hx mp lrec elt sub

open Go.AM.G.Set
section
def Ce.new (r : List Int) : Ce := ⟨r, 0, [], 0, false, 0, false⟩
def M0 (rows : List (List Int)) : Ms := ⟨rows.map Ce.new, [], false⟩
theorem sum_map_new (rows : List (List Int)) : ((rows.map Ce.new).map Ce.w).sum = 3 * cnt rows + rows.length := by
  induction rows with
  | nil => rfl
  | cons r rows ih =>
    simp only [List.map_cons, List.sum_cons, List.length_cons] at ih ⊢
    rw [ih]
    unfold cnt
    simp only [List.map_cons, List.sum_cons]
    show 3 * (r.length - 0) + 2 * 0 + 0 + 1 + _ = _
    omega
theorem M0_mu (rows : List (List Int)) : (M0 rows).mu = 3 * cnt rows + rows.length + 1 := by
  unfold Ms.mu M0; dsimp only; rw [sum_map_new]; rfl
theorem cnt_le {rows : List (List Int)} {k : Nat} (h : ∀ x ∈ rows, x.length ≤ k) : cnt rows ≤ k * rows.length := by
  induction rows with
  | nil => simp [cnt]
  | cons r rows ih =>
    have h1 := h r (by simp)
    have h2 := ih (fun x hx => h x (by simp [hx]))
    unfold cnt at *
    simp only [List.map_cons, List.sum_cons, List.length_cons, Nat.mul_add]
    omega
theorem M0_ok {rows : List (List Int)} {m : Nat} (h1 : 0 < m) (h2 : m ≤ 64) (hf : rows.length ≤ 20) (hr : ∀ x ∈ rows, x.length ≤ 40) : (M0 rows).ok m := by
  have hc := cnt_le hr
  refine ⟨⟨h1, h2⟩, by simp [M0]; omega, fun c hc => ?_, by rw [M0_mu]; simp [M0]; omega, fun h => (by cases h)⟩
  obtain ⟨r, hr', rfl⟩ := List.mem_map.1 hc
  have := hr r hr'
  exact ⟨Nat.zero_le _, Nat.zero_le _, fun h => (by cases h), rfl, by simp [Ce.new], by show r.length ≤ 1000; omega⟩
theorem sentN_le {m : Nat} {M : Ms} (ok : M.ok m) (k : Nat) : (M.mg m).sentN k ≤ 1000000 := by
  unfold Mg.sentN
  have hn := ok.n
  have : ∀ (l : List Sn), (∀ s ∈ l, s.sent ≤ 1000) → (l.map (·.sent)).sum ≤ 1000 * l.length := by
    intro l
    induction l with
    | nil => intro _; simp
    | cons a l ih =>
      intro h
      have h1 := h a (by simp)
      have h2 := ih (fun s hs => h s (by simp [hs]))
      simp only [List.map_cons, List.sum_cons, List.length_cons]; omega
  refine Nat.le_trans (this _ fun s hs => ?_) ?_
  · have hm := List.mem_of_mem_take hs
    obtain ⟨c, hc, rfl⟩ := List.mem_map.1 hm
    have h1 := (ok.c c hc).s; have h2 := (ok.c c hc).n
    show c.sent ≤ 1000; omega
  · have : ((M.mg m).l.take k).length ≤ M.c.length := by rw [List.length_take, mg_len]; omega
    omega
end
end Go.AMS

namespace Go.AMS
open Go.AM hiding Kt At WP WL Runs RunsY
open Go.AM.G
set_option linter.unusedVariables false
set_option linter.unusedSimpArgs false
set_option linter.unusedSectionVars false
set_option maxRecDepth 100000
set_option maxHeartbeats 1000000
attribute [local irreducible] AtS AtV AtC AtG FinA Spec Post LP G.At G.WP G.WL pt own fro rdl ro hx mp lrec elt sub

open Go.AM.G.Set
section
theorem r11_Few_spec {p : Option Addr} {c : Nat} {rows : List (List Int)} : Spec prog1 n_r11_Few [.slice p rows.length c] [rdl (kSl (kInt .i64)) p rows] (fun R => (rows.length ≤ 20 → (∀ x ∈ rows, x.length ≤ 40) → R (.bool true) []) ∧ R (.bool false) []) := by
  refine spec_code c_r11_Few rfl ?_; intro n F R hR; unfold F_r11_Few
  repeat' first | apply step | (apply g_op; · repeat first | exact Evs.nil | (apply Evs.cons; exact rfl)) | (refine Br.mk (fun _ => ?_) (fun _ => ?_) <;> try (exfalso; omega)) | (refine Sd.mk ?_ ?_; · ((repeat' apply And.intro) <;> first | omega | trivial | assumption | (simp; done) | (simp; omega))) | (refine Sx.mk ?_ ?_; · omega) | refine Fa.mk (fun _ => ?_) | refine Im.mk (fun _ => ?_) | apply Lw.go | refine g_cond ?_ | refine g_guard ?_ | refine g_keep ?_ | refine g_pass ?_ | refine g_fin ?_ | (apply g_ap; exact rfl; exact rfl; assumption)
  · exact fin hR.2
  have hln : rows.length ≤ 20 := by omega
  refine at_loopS (ι := Nat) (E := fun k => [(0, .slice p rows.length c), (3, .int .i64 (k : Int))]) (Δ := fun k => rdl (kSl (kInt .i64)) p rows :: F) (P := fun k => k ≤ rows.length ∧ ∀ x ∈ rows.take k, x.length ≤ 40) (μ := fun k => rows.length - k) 0 ⟨Nat.zero_le _, by simp⟩ ?_
  rintro k ⟨hk, hle⟩
  try dsimp only
  repeat' first | apply step | (apply g_op; · repeat first | exact Evs.nil | (apply Evs.cons; exact rfl)) | (refine Br.mk (fun _ => ?_) (fun _ => ?_) <;> try (exfalso; omega)) | (refine Sd.mk ?_ ?_; · ((repeat' apply And.intro) <;> first | omega | trivial | assumption | (simp; done) | (simp; omega))) | (refine Sx.mk ?_ ?_; · omega) | refine Fa.mk (fun _ => ?_) | refine Im.mk (fun _ => ?_) | apply Lw.go | refine g_cond ?_ | refine g_guard ?_ | refine g_keep ?_ | refine g_pass ?_ | refine g_fin ?_ | (apply g_ap; exact rfl; exact rfl; assumption)
  · exact fin hR.2
  · have hk' : k < rows.length := by omega
    refine lp_next (k + 1) ⟨by omega, fun x hx => ?_⟩ (by omega)
    rw [List.take_succ_eq_append_getElem hk'] at hx
    rcases List.mem_append.1 hx with hx | hx
    · exact hle x hx
    · rw [List.mem_singleton.1 hx]; omega
  · have e : rows.take k = rows := List.take_of_length_le (by omega)
    rw [e] at hle
    exact fin (hR.1 hln hle)
end
end Go.AMS

namespace Go.AMS
open Go.AM hiding Kt At WP WL Runs RunsY
open Go.AM.G
set_option linter.unusedVariables false
set_option linter.unusedSimpArgs false
set_option linter.unusedSectionVars false
set_option maxRecDepth 100000
set_option maxHeartbeats 1000000
attribute [local irreducible] AtS AtV AtC AtG FinA Spec Post LP G.At G.WP G.WL pt own fro rdl ro hx mp lrec elt sub

open Go.AM.G.Set
section
theorem l11_works_spec : Spec prog1 n_l11_works [] [] (fun R => R (.bool true) []) := closed_spec c_l11_works
end
end Go.AMS

namespace Go.AMS
open Go.AM hiding Kt At WP WL Runs RunsY
open Go.AM.G
set_option linter.unusedVariables false
set_option linter.unusedSimpArgs false
set_option linter.unusedSectionVars false
set_option maxRecDepth 100000
set_option maxHeartbeats 1000000
attribute [local irreducible] AtS AtV AtC AtG FinA Spec Post LP G.At G.WP G.WL pt own fro rdl ro hx mp lrec elt sub

open Go.AM.G.Set
section
theorem picks_Script_Step_nilG {p : Option Addr} {c : Nat} {r : List Int} (hr : r.length ≤ 1000000) : Spec prog1 n_picks_Script_Step [.pointer none, .slice p r.length c] [rdl (kInt .i64) p r] (fun R => R (.tuple #[.int .i64 0, .int .i64 1]) []) := by
  refine spec_code c_picks_Script_Step rfl ?_; intro n F R hR; unfold F_picks_Script_Step
  repeat' first | apply step | (apply g_op; · repeat first | exact Evs.nil | (apply Evs.cons; exact rfl)) | (refine Br.mk (fun _ => ?_) (fun _ => ?_) <;> try (exfalso; omega)) | (refine Sd.mk ?_ ?_; · ((repeat' apply And.intro) <;> first | omega | trivial | assumption | (simp; done) | (simp; omega))) | (refine Sx.mk ?_ ?_; · omega) | refine Fa.mk (fun _ => ?_) | refine Im.mk (fun _ => ?_) | apply Lw.go | refine g_cond ?_ | refine g_guard ?_ | refine g_keep ?_ | refine g_pass ?_ | refine g_fin ?_ | (apply g_ap; exact rfl; exact rfl; assumption)
  first | refine at_callS (sorted_Of_int_spec (l := r) (by omega)) ?_ | refine at_callR (sorted_Of_int_spec (l := r) (by omega)) ?_
  intro p1 c1
  repeat' first | apply step | (apply g_op; · repeat first | exact Evs.nil | (apply Evs.cons; exact rfl)) | (refine Br.mk (fun _ => ?_) (fun _ => ?_) <;> try (exfalso; omega)) | (refine Sd.mk ?_ ?_; · ((repeat' apply And.intro) <;> first | omega | trivial | assumption | (simp; done) | (simp; omega))) | (refine Sx.mk ?_ ?_; · omega) | refine Fa.mk (fun _ => ?_) | refine Im.mk (fun _ => ?_) | apply Lw.go | refine g_cond ?_ | refine g_guard ?_ | refine g_keep ?_ | refine g_pass ?_ | refine g_fin ?_ | (apply g_ap; exact rfl; exact rfl; assumption)
  first | refine at_callS (picks_Script_is_nil) ?_ | refine at_callR (picks_Script_is_nil) ?_
  repeat' first | apply step | (apply g_op; · repeat first | exact Evs.nil | (apply Evs.cons; exact rfl)) | (refine Br.mk (fun _ => ?_) (fun _ => ?_) <;> try (exfalso; omega)) | (refine Sd.mk ?_ ?_; · ((repeat' apply And.intro) <;> first | omega | trivial | assumption | (simp; done) | (simp; omega))) | (refine Sx.mk ?_ ?_; · omega) | refine Fa.mk (fun _ => ?_) | refine Im.mk (fun _ => ?_) | apply Lw.go | refine g_cond ?_ | refine g_guard ?_ | refine g_keep ?_ | refine g_pass ?_ | refine g_fin ?_ | (apply g_ap; exact rfl; exact rfl; assumption)
  exact fin hR
theorem merge_Run_int_noc {p : Option Addr} {c : Nat} {n : Nat} {sp : Value} : Spec prog1 n_merge_Run_int [.slice p n c, .nilFunc, .int .i64 1, sp] [] (fun R => R (.tuple #[.slice none 0 0, .agg #[.int .i64 0, .int .i64 0, .int .i64 0], .int .i64 2]) []) := by
  refine spec_code c_merge_Run_int rfl ?_; intro n F R hR; unfold F_merge_Run_int
  repeat' first | apply step | (apply g_op; · repeat first | exact Evs.nil | (apply Evs.cons; exact rfl)) | (refine Br.mk (fun _ => ?_) (fun _ => ?_) <;> try (exfalso; omega)) | (refine Sd.mk ?_ ?_; · ((repeat' apply And.intro) <;> first | omega | trivial | assumption | (simp; done) | (simp; omega))) | (refine Sx.mk ?_ ?_; · omega) | refine Fa.mk (fun _ => ?_) | refine Im.mk (fun _ => ?_) | apply Lw.go | refine g_cond ?_ | refine g_guard ?_ | refine g_keep ?_ | refine g_pass ?_ | refine g_fin ?_ | (apply g_ap; exact rfl; exact rfl; assumption)
  first | refine at_callS (pipe_New_int_spec (w := 1)) ?_ | refine at_callR (pipe_New_int_spec (w := 1)) ?_
  refine ⟨fun h => by exfalso; omega, fun m hm h1 h2 b => ?_⟩
  repeat' first | apply step | (apply g_op; · repeat first | exact Evs.nil | (apply Evs.cons; exact rfl)) | (refine Br.mk (fun _ => ?_) (fun _ => ?_) <;> try (exfalso; omega)) | (refine Sd.mk ?_ ?_; · ((repeat' apply And.intro) <;> first | omega | trivial | assumption | (simp; done) | (simp; omega))) | (refine Sx.mk ?_ ?_; · omega) | refine Fa.mk (fun _ => ?_) | refine Im.mk (fun _ => ?_) | apply Lw.go | refine g_cond ?_ | refine g_guard ?_ | refine g_keep ?_ | refine g_pass ?_ | refine g_fin ?_ | (apply g_ap; exact rfl; exact rfl; assumption)
  exact fin hR
theorem merge_Rows_int_noc {p : Option Addr} {c n : Nat} : Spec prog1 n_merge_Rows_int [.slice p n c, .nilFunc] [] (fun R => R (.slice none 0 0) []) := by
  refine spec_code c_merge_Rows_int rfl ?_; intro n F R hR; unfold F_merge_Rows_int
  repeat' first | apply step | (apply g_op; · repeat first | exact Evs.nil | (apply Evs.cons; exact rfl)) | (refine Br.mk (fun _ => ?_) (fun _ => ?_) <;> try (exfalso; omega)) | (refine Sd.mk ?_ ?_; · ((repeat' apply And.intro) <;> first | omega | trivial | assumption | (simp; done) | (simp; omega))) | (refine Sx.mk ?_ ?_; · omega) | refine Fa.mk (fun _ => ?_) | refine Im.mk (fun _ => ?_) | apply Lw.go | refine g_cond ?_ | refine g_guard ?_ | refine g_keep ?_ | refine g_pass ?_ | refine g_fin ?_ | (apply g_ap; exact rfl; exact rfl; assumption)
  exact fin hR
theorem M0_sent {m : Nat} (rows : List (List Int)) : ((M0 rows).mg m).sentN ((M0 rows).mg m).l.length = 0 := by
  unfold Mg.sentN
  rw [List.take_length]
  refine List.sum_eq_zero_iff_forall_eq_nat.2 fun n hn => ?_
  obtain ⟨s, hs, rfl⟩ := List.mem_map.1 hn
  obtain ⟨c, hc, rfl⟩ := List.mem_map.1 hs
  obtain ⟨r, _, rfl⟩ := List.mem_map.1 hc
  rfl
theorem M0_ex {m : Nat} (rows : List (List Int)) : ((M0 rows).mg m).exN ((M0 rows).mg m).l.length = 0 := by
  unfold Mg.exN
  rw [List.take_length, List.filter_eq_nil_iff.2]
  · rfl
  · intro s hs
    obtain ⟨c, hc, rfl⟩ := List.mem_map.1 hs
    obtain ⟨r, _, rfl⟩ := List.mem_map.1 hc
    simp [Ce.sn, Ce.new]
theorem merge_Run_int_nos {p : Option Addr} {c : Nat} {rows : List (List Int)} {w : Int} (hf : rows.length ≤ 20) (hr : ∀ x ∈ rows, x.length ≤ 40) : Spec prog1 n_merge_Run_int [.slice p rows.length c, ordV n_l11_order, .int .i64 w, .pointer none] [fro (kSl (kInt .i64)) p c rows] (fun R => R (.tuple #[.slice none 0 0, .agg #[.int .i64 0, .int .i64 0, .int .i64 0], .int .i64 (if w < 1 ∨ 64 < w then 2 else 1)]) []) := by
  refine spec_code c_merge_Run_int rfl ?_; intro n F R hR; unfold F_merge_Run_int
  repeat' first | apply step | (apply g_op; · repeat first | exact Evs.nil | (apply Evs.cons; exact rfl)) | (refine Br.mk (fun _ => ?_) (fun _ => ?_) <;> try (exfalso; omega)) | (refine Sd.mk ?_ ?_; · ((repeat' apply And.intro) <;> first | omega | trivial | assumption | (simp; done) | (simp; omega))) | (refine Sx.mk ?_ ?_; · omega) | refine Fa.mk (fun _ => ?_) | refine Im.mk (fun _ => ?_) | apply Lw.go | refine g_cond ?_ | refine g_guard ?_ | refine g_keep ?_ | refine g_pass ?_ | refine g_fin ?_ | (apply g_ap; exact rfl; exact rfl; assumption)
  first | refine at_callS (pipe_New_int_spec (w := w)) ?_ | refine at_callR (pipe_New_int_spec (w := w)) ?_
  refine ⟨fun h => ?_, fun m hm h1 h2 b => ?_⟩
  · rw [if_pos h] at hR
    repeat' first | apply step | (apply g_op; · repeat first | exact Evs.nil | (apply Evs.cons; exact rfl)) | (refine Br.mk (fun _ => ?_) (fun _ => ?_) <;> try (exfalso; omega)) | (refine Sd.mk ?_ ?_; · ((repeat' apply And.intro) <;> first | omega | trivial | assumption | (simp; done) | (simp; omega))) | (refine Sx.mk ?_ ?_; · omega) | refine Fa.mk (fun _ => ?_) | refine Im.mk (fun _ => ?_) | apply Lw.go | refine g_cond ?_ | refine g_guard ?_ | refine g_keep ?_ | refine g_pass ?_ | refine g_fin ?_ | (apply g_ap; exact rfl; exact rfl; assumption)
    exact fin hR
  rw [if_neg (by omega)] at hR
  repeat' first | apply step | (apply g_op; · repeat first | exact Evs.nil | (apply Evs.cons; exact rfl)) | (refine Br.mk (fun _ => ?_) (fun _ => ?_) <;> try (exfalso; omega)) | (refine Sd.mk ?_ ?_; · ((repeat' apply And.intro) <;> first | omega | trivial | assumption | (simp; done) | (simp; omega))) | (refine Sx.mk ?_ ?_; · omega) | refine Fa.mk (fun _ => ?_) | refine Im.mk (fun _ => ?_) | apply Lw.go | refine g_cond ?_ | refine g_guard ?_ | refine g_keep ?_ | refine g_pass ?_ | refine g_fin ?_ | (apply g_ap; exact rfl; exact rfl; assumption)
  rename_i x9 _ hb kb mb xm
  subst hm
  have hf' : (rows.map Ce.new).length ≤ 20 := by simpa using hf
  -- the senders
  refine at_loopS (ι := Nat × (Option Addr × Nat) × List Nat) (E := fun k => [(2, .int .i64 (m : Int)), (3, .pointer none), (9, .pointer (some ⟨x9, 0, none⟩)), (13, .pointer (some ⟨xm, 0, none⟩)), (43, .slice p rows.length c), (44, .int .i64 (rows.length : Int)), (45, .int .i64 (k.1 : Int))]) (Δ := fun k => pt xm [.pointer (some ⟨mb, 0, none⟩)] 0 :: pt mb [.slice k.2.1.1 k.2.2.length k.2.1.2, ordV n_l11_order, .slice (some ⟨hb, 0, none⟩) rows.length rows.length, .slice (some ⟨kb, 0, none⟩) rows.length rows.length, .slice none 0 0, .bool false] 0 :: own kPtr k.2.1.1 k.2.1.2 k.2.2 :: each snd k.2.2 (((rows.map Ce.new).map (Ce.sn m)).take k.1) :: own (kInt .i64) (some ⟨hb, 0, none⟩) rows.length (List.replicate rows.length 0) :: own kBool (some ⟨kb, 0, none⟩) rows.length (List.replicate rows.length false) :: pt x9 [.int .i64 0, .int .i64 0, .int .i64 0] 0 :: fro (kSl (kInt .i64)) p c rows :: F) (P := fun k => k.1 ≤ rows.length ∧ k.2.2.length = k.1) (μ := fun k => rows.length - k.1) (0, (none, 0), []) ⟨Nat.zero_le _, rfl⟩ ?_ (hs := by
    (apply Ent.more; · repeat first | exact Ent.here | apply Ent.there)
    (apply Ent.more; · repeat first | exact Ent.here | apply Ent.there)
    (apply Ent.more; · exact ent_nil)
    (apply Ent.more; · exact each_nil)
    repeat first | exact Ent.refl _ | (apply Ent.more; · repeat first | exact Ent.keep | exact Ent.here | exact Ent.lend | exact ent_nil | apply Ent.there) | apply Ent.drop)
  · rintro ⟨k, ⟨lp, lc⟩, bs⟩ ⟨hk, hbl⟩
    dsimp only at hk hbl ⊢
    rcases Nat.lt_or_ge k rows.length with hk' | hk'
    · have hrk := hr _ (List.getElem_mem hk')
      repeat' first | apply step | (apply g_op; · repeat first | exact Evs.nil | (apply Evs.cons; exact rfl)) | (refine Br.mk (fun _ => ?_) (fun _ => ?_) <;> try (exfalso; omega)) | (refine Sd.mk ?_ ?_; · ((repeat' apply And.intro) <;> first | omega | trivial | assumption | (simp; done) | (simp; omega))) | (refine Sx.mk ?_ ?_; · omega) | refine Fa.mk (fun _ => ?_) | refine Im.mk (fun _ => ?_) | apply Lw.go | refine g_cond ?_ | refine g_guard ?_ | refine g_keep ?_ | refine g_pass ?_ | refine g_fin ?_ | (apply g_ap; exact rfl; exact rfl; assumption)
      rename_i rp rc hrl
      first | refine at_callS (pipe_New_int_spec (w := (m : Int))) ?_ | refine at_callR (pipe_New_int_spec (w := (m : Int))) ?_
      refine ⟨fun h => by exfalso; omega, fun m' hm' h1' h2' pb => ?_⟩
      obtain rfl : m = m' := by omega
      repeat' first | apply step | (apply g_op; · repeat first | exact Evs.nil | (apply Evs.cons; exact rfl)) | (refine Br.mk (fun _ => ?_) (fun _ => ?_) <;> try (exfalso; omega)) | (refine Sd.mk ?_ ?_; · ((repeat' apply And.intro) <;> first | omega | trivial | assumption | (simp; done) | (simp; omega))) | (refine Sx.mk ?_ ?_; · omega) | refine Fa.mk (fun _ => ?_) | refine Im.mk (fun _ => ?_) | apply Lw.go | refine g_cond ?_ | refine g_guard ?_ | refine g_keep ?_ | refine g_pass ?_ | refine g_fin ?_ | (apply g_ap; exact rfl; exact rfl; assumption)
      refine at_opsKS xm 10 (fun sz hsz => ?_)
      repeat' first | apply step | (apply g_op; · repeat first | exact Evs.nil | (apply Evs.cons; exact rfl)) | (refine Br.mk (fun _ => ?_) (fun _ => ?_) <;> try (exfalso; omega)) | (refine Sd.mk ?_ ?_; · ((repeat' apply And.intro) <;> first | omega | trivial | assumption | (simp; done) | (simp; omega))) | (refine Sx.mk ?_ ?_; · omega) | refine Fa.mk (fun _ => ?_) | refine Im.mk (fun _ => ?_) | apply Lw.go | refine g_cond ?_ | refine g_guard ?_ | refine g_keep ?_ | refine g_pass ?_ | refine g_fin ?_ | (apply g_ap; exact rfl; exact rfl; assumption)
      refine kp1 xm ?_ hsz
      repeat' first | apply step | (apply g_op; · repeat first | exact Evs.nil | (apply Evs.cons; exact rfl)) | (refine Br.mk (fun _ => ?_) (fun _ => ?_) <;> try (exfalso; omega)) | (refine Sd.mk ?_ ?_; · ((repeat' apply And.intro) <;> first | omega | trivial | assumption | (simp; done) | (simp; omega))) | (refine Sx.mk ?_ ?_; · omega) | refine Fa.mk (fun _ => ?_) | refine Im.mk (fun _ => ?_) | apply Lw.go | refine g_cond ?_ | refine g_guard ?_ | refine g_keep ?_ | refine g_pass ?_ | refine g_fin ?_ | (apply g_ap; exact rfl; exact rfl; assumption)
      rename_i sbk _ lp2 lc2
      refine kp2 ?_
      repeat' first | apply step | (apply g_op; · repeat first | exact Evs.nil | (apply Evs.cons; exact rfl)) | (refine Br.mk (fun _ => ?_) (fun _ => ?_) <;> try (exfalso; omega)) | (refine Sd.mk ?_ ?_; · ((repeat' apply And.intro) <;> first | omega | trivial | assumption | (simp; done) | (simp; omega))) | (refine Sx.mk ?_ ?_; · omega) | refine Fa.mk (fun _ => ?_) | refine Im.mk (fun _ => ?_) | apply Lw.go | refine g_cond ?_ | refine g_guard ?_ | refine g_keep ?_ | refine g_pass ?_ | refine g_fin ?_ | (apply g_ap; exact rfl; exact rfl; assumption)
      have hkc : k < (rows.map Ce.new).length := by simpa using hk'
      have hsn : ((rows.map Ce.new).map (Ce.sn m))[k]'(by simpa using hk') = (Ce.new rows[k]).sn m := by simp
      refine at_foldP (snd sbk ((Ce.new rows[k]).sn m)) rfl ((rp, rc), pb) ⟨by show rows[k].length ≤ 1000; omega, Nat.zero_le _⟩ ?_
      refine at_via2 (each_snoc (g := snd) (a := sbk) (b := (Ce.new rows[k]).sn m) (xs := bs) (ys := ((rows.map Ce.new).map (Ce.sn m)).take k) (by simp; omega)) ?_
      rw [← hsn, take_snoc (by simpa using hk')]
      exact lp_next (k + 1, (lp2, lc2), bs ++ [sbk]) ⟨by dsimp only; omega, by simp; omega⟩ (by dsimp only; omega)
    · have hkk : k = rows.length := by omega
      subst hkk
      repeat' first | apply step | (apply g_op; · repeat first | exact Evs.nil | (apply Evs.cons; exact rfl)) | (refine Br.mk (fun _ => ?_) (fun _ => ?_) <;> try (exfalso; omega)) | (refine Sd.mk ?_ ?_; · ((repeat' apply And.intro) <;> first | omega | trivial | assumption | (simp; done) | (simp; omega))) | (refine Sx.mk ?_ ?_; · omega) | refine Fa.mk (fun _ => ?_) | refine Im.mk (fun _ => ?_) | apply Lw.go | refine g_cond ?_ | refine g_guard ?_ | refine g_keep ?_ | refine g_pass ?_ | refine g_fin ?_ | (apply g_ap; exact rfl; exact rfl; assumption)
      rename_i xs
      have ok0 := M0_ok h1 h2 hf hr
      have hmu0 := M0_mu rows
      have hc0 := cnt_le hr
      have e1 : ((M0 rows).mg m).heads.length = rows.length := by simp [M0, Ms.mg]
      have e2 : ((M0 rows).mg m).has.length = rows.length := by simp [M0, Ms.mg]
      have e3 : ((M0 rows).mg m).heads = List.replicate rows.length 0 := by
        refine List.eq_replicate_iff.2 ⟨e1, fun x hx => ?_⟩
        obtain ⟨c, hc, rfl⟩ := List.mem_map.1 hx
        obtain ⟨r, _, rfl⟩ := List.mem_map.1 hc
        rfl
      have e4 : ((M0 rows).mg m).has = List.replicate rows.length false := by
        refine List.eq_replicate_iff.2 ⟨e2, fun x hx => ?_⟩
        obtain ⟨c, hc, rfl⟩ := List.mem_map.1 hx
        obtain ⟨r, _, rfl⟩ := List.mem_map.1 hc
        rfl
      have e5 : ((rows.map Ce.new).map (Ce.sn m)).take rows.length = ((M0 rows).mg m).l := List.take_of_length_le (by simp)
      rw [e5]
      refine at_foldP (mrg mb (ordV n_l11_order) ((M0 rows).mg m)) rfl (((lp, lc), bs), (some ⟨hb, 0, none⟩, rows.length), (some ⟨kb, 0, none⟩, rows.length), (none, 0)) ⟨mg_ok ok0, by rw [mg_len]; simp [M0]; exact hbl⟩ ?_ (h2 := by
        dsimp only
        rw [e1, e2, e3, e4]
        (apply Ent.more; · repeat first | exact Ent.here | apply Ent.there)
        (apply Ent.more; · repeat first | exact Ent.here | apply Ent.there)
        (apply Ent.more; · repeat first | exact Ent.here | apply Ent.there)
        (apply Ent.more; · repeat first | exact Ent.here | apply Ent.there)
        (apply Ent.more; · repeat first | exact Ent.here | apply Ent.there)
        (apply Ent.more; · exact ent_nil)
        exact Ent.refl _)
      refine at_loopS (ι := Unit) (E := fun w => [(3, .pointer none), (9, .pointer (some ⟨x9, 0, none⟩)), (13, .pointer (some ⟨xm, 0, none⟩)), (18, .pointer (some ⟨xs, 0, none⟩)), (19, .func (.func n_merge_Run_int_c1) #[] #[.pointer (some ⟨xs, 0, none⟩), .pointer (some ⟨xm, 0, none⟩)])]) (Δ := fun w => pt xs [.int .i64 0] 0 :: pt xm [.pointer (some ⟨mb, 0, none⟩)] 0 :: mrg mb (ordV n_l11_order) ((M0 rows).mg m) :: pt x9 [.int .i64 0, .int .i64 0, .int .i64 0] 0 :: F) (P := fun _ => True) (μ := fun _ => 0) () trivial ?_
      rintro _ _
      try dsimp only
      have hsn := fun k => sentN_le ok0 k
      have hxm : ((M0 rows).mg m).exited = false := rfl
      repeat' first | apply step | (apply g_op; · repeat first | exact Evs.nil | (apply Evs.cons; exact rfl)) | (refine Br.mk (fun _ => ?_) (fun _ => ?_) <;> try (exfalso; omega)) | (refine Sd.mk ?_ ?_; · ((repeat' apply And.intro) <;> first | omega | trivial | assumption | (simp; done) | (simp; omega))) | (refine Sx.mk ?_ ?_; · omega) | refine Fa.mk (fun _ => ?_) | refine Im.mk (fun _ => ?_) | apply Lw.go | refine g_cond ?_ | refine g_guard ?_ | refine g_keep ?_ | refine g_pass ?_ | refine g_fin ?_ | (apply g_ap; exact rfl; exact rfl; assumption)
      first | refine at_openP (mrg mb (ordV n_l11_order) ((M0 rows).mg m)) rfl ?_ | refine av_openP (mrg mb (ordV n_l11_order) ((M0 rows).mg m)) rfl ?_
      rintro ⟨⟨⟨lp, lc⟩, bs⟩, ⟨hp, hc⟩, ⟨sp, sc⟩, ⟨op, oc⟩⟩ ⟨mo, hl⟩
      dsimp only at hl ⊢
      repeat' first | apply step | (apply g_op; · repeat first | exact Evs.nil | (apply Evs.cons; exact rfl)) | (refine Br.mk (fun _ => ?_) (fun _ => ?_) <;> try (exfalso; omega)) | (refine Sd.mk ?_ ?_; · ((repeat' apply And.intro) <;> first | omega | trivial | assumption | (simp; done) | (simp; omega))) | (refine Sx.mk ?_ ?_; · omega) | refine Fa.mk (fun _ => ?_) | refine Im.mk (fun _ => ?_) | apply Lw.go | refine g_cond ?_ | refine g_guard ?_ | refine g_keep ?_ | refine g_pass ?_ | refine g_fin ?_ | (apply g_ap; exact rfl; exact rfl; assumption)
      all_goals first | (exfalso; rename_i q; rw [hxm] at q; simp at q; done) | skip
      refine av_foldP (mrg mb (ordV n_l11_order) ((M0 rows).mg m)) rfl (((lp, lc), bs), (hp, hc), (sp, sc), (op, oc)) ⟨mo, hl⟩ ?_
      first | refine at_callS (merge_merger_int_ready_spec (f := (ordV n_l11_order)) (M := (M0 rows).mg m)) ?_ | refine at_callR (merge_merger_int_ready_spec (f := (ordV n_l11_order)) (M := (M0 rows).mg m)) ?_
      rw [mg_ready]
      intro pr cr
      repeat' first | apply step | (apply g_op; · repeat first | exact Evs.nil | (apply Evs.cons; exact rfl)) | (refine Br.mk (fun _ => ?_) (fun _ => ?_) <;> try (exfalso; omega)) | (refine Sd.mk ?_ ?_; · ((repeat' apply And.intro) <;> first | omega | trivial | assumption | (simp; done) | (simp; omega))) | (refine Sx.mk ?_ ?_; · omega) | refine Fa.mk (fun _ => ?_) | refine Im.mk (fun _ => ?_) | apply Lw.go | refine g_cond ?_ | refine g_guard ?_ | refine g_keep ?_ | refine g_pass ?_ | refine g_fin ?_ | (apply g_ap; exact rfl; exact rfl; assumption)
      have hlen : (((M0 rows).ready m).map Int.ofNat).length ≤ 1000000 := by
        rw [List.length_map]
        have h1 : ((M0 rows).ready m).length ≤ (M0 rows).c.length + 1 := by
          unfold Ms.ready
          rw [List.length_append]
          have := List.length_filter_le (fun k => (((M0 rows).c[k]?).map (Ce.rdy m)).getD false) (List.range (M0 rows).c.length)
          rw [List.length_range] at this
          split <;> simp <;> omega
        have := ok0.n; omega
      first | refine at_callS (picks_Script_Step_nilG (r := ((M0 rows).ready m).map Int.ofNat) hlen) ?_ | refine at_callR (picks_Script_Step_nilG (r := ((M0 rows).ready m).map Int.ofNat) hlen) ?_
      repeat' first | apply step | (apply g_op; · repeat first | exact Evs.nil | (apply Evs.cons; exact rfl)) | (refine Br.mk (fun _ => ?_) (fun _ => ?_) <;> try (exfalso; omega)) | (refine Sd.mk ?_ ?_; · ((repeat' apply And.intro) <;> first | omega | trivial | assumption | (simp; done) | (simp; omega))) | (refine Sx.mk ?_ ?_; · omega) | refine Fa.mk (fun _ => ?_) | refine Im.mk (fun _ => ?_) | apply Lw.go | refine g_cond ?_ | refine g_guard ?_ | refine g_keep ?_ | refine g_pass ?_ | refine g_fin ?_ | (apply g_ap; exact rfl; exact rfl; assumption)
      first | refine at_callS (merge_merger_int_stats_spec (f := (ordV n_l11_order)) (M := (M0 rows).mg m) (st := 0) (by omega) hsn) ?_ | refine at_callR (merge_merger_int_stats_spec (f := (ordV n_l11_order)) (M := (M0 rows).mg m) (st := 0) (by omega) hsn) ?_
      rw [M0_sent, M0_ex]
      repeat' first | apply step | (apply g_op; · repeat first | exact Evs.nil | (apply Evs.cons; exact rfl)) | (refine Br.mk (fun _ => ?_) (fun _ => ?_) <;> try (exfalso; omega)) | (refine Sd.mk ?_ ?_; · ((repeat' apply And.intro) <;> first | omega | trivial | assumption | (simp; done) | (simp; omega))) | (refine Sx.mk ?_ ?_; · omega) | refine Fa.mk (fun _ => ?_) | refine Im.mk (fun _ => ?_) | apply Lw.go | refine g_cond ?_ | refine g_guard ?_ | refine g_keep ?_ | refine g_pass ?_ | refine g_fin ?_ | (apply g_ap; exact rfl; exact rfl; assumption)
      exact fin hR
theorem l11_MergeNone_spec {p : Option Addr} {c : Nat} {rows : List (List Int)} {w : Int} (hw : -9223372036854775808 ≤ w ∧ w ≤ 9223372036854775807) : Spec prog1 n_l11_MergeNone [.slice p rows.length c, .int .i64 w] [fro (kSl (kInt .i64)) p c rows] (fun R => R (.bool true) []) := by
  refine spec_code c_l11_MergeNone rfl ?_; intro n F R hR; unfold F_l11_MergeNone
  repeat' first | apply step | (apply g_op; · repeat first | exact Evs.nil | (apply Evs.cons; exact rfl)) | (refine Br.mk (fun _ => ?_) (fun _ => ?_) <;> try (exfalso; omega)) | (refine Sd.mk ?_ ?_; · ((repeat' apply And.intro) <;> first | omega | trivial | assumption | (simp; done) | (simp; omega))) | (refine Sx.mk ?_ ?_; · omega) | refine Fa.mk (fun _ => ?_) | refine Im.mk (fun _ => ?_) | apply Lw.go | refine g_cond ?_ | refine g_guard ?_ | refine g_keep ?_ | refine g_pass ?_ | refine g_fin ?_ | (apply g_ap; exact rfl; exact rfl; assumption)
  first | refine at_callS (r11_Few_spec (rows := rows)) ?_ | refine at_callR (r11_Few_spec (rows := rows)) ?_
  refine ⟨fun hf hr => ?_, ?_⟩
  rotate_left
  · repeat' first | apply step | (apply g_op; · repeat first | exact Evs.nil | (apply Evs.cons; exact rfl)) | (refine Br.mk (fun _ => ?_) (fun _ => ?_) <;> try (exfalso; omega)) | (refine Sd.mk ?_ ?_; · ((repeat' apply And.intro) <;> first | omega | trivial | assumption | (simp; done) | (simp; omega))) | (refine Sx.mk ?_ ?_; · omega) | refine Fa.mk (fun _ => ?_) | refine Im.mk (fun _ => ?_) | apply Lw.go | refine g_cond ?_ | refine g_guard ?_ | refine g_keep ?_ | refine g_pass ?_ | refine g_fin ?_ | (apply g_ap; exact rfl; exact rfl; assumption)
    first | refine at_callS (l11_works_spec) ?_ | refine at_callR (l11_works_spec) ?_
    repeat' first | apply step | (apply g_op; · repeat first | exact Evs.nil | (apply Evs.cons; exact rfl)) | (refine Br.mk (fun _ => ?_) (fun _ => ?_) <;> try (exfalso; omega)) | (refine Sd.mk ?_ ?_; · ((repeat' apply And.intro) <;> first | omega | trivial | assumption | (simp; done) | (simp; omega))) | (refine Sx.mk ?_ ?_; · omega) | refine Fa.mk (fun _ => ?_) | refine Im.mk (fun _ => ?_) | apply Lw.go | refine g_cond ?_ | refine g_guard ?_ | refine g_keep ?_ | refine g_pass ?_ | refine g_fin ?_ | (apply g_ap; exact rfl; exact rfl; assumption)
    exact fin hR
  repeat' first | apply step | (apply g_op; · repeat first | exact Evs.nil | (apply Evs.cons; exact rfl)) | (refine Br.mk (fun _ => ?_) (fun _ => ?_) <;> try (exfalso; omega)) | (refine Sd.mk ?_ ?_; · ((repeat' apply And.intro) <;> first | omega | trivial | assumption | (simp; done) | (simp; omega))) | (refine Sx.mk ?_ ?_; · omega) | refine Fa.mk (fun _ => ?_) | refine Im.mk (fun _ => ?_) | apply Lw.go | refine g_cond ?_ | refine g_guard ?_ | refine g_keep ?_ | refine g_pass ?_ | refine g_fin ?_ | (apply g_ap; exact rfl; exact rfl; assumption)
  first | refine at_callS (picks_New_spec (p := none) (l := []) (k := -1) (by simp) (by omega)) ?_ | refine at_callR (picks_New_spec (p := none) (l := []) (k := -1) (by simp) (by omega)) ?_
  intro sb
  repeat' first | apply step | (apply g_op; · repeat first | exact Evs.nil | (apply Evs.cons; exact rfl)) | (refine Br.mk (fun _ => ?_) (fun _ => ?_) <;> try (exfalso; omega)) | (refine Sd.mk ?_ ?_; · ((repeat' apply And.intro) <;> first | omega | trivial | assumption | (simp; done) | (simp; omega))) | (refine Sx.mk ?_ ?_; · omega) | refine Fa.mk (fun _ => ?_) | refine Im.mk (fun _ => ?_) | apply Lw.go | refine g_cond ?_ | refine g_guard ?_ | refine g_keep ?_ | refine g_pass ?_ | refine g_fin ?_ | (apply g_ap; exact rfl; exact rfl; assumption)
  first | refine at_callS (merge_Run_int_noc (p := p) (n := rows.length) (sp := .pointer (some ⟨sb, 0, none⟩))) ?_ | refine at_callR (merge_Run_int_noc (p := p) (n := rows.length) (sp := .pointer (some ⟨sb, 0, none⟩))) ?_
  repeat' first | apply step | (apply g_op; · repeat first | exact Evs.nil | (apply Evs.cons; exact rfl)) | (refine Br.mk (fun _ => ?_) (fun _ => ?_) <;> try (exfalso; omega)) | (refine Sd.mk ?_ ?_; · ((repeat' apply And.intro) <;> first | omega | trivial | assumption | (simp; done) | (simp; omega))) | (refine Sx.mk ?_ ?_; · omega) | refine Fa.mk (fun _ => ?_) | refine Im.mk (fun _ => ?_) | apply Lw.go | refine g_cond ?_ | refine g_guard ?_ | refine g_keep ?_ | refine g_pass ?_ | refine g_fin ?_ | (apply g_ap; exact rfl; exact rfl; assumption)
  first | refine at_callS (merge_Run_int_nos (w := w) hf hr) ?_ | refine at_callR (merge_Run_int_nos (w := w) hf hr) ?_
  by_cases hww : w < 1 ∨ 64 < w
  · rw [if_pos hww]
    repeat' first | apply step | (apply g_op; · repeat first | exact Evs.nil | (apply Evs.cons; exact rfl)) | (refine Br.mk (fun _ => ?_) (fun _ => ?_) <;> try (exfalso; omega)) | (refine Sd.mk ?_ ?_; · ((repeat' apply And.intro) <;> first | omega | trivial | assumption | (simp; done) | (simp; omega))) | (refine Sx.mk ?_ ?_; · omega) | refine Fa.mk (fun _ => ?_) | refine Im.mk (fun _ => ?_) | apply Lw.go | refine g_cond ?_ | refine g_guard ?_ | refine g_keep ?_ | refine g_pass ?_ | refine g_fin ?_ | (apply g_ap; exact rfl; exact rfl; assumption)
    · first | refine at_callS (merge_Rows_int_noc (p := p) (n := rows.length)) ?_ | refine at_callR (merge_Rows_int_noc (p := p) (n := rows.length)) ?_
      repeat' first | apply step | (apply g_op; · repeat first | exact Evs.nil | (apply Evs.cons; exact rfl)) | (refine Br.mk (fun _ => ?_) (fun _ => ?_) <;> try (exfalso; omega)) | (refine Sd.mk ?_ ?_; · ((repeat' apply And.intro) <;> first | omega | trivial | assumption | (simp; done) | (simp; omega))) | (refine Sx.mk ?_ ?_; · omega) | refine Fa.mk (fun _ => ?_) | refine Im.mk (fun _ => ?_) | apply Lw.go | refine g_cond ?_ | refine g_guard ?_ | refine g_keep ?_ | refine g_pass ?_ | refine g_fin ?_ | (apply g_ap; exact rfl; exact rfl; assumption)
      first | refine at_callS (l11_works_spec) ?_ | refine at_callR (l11_works_spec) ?_
      repeat' first | apply step | (apply g_op; · repeat first | exact Evs.nil | (apply Evs.cons; exact rfl)) | (refine Br.mk (fun _ => ?_) (fun _ => ?_) <;> try (exfalso; omega)) | (refine Sd.mk ?_ ?_; · ((repeat' apply And.intro) <;> first | omega | trivial | assumption | (simp; done) | (simp; omega))) | (refine Sx.mk ?_ ?_; · omega) | refine Fa.mk (fun _ => ?_) | refine Im.mk (fun _ => ?_) | apply Lw.go | refine g_cond ?_ | refine g_guard ?_ | refine g_keep ?_ | refine g_pass ?_ | refine g_fin ?_ | (apply g_ap; exact rfl; exact rfl; assumption)
      exact fin hR
    · first | refine at_callS (merge_Rows_int_noc (p := p) (n := rows.length)) ?_ | refine at_callR (merge_Rows_int_noc (p := p) (n := rows.length)) ?_
      repeat' first | apply step | (apply g_op; · repeat first | exact Evs.nil | (apply Evs.cons; exact rfl)) | (refine Br.mk (fun _ => ?_) (fun _ => ?_) <;> try (exfalso; omega)) | (refine Sd.mk ?_ ?_; · ((repeat' apply And.intro) <;> first | omega | trivial | assumption | (simp; done) | (simp; omega))) | (refine Sx.mk ?_ ?_; · omega) | refine Fa.mk (fun _ => ?_) | refine Im.mk (fun _ => ?_) | apply Lw.go | refine g_cond ?_ | refine g_guard ?_ | refine g_keep ?_ | refine g_pass ?_ | refine g_fin ?_ | (apply g_ap; exact rfl; exact rfl; assumption)
      first | refine at_callS (l11_works_spec) ?_ | refine at_callR (l11_works_spec) ?_
      repeat' first | apply step | (apply g_op; · repeat first | exact Evs.nil | (apply Evs.cons; exact rfl)) | (refine Br.mk (fun _ => ?_) (fun _ => ?_) <;> try (exfalso; omega)) | (refine Sd.mk ?_ ?_; · ((repeat' apply And.intro) <;> first | omega | trivial | assumption | (simp; done) | (simp; omega))) | (refine Sx.mk ?_ ?_; · omega) | refine Fa.mk (fun _ => ?_) | refine Im.mk (fun _ => ?_) | apply Lw.go | refine g_cond ?_ | refine g_guard ?_ | refine g_keep ?_ | refine g_pass ?_ | refine g_fin ?_ | (apply g_ap; exact rfl; exact rfl; assumption)
      exact fin hR
  · rw [if_neg hww]
    repeat' first | apply step | (apply g_op; · repeat first | exact Evs.nil | (apply Evs.cons; exact rfl)) | (refine Br.mk (fun _ => ?_) (fun _ => ?_) <;> try (exfalso; omega)) | (refine Sd.mk ?_ ?_; · ((repeat' apply And.intro) <;> first | omega | trivial | assumption | (simp; done) | (simp; omega))) | (refine Sx.mk ?_ ?_; · omega) | refine Fa.mk (fun _ => ?_) | refine Im.mk (fun _ => ?_) | apply Lw.go | refine g_cond ?_ | refine g_guard ?_ | refine g_keep ?_ | refine g_pass ?_ | refine g_fin ?_ | (apply g_ap; exact rfl; exact rfl; assumption)
    first | refine at_callS (merge_Rows_int_noc (p := p) (n := rows.length)) ?_ | refine at_callR (merge_Rows_int_noc (p := p) (n := rows.length)) ?_
    repeat' first | apply step | (apply g_op; · repeat first | exact Evs.nil | (apply Evs.cons; exact rfl)) | (refine Br.mk (fun _ => ?_) (fun _ => ?_) <;> try (exfalso; omega)) | (refine Sd.mk ?_ ?_; · ((repeat' apply And.intro) <;> first | omega | trivial | assumption | (simp; done) | (simp; omega))) | (refine Sx.mk ?_ ?_; · omega) | refine Fa.mk (fun _ => ?_) | refine Im.mk (fun _ => ?_) | apply Lw.go | refine g_cond ?_ | refine g_guard ?_ | refine g_keep ?_ | refine g_pass ?_ | refine g_fin ?_ | (apply g_ap; exact rfl; exact rfl; assumption)
    first | refine at_callS (l11_works_spec) ?_ | refine at_callR (l11_works_spec) ?_
    repeat' first | apply step | (apply g_op; · repeat first | exact Evs.nil | (apply Evs.cons; exact rfl)) | (refine Br.mk (fun _ => ?_) (fun _ => ?_) <;> try (exfalso; omega)) | (refine Sd.mk ?_ ?_; · ((repeat' apply And.intro) <;> first | omega | trivial | assumption | (simp; done) | (simp; omega))) | (refine Sx.mk ?_ ?_; · omega) | refine Fa.mk (fun _ => ?_) | refine Im.mk (fun _ => ?_) | apply Lw.go | refine g_cond ?_ | refine g_guard ?_ | refine g_keep ?_ | refine g_pass ?_ | refine g_fin ?_ | (apply g_ap; exact rfl; exact rfl; assumption)
    exact fin hR
end
end Go.AMS

