/- What the functions do, part 1. -/
import Derived.Test.YtjnipkbnmbnfpaaCode
import Derived.Test.YtjnipkbnmbnfpaaSetLaw
namespace Go.AMS
open Go.AM hiding Kt At WP WL Runs RunsY
open Go.AM.G
set_option linter.unusedVariables false
set_option linter.unusedSimpArgs false
theorem sortL_len (l : List Int) : (sortL l).length = l.length := by unfold sortL; simp
theorem slices_Sort_int_int_spec {p : Option Addr} {c : Nat} {l : List Int} (hl : l.length ≤ 1000000000) : Spec prog1 n_slices_Sort_int_int [.slice p l.length c] [own (kInt .i64) p c l] (fun R => R (.tuple #[]) [own (kInt .i64) p c (sortL l)]) := by
  intro n F h R hs hw H hH
  obtain ⟨⟨S, ⟨t1, t2, k1, k3, k4, k5⟩, k6⟩, hp, hn⟩ := id hs
  have hsl := sortL_len l
  by_cases h0 : l = []
  · subst h0
    have e : sortL [] = [] := by simp [sortL]
    rw [e] at hw
    exact ⟨1, .tuple #[], H, h, by simp only [callV, c_slices_Sort_int_int]; rfl, rfl, hH, .refl h, rfl, _, hw, hs⟩
  · rcases k1 with ⟨_, _, h1, _⟩ | ⟨b, cs, rfl, h2, h3, h4, rfl⟩
    · exact absurd h1 h0
    have hcs := cells_int_eq h4
    subst hcs
    have hn0 : ¬ l.length = 0 := by simpa using h0
    have hb : n ≤ b := k6 b ((k5 b).2 (.inl rfl))
    obtain ⟨own', e1, e2⟩ := hH.cells h3
    have e3 : H.get b = some (.cells (l.map (.int .i64)) (some 1)) := by
      rcases e2 with rfl | e2
      · exact e1
      · cases e2
    have hsp : splice (l.map (Value.int .i64)) 0 ((sortL l).map (.int .i64)) = (sortL l).map (.int .i64) := by
      unfold splice
      simp only [List.take_zero, List.nil_append, List.length_map, hsl, Nat.zero_add]
      rw [List.drop_eq_nil_of_le (by simp), List.append_nil]
    have hst : St h (h.set b (.cells ((sortL l).map (.int .i64)) (some 1))) := .set _ (by rw [hp]; exact hb) (fun x hx => by rw [h3] at hx; cases hx)
    refine ⟨1, .tuple #[], H.set b (.cells ((sortL l).map (.int .i64)) (some 1)), h.set b (.cells ((sortL l).map (.int .i64)) (some 1)), ?_, rfl, hH.set _ _, hst, rfl, _, hw, ⟨S, ⟨(· = b), t2, .inr ⟨b, _, rfl, h2, by rw [Heap.get_set, if_pos rfl]; rfl, cells_int fun x hx => ?_, rfl⟩, k3.loc hst (fun x hx => by rw [Heap.get_set, if_neg (fun e => k4 x e hx)]), k4, k5⟩, k6⟩, hp, hn⟩
    · simp only [callV, c_slices_Sort_int_int, sortO]
      rw [if_neg hn0]
      simp only [e3]
      rw [if_pos ⟨by have := hH.prot; omega, by simp, by omega⟩]
      rw [List.drop_zero, show l.length = (l.map (Value.int .i64)).length by simp, List.take_length, intsOf_map]
      simp only [hsp]
    · have hx' : x ∈ l := by unfold sortL at hx; rwa [List.mem_mergeSort] at hx
      obtain ⟨c, h⟩ := h4.mem x hx'
      exact h.2

end Go.AMS

namespace Go.AMS
open Go.AM hiding Kt At WP WL Runs RunsY
open Go.AM.G
set_option linter.unusedVariables false
set_option linter.unusedSimpArgs false
set_option linter.unusedSectionVars false
set_option maxRecDepth 100000
set_option maxHeartbeats 1000000
attribute [local irreducible] AtS AtV AtC AtG FinA Spec Post LP G.At G.WP G.WL pt own fro rdl ro hx mp lrec elt sub

open Go.AM.G.Set
section
theorem slices_Clone_int_int_spec {p : Option Addr} {c : Nat} {l : List Int} (hl : l.length ≤ 1000000000) : Spec prog1 n_slices_Clone_int_int [.slice p l.length c] [rdl (kInt .i64) p l] (fun R => ∀ p' c', R (.slice p' l.length c') [own (kInt .i64) p' c' l]) := by
  refine spec_code c_slices_Clone_int_int rfl ?_; intro n F R hR; unfold F_slices_Clone_int_int
  repeat' first | apply step | (apply g_op; · repeat first | exact Evs.nil | (apply Evs.cons; exact rfl)) | (refine Br.mk (fun _ => ?_) (fun _ => ?_) <;> try (exfalso; omega)) | (refine Sd.mk ?_ ?_; · ((repeat' apply And.intro) <;> first | omega | trivial | assumption | (simp; done) | (simp; omega))) | (refine Sx.mk ?_ ?_; · omega) | refine Fa.mk (fun _ => ?_) | refine Im.mk (fun _ => ?_) | apply Lw.go | refine g_cond ?_ | refine g_guard ?_ | refine g_keep ?_ | refine g_pass ?_ | refine g_fin ?_ | (apply g_ap; exact rfl; exact rfl; assumption)
  · subst_vars
    exact fin (hR none 0)
  · exact fin (hR _ _)

theorem take_set_snoc {l : List Int} {i : Nat} {a : Int} (h : i < l.length) : (l.set i a).take (i + 1) = l.take i ++ [a] := by
  rw [List.take_succ_eq_append_getElem (by simp; omega), List.take_set_of_le (Nat.le_refl _)]; simp
theorem slices_Compact_int_int_spec {p : Option Addr} {c : Nat} {l : List Int} (hl : l.length ≤ 1000000000) : Spec prog1 n_slices_Compact_int_int [.slice p l.length c] [own (kInt .i64) p c l] (fun R => ∀ c' (l' : List Int), l'.take (compactL l).length = compactL l → (compactL l).length ≤ l'.length → R (.slice p (compactL l).length c') [own (kInt .i64) p c l']) := by
  refine spec_code c_slices_Compact_int_int rfl ?_; intro n F R hR; unfold F_slices_Compact_int_int
  have same : compactL l = l → R (.slice p l.length c) [own (kInt .i64) p c l] := fun e => by
    have := hR c l (by rw [e, List.take_length]) (by rw [e]; exact Nat.le_refl _)
    rwa [e] at this
  repeat' first | apply step | (apply g_op; · repeat first | exact Evs.nil | (apply Evs.cons; exact rfl)) | (refine Br.mk (fun _ => ?_) (fun _ => ?_) <;> try (exfalso; omega)) | (refine Sd.mk ?_ ?_; · ((repeat' apply And.intro) <;> first | omega | trivial | assumption | (simp; done) | (simp; omega))) | (refine Sx.mk ?_ ?_; · omega) | refine Fa.mk (fun _ => ?_) | refine Im.mk (fun _ => ?_) | apply Lw.go | refine g_cond ?_ | refine g_guard ?_ | refine g_keep ?_ | refine g_pass ?_ | refine g_fin ?_ | (apply g_ap; exact rfl; exact rfl; assumption)
  · exact fin (same (compactL_short (by omega)))
  refine at_loopS (ι := Nat) (E := fun k => [(0, .slice p l.length c), (3, .int .i64 (k : Int))]) (Δ := fun _ => own (kInt .i64) p c l :: F) (P := fun k => 0 < k ∧ k ≤ l.length ∧ ∀ i, 0 < i → (hi : i < l.length) → i < k → l[i] ≠ l[i - 1]) (μ := fun k => l.length - k) 1 ⟨by omega, by omega, fun i h1 h2 h3 => by omega⟩ ?_
  rintro k ⟨hk0, hk, hI⟩
  repeat' first | apply step | (apply g_op; · repeat first | exact Evs.nil | (apply Evs.cons; exact rfl)) | (refine Br.mk (fun _ => ?_) (fun _ => ?_) <;> try (exfalso; omega)) | (refine Sd.mk ?_ ?_; · ((repeat' apply And.intro) <;> first | omega | trivial | assumption | (simp; done) | (simp; omega))) | (refine Sx.mk ?_ ?_; · omega) | refine Fa.mk (fun _ => ?_) | refine Im.mk (fun _ => ?_) | apply Lw.go | refine g_cond ?_ | refine g_guard ?_ | refine g_keep ?_ | refine g_pass ?_ | refine g_fin ?_ | (apply g_ap; exact rfl; exact rfl; assumption)
  · -- two alike
    rename_i hi1 _ hi2 _ hdup
    have hk1 : ((k : Int) - 1).toNat = k - 1 := by omega
    simp only [hk1] at hdup
    have hkl : k < l.length := by omega
    have hstart : compactL (l.take (k + 1)) = l.take k := by
      rw [compactL_take hk0 hkl, if_pos hdup]
      refine compactL_id fun i h1 h2 => ?_
      have h3 : i < k := by simp at h2; omega
      simp only [List.getElem_take]
      exact hI i h1 (by omega) h3
    refine at_loopS (ι := Nat × Nat × List Int) (E := fun w => [(0, .slice p l.length c), (3, .int .i64 (w.2.1 : Int)), (4, .slice (sub p k 1) (l.length - k) (l.length - k)), (5, .int .i64 (w.1 : Int))]) (Δ := fun w => own (kInt .i64) p c w.2.2 :: F)
      (P := fun w => w.2.2.length = l.length ∧ 1 ≤ w.1 ∧ w.1 ≤ l.length - k ∧ w.2.1 ≤ k + w.1 - 1 ∧ w.2.2.take w.2.1 = compactL (l.take (k + w.1)) ∧ w.2.2.drop (k + w.1 - 1) = l.drop (k + w.1 - 1)) (μ := fun w => l.length - w.1) (1, k, l) ⟨rfl, by omega, by omega, by simp, hstart.symm, rfl⟩ ?_
    rintro ⟨j, kk, l2⟩ ⟨hl2, hj1, hj2, hkk, htk, hdr⟩
    simp only at hl2 hj1 hj2 hkk htk hdr
    have hdl : (l2.drop k).length = l.length - k := by simp; omega
    have hsame : ∀ q, k + j - 1 ≤ q → (hq : q < l.length) → l2[q]'(by omega) = l[q] := by
      intro q h1 h3
      have := congrArg (fun z => z[q - (k + j - 1)]?) hdr
      simp only [List.getElem?_drop] at this
      rw [show k + j - 1 + (q - (k + j - 1)) = q by omega, List.getElem?_eq_getElem (by omega), List.getElem?_eq_getElem h3] at this
      exact Option.some.inj this
    have hct : ∀ hq : k + j < l.length, compactL (l.take (k + j + 1)) = if l[k + j] = l[k + j - 1] then compactL (l.take (k + j)) else compactL (l.take (k + j)) ++ [l[k + j]] := fun hq => compactL_take (by omega) hq
    have hj : ((j : Int) - 1).toNat = j - 1 := by omega
    dsimp only
    repeat' first | apply step | (apply g_op; · repeat first | exact Evs.nil | (apply Evs.cons; exact rfl)) | (refine Br.mk (fun _ => ?_) (fun _ => ?_) <;> try (exfalso; omega)) | (refine Sd.mk ?_ ?_; · ((repeat' apply And.intro) <;> first | omega | trivial | assumption | (simp; done) | (simp; omega))) | (refine Sx.mk ?_ ?_; · omega) | refine Fa.mk (fun _ => ?_) | refine Im.mk (fun _ => ?_) | apply Lw.go | refine g_cond ?_ | refine g_guard ?_ | refine g_keep ?_ | refine g_pass ?_ | refine g_fin ?_ | (apply g_ap; exact rfl; exact rfl; assumption)
    · have hjn : j < l.length - k := by omega
      have hq : k + j < l.length := by omega
      have e1 : (l2.drop k)[j]'(by omega) = l[k + j] := by rw [List.getElem_drop]; exact hsame _ (by omega) hq
      have e2 : (l2.drop k)[((j : Int) - 1).toNat]'(by omega) = l[k + j - 1] := by
        rw [List.getElem_drop]
        have := hsame (k + (j - 1)) (by omega) (by omega)
        simp only [hj]
        rw [this]; congr 1; omega
      have hcmp : ¬ l[k + j] = l[k + j - 1] := by rw [← e1, ← e2]; assumption
      have hkn : kk < l2.length := by omega
      rw [e1]
      refine lp_next (j + 1, kk + 1, l2.set kk l[k + j]) ⟨by simp [hl2], by dsimp only; omega, by dsimp only; omega, by dsimp only; omega, ?_, ?_⟩ (by dsimp only; omega)
      · show (l2.set kk l[k + j]).take (kk + 1) = compactL (l.take (k + (j + 1)))
        rw [show k + (j + 1) = k + j + 1 by omega, hct hq, if_neg hcmp, ← htk, take_set_snoc hkn]
      · show (l2.set kk l[k + j]).drop (k + (j + 1) - 1) = l.drop (k + (j + 1) - 1)
        rw [show k + (j + 1) - 1 = k + j by omega, List.drop_set_of_lt (by omega)]
        have := congrArg (List.drop 1) hdr
        rw [List.drop_drop, List.drop_drop, show k + j - 1 + 1 = k + j by omega] at this
        exact this
    · have hjn : j < l.length - k := by omega
      have hq : k + j < l.length := by omega
      have e1 : (l2.drop k)[j]'(by omega) = l[k + j] := by rw [List.getElem_drop]; exact hsame _ (by omega) hq
      have e2 : (l2.drop k)[((j : Int) - 1).toNat]'(by omega) = l[k + j - 1] := by
        rw [List.getElem_drop]
        have := hsame (k + (j - 1)) (by omega) (by omega)
        simp only [hj]
        rw [this]; congr 1; omega
      have hcmp : ¬ l[k + j] ≠ l[k + j - 1] := by rw [← e1, ← e2]; assumption
      refine lp_next (j + 1, kk, l2) ⟨hl2, by dsimp only; omega, by dsimp only; omega, by dsimp only; omega, ?_, ?_⟩ (by dsimp only; omega)
      · show l2.take kk = compactL (l.take (k + (j + 1)))
        rw [show k + (j + 1) = k + j + 1 by omega, hct hq, if_pos (by simpa using hcmp)]; exact htk
      · show l2.drop (k + (j + 1) - 1) = l.drop (k + (j + 1) - 1)
        have := congrArg (List.drop 1) hdr
        rw [List.drop_drop, List.drop_drop, show k + j - 1 + 1 = k + j by omega] at this
        rw [show k + (j + 1) - 1 = k + j by omega]; exact this
    · have hkl2 : compactL l = l2.take kk := by rw [htk, show k + j = l.length by omega, List.take_length]
      have hlen : (compactL l).length = kk := by rw [hkl2]; simp; omega
      have := hR kk (l2.take kk ++ List.replicate (l.length - kk) 0 ++ l2.drop (kk + (l.length - kk))) (by rw [hlen, hkl2, List.append_assoc, List.take_left' (by simp; omega)]) (by rw [hlen]; simp; omega)
      rw [hlen] at this
      exact fin this
  · refine lp_next (k + 1) ⟨by omega, by omega, fun i h1 h2 h3 => ?_⟩ (by omega)
    rename_i hdup
    have hk1 : ((k : Int) - 1).toNat = k - 1 := by omega
    simp only [hk1] at hdup
    by_cases e : i = k
    · subst e; exact hdup
    · exact hI i h1 h2 (by omega)
  · exact fin (same (compactL_id fun i h1 h2 => hI i h1 h2 (by omega)))
end
end Go.AMS

namespace Go.AMS
open Go.AM hiding Kt At WP WL Runs RunsY
open Go.AM.G
set_option linter.unusedVariables false
set_option linter.unusedSimpArgs false
set_option linter.unusedSectionVars false
set_option maxRecDepth 100000
set_option maxHeartbeats 1000000
attribute [local irreducible] AtS AtV AtC AtG FinA Spec Post LP G.At G.WP G.WL pt own fro rdl ro hx mp lrec elt sub

open Go.AM.G.Set
section
theorem sorted_Of_int_spec {p : Option Addr} {c : Nat} {l : List Int} (hl : l.length ≤ 1000000000) : Spec prog1 n_sorted_Of_int [.slice p l.length c] [rdl (kInt .i64) p l] (fun R => ∀ p' c', R (.agg #[.slice p' (setL l).length c']) [lst (kInt .i64) p' (setL l)]) := by
  refine spec_code c_sorted_Of_int rfl ?_; intro n F R hR; unfold F_sorted_Of_int
  repeat' first | apply step | (apply g_op; · repeat first | exact Evs.nil | (apply Evs.cons; exact rfl)) | (refine Br.mk (fun _ => ?_) (fun _ => ?_) <;> try (exfalso; omega)) | (refine Sd.mk ?_ ?_; · ((repeat' apply And.intro) <;> first | omega | trivial | assumption | (simp; done) | (simp; omega))) | (refine Sx.mk ?_ ?_; · omega) | refine Fa.mk (fun _ => ?_) | refine Im.mk (fun _ => ?_) | apply Lw.go | refine g_cond ?_ | refine g_guard ?_ | refine g_keep ?_ | refine g_pass ?_ | refine g_fin ?_ | (apply g_ap; exact rfl; exact rfl; assumption)
  first | refine at_callS (slices_Clone_int_int_spec hl) ?_ | refine at_callR (slices_Clone_int_int_spec hl) ?_
  intro p1 c1
  repeat' first | apply step | (apply g_op; · repeat first | exact Evs.nil | (apply Evs.cons; exact rfl)) | (refine Br.mk (fun _ => ?_) (fun _ => ?_) <;> try (exfalso; omega)) | (refine Sd.mk ?_ ?_; · ((repeat' apply And.intro) <;> first | omega | trivial | assumption | (simp; done) | (simp; omega))) | (refine Sx.mk ?_ ?_; · omega) | refine Fa.mk (fun _ => ?_) | refine Im.mk (fun _ => ?_) | apply Lw.go | refine g_cond ?_ | refine g_guard ?_ | refine g_keep ?_ | refine g_pass ?_ | refine g_fin ?_ | (apply g_ap; exact rfl; exact rfl; assumption)
  first | refine at_callS (slices_Sort_int_int_spec hl) ?_ | refine at_callR (slices_Sort_int_int_spec hl) ?_
  repeat' first | apply step | (apply g_op; · repeat first | exact Evs.nil | (apply Evs.cons; exact rfl)) | (refine Br.mk (fun _ => ?_) (fun _ => ?_) <;> try (exfalso; omega)) | (refine Sd.mk ?_ ?_; · ((repeat' apply And.intro) <;> first | omega | trivial | assumption | (simp; done) | (simp; omega))) | (refine Sx.mk ?_ ?_; · omega) | refine Fa.mk (fun _ => ?_) | refine Im.mk (fun _ => ?_) | apply Lw.go | refine g_cond ?_ | refine g_guard ?_ | refine g_keep ?_ | refine g_pass ?_ | refine g_fin ?_ | (apply g_ap; exact rfl; exact rfl; assumption)
  rw [← sortL_len l]
  first | refine at_callS (slices_Compact_int_int_spec (by rw [sortL_len]; exact hl)) ?_ | refine at_callR (slices_Compact_int_int_spec (by rw [sortL_len]; exact hl)) ?_
  intro c2 l2 h1 h2
  repeat' first | apply step | (apply g_op; · repeat first | exact Evs.nil | (apply Evs.cons; exact rfl)) | (refine Br.mk (fun _ => ?_) (fun _ => ?_) <;> try (exfalso; omega)) | (refine Sd.mk ?_ ?_; · ((repeat' apply And.intro) <;> first | omega | trivial | assumption | (simp; done) | (simp; omega))) | (refine Sx.mk ?_ ?_; · omega) | refine Fa.mk (fun _ => ?_) | refine Im.mk (fun _ => ?_) | apply Lw.go | refine g_cond ?_ | refine g_guard ?_ | refine g_keep ?_ | refine g_pass ?_ | refine g_fin ?_ | (apply g_ap; exact rfl; exact rfl; assumption)
  refine fin_via (own_lst (p := p1) (l := l2) _ h1) ?_
  exact fin (hR p1 c2)
theorem sorted_Set_int_Len_spec {p : Option Addr} {n c : Nat} : Spec prog1 n_sorted_Set_int_Len [.agg #[.slice p n c]] [] (fun R => R (.int .i64 n) []) := by
  refine spec_code c_sorted_Set_int_Len rfl ?_; intro n F R hR; unfold F_sorted_Set_int_Len
  repeat' first | apply step | (apply g_op; · repeat first | exact Evs.nil | (apply Evs.cons; exact rfl)) | (refine Br.mk (fun _ => ?_) (fun _ => ?_) <;> try (exfalso; omega)) | (refine Sd.mk ?_ ?_; · ((repeat' apply And.intro) <;> first | omega | trivial | assumption | (simp; done) | (simp; omega))) | (refine Sx.mk ?_ ?_; · omega) | refine Fa.mk (fun _ => ?_) | refine Im.mk (fun _ => ?_) | apply Lw.go | refine g_cond ?_ | refine g_guard ?_ | refine g_keep ?_ | refine g_pass ?_ | refine g_fin ?_ | (apply g_ap; exact rfl; exact rfl; assumption)
  exact fin hR
theorem sorted_Set_int_List_spec {p : Option Addr} {c : Nat} {l : List Int} (hl : l.length ≤ 1000000000) : Spec prog1 n_sorted_Set_int_List [.agg #[.slice p l.length c]] [rdl (kInt .i64) p l] (fun R => ∀ p' c', R (.slice p' l.length c') [own (kInt .i64) p' c' l]) := by
  refine spec_code c_sorted_Set_int_List rfl ?_; intro n F R hR; unfold F_sorted_Set_int_List
  repeat' first | apply step | (apply g_op; · repeat first | exact Evs.nil | (apply Evs.cons; exact rfl)) | (refine Br.mk (fun _ => ?_) (fun _ => ?_) <;> try (exfalso; omega)) | (refine Sd.mk ?_ ?_; · ((repeat' apply And.intro) <;> first | omega | trivial | assumption | (simp; done) | (simp; omega))) | (refine Sx.mk ?_ ?_; · omega) | refine Fa.mk (fun _ => ?_) | refine Im.mk (fun _ => ?_) | apply Lw.go | refine g_cond ?_ | refine g_guard ?_ | refine g_keep ?_ | refine g_pass ?_ | refine g_fin ?_ | (apply g_ap; exact rfl; exact rfl; assumption)
  first | refine at_callS (slices_Clone_int_int_spec hl) ?_ | refine at_callR (slices_Clone_int_int_spec hl) ?_
  intro p1 c1
  repeat' first | apply step | (apply g_op; · repeat first | exact Evs.nil | (apply Evs.cons; exact rfl)) | (refine Br.mk (fun _ => ?_) (fun _ => ?_) <;> try (exfalso; omega)) | (refine Sd.mk ?_ ?_; · ((repeat' apply And.intro) <;> first | omega | trivial | assumption | (simp; done) | (simp; omega))) | (refine Sx.mk ?_ ?_; · omega) | refine Fa.mk (fun _ => ?_) | refine Im.mk (fun _ => ?_) | apply Lw.go | refine g_cond ?_ | refine g_guard ?_ | refine g_keep ?_ | refine g_pass ?_ | refine g_fin ?_ | (apply g_ap; exact rfl; exact rfl; assumption)
  exact fin (hR p1 c1)

/-- A script: picks, where all is cancelled, how many steps there were, how many picks were used. -/
structure Scr where
  l : List Int
  cancel : Int
  steps : Nat
  used : Nat
def Scr.off (s : Scr) : Prop := 0 ≤ s.cancel ∧ s.cancel ≤ s.steps
instance (s : Scr) : Decidable s.off := by unfold Scr.off; exact inferInstance
def idx (k : Int) (n : Nat) : Nat := (if k.tmod n < 0 then k.tmod n + n else k.tmod n).toNat
/-- The next place of so many. -/
def Scr.pick (s : Scr) (n : Nat) : Nat := if h : s.used < s.l.length then idx s.l[s.used] n else 0
def Scr.took (s : Scr) : Scr := if s.used < s.l.length then { s with used := s.used + 1 } else s
def Scr.one (s : Scr) : Scr := { s with steps := s.steps + 1 }
def stepS (s : Scr) (r : List Int) : Scr × Int × Int :=
  if s.off then (s, 0, 8) else
  if (setL r).length = 0 then (s, 0, 10) else
  (s.one.took, (setL r).getD (s.pick (setL r).length) 0, 0)
theorem idx_lt {k : Int} {n : Nat} (hn : 0 < n) : idx k n < n := by
  unfold idx
  have h1 := Int.tmod_lt_of_pos k (show (0 : Int) < n by omega)
  have h2 : -(n : Int) < k.tmod n := by
    have := Int.lt_tmod_of_pos k (show (0 : Int) < n by omega)
    omega
  split <;> omega
theorem pick_lt {s : Scr} {n : Nat} (hn : 0 < n) : s.pick n < n := by
  unfold Scr.pick; split
  · exact idx_lt hn
  · exact hn
structure Scr.ok (s : Scr) : Prop where
  hc : -9223372036854775808 ≤ s.cancel ∧ s.cancel ≤ 9223372036854775807
  hs : s.steps ≤ 1000000000000
  hu : s.used ≤ 1000000000000
  hl : s.l.length ≤ 1000000000
/-- A script in a heap. -/
def scr (m : Bool) (b : Nat) (s : Scr) : HP := hx fun (w : Option Addr × Nat) => (s.ok, [pt b [.bool m, .slice w.1 s.l.length w.2, .int .i64 s.cancel, .int .i64 s.steps, .int .i64 s.used] 0, own (kInt .i64) w.1 w.2 s.l])
instance low_scr {m : Bool} {b : Nat} {s : Scr} : Low (scr m b s) := low_hx fun _ => inferInstance
section
variable {b : Nat} {s : Scr} {m : Bool}
theorem picks_Script_is_spec : Spec prog1 n_picks_Script_is [.pointer (some ⟨b, 0, none⟩)] [ro (scr m b s)] (fun R => R (.bool m) []) := by
  refine spec_code c_picks_Script_is rfl ?_; intro n F R hR; unfold F_picks_Script_is
  refine at_openRP (scr _ b s) rfl ?_
  rintro ⟨p, c⟩ ⟨hc, hs, hu, hl⟩
  repeat' first | apply step | (apply g_op; · repeat first | exact Evs.nil | (apply Evs.cons; exact rfl)) | (refine Br.mk (fun _ => ?_) (fun _ => ?_) <;> try (exfalso; omega)) | (refine Sd.mk ?_ ?_; · ((repeat' apply And.intro) <;> first | omega | trivial | assumption | (simp; done) | (simp; omega))) | (refine Sx.mk ?_ ?_; · omega) | refine Fa.mk (fun _ => ?_) | refine Im.mk (fun _ => ?_) | apply Lw.go | refine g_cond ?_ | refine g_guard ?_ | refine g_keep ?_ | refine g_pass ?_ | refine g_fin ?_ | (apply g_ap; exact rfl; exact rfl; assumption)
  exact fin hR
theorem picks_Script_Cancelled_spec : Spec prog1 n_picks_Script_Cancelled [.pointer (some ⟨b, 0, none⟩)] [ro (scr true b s)] (fun R => (s.off → R (.bool true) []) ∧ (¬ s.off → R (.bool false) [])) := by
  refine spec_code c_picks_Script_Cancelled rfl ?_; intro n F R hR; unfold F_picks_Script_Cancelled
  refine at_openRP (scr true b s) rfl ?_
  rintro ⟨p, c⟩ ⟨hc, hs, hu, hl⟩
  repeat' first | apply step | (apply g_op; · repeat first | exact Evs.nil | (apply Evs.cons; exact rfl)) | (refine Br.mk (fun _ => ?_) (fun _ => ?_) <;> try (exfalso; omega)) | (refine Sd.mk ?_ ?_; · ((repeat' apply And.intro) <;> first | omega | trivial | assumption | (simp; done) | (simp; omega))) | (refine Sx.mk ?_ ?_; · omega) | refine Fa.mk (fun _ => ?_) | refine Im.mk (fun _ => ?_) | apply Lw.go | refine g_cond ?_ | refine g_guard ?_ | refine g_keep ?_ | refine g_pass ?_ | refine g_fin ?_ | (apply g_ap; exact rfl; exact rfl; assumption)
  first | refine at_callS (picks_Script_is_spec (m := true) (s := s)) ?_ | refine at_callR (picks_Script_is_spec (m := true) (s := s)) ?_
  repeat' first | apply step | (apply g_op; · repeat first | exact Evs.nil | (apply Evs.cons; exact rfl)) | (refine Br.mk (fun _ => ?_) (fun _ => ?_) <;> try (exfalso; omega)) | (refine Sd.mk ?_ ?_; · ((repeat' apply And.intro) <;> first | omega | trivial | assumption | (simp; done) | (simp; omega))) | (refine Sx.mk ?_ ?_; · omega) | refine Fa.mk (fun _ => ?_) | refine Im.mk (fun _ => ?_) | apply Lw.go | refine g_cond ?_ | refine g_guard ?_ | refine g_keep ?_ | refine g_pass ?_ | refine g_fin ?_ | (apply g_ap; exact rfl; exact rfl; assumption)
  · exact fin (hR.1 ⟨by omega, by omega⟩)
  · exact fin (hR.2 (fun h => by have := h.2; omega))
  · exact fin (hR.2 (fun h => by have := h.1; omega))
theorem picks_Script_Steps_spec : Spec prog1 n_picks_Script_Steps [.pointer (some ⟨b, 0, none⟩)] [ro (scr true b s)] (fun R => R (.int .i64 s.steps) []) := by
  refine spec_code c_picks_Script_Steps rfl ?_; intro n F R hR; unfold F_picks_Script_Steps
  refine at_openRP (scr true b s) rfl ?_
  rintro ⟨p, c⟩ ⟨hc, hs, hu, hl⟩
  repeat' first | apply step | (apply g_op; · repeat first | exact Evs.nil | (apply Evs.cons; exact rfl)) | (refine Br.mk (fun _ => ?_) (fun _ => ?_) <;> try (exfalso; omega)) | (refine Sd.mk ?_ ?_; · ((repeat' apply And.intro) <;> first | omega | trivial | assumption | (simp; done) | (simp; omega))) | (refine Sx.mk ?_ ?_; · omega) | refine Fa.mk (fun _ => ?_) | refine Im.mk (fun _ => ?_) | apply Lw.go | refine g_cond ?_ | refine g_guard ?_ | refine g_keep ?_ | refine g_pass ?_ | refine g_fin ?_ | (apply g_ap; exact rfl; exact rfl; assumption)
  first | refine at_callS (picks_Script_is_spec (m := true) (s := s)) ?_ | refine at_callR (picks_Script_is_spec (m := true) (s := s)) ?_
  repeat' first | apply step | (apply g_op; · repeat first | exact Evs.nil | (apply Evs.cons; exact rfl)) | (refine Br.mk (fun _ => ?_) (fun _ => ?_) <;> try (exfalso; omega)) | (refine Sd.mk ?_ ?_; · ((repeat' apply And.intro) <;> first | omega | trivial | assumption | (simp; done) | (simp; omega))) | (refine Sx.mk ?_ ?_; · omega) | refine Fa.mk (fun _ => ?_) | refine Im.mk (fun _ => ?_) | apply Lw.go | refine g_cond ?_ | refine g_guard ?_ | refine g_keep ?_ | refine g_pass ?_ | refine g_fin ?_ | (apply g_ap; exact rfl; exact rfl; assumption)
  exact fin hR
theorem picks_Script_Used_spec : Spec prog1 n_picks_Script_Used [.pointer (some ⟨b, 0, none⟩)] [ro (scr true b s)] (fun R => R (.int .i64 s.used) []) := by
  refine spec_code c_picks_Script_Used rfl ?_; intro n F R hR; unfold F_picks_Script_Used
  refine at_openRP (scr true b s) rfl ?_
  rintro ⟨p, c⟩ ⟨hc, hs, hu, hl⟩
  repeat' first | apply step | (apply g_op; · repeat first | exact Evs.nil | (apply Evs.cons; exact rfl)) | (refine Br.mk (fun _ => ?_) (fun _ => ?_) <;> try (exfalso; omega)) | (refine Sd.mk ?_ ?_; · ((repeat' apply And.intro) <;> first | omega | trivial | assumption | (simp; done) | (simp; omega))) | (refine Sx.mk ?_ ?_; · omega) | refine Fa.mk (fun _ => ?_) | refine Im.mk (fun _ => ?_) | apply Lw.go | refine g_cond ?_ | refine g_guard ?_ | refine g_keep ?_ | refine g_pass ?_ | refine g_fin ?_ | (apply g_ap; exact rfl; exact rfl; assumption)
  first | refine at_callS (picks_Script_is_spec (m := true) (s := s)) ?_ | refine at_callR (picks_Script_is_spec (m := true) (s := s)) ?_
  repeat' first | apply step | (apply g_op; · repeat first | exact Evs.nil | (apply Evs.cons; exact rfl)) | (refine Br.mk (fun _ => ?_) (fun _ => ?_) <;> try (exfalso; omega)) | (refine Sd.mk ?_ ?_; · ((repeat' apply And.intro) <;> first | omega | trivial | assumption | (simp; done) | (simp; omega))) | (refine Sx.mk ?_ ?_; · omega) | refine Fa.mk (fun _ => ?_) | refine Im.mk (fun _ => ?_) | apply Lw.go | refine g_cond ?_ | refine g_guard ?_ | refine g_keep ?_ | refine g_pass ?_ | refine g_fin ?_ | (apply g_ap; exact rfl; exact rfl; assumption)
  exact fin hR
theorem picks_Script_choice_spec {q : Nat} (hn : 0 < q) (hn2 : q ≤ 1000000000) (hub : s.used < 1000000000000) : Spec prog1 n_picks_Script_choice [.pointer (some ⟨b, 0, none⟩), .int .i64 q] [scr true b s] (fun R => R (.int .i64 (s.pick q)) [scr true b s.took]) := by
  refine spec_code c_picks_Script_choice rfl ?_; intro n F R hR; unfold F_picks_Script_choice
  refine at_openP (scr true b s) rfl ?_
  rintro ⟨p, c⟩ ⟨hc, hs, hu, hl⟩
  repeat' first | apply step | (apply g_op; · repeat first | exact Evs.nil | (apply Evs.cons; exact rfl)) | (refine Br.mk (fun _ => ?_) (fun _ => ?_) <;> try (exfalso; omega)) | (refine Sd.mk ?_ ?_; · ((repeat' apply And.intro) <;> first | omega | trivial | assumption | (simp; done) | (simp; omega))) | (refine Sx.mk ?_ ?_; · omega) | refine Fa.mk (fun _ => ?_) | refine Im.mk (fun _ => ?_) | apply Lw.go | refine g_cond ?_ | refine g_guard ?_ | refine g_keep ?_ | refine g_pass ?_ | refine g_fin ?_ | (apply g_ap; exact rfl; exact rfl; assumption)
  · have h1 : s.pick q = 0 := by unfold Scr.pick; rw [dif_neg (by omega)]
    have h2 : s.took = s := by unfold Scr.took; rw [if_neg (by omega)]
    rw [h1, h2] at hR
    refine fin_foldP (scr true b s) rfl (p, c) ⟨hc, hs, hu, hl⟩ ?_
    exact fin hR
  all_goals
    have hlt : s.used < s.l.length := by omega
    have t1 := Int.tmod_lt_of_pos s.l[s.used] (show (0 : Int) < q by omega)
    have t2 : -(q : Int) < s.l[s.used].tmod q := by
      have := Int.lt_tmod_of_pos s.l[s.used] (show (0 : Int) < q by omega)
      omega
    have hpick : (s.pick q : Int) = if s.l[s.used].tmod q < 0 then s.l[s.used].tmod q + q else s.l[s.used].tmod q := by
      unfold Scr.pick idx; rw [dif_pos hlt]; split <;> omega
    have h2 : s.took = { s with used := s.used + 1 } := by unfold Scr.took; rw [if_pos hlt]
    rw [hpick, h2] at hR
    repeat' first | apply step | (apply g_op; · repeat first | exact Evs.nil | (apply Evs.cons; exact rfl)) | (refine Br.mk (fun _ => ?_) (fun _ => ?_) <;> try (exfalso; omega)) | (refine Sd.mk ?_ ?_; · ((repeat' apply And.intro) <;> first | omega | trivial | assumption | (simp; done) | (simp; omega))) | (refine Sx.mk ?_ ?_; · omega) | refine Fa.mk (fun _ => ?_) | refine Im.mk (fun _ => ?_) | apply Lw.go | refine g_cond ?_ | refine g_guard ?_ | refine g_keep ?_ | refine g_pass ?_ | refine g_fin ?_ | (apply g_ap; exact rfl; exact rfl; assumption)
    refine fin_foldP (scr true b { s with used := s.used + 1 }) rfl (p, c) ⟨hc, hs, by simp; omega, hl⟩ ?_
    first | rw [if_pos (by assumption)] at hR | rw [if_neg (by assumption)] at hR
    exact fin hR
theorem picks_Script_Step_spec {A : HP} {p : Option Addr} {c : Nat} {r : List Int} (hA : ∀ Γ, LkS (A :: Γ) p (kInt .i64) r) (hr : r.length ≤ 1000000) (hsb : s.steps < 1000000000000) (hub : s.used < 1000000000000) :
    Spec prog1 n_picks_Script_Step [.pointer (some ⟨b, 0, none⟩), .slice p r.length c] [scr true b s, A] (fun R => R (.tuple #[.int .i64 (stepS s r).2.1, .int .i64 (stepS s r).2.2]) [scr true b (stepS s r).1, A]) := by
  refine spec_code c_picks_Script_Step rfl ?_; intro n F R hR; unfold F_picks_Script_Step
  repeat' first | apply step | (apply g_op; · repeat first | exact Evs.nil | (apply Evs.cons; exact rfl)) | (refine Br.mk (fun _ => ?_) (fun _ => ?_) <;> try (exfalso; omega)) | (refine Sd.mk ?_ ?_; · ((repeat' apply And.intro) <;> first | omega | trivial | assumption | (simp; done) | (simp; omega))) | (refine Sx.mk ?_ ?_; · omega) | refine Fa.mk (fun _ => ?_) | refine Im.mk (fun _ => ?_) | apply Lw.go | refine g_cond ?_ | refine g_guard ?_ | refine g_keep ?_ | refine g_pass ?_ | refine g_fin ?_ | (apply g_ap; exact rfl; exact rfl; assumption)
  have := hA
  first | refine at_callS (sorted_Of_int_spec (l := r) (by omega)) ?_ | refine at_callR (sorted_Of_int_spec (l := r) (by omega)) ?_
  intro p1 c1
  repeat' first | apply step | (apply g_op; · repeat first | exact Evs.nil | (apply Evs.cons; exact rfl)) | (refine Br.mk (fun _ => ?_) (fun _ => ?_) <;> try (exfalso; omega)) | (refine Sd.mk ?_ ?_; · ((repeat' apply And.intro) <;> first | omega | trivial | assumption | (simp; done) | (simp; omega))) | (refine Sx.mk ?_ ?_; · omega) | refine Fa.mk (fun _ => ?_) | refine Im.mk (fun _ => ?_) | apply Lw.go | refine g_cond ?_ | refine g_guard ?_ | refine g_keep ?_ | refine g_pass ?_ | refine g_fin ?_ | (apply g_ap; exact rfl; exact rfl; assumption)
  have hsl := setL_le r
  first | refine at_callS (picks_Script_is_spec (m := true) (s := s)) ?_ | refine at_callR (picks_Script_is_spec (m := true) (s := s)) ?_
  repeat' first | apply step | (apply g_op; · repeat first | exact Evs.nil | (apply Evs.cons; exact rfl)) | (refine Br.mk (fun _ => ?_) (fun _ => ?_) <;> try (exfalso; omega)) | (refine Sd.mk ?_ ?_; · ((repeat' apply And.intro) <;> first | omega | trivial | assumption | (simp; done) | (simp; omega))) | (refine Sx.mk ?_ ?_; · omega) | refine Fa.mk (fun _ => ?_) | refine Im.mk (fun _ => ?_) | apply Lw.go | refine g_cond ?_ | refine g_guard ?_ | refine g_keep ?_ | refine g_pass ?_ | refine g_fin ?_ | (apply g_ap; exact rfl; exact rfl; assumption)
  first | refine at_callS (picks_Script_Cancelled_spec (s := s)) ?_ | refine at_callR (picks_Script_Cancelled_spec (s := s)) ?_
  refine ⟨fun hoff => ?_, fun hoff => ?_⟩
  · repeat' first | apply step | (apply g_op; · repeat first | exact Evs.nil | (apply Evs.cons; exact rfl)) | (refine Br.mk (fun _ => ?_) (fun _ => ?_) <;> try (exfalso; omega)) | (refine Sd.mk ?_ ?_; · ((repeat' apply And.intro) <;> first | omega | trivial | assumption | (simp; done) | (simp; omega))) | (refine Sx.mk ?_ ?_; · omega) | refine Fa.mk (fun _ => ?_) | refine Im.mk (fun _ => ?_) | apply Lw.go | refine g_cond ?_ | refine g_guard ?_ | refine g_keep ?_ | refine g_pass ?_ | refine g_fin ?_ | (apply g_ap; exact rfl; exact rfl; assumption)
    unfold stepS at hR
    rw [if_pos hoff] at hR
    exact fin hR
  repeat' first | apply step | (apply g_op; · repeat first | exact Evs.nil | (apply Evs.cons; exact rfl)) | (refine Br.mk (fun _ => ?_) (fun _ => ?_) <;> try (exfalso; omega)) | (refine Sd.mk ?_ ?_; · ((repeat' apply And.intro) <;> first | omega | trivial | assumption | (simp; done) | (simp; omega))) | (refine Sx.mk ?_ ?_; · omega) | refine Fa.mk (fun _ => ?_) | refine Im.mk (fun _ => ?_) | apply Lw.go | refine g_cond ?_ | refine g_guard ?_ | refine g_keep ?_ | refine g_pass ?_ | refine g_fin ?_ | (apply g_ap; exact rfl; exact rfl; assumption)
  first | refine at_callS (sorted_Set_int_Len_spec) ?_ | refine at_callR (sorted_Set_int_Len_spec) ?_
  repeat' first | apply step | (apply g_op; · repeat first | exact Evs.nil | (apply Evs.cons; exact rfl)) | (refine Br.mk (fun _ => ?_) (fun _ => ?_) <;> try (exfalso; omega)) | (refine Sd.mk ?_ ?_; · ((repeat' apply And.intro) <;> first | omega | trivial | assumption | (simp; done) | (simp; omega))) | (refine Sx.mk ?_ ?_; · omega) | refine Fa.mk (fun _ => ?_) | refine Im.mk (fun _ => ?_) | apply Lw.go | refine g_cond ?_ | refine g_guard ?_ | refine g_keep ?_ | refine g_pass ?_ | refine g_fin ?_ | (apply g_ap; exact rfl; exact rfl; assumption)
  · unfold stepS at hR
    rw [if_neg hoff, if_pos (by omega)] at hR
    exact fin hR
  have hne : (setL r).length ≠ 0 := by omega
  first | refine at_openP (scr true b s) rfl ?_ | refine av_openP (scr true b s) rfl ?_
  rintro ⟨p2, c2⟩ ⟨hc, hs, hu, hl⟩
  repeat' first | apply step | (apply g_op; · repeat first | exact Evs.nil | (apply Evs.cons; exact rfl)) | (refine Br.mk (fun _ => ?_) (fun _ => ?_) <;> try (exfalso; omega)) | (refine Sd.mk ?_ ?_; · ((repeat' apply And.intro) <;> first | omega | trivial | assumption | (simp; done) | (simp; omega))) | (refine Sx.mk ?_ ?_; · omega) | refine Fa.mk (fun _ => ?_) | refine Im.mk (fun _ => ?_) | apply Lw.go | refine g_cond ?_ | refine g_guard ?_ | refine g_keep ?_ | refine g_pass ?_ | refine g_fin ?_ | (apply g_ap; exact rfl; exact rfl; assumption)
  first | refine at_callS (sorted_Set_int_List_spec (l := setL r) (by omega)) ?_ | refine at_callR (sorted_Set_int_List_spec (l := setL r) (by omega)) ?_
  intro p3 c3
  repeat' first | apply step | (apply g_op; · repeat first | exact Evs.nil | (apply Evs.cons; exact rfl)) | (refine Br.mk (fun _ => ?_) (fun _ => ?_) <;> try (exfalso; omega)) | (refine Sd.mk ?_ ?_; · ((repeat' apply And.intro) <;> first | omega | trivial | assumption | (simp; done) | (simp; omega))) | (refine Sx.mk ?_ ?_; · omega) | refine Fa.mk (fun _ => ?_) | refine Im.mk (fun _ => ?_) | apply Lw.go | refine g_cond ?_ | refine g_guard ?_ | refine g_keep ?_ | refine g_pass ?_ | refine g_fin ?_ | (apply g_ap; exact rfl; exact rfl; assumption)
  first | refine at_callS (sorted_Set_int_Len_spec) ?_ | refine at_callR (sorted_Set_int_Len_spec) ?_
  repeat' first | apply step | (apply g_op; · repeat first | exact Evs.nil | (apply Evs.cons; exact rfl)) | (refine Br.mk (fun _ => ?_) (fun _ => ?_) <;> try (exfalso; omega)) | (refine Sd.mk ?_ ?_; · ((repeat' apply And.intro) <;> first | omega | trivial | assumption | (simp; done) | (simp; omega))) | (refine Sx.mk ?_ ?_; · omega) | refine Fa.mk (fun _ => ?_) | refine Im.mk (fun _ => ?_) | apply Lw.go | refine g_cond ?_ | refine g_guard ?_ | refine g_keep ?_ | refine g_pass ?_ | refine g_fin ?_ | (apply g_ap; exact rfl; exact rfl; assumption)
  have hpl := pick_lt (s := s.one) (n := (setL r).length) (by omega)
  refine av_foldP (scr true b s.one) rfl (p2, c2) ⟨hc, by unfold Scr.one; simp; omega, hu, hl⟩ ?_
  first | refine at_callS (picks_Script_choice_spec (s := s.one) (q := (setL r).length) (by omega) (by omega) hub) ?_ | refine at_callR (picks_Script_choice_spec (s := s.one) (q := (setL r).length) (by omega) (by omega) hub) ?_
  repeat' first | apply step | (apply g_op; · repeat first | exact Evs.nil | (apply Evs.cons; exact rfl)) | (refine Br.mk (fun _ => ?_) (fun _ => ?_) <;> try (exfalso; omega)) | (refine Sd.mk ?_ ?_; · ((repeat' apply And.intro) <;> first | omega | trivial | assumption | (simp; done) | (simp; omega))) | (refine Sx.mk ?_ ?_; · omega) | refine Fa.mk (fun _ => ?_) | refine Im.mk (fun _ => ?_) | apply Lw.go | refine g_cond ?_ | refine g_guard ?_ | refine g_keep ?_ | refine g_pass ?_ | refine g_fin ?_ | (apply g_ap; exact rfl; exact rfl; assumption)
  unfold stepS at hR
  rw [if_neg hoff, if_neg hne] at hR
  have e : (setL r).getD (s.pick (setL r).length) 0 = (setL r)[s.one.pick (setL r).length] := by
    show (setL r).getD (s.one.pick (setL r).length) 0 = _
    rw [List.getD_eq_getElem?_getD, List.getElem?_eq_getElem hpl]; rfl
  rw [e] at hR
  exact fin hR
theorem picks_New_spec {p : Option Addr} {c : Nat} {l : List Int} {k : Int} (hl : l.length ≤ 1000000000) (hk : -9223372036854775808 ≤ k ∧ k ≤ 9223372036854775807) : Spec prog1 n_picks_New [.slice p l.length c, .int .i64 k] [rdl (kInt .i64) p l] (fun R => ∀ b, R (.pointer (some ⟨b, 0, none⟩)) [scr true b ⟨l, k, 0, 0⟩]) := by
  refine spec_code c_picks_New rfl ?_; intro n F R hR; unfold F_picks_New
  repeat' first | apply step | (apply g_op; · repeat first | exact Evs.nil | (apply Evs.cons; exact rfl)) | (refine Br.mk (fun _ => ?_) (fun _ => ?_) <;> try (exfalso; omega)) | (refine Sd.mk ?_ ?_; · ((repeat' apply And.intro) <;> first | omega | trivial | assumption | (simp; done) | (simp; omega))) | (refine Sx.mk ?_ ?_; · omega) | refine Fa.mk (fun _ => ?_) | refine Im.mk (fun _ => ?_) | apply Lw.go | refine g_cond ?_ | refine g_guard ?_ | refine g_keep ?_ | refine g_pass ?_ | refine g_fin ?_ | (apply g_ap; exact rfl; exact rfl; assumption)
  first | refine at_callS (slices_Clone_int_int_spec hl) ?_ | refine at_callR (slices_Clone_int_int_spec hl) ?_
  intro p1 c1
  repeat' first | apply step | (apply g_op; · repeat first | exact Evs.nil | (apply Evs.cons; exact rfl)) | (refine Br.mk (fun _ => ?_) (fun _ => ?_) <;> try (exfalso; omega)) | (refine Sd.mk ?_ ?_; · ((repeat' apply And.intro) <;> first | omega | trivial | assumption | (simp; done) | (simp; omega))) | (refine Sx.mk ?_ ?_; · omega) | refine Fa.mk (fun _ => ?_) | refine Im.mk (fun _ => ?_) | apply Lw.go | refine g_cond ?_ | refine g_guard ?_ | refine g_keep ?_ | refine g_pass ?_ | refine g_fin ?_ | (apply g_ap; exact rfl; exact rfl; assumption)
  rename_i b
  refine fin_foldP (scr true b ⟨l, k, 0, 0⟩) rfl (p1, c1) ⟨hk, by simp, by simp, hl⟩ ?_
  exact fin (hR b)
end
end
end Go.AMS

namespace Go.AMS
open Go.AM hiding Kt At WP WL Runs RunsY
open Go.AM.G
set_option linter.unusedVariables false
set_option linter.unusedSimpArgs false
set_option linter.unusedSectionVars false
set_option maxRecDepth 100000
set_option maxHeartbeats 1000000
attribute [local irreducible] AtS AtV AtC AtG FinA Spec Post LP G.At G.WP G.WL pt own fro rdl ro hx mp lrec elt sub

open Go.AM.G.Set
section
theorem r01_Same_spec {p q : Option Addr} {c c' : Nat} {a b : List Int} (ha : a.length ≤ 1000000000000) : Spec prog1 n_r01_Same [.slice p a.length c, .slice q b.length c'] [rdl (kInt .i64) p a, rdl (kInt .i64) q b] (fun R => (a = b → R (.bool true) []) ∧ (a ≠ b → R (.bool false) [])) := by
  refine spec_code c_r01_Same rfl ?_; intro n F R hR; unfold F_r01_Same
  repeat' first | apply step | (apply g_op; · repeat first | exact Evs.nil | (apply Evs.cons; exact rfl)) | (refine Br.mk (fun _ => ?_) (fun _ => ?_) <;> try (exfalso; omega)) | (refine Sd.mk ?_ ?_; · ((repeat' apply And.intro) <;> first | omega | trivial | assumption | (simp; done) | (simp; omega))) | (refine Sx.mk ?_ ?_; · omega) | refine Fa.mk (fun _ => ?_) | refine Im.mk (fun _ => ?_) | apply Lw.go | refine g_cond ?_ | refine g_guard ?_ | refine g_keep ?_ | refine g_pass ?_ | refine g_fin ?_ | (apply g_ap; exact rfl; exact rfl; assumption)
  · exact fin (hR.2 (fun h => by subst h; simp at *))
  refine at_loopS (ι := Nat) (E := fun k => [(0, .slice p a.length c), (1, .slice q b.length c'), (5, .int .i64 (k : Int))]) (Δ := fun _ => rdl (kInt .i64) p a :: rdl (kInt .i64) q b :: F) (P := fun k => k ≤ a.length ∧ a.take k = b.take k) (μ := fun k => a.length - k) 0 ⟨Nat.zero_le _, by simp⟩ ?_
  rintro k ⟨hk, he⟩
  have hlen : a.length = b.length := by omega
  dsimp only
  repeat' first | apply step | (apply g_op; · repeat first | exact Evs.nil | (apply Evs.cons; exact rfl)) | (refine Br.mk (fun _ => ?_) (fun _ => ?_) <;> try (exfalso; omega)) | (refine Sd.mk ?_ ?_; · ((repeat' apply And.intro) <;> first | omega | trivial | assumption | (simp; done) | (simp; omega))) | (refine Sx.mk ?_ ?_; · omega) | refine Fa.mk (fun _ => ?_) | refine Im.mk (fun _ => ?_) | apply Lw.go | refine g_cond ?_ | refine g_guard ?_ | refine g_keep ?_ | refine g_pass ?_ | refine g_fin ?_ | (apply g_ap; exact rfl; exact rfl; assumption)
  · refine fin (hR.2 (fun h => ?_))
    subst h
    simp at *
  · refine lp_next (k + 1) ⟨by omega, ?_⟩ (by omega)
    have : a[k]'(by omega) = b[k]'(by omega) := by simpa using ‹¬ _ ≠ _›
    rw [List.take_succ_eq_append_getElem (by omega), List.take_succ_eq_append_getElem (by omega), he, this]
  · refine fin (hR.1 ?_)
    rw [List.take_of_length_le (by omega), List.take_of_length_le (by omega)] at he
    exact he
theorem r05_Has_spec {p : Option Addr} {c : Nat} {l : List Int} {x : Int} (hl : l.length ≤ 1000000000000) : Spec prog1 n_r05_Has [.slice p l.length c, .int .i64 x] [rdl (kInt .i64) p l] (fun R => (x ∈ l → R (.bool true) []) ∧ (x ∉ l → R (.bool false) [])) := by
  refine spec_code c_r05_Has rfl ?_; intro n F R hR; unfold F_r05_Has
  repeat' first | apply step | (apply g_op; · repeat first | exact Evs.nil | (apply Evs.cons; exact rfl)) | (refine Br.mk (fun _ => ?_) (fun _ => ?_) <;> try (exfalso; omega)) | (refine Sd.mk ?_ ?_; · ((repeat' apply And.intro) <;> first | omega | trivial | assumption | (simp; done) | (simp; omega))) | (refine Sx.mk ?_ ?_; · omega) | refine Fa.mk (fun _ => ?_) | refine Im.mk (fun _ => ?_) | apply Lw.go | refine g_cond ?_ | refine g_guard ?_ | refine g_keep ?_ | refine g_pass ?_ | refine g_fin ?_ | (apply g_ap; exact rfl; exact rfl; assumption)
  refine at_loopS (ι := Nat) (E := fun k => [(0, .slice p l.length c), (1, .int .i64 x), (5, .int .i64 (k : Int))]) (Δ := fun _ => rdl (kInt .i64) p l :: F) (P := fun k => k ≤ l.length ∧ x ∉ l.take k) (μ := fun k => l.length - k) 0 ⟨Nat.zero_le _, by simp⟩ ?_
  rintro k ⟨hk, hI⟩
  dsimp only
  repeat' first | apply step | (apply g_op; · repeat first | exact Evs.nil | (apply Evs.cons; exact rfl)) | (refine Br.mk (fun _ => ?_) (fun _ => ?_) <;> try (exfalso; omega)) | (refine Sd.mk ?_ ?_; · ((repeat' apply And.intro) <;> first | omega | trivial | assumption | (simp; done) | (simp; omega))) | (refine Sx.mk ?_ ?_; · omega) | refine Fa.mk (fun _ => ?_) | refine Im.mk (fun _ => ?_) | apply Lw.go | refine g_cond ?_ | refine g_guard ?_ | refine g_keep ?_ | refine g_pass ?_ | refine g_fin ?_ | (apply g_ap; exact rfl; exact rfl; assumption)
  · exact fin (hR.1 (by rw [← ‹l[k] = x›]; exact List.getElem_mem _))
  · refine lp_next (k + 1) ⟨by omega, ?_⟩ (by omega)
    rw [List.take_succ_eq_append_getElem (by omega)]
    intro hm
    rcases List.mem_append.1 hm with hm | hm
    · exact hI hm
    · simp at hm; exact absurd hm.symm (by assumption)
  · refine fin (hR.2 ?_)
    rwa [List.take_of_length_le (by omega)] at hI

theorem setL_get {l : List Int} {i j : Nat} (hij : i < j) (hj : j < (setL l).length) : (setL l)[i]'(by omega) < (setL l)[j] :=
  List.pairwise_iff_getElem.1 (setL_lt l) i j (by omega) hj hij
theorem not_in_take {l : List Int} {n : Nat} (hn : n < (setL l).length) : (setL l)[n] ∉ (setL l).take n := by
  intro h
  obtain ⟨i, hi, e⟩ := List.getElem_of_mem h
  rw [List.getElem_take] at e
  simp at hi
  have := setL_get (l := l) (i := i) (j := n) (by omega) hn
  omega
theorem all_taken {l : List Int} {n : Nat} (h : ∀ x ∈ l, x ∈ (setL l).take n) : (setL l).take n = setL l := by
  refine List.take_of_length_le ?_
  rcases Nat.lt_or_ge n (setL l).length with hn | hn
  · exact absurd (h _ (mem_setL.1 (List.getElem_mem hn))) (not_in_take hn)
  · exact hn
theorem next_least {l : List Int} {n : Nat} {best : Int} (h1 : best ∈ l) (h2 : best ∉ (setL l).take n) (h3 : ∀ x ∈ l, x ∉ (setL l).take n → best ≤ x) : n < (setL l).length ∧ (setL l).take (n + 1) = (setL l).take n ++ [best] := by
  obtain ⟨i, hi, e⟩ := List.getElem_of_mem (mem_setL.2 h1)
  have hin : n ≤ i := by
    rcases Nat.lt_or_ge i n with q | q
    · exfalso; apply h2
      rw [List.mem_take_iff_getElem]
      exact ⟨i, by omega, e⟩
    · exact q
  have hn : n < (setL l).length := by omega
  refine ⟨hn, ?_⟩
  rw [List.take_succ_eq_append_getElem hn]
  congr 2
  have h4 := h3 _ (mem_setL.1 (List.getElem_mem hn)) (not_in_take hn)
  rcases Nat.lt_or_eq_of_le hin with q | q
  · have := setL_get (l := l) q hi; omega
  · subst q; exact e
theorem r05_Of_spec {p : Option Addr} {c : Nat} {l : List Int} (hl : l.length ≤ 1000000000) : Spec prog1 n_r05_Of [.slice p l.length c] [rdl (kInt .i64) p l] (fun R => ∀ p' c', R (.slice p' (setL l).length c') [own (kInt .i64) p' c' (setL l)]) := by
  refine spec_code c_r05_Of rfl ?_; intro n F R hR; unfold F_r05_Of
  have hsl := setL_le l
  iterate 2 apply step
  refine at_bnd (p := p) (l := l) (fun hb => ?_)
  repeat' first | apply step | (apply g_op; · repeat first | exact Evs.nil | (apply Evs.cons; exact rfl)) | (refine Br.mk (fun _ => ?_) (fun _ => ?_) <;> try (exfalso; omega)) | (refine Sd.mk ?_ ?_; · ((repeat' apply And.intro) <;> first | omega | trivial | assumption | (simp; done) | (simp; omega))) | (refine Sx.mk ?_ ?_; · omega) | refine Fa.mk (fun _ => ?_) | refine Im.mk (fun _ => ?_) | apply Lw.go | refine g_cond ?_ | refine g_guard ?_ | refine g_keep ?_ | refine g_pass ?_ | refine g_fin ?_ | (apply g_ap; exact rfl; exact rfl; assumption)
  refine at_loopS (ι := Option Addr × Nat × List Int × Nat) (E := fun w => [(0, .slice p l.length c), (3, .slice w.1 w.2.2.1.length w.2.1), (4, .int .i64 (w.2.2.2 : Int))]) (Δ := fun w => own (kInt .i64) w.1 w.2.1 w.2.2.1 :: rdl (kInt .i64) p l :: F) (P := fun w => w.2.2.2 ≤ l.length ∧ w.2.2.1.length = w.2.2.2 ∧ w.2.2.1 = (setL l).take w.2.2.2) (μ := fun w => l.length + 1 - w.2.2.2) (none, 0, [], 0) ⟨Nat.zero_le _, rfl, by simp⟩ ?_
  rintro ⟨po, co, out, j⟩ ⟨hle, hj, ho⟩
  dsimp only at hle hj ho ⊢
  repeat' first | apply step | (apply g_op; · repeat first | exact Evs.nil | (apply Evs.cons; exact rfl)) | (refine Br.mk (fun _ => ?_) (fun _ => ?_) <;> try (exfalso; omega)) | (refine Sd.mk ?_ ?_; · ((repeat' apply And.intro) <;> first | omega | trivial | assumption | (simp; done) | (simp; omega))) | (refine Sx.mk ?_ ?_; · omega) | refine Fa.mk (fun _ => ?_) | refine Im.mk (fun _ => ?_) | apply Lw.go | refine g_cond ?_ | refine g_guard ?_ | refine g_keep ?_ | refine g_pass ?_ | refine g_fin ?_ | (apply g_ap; exact rfl; exact rfl; assumption)
  refine at_loopS (ι := Int × Bool × Nat) (E := fun w => [(0, .slice p l.length c), (3, .slice po out.length co), (4, .int .i64 (j : Int)), (5, .int .i64 w.1), (6, .bool w.2.1), (7, .int .i64 (w.2.2 : Int))]) (Δ := fun w => own (kInt .i64) po co out :: rdl (kInt .i64) p l :: F)
    (P := fun w => w.2.2 ≤ l.length ∧ (w.2.1 = false → ∀ x ∈ l.take w.2.2, x ∈ out) ∧ (w.2.1 = true → w.1 ∈ l ∧ w.1 ∉ out ∧ ∀ x ∈ l.take w.2.2, x ∉ out → w.1 ≤ x)) (μ := fun w => l.length - w.2.2) (0, false, 0) ⟨Nat.zero_le _, by simp, by simp⟩ ?_
  rintro ⟨best, found, k⟩ ⟨hk, hf, ht⟩
  dsimp only at hk hf ht ⊢
  repeat' first | apply step | (apply g_op; · repeat first | exact Evs.nil | (apply Evs.cons; exact rfl)) | (refine Br.mk (fun _ => ?_) (fun _ => ?_) <;> try (exfalso; omega)) | (refine Sd.mk ?_ ?_; · ((repeat' apply And.intro) <;> first | omega | trivial | assumption | (simp; done) | (simp; omega))) | (refine Sx.mk ?_ ?_; · omega) | refine Fa.mk (fun _ => ?_) | refine Im.mk (fun _ => ?_) | apply Lw.go | refine g_cond ?_ | refine g_guard ?_ | refine g_keep ?_ | refine g_pass ?_ | refine g_fin ?_ | (apply g_ap; exact rfl; exact rfl; assumption)
  · have hkl : k < l.length := by omega
    have stp : ∀ x ∈ l.take (k + 1), x ∈ l.take k ∨ x = l[k] := by
      intro x hx
      rw [List.take_succ_eq_append_getElem hkl] at hx
      rcases List.mem_append.1 hx with h | h
      · exact .inl h
      · simp at h; exact .inr h
    first | refine at_callS (r05_Has_spec (l := out) (x := l[k]) (by omega)) ?_ | refine at_callR (r05_Has_spec (l := out) (x := l[k]) (by omega)) ?_
    refine ⟨fun hin => ?_, fun hin => ?_⟩
    · repeat' first | apply step | (apply g_op; · repeat first | exact Evs.nil | (apply Evs.cons; exact rfl)) | (refine Br.mk (fun _ => ?_) (fun _ => ?_) <;> try (exfalso; omega)) | (refine Sd.mk ?_ ?_; · ((repeat' apply And.intro) <;> first | omega | trivial | assumption | (simp; done) | (simp; omega))) | (refine Sx.mk ?_ ?_; · omega) | refine Fa.mk (fun _ => ?_) | refine Im.mk (fun _ => ?_) | apply Lw.go | refine g_cond ?_ | refine g_guard ?_ | refine g_keep ?_ | refine g_pass ?_ | refine g_fin ?_ | (apply g_ap; exact rfl; exact rfl; assumption)
      refine lp_next (best, found, k + 1) ⟨by dsimp only; omega, fun h x hx => ?_, fun h => ?_⟩ (by dsimp only; omega)
      · rcases stp x hx with h1 | rfl
        · exact hf h x h1
        · exact hin
      · refine ⟨(ht h).1, (ht h).2.1, fun x hx hx2 => ?_⟩
        rcases stp x hx with h1 | rfl
        · exact (ht h).2.2 x h1 hx2
        · exact absurd hin hx2
    · cases found
      all_goals
        repeat' first | apply step | (apply g_op; · repeat first | exact Evs.nil | (apply Evs.cons; exact rfl)) | (refine Br.mk (fun _ => ?_) (fun _ => ?_) <;> try (exfalso; omega)) | (refine Sd.mk ?_ ?_; · ((repeat' apply And.intro) <;> first | omega | trivial | assumption | (simp; done) | (simp; omega))) | (refine Sx.mk ?_ ?_; · omega) | refine Fa.mk (fun _ => ?_) | refine Im.mk (fun _ => ?_) | apply Lw.go | refine g_cond ?_ | refine g_guard ?_ | refine g_keep ?_ | refine g_pass ?_ | refine g_fin ?_ | (apply g_ap; exact rfl; exact rfl; assumption)
      · refine lp_next (l[k], true, k + 1) ⟨by dsimp only; omega, by simp, fun _ => ⟨List.getElem_mem hkl, hin, fun x hx hx2 => ?_⟩⟩ (by dsimp only; omega)
        rcases stp x hx with h | rfl
        · exact absurd (hf rfl x h) hx2
        · exact Int.le_refl _
      · refine lp_next (l[k], true, k + 1) ⟨by dsimp only; omega, by simp, fun _ => ⟨List.getElem_mem hkl, hin, fun x hx hx2 => ?_⟩⟩ (by dsimp only; omega)
        rcases stp x hx with h | rfl
        · have := (ht rfl).2.2 x h hx2; omega
        · exact Int.le_refl _
      · refine lp_next (best, true, k + 1) ⟨by dsimp only; omega, by simp, fun _ => ⟨(ht rfl).1, (ht rfl).2.1, fun x hx hx2 => ?_⟩⟩ (by dsimp only; omega)
        rcases stp x hx with h | rfl
        · exact (ht rfl).2.2 x h hx2
        · omega
  · -- one more
    have hkl : l.take k = l := List.take_of_length_le (by omega)
    rw [hkl] at ht
    obtain ⟨h1, h2, h3⟩ := ht (by assumption)
    rw [ho] at h2 h3
    obtain ⟨q1, q2⟩ := next_least h1 h2 h3
    have := hb best h1
    repeat' first | apply step | (apply g_op; · repeat first | exact Evs.nil | (apply Evs.cons; exact rfl)) | (refine Br.mk (fun _ => ?_) (fun _ => ?_) <;> try (exfalso; omega)) | (refine Sd.mk ?_ ?_; · ((repeat' apply And.intro) <;> first | omega | trivial | assumption | (simp; done) | (simp; omega))) | (refine Sx.mk ?_ ?_; · omega) | refine Fa.mk (fun _ => ?_) | refine Im.mk (fun _ => ?_) | apply Lw.go | refine g_cond ?_ | refine g_guard ?_ | refine g_keep ?_ | refine g_pass ?_ | refine g_fin ?_ | (apply g_ap; exact rfl; exact rfl; assumption)
    refine lp_next (_, _, out ++ [best], j + 1) ⟨by dsimp only; omega, ?_, ?_⟩ (by dsimp only; omega)
    · simp; omega
    · show out ++ [best] = _
      rw [q2, ← ho]
  · have hkl : l.take k = l := List.take_of_length_le (by omega)
    rw [hkl] at hf
    have hall := hf (by simpa using ‹¬ found = true›)
    rw [ho] at hall
    have := all_taken hall
    rw [← ho] at this
    subst this
    exact fin (hR po co)
theorem r09_Cancelled_spec {s : Scr} {p : Option Addr} {c : Nat} : Spec prog1 n_r09_Cancelled [.agg #[.slice p s.l.length c, .int .i64 s.cancel, .int .i64 (s.steps : Int), .int .i64 (s.used : Int)]] [] (fun R => (s.off → R (.bool true) []) ∧ (¬ s.off → R (.bool false) [])) := by
  refine spec_code c_r09_Cancelled rfl ?_; intro n F R hR; unfold F_r09_Cancelled
  repeat' first | apply step | (apply g_op; · repeat first | exact Evs.nil | (apply Evs.cons; exact rfl)) | (refine Br.mk (fun _ => ?_) (fun _ => ?_) <;> try (exfalso; omega)) | (refine Sd.mk ?_ ?_; · ((repeat' apply And.intro) <;> first | omega | trivial | assumption | (simp; done) | (simp; omega))) | (refine Sx.mk ?_ ?_; · omega) | refine Fa.mk (fun _ => ?_) | refine Im.mk (fun _ => ?_) | apply Lw.go | refine g_cond ?_ | refine g_guard ?_ | refine g_keep ?_ | refine g_pass ?_ | refine g_fin ?_ | (apply g_ap; exact rfl; exact rfl; assumption)
  · exact fin (hR.1 ⟨by omega, by omega⟩)
  · exact fin (hR.2 (fun h => by have := h.2; omega))
  · exact fin (hR.2 (fun h => by have := h.1; omega))
theorem r09_Step_spec {s : Scr} {p pr : Option Addr} {c cr : Nat} {r : List Int} (hr : r.length ≤ 1000000) (hsb : s.steps < 1000000000000) (hub : s.used < 1000000000000) : Spec prog1 n_r09_Step [.agg #[.slice p s.l.length c, .int .i64 s.cancel, .int .i64 (s.steps : Int), .int .i64 (s.used : Int)], .slice pr r.length cr] [rdl (kInt .i64) p s.l, rdl (kInt .i64) pr r]
    (fun R => R (.tuple #[.agg #[.slice p (stepS s r).1.l.length c, .int .i64 (stepS s r).1.cancel, .int .i64 ((stepS s r).1.steps : Int), .int .i64 ((stepS s r).1.used : Int)], .int .i64 (stepS s r).2.1, .int .i64 (stepS s r).2.2]) []) := by
  refine spec_code c_r09_Step rfl ?_; intro n F R hR; unfold F_r09_Step
  have hsl := setL_le r
  repeat' first | apply step | (apply g_op; · repeat first | exact Evs.nil | (apply Evs.cons; exact rfl)) | (refine Br.mk (fun _ => ?_) (fun _ => ?_) <;> try (exfalso; omega)) | (refine Sd.mk ?_ ?_; · ((repeat' apply And.intro) <;> first | omega | trivial | assumption | (simp; done) | (simp; omega))) | (refine Sx.mk ?_ ?_; · omega) | refine Fa.mk (fun _ => ?_) | refine Im.mk (fun _ => ?_) | apply Lw.go | refine g_cond ?_ | refine g_guard ?_ | refine g_keep ?_ | refine g_pass ?_ | refine g_fin ?_ | (apply g_ap; exact rfl; exact rfl; assumption)
  first | refine at_callS (r09_Cancelled_spec (s := s)) ?_ | refine at_callR (r09_Cancelled_spec (s := s)) ?_
  refine ⟨fun hoff => ?_, fun hoff => ?_⟩
  · repeat' first | apply step | (apply g_op; · repeat first | exact Evs.nil | (apply Evs.cons; exact rfl)) | (refine Br.mk (fun _ => ?_) (fun _ => ?_) <;> try (exfalso; omega)) | (refine Sd.mk ?_ ?_; · ((repeat' apply And.intro) <;> first | omega | trivial | assumption | (simp; done) | (simp; omega))) | (refine Sx.mk ?_ ?_; · omega) | refine Fa.mk (fun _ => ?_) | refine Im.mk (fun _ => ?_) | apply Lw.go | refine g_cond ?_ | refine g_guard ?_ | refine g_keep ?_ | refine g_pass ?_ | refine g_fin ?_ | (apply g_ap; exact rfl; exact rfl; assumption)
    unfold stepS at hR
    rw [if_pos hoff] at hR
    exact fin hR
  repeat' first | apply step | (apply g_op; · repeat first | exact Evs.nil | (apply Evs.cons; exact rfl)) | (refine Br.mk (fun _ => ?_) (fun _ => ?_) <;> try (exfalso; omega)) | (refine Sd.mk ?_ ?_; · ((repeat' apply And.intro) <;> first | omega | trivial | assumption | (simp; done) | (simp; omega))) | (refine Sx.mk ?_ ?_; · omega) | refine Fa.mk (fun _ => ?_) | refine Im.mk (fun _ => ?_) | apply Lw.go | refine g_cond ?_ | refine g_guard ?_ | refine g_keep ?_ | refine g_pass ?_ | refine g_fin ?_ | (apply g_ap; exact rfl; exact rfl; assumption)
  first | refine at_callS (r05_Of_spec (l := r) (by omega)) ?_ | refine at_callR (r05_Of_spec (l := r) (by omega)) ?_
  intro p1 c1
  by_cases hne : (setL r).length = 0
  · repeat' first | apply step | (apply g_op; · repeat first | exact Evs.nil | (apply Evs.cons; exact rfl)) | (refine Br.mk (fun _ => ?_) (fun _ => ?_) <;> try (exfalso; omega)) | (refine Sd.mk ?_ ?_; · ((repeat' apply And.intro) <;> first | omega | trivial | assumption | (simp; done) | (simp; omega))) | (refine Sx.mk ?_ ?_; · omega) | refine Fa.mk (fun _ => ?_) | refine Im.mk (fun _ => ?_) | apply Lw.go | refine g_cond ?_ | refine g_guard ?_ | refine g_keep ?_ | refine g_pass ?_ | refine g_fin ?_ | (apply g_ap; exact rfl; exact rfl; assumption)
    unfold stepS at hR
    rw [if_neg hoff, if_pos hne] at hR
    exact fin hR
  have hpl := pick_lt (s := s) (n := (setL r).length) (by omega)
  unfold stepS at hR
  rw [if_neg hoff, if_neg hne, List.getD_eq_getElem?_getD, List.getElem?_eq_getElem hpl] at hR
  have hnl : setL r ≠ [] := by intro e; rw [e] at hne; exact hne rfl
  by_cases hu : s.used < s.l.length
  · have t1 := Int.tmod_lt_of_pos s.l[s.used] (show (0 : Int) < (setL r).length by omega)
    have t2 : -((setL r).length : Int) < s.l[s.used].tmod (setL r).length := by
      have := Int.lt_tmod_of_pos s.l[s.used] (show (0 : Int) < (setL r).length by omega)
      omega
    have hpick : (s.pick (setL r).length : Int) = if s.l[s.used].tmod (setL r).length < 0 then s.l[s.used].tmod (setL r).length + (setL r).length else s.l[s.used].tmod (setL r).length := by
      unfold Scr.pick idx; rw [dif_pos hu]; split <;> omega
    have htook : s.one.took = { s with steps := s.steps + 1, used := s.used + 1 } := by unfold Scr.took Scr.one; rw [if_pos hu]
    rw [htook] at hR
    repeat' first | apply step | (apply g_op; · repeat first | exact Evs.nil | (apply Evs.cons; exact rfl)) | (refine Br.mk (fun _ => ?_) (fun _ => ?_) <;> try (exfalso; omega)) | (refine Sd.mk ?_ ?_; · ((repeat' apply And.intro) <;> first | omega | trivial | assumption | (simp; done) | (simp; omega))) | (refine Sx.mk ?_ ?_; · omega) | refine Fa.mk (fun _ => ?_) | refine Im.mk (fun _ => ?_) | apply Lw.go | refine g_cond ?_ | refine g_guard ?_ | refine g_keep ?_ | refine g_pass ?_ | refine g_fin ?_ | (apply g_ap; exact rfl; exact rfl; assumption)
    all_goals
      first | rw [if_pos (by assumption)] at hpick | rw [if_neg (by assumption)] at hpick
      rw [← hpick]
      refine at_opsA1 p1 hnl (fun sz hsz => ?_)
      repeat' first | apply step | (apply g_op; · repeat first | exact Evs.nil | (apply Evs.cons; exact rfl)) | (refine Br.mk (fun _ => ?_) (fun _ => ?_) <;> try (exfalso; omega)) | (refine Sd.mk ?_ ?_; · ((repeat' apply And.intro) <;> first | omega | trivial | assumption | (simp; done) | (simp; omega))) | (refine Sx.mk ?_ ?_; · omega) | refine Fa.mk (fun _ => ?_) | refine Im.mk (fun _ => ?_) | apply Lw.go | refine g_cond ?_ | refine g_guard ?_ | refine g_keep ?_ | refine g_pass ?_ | refine g_fin ?_ | (apply g_ap; exact rfl; exact rfl; assumption)
      exact fin hR
  · have hpick : s.pick (setL r).length = 0 := by unfold Scr.pick; rw [dif_neg hu]
    have htook : s.one.took = { s with steps := s.steps + 1 } := by unfold Scr.took Scr.one; rw [if_neg hu]
    simp only [hpick, htook] at hR
    repeat' first | apply step | (apply g_op; · repeat first | exact Evs.nil | (apply Evs.cons; exact rfl)) | (refine Br.mk (fun _ => ?_) (fun _ => ?_) <;> try (exfalso; omega)) | (refine Sd.mk ?_ ?_; · ((repeat' apply And.intro) <;> first | omega | trivial | assumption | (simp; done) | (simp; omega))) | (refine Sx.mk ?_ ?_; · omega) | refine Fa.mk (fun _ => ?_) | refine Im.mk (fun _ => ?_) | apply Lw.go | refine g_cond ?_ | refine g_guard ?_ | refine g_keep ?_ | refine g_pass ?_ | refine g_fin ?_ | (apply g_ap; exact rfl; exact rfl; assumption)
    refine at_opsA1 p1 hnl (fun sz hsz => ?_)
    repeat' first | apply step | (apply g_op; · repeat first | exact Evs.nil | (apply Evs.cons; exact rfl)) | (refine Br.mk (fun _ => ?_) (fun _ => ?_) <;> try (exfalso; omega)) | (refine Sd.mk ?_ ?_; · ((repeat' apply And.intro) <;> first | omega | trivial | assumption | (simp; done) | (simp; omega))) | (refine Sx.mk ?_ ?_; · omega) | refine Fa.mk (fun _ => ?_) | refine Im.mk (fun _ => ?_) | apply Lw.go | refine g_cond ?_ | refine g_guard ?_ | refine g_keep ?_ | refine g_pass ?_ | refine g_fin ?_ | (apply g_ap; exact rfl; exact rfl; assumption)
    exact fin hR
end
end Go.AMS

namespace Go.AMS
open Go.AM hiding Kt At WP WL Runs RunsY
open Go.AM.G Go.AM.G.Set
set_option linter.unusedVariables false
set_option linter.unusedSimpArgs false
/-- A worker: its row, and the job that it holds. -/
structure Wk where
  row : List Int
  job : Int
  holds : Bool
  deriving Inhabited
/-- What comes of a job. -/
def hv (x : Int) : List Int := if x < 2 then [] else [x / 2, x - x / 2]
/-- How many jobs come of a job, itself too. -/
def wt (x : Int) : Nat := if x < 2 then 1 else 2 * x.toNat - 1
def wts (l : List Int) : Nat := (l.map wt).sum
structure Po where
  ws : List Wk
  next : Nat
  did : List Int
  stolen : Nat
  who : List Int
def wait (ws : List Wk) : Nat := (ws.map fun w => w.row.length).sum
def rdy (ws : List Wk) (w : Wk) : Bool := w.holds || decide (0 < wait ws)
def readyL (ws : List Wk) : List Nat := (List.range ws.length).filter fun k => rdy ws (ws.getD k default)
def rowAt (ws : List Wk) (k : Nat) : List Int := (ws.getD k default).row
/-- The first other worker that has something. -/
def firstJ (ws : List Wk) (k : Nat) : Option Nat := (List.range' 1 (ws.length - 1)).find? fun j => !(rowAt ws ((k + j) % ws.length)).isEmpty
def Po.push (P : Po) (k : Nat) (x : Int) : Po := { P with ws := P.ws.set k { P.ws.getD k default with row := rowAt P.ws k ++ [x] } }
def Po.took (P : Po) (k : Nat) : Po :=
  let w := P.ws.getD k default
  if w.row ≠ [] then { P with ws := P.ws.set k ⟨w.row.dropLast, w.row.getLastD 0, true⟩ }
  else match firstJ P.ws k with
    | some j =>
      let f := (k + j) % P.ws.length
      let v := P.ws.getD f default
      { P with ws := (P.ws.set f ⟨v.row.tail, v.job, v.holds⟩).set k ⟨[], v.row.headD 0, true⟩, stolen := P.stolen + 1 }
    | none => { P with ws := P.ws.set k ⟨[], 0, false⟩ }
def Po.step (P : Po) (k : Nat) : Po :=
  let w := P.ws.getD k default
  let P := { P with who := P.who ++ [(k : Int)] }
  if w.holds then { P with ws := P.ws.set k ⟨w.row ++ hv w.job, 0, false⟩, did := P.did ++ [w.job] }
  else P.took k
/-- How many steps are still to come. -/
def mw (w : Wk) : Nat := 2 * wts w.row + bif w.holds then 2 * wt w.job - 1 else 0
def mm (ws : List Wk) : Nat := (ws.map mw).sum
structure Po.ok (P : Po) : Prop where
  n : 0 < P.ws.length ∧ P.ws.length ≤ 64
  x : P.next < P.ws.length
  w : P.who.length + mm P.ws ≤ 1000000
  d : P.did.length + mm P.ws ≤ 1000000
  s : P.stolen + mm P.ws ≤ 1000000
end Go.AMS

namespace Go.AMS
open Go.AM hiding Kt At WP WL Runs RunsY
open Go.AM.G
set_option linter.unusedVariables false
set_option linter.unusedSimpArgs false
set_option linter.unusedSectionVars false
set_option maxRecDepth 100000
set_option maxHeartbeats 1000000
attribute [local irreducible] AtS AtV AtC AtG FinA Spec Post LP G.At G.WP G.WL pt own fro rdl ro hx mp lrec elt sub

section
/-- A row in a ring. -/
structure Rg (ring : List Int) (top : Nat) (l : List Int) : Prop where
  le : l.length ≤ ring.length
  tp : top < ring.length ∨ ring.length = 0
  tt : top ≤ 1000000000
  rl : ring.length ≤ 1000000000
  ats : ∀ i (hi : i < l.length), ring[(top + i) % ring.length]? = some l[i]
section
variable {pre post : List Value} {b z m c top n : Nat} {p : Option Addr}
theorem deque_Deque_int_Len_spec : Spec prog1 n_deque_Deque_int_Len [.pointer (some ⟨b, pre.length, none⟩)] [ro (pt b (pre ++ (.slice p m c :: .int .i64 (top : Int) :: .int .i64 (n : Int) :: post)) z)] (fun R => R (.int .i64 (n : Int)) []) := by
  refine spec_code c_deque_Deque_int_Len rfl ?_; intro n F R hR; unfold F_deque_Deque_int_Len
  repeat' first | apply step | (apply g_op; · repeat first | exact Evs.nil | (apply Evs.cons; exact rfl)) | (refine Br.mk (fun _ => ?_) (fun _ => ?_) <;> try (exfalso; omega)) | (refine Sd.mk ?_ ?_; · ((repeat' apply And.intro) <;> first | omega | trivial | assumption | (simp; done) | (simp; omega))) | (refine Sx.mk ?_ ?_; · omega) | refine Fa.mk (fun _ => ?_) | refine Im.mk (fun _ => ?_) | apply Lw.go | refine g_cond ?_ | refine g_guard ?_ | refine g_keep ?_ | refine g_pass ?_ | refine g_fin ?_ | (apply g_ap; exact rfl; exact rfl; assumption)
  exact fin hR
theorem deque_Deque_int_at_spec {i : Nat} (hm : 0 < m) (ht : top + i ≤ 4000000000) : Spec prog1 n_deque_Deque_int_at [.pointer (some ⟨b, pre.length, none⟩), .int .i64 (i : Int)] [ro (pt b (pre ++ (.slice p m c :: .int .i64 (top : Int) :: .int .i64 (n : Int) :: post)) z)] (fun R => R (.int .i64 (((top + i) % m : Nat) : Int)) []) := by
  refine spec_code c_deque_Deque_int_at rfl ?_; intro n F R hR; unfold F_deque_Deque_int_at
  repeat' first | apply step | (apply g_op; · repeat first | exact Evs.nil | (apply Evs.cons; exact rfl)) | (refine Br.mk (fun _ => ?_) (fun _ => ?_) <;> try (exfalso; omega)) | (refine Sd.mk ?_ ?_; · ((repeat' apply And.intro) <;> first | omega | trivial | assumption | (simp; done) | (simp; omega))) | (refine Sx.mk ?_ ?_; · omega) | refine Fa.mk (fun _ => ?_) | refine Im.mk (fun _ => ?_) | apply Lw.go | refine g_cond ?_ | refine g_guard ?_ | refine g_keep ?_ | refine g_pass ?_ | refine g_fin ?_ | (apply g_ap; exact rfl; exact rfl; assumption)
  exact fin hR
theorem deque_Deque_int_each_spec : Spec prog1 n_deque_Deque_int_each [.pointer (some ⟨b, pre.length, none⟩)] [] (fun R => ∀ x, R (.func (.func n_deque_Deque_int_each_c1) #[] #[.pointer (some ⟨x, 0, none⟩)]) [pt x [.pointer (some ⟨b, pre.length, none⟩)] 0]) := by
  refine spec_code c_deque_Deque_int_each rfl ?_; intro n F R hR; unfold F_deque_Deque_int_each
  repeat' first | apply step | (apply g_op; · repeat first | exact Evs.nil | (apply Evs.cons; exact rfl)) | (refine Br.mk (fun _ => ?_) (fun _ => ?_) <;> try (exfalso; omega)) | (refine Sd.mk ?_ ?_; · ((repeat' apply And.intro) <;> first | omega | trivial | assumption | (simp; done) | (simp; omega))) | (refine Sx.mk ?_ ?_; · omega) | refine Fa.mk (fun _ => ?_) | refine Im.mk (fun _ => ?_) | apply Lw.go | refine g_cond ?_ | refine g_guard ?_ | refine g_keep ?_ | refine g_pass ?_ | refine g_fin ?_ | (apply g_ap; exact rfl; exact rfl; assumption)
  exact fin (hR _)
theorem deque_Deque_int_each_c1_spec {x ly : Nat} {ring l : List Int} {A : Nat → HP} {B : AX → HP} (hr : Rg ring top l) (hy : ∀ i (hi : i < l.length), YSpec prog1 ly [.int .i64 l[i]] [A i] (fun R => R (.bool true) [A (i + 1)] ∧ ∀ x, x ≠ .norm → R (.bool false) [B x])) :
    Spec prog1 n_deque_Deque_int_each_c1 [.func (.yield ly) #[] #[], .pointer (some ⟨x, 0, none⟩)] [A 0, pt x [.pointer (some ⟨b, pre.length, none⟩)] 0, ro (pt b (pre ++ (.slice p ring.length c :: .int .i64 (top : Int) :: .int .i64 (l.length : Int) :: post)) z), rdl (kInt .i64) p ring] (fun R => (∀ v, R v [A l.length]) ∧ ∀ x v, x ≠ .norm → R v [B x]) := by
  refine spec_code c_deque_Deque_int_each_c1 rfl ?_; intro n F R hR; unfold F_deque_Deque_int_each_c1
  repeat' first | apply step | (apply g_op; · repeat first | exact Evs.nil | (apply Evs.cons; exact rfl)) | (refine Br.mk (fun _ => ?_) (fun _ => ?_) <;> try (exfalso; omega)) | (refine Sd.mk ?_ ?_; · ((repeat' apply And.intro) <;> first | omega | trivial | assumption | (simp; done) | (simp; omega))) | (refine Sx.mk ?_ ?_; · omega) | refine Fa.mk (fun _ => ?_) | refine Im.mk (fun _ => ?_) | apply Lw.go | refine g_cond ?_ | refine g_guard ?_ | refine g_keep ?_ | refine g_pass ?_ | refine g_fin ?_ | (apply g_ap; exact rfl; exact rfl; assumption)
  refine at_loopS (ι := Nat) (E := fun k => [(0, .func (.yield ly) #[] #[]), (1, .pointer (some ⟨x, 0, none⟩)), (3, .int .i64 (k : Int))]) (Δ := fun k => A k :: pt x [.pointer (some ⟨b, pre.length, none⟩)] 0 :: ro (pt b (pre ++ (.slice p ring.length c :: .int .i64 (top : Int) :: .int .i64 (l.length : Int) :: post)) z) :: rdl (kInt .i64) p ring :: F) (P := fun k => k ≤ l.length) (μ := fun k => l.length - k) 0 (Nat.zero_le _) ?_
  rintro k hk
  dsimp only
  repeat' first | apply step | (apply g_op; · repeat first | exact Evs.nil | (apply Evs.cons; exact rfl)) | (refine Br.mk (fun _ => ?_) (fun _ => ?_) <;> try (exfalso; omega)) | (refine Sd.mk ?_ ?_; · ((repeat' apply And.intro) <;> first | omega | trivial | assumption | (simp; done) | (simp; omega))) | (refine Sx.mk ?_ ?_; · omega) | refine Fa.mk (fun _ => ?_) | refine Im.mk (fun _ => ?_) | apply Lw.go | refine g_cond ?_ | refine g_guard ?_ | refine g_keep ?_ | refine g_pass ?_ | refine g_fin ?_ | (apply g_ap; exact rfl; exact rfl; assumption)
  first | refine at_callS (deque_Deque_int_Len_spec) ?_ | refine at_callR (deque_Deque_int_Len_spec) ?_
  repeat' first | apply step | (apply g_op; · repeat first | exact Evs.nil | (apply Evs.cons; exact rfl)) | (refine Br.mk (fun _ => ?_) (fun _ => ?_) <;> try (exfalso; omega)) | (refine Sd.mk ?_ ?_; · ((repeat' apply And.intro) <;> first | omega | trivial | assumption | (simp; done) | (simp; omega))) | (refine Sx.mk ?_ ?_; · omega) | refine Fa.mk (fun _ => ?_) | refine Im.mk (fun _ => ?_) | apply Lw.go | refine g_cond ?_ | refine g_guard ?_ | refine g_keep ?_ | refine g_pass ?_ | refine g_fin ?_ | (apply g_ap; exact rfl; exact rfl; assumption)
  · have := hr.le
    have := hr.tt
    have := hr.rl
    have hlt : k < l.length := by omega
    first | refine at_callS (deque_Deque_int_at_spec (m := ring.length) (top := top) (i := k) (by omega) (by omega)) ?_ | refine at_callR (deque_Deque_int_at_spec (m := ring.length) (top := top) (i := k) (by omega) (by omega)) ?_
    have hmod : (top + k) % ring.length < ring.length := Nat.mod_lt _ (by omega)
    repeat' first | apply step | (apply g_op; · repeat first | exact Evs.nil | (apply Evs.cons; exact rfl)) | (refine Br.mk (fun _ => ?_) (fun _ => ?_) <;> try (exfalso; omega)) | (refine Sd.mk ?_ ?_; · ((repeat' apply And.intro) <;> first | omega | trivial | assumption | (simp; done) | (simp; omega))) | (refine Sx.mk ?_ ?_; · omega) | refine Fa.mk (fun _ => ?_) | refine Im.mk (fun _ => ?_) | apply Lw.go | refine g_cond ?_ | refine g_guard ?_ | refine g_keep ?_ | refine g_pass ?_ | refine g_fin ?_ | (apply g_ap; exact rfl; exact rfl; assumption)
    have hat := hr.ats k hlt
    rw [List.getElem?_eq_getElem hmod] at hat
    rw [Option.some.inj hat]
    refine at_callY (hy k hlt) ⟨?_, fun x hx => ?_⟩
    · repeat' first | apply step | (apply g_op; · repeat first | exact Evs.nil | (apply Evs.cons; exact rfl)) | (refine Br.mk (fun _ => ?_) (fun _ => ?_) <;> try (exfalso; omega)) | (refine Sd.mk ?_ ?_; · ((repeat' apply And.intro) <;> first | omega | trivial | assumption | (simp; done) | (simp; omega))) | (refine Sx.mk ?_ ?_; · omega) | refine Fa.mk (fun _ => ?_) | refine Im.mk (fun _ => ?_) | apply Lw.go | refine g_cond ?_ | refine g_guard ?_ | refine g_keep ?_ | refine g_pass ?_ | refine g_fin ?_ | (apply g_ap; exact rfl; exact rfl; assumption)
      refine lp_next (k + 1) (by omega) (by omega)
    · repeat' first | apply step | (apply g_op; · repeat first | exact Evs.nil | (apply Evs.cons; exact rfl)) | (refine Br.mk (fun _ => ?_) (fun _ => ?_) <;> try (exfalso; omega)) | (refine Sd.mk ?_ ?_; · ((repeat' apply And.intro) <;> first | omega | trivial | assumption | (simp; done) | (simp; omega))) | (refine Sx.mk ?_ ?_; · omega) | refine Fa.mk (fun _ => ?_) | refine Im.mk (fun _ => ?_) | apply Lw.go | refine g_cond ?_ | refine g_guard ?_ | refine g_keep ?_ | refine g_pass ?_ | refine g_fin ?_ | (apply g_ap; exact rfl; exact rfl; assumption)
      exact fin (hR.2 x _ hx)
  · repeat' first | apply step | (apply g_op; · repeat first | exact Evs.nil | (apply Evs.cons; exact rfl)) | (refine Br.mk (fun _ => ?_) (fun _ => ?_) <;> try (exfalso; omega)) | (refine Sd.mk ?_ ?_; · ((repeat' apply And.intro) <;> first | omega | trivial | assumption | (simp; done) | (simp; omega))) | (refine Sx.mk ?_ ?_; · omega) | refine Fa.mk (fun _ => ?_) | refine Im.mk (fun _ => ?_) | apply Lw.go | refine g_cond ?_ | refine g_guard ?_ | refine g_keep ?_ | refine g_pass ?_ | refine g_fin ?_ | (apply g_ap; exact rfl; exact rfl; assumption)
    have : k = l.length := by omega
    subst this
    exact fin (hR.1 _)
theorem deque_Deque_int_List_spec {ring l : List Int} (hr : Rg ring top l) (hl : l.length ≤ 1000000) : Spec prog1 n_deque_Deque_int_List [.pointer (some ⟨b, pre.length, none⟩)] [ro (pt b (pre ++ (.slice p ring.length c :: .int .i64 (top : Int) :: .int .i64 (l.length : Int) :: post)) z), rdl (kInt .i64) p ring] (fun R => ∀ p' c', R (.slice p' l.length c') [own (kInt .i64) p' c' l]) := by
  refine spec_code c_deque_Deque_int_List rfl ?_; intro n F R hR; unfold F_deque_Deque_int_List
  iterate 2 apply step
  refine at_bnd (p := p) (l := ring) (fun hb => ?_)
  have hbl : ∀ i (hi : i < l.length), -9223372036854775808 ≤ l[i] ∧ l[i] ≤ 9223372036854775807 := fun i hi => hb _ (List.mem_of_getElem? (hr.ats i hi))
  repeat' first | apply step | (apply g_op; · repeat first | exact Evs.nil | (apply Evs.cons; exact rfl)) | (refine Br.mk (fun _ => ?_) (fun _ => ?_) <;> try (exfalso; omega)) | (refine Sd.mk ?_ ?_; · ((repeat' apply And.intro) <;> first | omega | trivial | assumption | (simp; done) | (simp; omega))) | (refine Sx.mk ?_ ?_; · omega) | refine Fa.mk (fun _ => ?_) | refine Im.mk (fun _ => ?_) | apply Lw.go | refine g_cond ?_ | refine g_guard ?_ | refine g_keep ?_ | refine g_pass ?_ | refine g_fin ?_ | (apply g_ap; exact rfl; exact rfl; assumption)
  first | refine at_callS (deque_Deque_int_each_spec) ?_ | refine at_callR (deque_Deque_int_each_spec) ?_
  intro x
  repeat' first | apply step | (apply g_op; · repeat first | exact Evs.nil | (apply Evs.cons; exact rfl)) | (refine Br.mk (fun _ => ?_) (fun _ => ?_) <;> try (exfalso; omega)) | (refine Sd.mk ?_ ?_; · ((repeat' apply And.intro) <;> first | omega | trivial | assumption | (simp; done) | (simp; omega))) | (refine Sx.mk ?_ ?_; · omega) | refine Fa.mk (fun _ => ?_) | refine Im.mk (fun _ => ?_) | apply Lw.go | refine g_cond ?_ | refine g_guard ?_ | refine g_keep ?_ | refine g_pass ?_ | refine g_fin ?_ | (apply g_ap; exact rfl; exact rfl; assumption)
  rename_i xo
  obtain ⟨I, hI⟩ : ∃ I : Nat → HP, ∀ i, I i = hx fun (w : Option Addr × Nat × List Int) => (w.2.2 = l.take i, [pt xo [.slice w.1 w.2.2.length w.2.1] 0, own (kInt .i64) w.1 w.2.1 w.2.2]) := ⟨_, fun _ => rfl⟩
  refine at_foldP (I 0) (hI 0) (none, 0, []) (by simp) ?_
  refine at_rfunS (I := I) (J := fun _ => noP) (Po := []) l.length (fun i => [.int .i64 (l.getD i 0)])
    (fun ly A B h => deque_Deque_int_each_c1_spec hr (fun i hi => by have := h i hi; rwa [getD_lt hi] at this)) (fun _ _ => rfl) ?_ ?_ (fun _ _ => at_no)
  · intro i hi ly m F'
    refine at_openP (I i) (hI i) ?_
    rintro ⟨p', c', l'⟩ h
    dsimp only at h ⊢
    subst h
    rw [getD_lt hi]
    have := hbl i hi
    repeat' first | apply step | (apply g_op; · repeat first | exact Evs.nil | (apply Evs.cons; exact rfl)) | (refine Br.mk (fun _ => ?_) (fun _ => ?_) <;> try (exfalso; omega)) | (refine Sd.mk ?_ ?_; · ((repeat' apply And.intro) <;> first | omega | trivial | assumption | (simp; done) | (simp; omega))) | (refine Sx.mk ?_ ?_; · omega) | refine Fa.mk (fun _ => ?_) | refine Im.mk (fun _ => ?_) | apply Lw.go | refine g_cond ?_ | refine g_guard ?_ | refine g_keep ?_ | refine g_pass ?_ | refine g_fin ?_ | (apply g_ap; exact rfl; exact rfl; assumption)
    refine at_foldP (I (i + 1)) (hI _) (_, _, l.take i ++ [l[i]]) (take_snoc hi) ?_
    exact y_next
  · refine at_openP (I _) (hI _) ?_
    rintro ⟨p', c', l'⟩ h
    dsimp only at h ⊢
    rw [List.take_length] at h
    subst h
    repeat' first | apply step | (apply g_op; · repeat first | exact Evs.nil | (apply Evs.cons; exact rfl)) | (refine Br.mk (fun _ => ?_) (fun _ => ?_) <;> try (exfalso; omega)) | (refine Sd.mk ?_ ?_; · ((repeat' apply And.intro) <;> first | omega | trivial | assumption | (simp; done) | (simp; omega))) | (refine Sx.mk ?_ ?_; · omega) | refine Fa.mk (fun _ => ?_) | refine Im.mk (fun _ => ?_) | apply Lw.go | refine g_cond ?_ | refine g_guard ?_ | refine g_keep ?_ | refine g_pass ?_ | refine g_fin ?_ | (apply g_ap; exact rfl; exact rfl; assumption)
    exact fin (hR _ _)
/-- Unlike places of a ring. -/
theorem modne {a i j m : Nat} (h1 : j < i) (h2 : i - j < m) : (a + i) % m ≠ (a + j) % m := by
  intro e
  have k1 := Nat.div_add_mod (a + i) m
  have k2 := Nat.div_add_mod (a + j) m
  rw [e] at k1
  have h3 : (a + i) - (a + j) = m * ((a + i) / m - (a + j) / m) := by
    rw [Nat.mul_sub]; omega
  have h4 : 0 < (a + i) / m - (a + j) / m := by
    rcases Nat.eq_zero_or_pos ((a + i) / m - (a + j) / m) with q | q
    · rw [q] at h3; omega
    · exact q
  have := Nat.mul_le_mul_left m h4
  omega
theorem Rg.fresh {l : List Int} {k : Nat} (h1 : l.length ≤ k) (h2 : k ≤ 1000000000) : Rg (l ++ List.drop l.length (List.replicate k 0)) 0 l := by
  have e : (l ++ List.drop l.length (List.replicate k (0 : Int))).length = k := by simp; omega
  refine ⟨by omega, by omega, by omega, by omega, fun i hi => ?_⟩
  rw [e, Nat.zero_add, Nat.mod_eq_of_lt (by omega), List.getElem?_append_left hi, List.getElem?_eq_getElem hi]
theorem deque_Deque_int_grow_spec {ring l : List Int} (hr : Rg ring top l) (hl : l.length ≤ 1000000) : Spec prog1 n_deque_Deque_int_grow [.pointer (some ⟨b, pre.length, none⟩)] [pt b (pre ++ (.slice p ring.length c :: .int .i64 (top : Int) :: .int .i64 (l.length : Int) :: post)) z, own (kInt .i64) p c ring] (fun R => ∀ p' c' ring' (top' : Nat), Rg ring' top' l → l.length < ring'.length → R (.tuple #[]) [pt b (pre ++ (.slice p' ring'.length c' :: .int .i64 (top' : Int) :: .int .i64 (l.length : Int) :: post)) z, own (kInt .i64) p' c' ring']) := by
  refine spec_code c_deque_Deque_int_grow rfl ?_; intro n F R hR; unfold F_deque_Deque_int_grow
  repeat' first | apply step | (apply g_op; · repeat first | exact Evs.nil | (apply Evs.cons; exact rfl)) | (refine Br.mk (fun _ => ?_) (fun _ => ?_) <;> try (exfalso; omega)) | (refine Sd.mk ?_ ?_; · ((repeat' apply And.intro) <;> first | omega | trivial | assumption | (simp; done) | (simp; omega))) | (refine Sx.mk ?_ ?_; · omega) | refine Fa.mk (fun _ => ?_) | refine Im.mk (fun _ => ?_) | apply Lw.go | refine g_cond ?_ | refine g_guard ?_ | refine g_keep ?_ | refine g_pass ?_ | refine g_fin ?_ | (apply g_ap; exact rfl; exact rfl; assumption)
  · exact fin (hR _ _ _ _ hr (by omega))
  all_goals
    first | refine at_callS (deque_Deque_int_List_spec hr hl) ?_ | refine at_callR (deque_Deque_int_List_spec hr hl) ?_
    intro p1 c1
    repeat' first | apply step | (apply g_op; · repeat first | exact Evs.nil | (apply Evs.cons; exact rfl)) | (refine Br.mk (fun _ => ?_) (fun _ => ?_) <;> try (exfalso; omega)) | (refine Sd.mk ?_ ?_; · ((repeat' apply And.intro) <;> first | omega | trivial | assumption | (simp; done) | (simp; omega))) | (refine Sx.mk ?_ ?_; · omega) | refine Fa.mk (fun _ => ?_) | refine Im.mk (fun _ => ?_) | apply Lw.go | refine g_cond ?_ | refine g_guard ?_ | refine g_keep ?_ | refine g_pass ?_ | refine g_fin ?_ | (apply g_ap; exact rfl; exact rfl; assumption)
  · rename_i xb
    have e : (l ++ List.drop l.length (List.replicate (2 * l.length) (0 : Int))).length = 2 * l.length := by simp; omega
    have := hR (some ⟨xb, 0, none⟩) (2 * l.length) (l ++ List.drop l.length (List.replicate (2 * l.length) 0)) 0 (Rg.fresh (by omega) (by omega)) (by omega)
    rw [e] at this
    exact fin this
  · rename_i xb
    have e : (l ++ List.drop l.length (List.replicate 4 (0 : Int))).length = 4 := by simp; omega
    have := hR (some ⟨xb, 0, none⟩) 4 (l ++ List.drop l.length (List.replicate 4 0)) 0 (Rg.fresh (by omega) (by omega)) (by omega)
    rw [e] at this
    exact fin this
/-- What is pushed. -/
theorem Rg.push {ring l : List Int} {top : Nat} {x : Int} (hr : Rg ring top l) (hl : l.length < ring.length) : Rg (ring.set ((top + l.length) % ring.length) x) top (l ++ [x]) := by
  have hm : (top + l.length) % ring.length < ring.length := Nat.mod_lt _ (by omega)
  refine ⟨by simp; omega, by simpa using hr.tp, hr.tt, by simpa using hr.rl, fun i hi => ?_⟩
  simp only [List.length_set]
  simp only [List.length_append, List.length_cons, List.length_nil] at hi
  rw [List.getElem?_set]
  by_cases h : i = l.length
  · subst h
    rw [if_pos rfl, if_pos hm, List.getElem_append_right (by omega)]; simp
  · have hi' : i < l.length := by omega
    have hne : (top + l.length) % ring.length ≠ (top + i) % ring.length := modne (by omega) (by omega)
    rw [if_neg hne, hr.ats i hi', List.getElem_append_left hi']
theorem deque_Deque_int_Push_spec {ring l : List Int} {v : Int} (hr : Rg ring top l) (hl : l.length < 1000000) (hv : -9223372036854775808 ≤ v ∧ v ≤ 9223372036854775807) : Spec prog1 n_deque_Deque_int_Push [.pointer (some ⟨b, pre.length, none⟩), .int .i64 v] [pt b (pre ++ (.slice p ring.length c :: .int .i64 (top : Int) :: .int .i64 (l.length : Int) :: post)) z, own (kInt .i64) p c ring] (fun R => ∀ p' c' ring' (top' : Nat), Rg ring' top' (l ++ [v]) → R (.tuple #[]) [pt b (pre ++ (.slice p' ring'.length c' :: .int .i64 (top' : Int) :: .int .i64 ((l ++ [v]).length : Int) :: post)) z, own (kInt .i64) p' c' ring']) := by
  refine spec_code c_deque_Deque_int_Push rfl ?_; intro n F R hR; unfold F_deque_Deque_int_Push
  repeat' first | apply step | (apply g_op; · repeat first | exact Evs.nil | (apply Evs.cons; exact rfl)) | (refine Br.mk (fun _ => ?_) (fun _ => ?_) <;> try (exfalso; omega)) | (refine Sd.mk ?_ ?_; · ((repeat' apply And.intro) <;> first | omega | trivial | assumption | (simp; done) | (simp; omega))) | (refine Sx.mk ?_ ?_; · omega) | refine Fa.mk (fun _ => ?_) | refine Im.mk (fun _ => ?_) | apply Lw.go | refine g_cond ?_ | refine g_guard ?_ | refine g_keep ?_ | refine g_pass ?_ | refine g_fin ?_ | (apply g_ap; exact rfl; exact rfl; assumption)
  first | refine at_callS (deque_Deque_int_grow_spec hr (by omega)) ?_ | refine at_callR (deque_Deque_int_grow_spec hr (by omega)) ?_
  intro p1 c1 ring1 top1 hr1 hlt
  repeat' first | apply step | (apply g_op; · repeat first | exact Evs.nil | (apply Evs.cons; exact rfl)) | (refine Br.mk (fun _ => ?_) (fun _ => ?_) <;> try (exfalso; omega)) | (refine Sd.mk ?_ ?_; · ((repeat' apply And.intro) <;> first | omega | trivial | assumption | (simp; done) | (simp; omega))) | (refine Sx.mk ?_ ?_; · omega) | refine Fa.mk (fun _ => ?_) | refine Im.mk (fun _ => ?_) | apply Lw.go | refine g_cond ?_ | refine g_guard ?_ | refine g_keep ?_ | refine g_pass ?_ | refine g_fin ?_ | (apply g_ap; exact rfl; exact rfl; assumption)
  have := hr1.tt
  have := hr1.rl
  first | refine at_callS (deque_Deque_int_at_spec (m := ring1.length) (top := top1) (i := l.length) (by omega) (by omega)) ?_ | refine at_callR (deque_Deque_int_at_spec (m := ring1.length) (top := top1) (i := l.length) (by omega) (by omega)) ?_
  have hm : (top1 + l.length) % ring1.length < ring1.length := Nat.mod_lt _ (by omega)
  repeat' first | apply step | (apply g_op; · repeat first | exact Evs.nil | (apply Evs.cons; exact rfl)) | (refine Br.mk (fun _ => ?_) (fun _ => ?_) <;> try (exfalso; omega)) | (refine Sd.mk ?_ ?_; · ((repeat' apply And.intro) <;> first | omega | trivial | assumption | (simp; done) | (simp; omega))) | (refine Sx.mk ?_ ?_; · omega) | refine Fa.mk (fun _ => ?_) | refine Im.mk (fun _ => ?_) | apply Lw.go | refine g_cond ?_ | refine g_guard ?_ | refine g_keep ?_ | refine g_pass ?_ | refine g_fin ?_ | (apply g_ap; exact rfl; exact rfl; assumption)
  have := hR p1 c1 _ top1 (hr1.push (x := v) hlt)
  simp only [List.length_set, List.length_append, List.length_cons, List.length_nil, Nat.zero_add] at this
  exact fin this
theorem Rg.steal {ring l : List Int} {top : Nat} (hr : Rg ring top l) (hl : l ≠ []) (x : Int) : Rg (ring.set (top % ring.length) x) ((top + 1) % ring.length) l.tail := by
  have hpos : 0 < l.length := List.length_pos_iff.2 hl
  have := hr.le
  have := hr.rl
  have hm : (top + 1) % ring.length < ring.length := Nat.mod_lt _ (by omega)
  refine ⟨by simp; omega, by simp; omega, by omega, by simpa using hr.rl, fun i hi => ?_⟩
  simp only [List.length_set]
  simp only [List.length_tail] at hi
  have e : ((top + 1) % ring.length + i) % ring.length = (top + (i + 1)) % ring.length := by
    rw [Nat.mod_add_mod]; congr 1; omega
  rw [e, List.getElem?_set, if_neg (by
    have := modne (a := top) (i := i + 1) (j := 0) (m := ring.length) (by omega) (by omega)
    simp only [Nat.add_zero] at this; exact fun q => this q.symm), hr.ats (i + 1) (by omega), List.getElem_tail]
theorem deque_Deque_int_take_spec {ring l : List Int} {i : Nat} (hr : Rg ring top l) (hi : i < l.length) : Spec prog1 n_deque_Deque_int_take [.pointer (some ⟨b, pre.length, none⟩), .int .i64 (i : Int)] [pt b (pre ++ (.slice p ring.length c :: .int .i64 (top : Int) :: .int .i64 (l.length : Int) :: post)) z, own (kInt .i64) p c ring] (fun R => R (.int .i64 l[i]) [pt b (pre ++ (.slice p ring.length c :: .int .i64 (top : Int) :: .int .i64 ((l.length - 1 : Nat) : Int) :: post)) z, own (kInt .i64) p c (ring.set ((top + i) % ring.length) 0)]) := by
  refine spec_code c_deque_Deque_int_take rfl ?_; intro n F R hR; unfold F_deque_Deque_int_take
  have := hr.tt
  have := hr.rl
  have := hr.le
  repeat' first | apply step | (apply g_op; · repeat first | exact Evs.nil | (apply Evs.cons; exact rfl)) | (refine Br.mk (fun _ => ?_) (fun _ => ?_) <;> try (exfalso; omega)) | (refine Sd.mk ?_ ?_; · ((repeat' apply And.intro) <;> first | omega | trivial | assumption | (simp; done) | (simp; omega))) | (refine Sx.mk ?_ ?_; · omega) | refine Fa.mk (fun _ => ?_) | refine Im.mk (fun _ => ?_) | apply Lw.go | refine g_cond ?_ | refine g_guard ?_ | refine g_keep ?_ | refine g_pass ?_ | refine g_fin ?_ | (apply g_ap; exact rfl; exact rfl; assumption)
  first | refine at_callS (deque_Deque_int_at_spec (m := ring.length) (top := top) (i := i) (by omega) (by omega)) ?_ | refine at_callR (deque_Deque_int_at_spec (m := ring.length) (top := top) (i := i) (by omega) (by omega)) ?_
  have hm : (top + i) % ring.length < ring.length := Nat.mod_lt _ (by omega)
  have hat := hr.ats i hi
  rw [List.getElem?_eq_getElem hm] at hat
  have hat := Option.some.inj hat
  repeat' first | apply step | (apply g_op; · repeat first | exact Evs.nil | (apply Evs.cons; exact rfl)) | (refine Br.mk (fun _ => ?_) (fun _ => ?_) <;> try (exfalso; omega)) | (refine Sd.mk ?_ ?_; · ((repeat' apply And.intro) <;> first | omega | trivial | assumption | (simp; done) | (simp; omega))) | (refine Sx.mk ?_ ?_; · omega) | refine Fa.mk (fun _ => ?_) | refine Im.mk (fun _ => ?_) | apply Lw.go | refine g_cond ?_ | refine g_guard ?_ | refine g_keep ?_ | refine g_pass ?_ | refine g_fin ?_ | (apply g_ap; exact rfl; exact rfl; assumption)
  rw [hat]
  rw [show ((l.length - 1 : Nat) : Int) = (l.length : Int) - 1 by omega] at hR
  exact fin hR
theorem deque_Deque_int_Steal_spec {ring l : List Int} (hr : Rg ring top l) : Spec prog1 n_deque_Deque_int_Steal [.pointer (some ⟨b, pre.length, none⟩)] [pt b (pre ++ (.slice p ring.length c :: .int .i64 (top : Int) :: .int .i64 (l.length : Int) :: post)) z, own (kInt .i64) p c ring] (fun R =>
    (l = [] → R (.tuple #[.int .i64 0, .bool false]) [pt b (pre ++ (.slice p ring.length c :: .int .i64 (top : Int) :: .int .i64 (l.length : Int) :: post)) z, own (kInt .i64) p c ring]) ∧
    (∀ (h : l ≠ []) ring' (top' : Nat), ring'.length = ring.length → Rg ring' top' l.tail → R (.tuple #[.int .i64 (l.head h), .bool true]) [pt b (pre ++ (.slice p ring'.length c :: .int .i64 (top' : Int) :: .int .i64 (l.tail.length : Int) :: post)) z, own (kInt .i64) p c ring'])) := by
  refine spec_code c_deque_Deque_int_Steal rfl ?_; intro n F R hR; unfold F_deque_Deque_int_Steal
  have := hr.le
  have := hr.rl
  have := hr.tt
  repeat' first | apply step | (apply g_op; · repeat first | exact Evs.nil | (apply Evs.cons; exact rfl)) | (refine Br.mk (fun _ => ?_) (fun _ => ?_) <;> try (exfalso; omega)) | (refine Sd.mk ?_ ?_; · ((repeat' apply And.intro) <;> first | omega | trivial | assumption | (simp; done) | (simp; omega))) | (refine Sx.mk ?_ ?_; · omega) | refine Fa.mk (fun _ => ?_) | refine Im.mk (fun _ => ?_) | apply Lw.go | refine g_cond ?_ | refine g_guard ?_ | refine g_keep ?_ | refine g_pass ?_ | refine g_fin ?_ | (apply g_ap; exact rfl; exact rfl; assumption)
  first | refine at_callS (deque_Deque_int_Len_spec) ?_ | refine at_callR (deque_Deque_int_Len_spec) ?_
  repeat' first | apply step | (apply g_op; · repeat first | exact Evs.nil | (apply Evs.cons; exact rfl)) | (refine Br.mk (fun _ => ?_) (fun _ => ?_) <;> try (exfalso; omega)) | (refine Sd.mk ?_ ?_; · ((repeat' apply And.intro) <;> first | omega | trivial | assumption | (simp; done) | (simp; omega))) | (refine Sx.mk ?_ ?_; · omega) | refine Fa.mk (fun _ => ?_) | refine Im.mk (fun _ => ?_) | apply Lw.go | refine g_cond ?_ | refine g_guard ?_ | refine g_keep ?_ | refine g_pass ?_ | refine g_fin ?_ | (apply g_ap; exact rfl; exact rfl; assumption)
  · exact fin (hR.1 (List.eq_nil_of_length_eq_zero (by omega)))
  · have hne : l ≠ [] := by rintro rfl; simp at *
    have hpos := List.length_pos_iff.2 hne
    have := hr.le
    have := hr.tt
    first | refine at_callS (deque_Deque_int_take_spec hr (i := 0) hpos) ?_ | refine at_callR (deque_Deque_int_take_spec hr (i := 0) hpos) ?_
    repeat' first | apply step | (apply g_op; · repeat first | exact Evs.nil | (apply Evs.cons; exact rfl)) | (refine Br.mk (fun _ => ?_) (fun _ => ?_) <;> try (exfalso; omega)) | (refine Sd.mk ?_ ?_; · ((repeat' apply And.intro) <;> first | omega | trivial | assumption | (simp; done) | (simp; omega))) | (refine Sx.mk ?_ ?_; · omega) | refine Fa.mk (fun _ => ?_) | refine Im.mk (fun _ => ?_) | apply Lw.go | refine g_cond ?_ | refine g_guard ?_ | refine g_keep ?_ | refine g_pass ?_ | refine g_fin ?_ | (apply g_ap; exact rfl; exact rfl; assumption)
    first | refine at_callS (deque_Deque_int_at_spec (m := ring.length) (top := top) (i := 1) (by omega) (by omega)) ?_ | refine at_callR (deque_Deque_int_at_spec (m := ring.length) (top := top) (i := 1) (by omega) (by omega)) ?_
    repeat' first | apply step | (apply g_op; · repeat first | exact Evs.nil | (apply Evs.cons; exact rfl)) | (refine Br.mk (fun _ => ?_) (fun _ => ?_) <;> try (exfalso; omega)) | (refine Sd.mk ?_ ?_; · ((repeat' apply And.intro) <;> first | omega | trivial | assumption | (simp; done) | (simp; omega))) | (refine Sx.mk ?_ ?_; · omega) | refine Fa.mk (fun _ => ?_) | refine Im.mk (fun _ => ?_) | apply Lw.go | refine g_cond ?_ | refine g_guard ?_ | refine g_keep ?_ | refine g_pass ?_ | refine g_fin ?_ | (apply g_ap; exact rfl; exact rfl; assumption)
    have hst := hr.steal hne 0
    have := hR.2 hne _ _ (by simp) hst
    rw [List.head_eq_getElem, List.length_tail, List.length_set] at this
    exact fin this
end
end
end Go.AMS

namespace Go.AMS
open Go.AM hiding Kt At WP WL Runs RunsY
open Go.AM.G
set_option linter.unusedVariables false
set_option linter.unusedSimpArgs false
set_option linter.unusedSectionVars false
set_option maxRecDepth 100000
set_option maxHeartbeats 1000000
attribute [local irreducible] AtS AtV AtC AtG FinA Spec Post LP G.At G.WP G.WL pt own fro rdl ro hx mp lrec elt sub

open Go.AM.G.Set
section
variable {b sb : Nat} {P : Po}
theorem one_took (s : Scr) : (s.one.took).steps = s.steps + 1 ∧ (s.one.took).used ≤ s.used + 1 ∧ (s.one.took).l = s.l ∧ (s.one.took).cancel = s.cancel := by
  unfold Scr.took Scr.one
  split <;> simp
/-- A step of a script, with somebody ready. -/
theorem stepS_off {s : Scr} {r : List Int} (h : s.off) : stepS s r = (s, 0, 8) := by unfold stepS; rw [if_pos h]
theorem stepS_on {s : Scr} {r : List Int} (h : ¬ s.off) (hr : r ≠ []) : stepS s r = (s.one.took, (setL r).getD (s.pick (setL r).length) 0, 0) ∧ (setL r).getD (s.pick (setL r).length) 0 ∈ r := by
  have hne : (setL r).length ≠ 0 := fun e => hr (setL_nil_iff.1 e)
  refine ⟨by unfold stepS; rw [if_neg h, if_neg hne], ?_⟩
  rw [getD_lt (pick_lt (by omega))]
  exact mem_setL.1 (List.getElem_mem _)
theorem map_ne {l : List Nat} (h : l ≠ []) : l.map Int.ofNat ≠ [] := by simpa using h
theorem Scr.ok.one {s : Scr} (h : s.ok) (h1 : s.steps + 1 ≤ 1000000000000) (h2 : s.used + 1 ≤ 1000000000000) : s.one.took.ok := by
  obtain ⟨e1, e2, e3, e4⟩ := one_took s
  exact ⟨by rw [e4]; exact h.hc, by omega, by omega, by rw [e3]; exact h.hl⟩
end
end Go.AMS

namespace Go.AMS
open Go.AM hiding Kt At WP WL Runs RunsY
open Go.AM.G
set_option linter.unusedVariables false
set_option linter.unusedSimpArgs false
set_option linter.unusedSectionVars false
set_option maxRecDepth 100000
set_option maxHeartbeats 1000000
attribute [local irreducible] AtS AtV AtC AtG FinA Spec Post LP G.At G.WP G.WL pt own fro rdl ro hx mp lrec elt sub

section
structure Pi where
  room : Nat
  q : List Int
  closed : Bool
  sent : Nat
  recv : Nat
structure Pi.ok (P : Pi) : Prop where
  r : 0 < P.room ∧ P.room ≤ 64
  q : P.q.length ≤ 100000
  s : P.sent ≤ 100000
  v : P.recv ≤ 100000
/-- A pipe in a heap. -/
def pipe (b : Nat) (P : Pi) : HP := hx fun (x : Option Addr × Nat × List Int × Nat) => (Rg x.2.2.1 x.2.2.2 P.q ∧ P.ok, [pt b [.int .i64 (P.room : Int), .slice x.1 x.2.2.1.length x.2.1, .int .i64 (x.2.2.2 : Int), .int .i64 (P.q.length : Int), .bool P.closed, .int .i64 (P.sent : Int), .int .i64 (P.recv : Int)] 0, own (kInt .i64) x.1 x.2.1 x.2.2.1])
instance low_pipe {b : Nat} {P : Pi} : Low (pipe b P) := low_hx fun _ => inferInstance
variable {b : Nat} {P : Pi}
theorem pipe_Pipe_int_is_spec : Spec prog1 n_pipe_Pipe_int_is [.pointer (some ⟨b, 0, none⟩)] [ro (pipe b P)] (fun R => R (.bool true) []) := by
  refine spec_code c_pipe_Pipe_int_is rfl ?_; intro n F R hR; unfold F_pipe_Pipe_int_is
  refine at_openRP (pipe b P) rfl ?_
  rintro ⟨p, c, ring, top⟩ ⟨hr, ⟨⟨r1, r2⟩, oq, os, ov⟩⟩
  dsimp only at hr ⊢
  repeat' first | apply step | (apply g_op; · repeat first | exact Evs.nil | (apply Evs.cons; exact rfl)) | (refine Br.mk (fun _ => ?_) (fun _ => ?_) <;> try (exfalso; omega)) | (refine Sd.mk ?_ ?_; · ((repeat' apply And.intro) <;> first | omega | trivial | assumption | (simp; done) | (simp; omega))) | (refine Sx.mk ?_ ?_; · omega) | refine Fa.mk (fun _ => ?_) | refine Im.mk (fun _ => ?_) | apply Lw.go | refine g_cond ?_ | refine g_guard ?_ | refine g_keep ?_ | refine g_pass ?_ | refine g_fin ?_ | (apply g_ap; exact rfl; exact rfl; assumption)
  exact fin hR
theorem pipe_Pipe_int_Room_spec : Spec prog1 n_pipe_Pipe_int_Room [.pointer (some ⟨b, 0, none⟩)] [ro (pipe b P)] (fun R => R (.int .i64 (P.room : Int)) []) := by
  refine spec_code c_pipe_Pipe_int_Room rfl ?_; intro n F R hR; unfold F_pipe_Pipe_int_Room
  refine at_openRP (pipe b P) rfl ?_
  rintro ⟨p, c, ring, top⟩ ⟨hr, ⟨⟨r1, r2⟩, oq, os, ov⟩⟩
  dsimp only at hr ⊢
  repeat' first | apply step | (apply g_op; · repeat first | exact Evs.nil | (apply Evs.cons; exact rfl)) | (refine Br.mk (fun _ => ?_) (fun _ => ?_) <;> try (exfalso; omega)) | (refine Sd.mk ?_ ?_; · ((repeat' apply And.intro) <;> first | omega | trivial | assumption | (simp; done) | (simp; omega))) | (refine Sx.mk ?_ ?_; · omega) | refine Fa.mk (fun _ => ?_) | refine Im.mk (fun _ => ?_) | apply Lw.go | refine g_cond ?_ | refine g_guard ?_ | refine g_keep ?_ | refine g_pass ?_ | refine g_fin ?_ | (apply g_ap; exact rfl; exact rfl; assumption)
  first | refine at_callS (pipe_Pipe_int_is_spec (P := P)) ?_ | refine at_callR (pipe_Pipe_int_is_spec (P := P)) ?_
  repeat' first | apply step | (apply g_op; · repeat first | exact Evs.nil | (apply Evs.cons; exact rfl)) | (refine Br.mk (fun _ => ?_) (fun _ => ?_) <;> try (exfalso; omega)) | (refine Sd.mk ?_ ?_; · ((repeat' apply And.intro) <;> first | omega | trivial | assumption | (simp; done) | (simp; omega))) | (refine Sx.mk ?_ ?_; · omega) | refine Fa.mk (fun _ => ?_) | refine Im.mk (fun _ => ?_) | apply Lw.go | refine g_cond ?_ | refine g_guard ?_ | refine g_keep ?_ | refine g_pass ?_ | refine g_fin ?_ | (apply g_ap; exact rfl; exact rfl; assumption)
  exact fin hR
theorem pipe_Pipe_int_Closed_spec : Spec prog1 n_pipe_Pipe_int_Closed [.pointer (some ⟨b, 0, none⟩)] [ro (pipe b P)] (fun R => R (.bool P.closed) []) := by
  refine spec_code c_pipe_Pipe_int_Closed rfl ?_; intro n F R hR; unfold F_pipe_Pipe_int_Closed
  refine at_openRP (pipe b P) rfl ?_
  rintro ⟨p, c, ring, top⟩ ⟨hr, ⟨⟨r1, r2⟩, oq, os, ov⟩⟩
  dsimp only at hr ⊢
  repeat' first | apply step | (apply g_op; · repeat first | exact Evs.nil | (apply Evs.cons; exact rfl)) | (refine Br.mk (fun _ => ?_) (fun _ => ?_) <;> try (exfalso; omega)) | (refine Sd.mk ?_ ?_; · ((repeat' apply And.intro) <;> first | omega | trivial | assumption | (simp; done) | (simp; omega))) | (refine Sx.mk ?_ ?_; · omega) | refine Fa.mk (fun _ => ?_) | refine Im.mk (fun _ => ?_) | apply Lw.go | refine g_cond ?_ | refine g_guard ?_ | refine g_keep ?_ | refine g_pass ?_ | refine g_fin ?_ | (apply g_ap; exact rfl; exact rfl; assumption)
  first | refine at_callS (pipe_Pipe_int_is_spec (P := P)) ?_ | refine at_callR (pipe_Pipe_int_is_spec (P := P)) ?_
  repeat' first | apply step | (apply g_op; · repeat first | exact Evs.nil | (apply Evs.cons; exact rfl)) | (refine Br.mk (fun _ => ?_) (fun _ => ?_) <;> try (exfalso; omega)) | (refine Sd.mk ?_ ?_; · ((repeat' apply And.intro) <;> first | omega | trivial | assumption | (simp; done) | (simp; omega))) | (refine Sx.mk ?_ ?_; · omega) | refine Fa.mk (fun _ => ?_) | refine Im.mk (fun _ => ?_) | apply Lw.go | refine g_cond ?_ | refine g_guard ?_ | refine g_keep ?_ | refine g_pass ?_ | refine g_fin ?_ | (apply g_ap; exact rfl; exact rfl; assumption)
  exact fin hR
theorem pipe_Pipe_int_Len_spec : Spec prog1 n_pipe_Pipe_int_Len [.pointer (some ⟨b, 0, none⟩)] [ro (pipe b P)] (fun R => R (.int .i64 (P.q.length : Int)) []) := by
  refine spec_code c_pipe_Pipe_int_Len rfl ?_; intro n F R hR; unfold F_pipe_Pipe_int_Len
  refine at_openRP (pipe b P) rfl ?_
  rintro ⟨p, c, ring, top⟩ ⟨hr, ⟨⟨r1, r2⟩, oq, os, ov⟩⟩
  dsimp only at hr ⊢
  repeat' first | apply step | (apply g_op; · repeat first | exact Evs.nil | (apply Evs.cons; exact rfl)) | (refine Br.mk (fun _ => ?_) (fun _ => ?_) <;> try (exfalso; omega)) | (refine Sd.mk ?_ ?_; · ((repeat' apply And.intro) <;> first | omega | trivial | assumption | (simp; done) | (simp; omega))) | (refine Sx.mk ?_ ?_; · omega) | refine Fa.mk (fun _ => ?_) | refine Im.mk (fun _ => ?_) | apply Lw.go | refine g_cond ?_ | refine g_guard ?_ | refine g_keep ?_ | refine g_pass ?_ | refine g_fin ?_ | (apply g_ap; exact rfl; exact rfl; assumption)
  first | refine at_callS (pipe_Pipe_int_is_spec (P := P)) ?_ | refine at_callR (pipe_Pipe_int_is_spec (P := P)) ?_
  repeat' first | apply step | (apply g_op; · repeat first | exact Evs.nil | (apply Evs.cons; exact rfl)) | (refine Br.mk (fun _ => ?_) (fun _ => ?_) <;> try (exfalso; omega)) | (refine Sd.mk ?_ ?_; · ((repeat' apply And.intro) <;> first | omega | trivial | assumption | (simp; done) | (simp; omega))) | (refine Sx.mk ?_ ?_; · omega) | refine Fa.mk (fun _ => ?_) | refine Im.mk (fun _ => ?_) | apply Lw.go | refine g_cond ?_ | refine g_guard ?_ | refine g_keep ?_ | refine g_pass ?_ | refine g_fin ?_ | (apply g_ap; exact rfl; exact rfl; assumption)
  first | refine at_callS (deque_Deque_int_Len_spec (pre := [.int .i64 (P.room : Int)])) ?_ | refine at_callR (deque_Deque_int_Len_spec (pre := [.int .i64 (P.room : Int)])) ?_
  repeat' first | apply step | (apply g_op; · repeat first | exact Evs.nil | (apply Evs.cons; exact rfl)) | (refine Br.mk (fun _ => ?_) (fun _ => ?_) <;> try (exfalso; omega)) | (refine Sd.mk ?_ ?_; · ((repeat' apply And.intro) <;> first | omega | trivial | assumption | (simp; done) | (simp; omega))) | (refine Sx.mk ?_ ?_; · omega) | refine Fa.mk (fun _ => ?_) | refine Im.mk (fun _ => ?_) | apply Lw.go | refine g_cond ?_ | refine g_guard ?_ | refine g_keep ?_ | refine g_pass ?_ | refine g_fin ?_ | (apply g_ap; exact rfl; exact rfl; assumption)
  exact fin hR
theorem pipe_Pipe_int_Done_spec : Spec prog1 n_pipe_Pipe_int_Done [.pointer (some ⟨b, 0, none⟩)] [ro (pipe b P)] (fun R => R (.bool (P.closed && decide (P.q.length = 0))) []) := by
  refine spec_code c_pipe_Pipe_int_Done rfl ?_; intro n F R hR; unfold F_pipe_Pipe_int_Done
  refine at_openRP (pipe b P) rfl ?_
  rintro ⟨p, c, ring, top⟩ ⟨hr, ⟨⟨r1, r2⟩, oq, os, ov⟩⟩
  dsimp only at hr ⊢
  repeat' first | apply step | (apply g_op; · repeat first | exact Evs.nil | (apply Evs.cons; exact rfl)) | (refine Br.mk (fun _ => ?_) (fun _ => ?_) <;> try (exfalso; omega)) | (refine Sd.mk ?_ ?_; · ((repeat' apply And.intro) <;> first | omega | trivial | assumption | (simp; done) | (simp; omega))) | (refine Sx.mk ?_ ?_; · omega) | refine Fa.mk (fun _ => ?_) | refine Im.mk (fun _ => ?_) | apply Lw.go | refine g_cond ?_ | refine g_guard ?_ | refine g_keep ?_ | refine g_pass ?_ | refine g_fin ?_ | (apply g_ap; exact rfl; exact rfl; assumption)
  first | refine at_callS (pipe_Pipe_int_Closed_spec (P := P)) ?_ | refine at_callR (pipe_Pipe_int_Closed_spec (P := P)) ?_
  cases hc : P.closed
  · rw [hc] at hR
    repeat' first | apply step | (apply g_op; · repeat first | exact Evs.nil | (apply Evs.cons; exact rfl)) | (refine Br.mk (fun _ => ?_) (fun _ => ?_) <;> try (exfalso; omega)) | (refine Sd.mk ?_ ?_; · ((repeat' apply And.intro) <;> first | omega | trivial | assumption | (simp; done) | (simp; omega))) | (refine Sx.mk ?_ ?_; · omega) | refine Fa.mk (fun _ => ?_) | refine Im.mk (fun _ => ?_) | apply Lw.go | refine g_cond ?_ | refine g_guard ?_ | refine g_keep ?_ | refine g_pass ?_ | refine g_fin ?_ | (apply g_ap; exact rfl; exact rfl; assumption)
    exact fin hR
  · rw [hc] at hR
    repeat' first | apply step | (apply g_op; · repeat first | exact Evs.nil | (apply Evs.cons; exact rfl)) | (refine Br.mk (fun _ => ?_) (fun _ => ?_) <;> try (exfalso; omega)) | (refine Sd.mk ?_ ?_; · ((repeat' apply And.intro) <;> first | omega | trivial | assumption | (simp; done) | (simp; omega))) | (refine Sx.mk ?_ ?_; · omega) | refine Fa.mk (fun _ => ?_) | refine Im.mk (fun _ => ?_) | apply Lw.go | refine g_cond ?_ | refine g_guard ?_ | refine g_keep ?_ | refine g_pass ?_ | refine g_fin ?_ | (apply g_ap; exact rfl; exact rfl; assumption)
    first | refine at_callS (deque_Deque_int_Len_spec (pre := [.int .i64 (P.room : Int)])) ?_ | refine at_callR (deque_Deque_int_Len_spec (pre := [.int .i64 (P.room : Int)])) ?_
    repeat' first | apply step | (apply g_op; · repeat first | exact Evs.nil | (apply Evs.cons; exact rfl)) | (refine Br.mk (fun _ => ?_) (fun _ => ?_) <;> try (exfalso; omega)) | (refine Sd.mk ?_ ?_; · ((repeat' apply And.intro) <;> first | omega | trivial | assumption | (simp; done) | (simp; omega))) | (refine Sx.mk ?_ ?_; · omega) | refine Fa.mk (fun _ => ?_) | refine Im.mk (fun _ => ?_) | apply Lw.go | refine g_cond ?_ | refine g_guard ?_ | refine g_keep ?_ | refine g_pass ?_ | refine g_fin ?_ | (apply g_ap; exact rfl; exact rfl; assumption)
    · rw [decide_eq_true (by omega)] at hR
      exact fin hR
    · rw [decide_eq_false (by omega)] at hR
      exact fin hR
theorem pipe_Pipe_int_Close_spec (hc : P.closed = false) : Spec prog1 n_pipe_Pipe_int_Close [.pointer (some ⟨b, 0, none⟩)] [pipe b P] (fun R => R (.int .i64 0) [pipe b { P with closed := true }]) := by
  refine spec_code c_pipe_Pipe_int_Close rfl ?_; intro n F R hR; unfold F_pipe_Pipe_int_Close
  obtain ⟨room, q, closed, sent, recv⟩ := P
  dsimp only at hc; subst hc
  repeat' first | apply step | (apply g_op; · repeat first | exact Evs.nil | (apply Evs.cons; exact rfl)) | (refine Br.mk (fun _ => ?_) (fun _ => ?_) <;> try (exfalso; omega)) | (refine Sd.mk ?_ ?_; · ((repeat' apply And.intro) <;> first | omega | trivial | assumption | (simp; done) | (simp; omega))) | (refine Sx.mk ?_ ?_; · omega) | refine Fa.mk (fun _ => ?_) | refine Im.mk (fun _ => ?_) | apply Lw.go | refine g_cond ?_ | refine g_guard ?_ | refine g_keep ?_ | refine g_pass ?_ | refine g_fin ?_ | (apply g_ap; exact rfl; exact rfl; assumption)
  first | refine at_callS (pipe_Pipe_int_is_spec (P := ⟨room, q, false, sent, recv⟩)) ?_ | refine at_callR (pipe_Pipe_int_is_spec (P := ⟨room, q, false, sent, recv⟩)) ?_
  repeat' first | apply step | (apply g_op; · repeat first | exact Evs.nil | (apply Evs.cons; exact rfl)) | (refine Br.mk (fun _ => ?_) (fun _ => ?_) <;> try (exfalso; omega)) | (refine Sd.mk ?_ ?_; · ((repeat' apply And.intro) <;> first | omega | trivial | assumption | (simp; done) | (simp; omega))) | (refine Sx.mk ?_ ?_; · omega) | refine Fa.mk (fun _ => ?_) | refine Im.mk (fun _ => ?_) | apply Lw.go | refine g_cond ?_ | refine g_guard ?_ | refine g_keep ?_ | refine g_pass ?_ | refine g_fin ?_ | (apply g_ap; exact rfl; exact rfl; assumption)
  first | refine at_openP (pipe b ⟨room, q, false, sent, recv⟩) rfl ?_ | refine av_openP (pipe b ⟨room, q, false, sent, recv⟩) rfl ?_
  rintro ⟨p, c, ring, top⟩ ⟨hr, ok⟩
  dsimp only at hr ⊢
  repeat' first | apply step | (apply g_op; · repeat first | exact Evs.nil | (apply Evs.cons; exact rfl)) | (refine Br.mk (fun _ => ?_) (fun _ => ?_) <;> try (exfalso; omega)) | (refine Sd.mk ?_ ?_; · ((repeat' apply And.intro) <;> first | omega | trivial | assumption | (simp; done) | (simp; omega))) | (refine Sx.mk ?_ ?_; · omega) | refine Fa.mk (fun _ => ?_) | refine Im.mk (fun _ => ?_) | apply Lw.go | refine g_cond ?_ | refine g_guard ?_ | refine g_keep ?_ | refine g_pass ?_ | refine g_fin ?_ | (apply g_ap; exact rfl; exact rfl; assumption)
  refine fin_foldP (pipe b ⟨room, q, true, sent, recv⟩) rfl (p, c, ring, top) ⟨hr, ⟨ok.r, ok.q, ok.s, ok.v⟩⟩ ?_
  exact fin hR
theorem pipe_New_int_spec {w : Int} : Spec prog1 n_pipe_New_int [.int .i64 w] [] (fun R => (w < 1 ∨ 64 < w → R (.tuple #[.pointer none, .int .i64 2]) []) ∧ ∀ n : Nat, w = n → 0 < n → n ≤ 64 → ∀ b, R (.tuple #[.pointer (some ⟨b, 0, none⟩), .int .i64 0]) [pipe b ⟨n, [], false, 0, 0⟩]) := by
  refine spec_code c_pipe_New_int rfl ?_; intro n F R hR; unfold F_pipe_New_int
  repeat' first | apply step | (apply g_op; · repeat first | exact Evs.nil | (apply Evs.cons; exact rfl)) | (refine Br.mk (fun _ => ?_) (fun _ => ?_) <;> try (exfalso; omega)) | (refine Sd.mk ?_ ?_; · ((repeat' apply And.intro) <;> first | omega | trivial | assumption | (simp; done) | (simp; omega))) | (refine Sx.mk ?_ ?_; · omega) | refine Fa.mk (fun _ => ?_) | refine Im.mk (fun _ => ?_) | apply Lw.go | refine g_cond ?_ | refine g_guard ?_ | refine g_keep ?_ | refine g_pass ?_ | refine g_fin ?_ | (apply g_ap; exact rfl; exact rfl; assumption)
  · exact fin (hR.1 (by omega))
  · exact fin (hR.1 (by omega))
  · rename_i bo
    obtain ⟨m, rfl⟩ : ∃ m : Nat, w = m := ⟨w.toNat, by omega⟩
    refine fin_foldP (pipe bo ⟨m, [], false, 0, 0⟩) rfl (none, 0, [], 0) ⟨Rg.fresh (l := []) (k := 0) (by simp) (by omega), ⟨⟨by dsimp only; omega, by dsimp only; omega⟩, by simp, by simp, by simp⟩⟩ ?_
    exact fin (hR.2 m rfl (by omega) (by omega) bo)
theorem pipe_Pipe_int_Send_spec {v : Int} (hc : P.closed = false) (hl : P.q.length < P.room) (hs : P.sent < 100000) (hv : -9223372036854775808 ≤ v ∧ v ≤ 9223372036854775807) : Spec prog1 n_pipe_Pipe_int_Send [.pointer (some ⟨b, 0, none⟩), .int .i64 v] [pipe b P] (fun R => R (.int .i64 0) [pipe b { P with q := P.q ++ [v], sent := P.sent + 1 }]) := by
  refine spec_code c_pipe_Pipe_int_Send rfl ?_; intro n F R hR; unfold F_pipe_Pipe_int_Send
  obtain ⟨room, q, closed, sent, recv⟩ := P
  dsimp only at hc hl hs; subst hc
  repeat' first | apply step | (apply g_op; · repeat first | exact Evs.nil | (apply Evs.cons; exact rfl)) | (refine Br.mk (fun _ => ?_) (fun _ => ?_) <;> try (exfalso; omega)) | (refine Sd.mk ?_ ?_; · ((repeat' apply And.intro) <;> first | omega | trivial | assumption | (simp; done) | (simp; omega))) | (refine Sx.mk ?_ ?_; · omega) | refine Fa.mk (fun _ => ?_) | refine Im.mk (fun _ => ?_) | apply Lw.go | refine g_cond ?_ | refine g_guard ?_ | refine g_keep ?_ | refine g_pass ?_ | refine g_fin ?_ | (apply g_ap; exact rfl; exact rfl; assumption)
  first | refine at_callS (pipe_Pipe_int_is_spec (P := ⟨room, q, false, sent, recv⟩)) ?_ | refine at_callR (pipe_Pipe_int_is_spec (P := ⟨room, q, false, sent, recv⟩)) ?_
  repeat' first | apply step | (apply g_op; · repeat first | exact Evs.nil | (apply Evs.cons; exact rfl)) | (refine Br.mk (fun _ => ?_) (fun _ => ?_) <;> try (exfalso; omega)) | (refine Sd.mk ?_ ?_; · ((repeat' apply And.intro) <;> first | omega | trivial | assumption | (simp; done) | (simp; omega))) | (refine Sx.mk ?_ ?_; · omega) | refine Fa.mk (fun _ => ?_) | refine Im.mk (fun _ => ?_) | apply Lw.go | refine g_cond ?_ | refine g_guard ?_ | refine g_keep ?_ | refine g_pass ?_ | refine g_fin ?_ | (apply g_ap; exact rfl; exact rfl; assumption)
  first | refine at_openP (pipe b ⟨room, q, false, sent, recv⟩) rfl ?_ | refine av_openP (pipe b ⟨room, q, false, sent, recv⟩) rfl ?_
  rintro ⟨p, c, ring, top⟩ ⟨hr, ok⟩
  dsimp only at hr ⊢
  have hrm : 0 < room ∧ room ≤ 64 := ok.r
  repeat' first | apply step | (apply g_op; · repeat first | exact Evs.nil | (apply Evs.cons; exact rfl)) | (refine Br.mk (fun _ => ?_) (fun _ => ?_) <;> try (exfalso; omega)) | (refine Sd.mk ?_ ?_; · ((repeat' apply And.intro) <;> first | omega | trivial | assumption | (simp; done) | (simp; omega))) | (refine Sx.mk ?_ ?_; · omega) | refine Fa.mk (fun _ => ?_) | refine Im.mk (fun _ => ?_) | apply Lw.go | refine g_cond ?_ | refine g_guard ?_ | refine g_keep ?_ | refine g_pass ?_ | refine g_fin ?_ | (apply g_ap; exact rfl; exact rfl; assumption)
  first | refine at_callS (deque_Deque_int_Len_spec (pre := [.int .i64 (room : Int)])) ?_ | refine at_callR (deque_Deque_int_Len_spec (pre := [.int .i64 (room : Int)])) ?_
  repeat' first | apply step | (apply g_op; · repeat first | exact Evs.nil | (apply Evs.cons; exact rfl)) | (refine Br.mk (fun _ => ?_) (fun _ => ?_) <;> try (exfalso; omega)) | (refine Sd.mk ?_ ?_; · ((repeat' apply And.intro) <;> first | omega | trivial | assumption | (simp; done) | (simp; omega))) | (refine Sx.mk ?_ ?_; · omega) | refine Fa.mk (fun _ => ?_) | refine Im.mk (fun _ => ?_) | apply Lw.go | refine g_cond ?_ | refine g_guard ?_ | refine g_keep ?_ | refine g_pass ?_ | refine g_fin ?_ | (apply g_ap; exact rfl; exact rfl; assumption)
  first | refine at_callS (deque_Deque_int_Push_spec (pre := [.int .i64 (room : Int)]) (v := v) hr (by omega) hv) ?_ | refine at_callR (deque_Deque_int_Push_spec (pre := [.int .i64 (room : Int)]) (v := v) hr (by omega) hv) ?_
  intro p2 c2 ring2 top2 hr2
  repeat' first | apply step | (apply g_op; · repeat first | exact Evs.nil | (apply Evs.cons; exact rfl)) | (refine Br.mk (fun _ => ?_) (fun _ => ?_) <;> try (exfalso; omega)) | (refine Sd.mk ?_ ?_; · ((repeat' apply And.intro) <;> first | omega | trivial | assumption | (simp; done) | (simp; omega))) | (refine Sx.mk ?_ ?_; · omega) | refine Fa.mk (fun _ => ?_) | refine Im.mk (fun _ => ?_) | apply Lw.go | refine g_cond ?_ | refine g_guard ?_ | refine g_keep ?_ | refine g_pass ?_ | refine g_fin ?_ | (apply g_ap; exact rfl; exact rfl; assumption)
  refine fin_foldP (pipe b ⟨room, q ++ [v], false, sent + 1, recv⟩) rfl (p2, c2, ring2, top2) ⟨hr2, ⟨ok.r, by simp; omega, by dsimp only; omega, ok.v⟩⟩ ?_
  exact fin hR
theorem pipe_Pipe_int_Recv_spec {v : Int} {r : List Int} (hq : P.q = v :: r) (hs : P.recv < 100000) : Spec prog1 n_pipe_Pipe_int_Recv [.pointer (some ⟨b, 0, none⟩)] [pipe b P] (fun R => R (.tuple #[.int .i64 v, .int .i64 0]) [pipe b { P with q := r, recv := P.recv + 1 }]) := by
  refine spec_code c_pipe_Pipe_int_Recv rfl ?_; intro n F R hR; unfold F_pipe_Pipe_int_Recv
  obtain ⟨room, q, closed, sent, recv⟩ := P
  dsimp only at hq hs; subst hq
  repeat' first | apply step | (apply g_op; · repeat first | exact Evs.nil | (apply Evs.cons; exact rfl)) | (refine Br.mk (fun _ => ?_) (fun _ => ?_) <;> try (exfalso; omega)) | (refine Sd.mk ?_ ?_; · ((repeat' apply And.intro) <;> first | omega | trivial | assumption | (simp; done) | (simp; omega))) | (refine Sx.mk ?_ ?_; · omega) | refine Fa.mk (fun _ => ?_) | refine Im.mk (fun _ => ?_) | apply Lw.go | refine g_cond ?_ | refine g_guard ?_ | refine g_keep ?_ | refine g_pass ?_ | refine g_fin ?_ | (apply g_ap; exact rfl; exact rfl; assumption)
  first | refine at_callS (pipe_Pipe_int_is_spec (P := ⟨room, v :: r, closed, sent, recv⟩)) ?_ | refine at_callR (pipe_Pipe_int_is_spec (P := ⟨room, v :: r, closed, sent, recv⟩)) ?_
  repeat' first | apply step | (apply g_op; · repeat first | exact Evs.nil | (apply Evs.cons; exact rfl)) | (refine Br.mk (fun _ => ?_) (fun _ => ?_) <;> try (exfalso; omega)) | (refine Sd.mk ?_ ?_; · ((repeat' apply And.intro) <;> first | omega | trivial | assumption | (simp; done) | (simp; omega))) | (refine Sx.mk ?_ ?_; · omega) | refine Fa.mk (fun _ => ?_) | refine Im.mk (fun _ => ?_) | apply Lw.go | refine g_cond ?_ | refine g_guard ?_ | refine g_keep ?_ | refine g_pass ?_ | refine g_fin ?_ | (apply g_ap; exact rfl; exact rfl; assumption)
  first | refine at_openP (pipe b ⟨room, v :: r, closed, sent, recv⟩) rfl ?_ | refine av_openP (pipe b ⟨room, v :: r, closed, sent, recv⟩) rfl ?_
  rintro ⟨p, c, ring, top⟩ ⟨hr, ok⟩
  dsimp only at hr ⊢
  repeat' first | apply step | (apply g_op; · repeat first | exact Evs.nil | (apply Evs.cons; exact rfl)) | (refine Br.mk (fun _ => ?_) (fun _ => ?_) <;> try (exfalso; omega)) | (refine Sd.mk ?_ ?_; · ((repeat' apply And.intro) <;> first | omega | trivial | assumption | (simp; done) | (simp; omega))) | (refine Sx.mk ?_ ?_; · omega) | refine Fa.mk (fun _ => ?_) | refine Im.mk (fun _ => ?_) | apply Lw.go | refine g_cond ?_ | refine g_guard ?_ | refine g_keep ?_ | refine g_pass ?_ | refine g_fin ?_ | (apply g_ap; exact rfl; exact rfl; assumption)
  first | refine at_callS (deque_Deque_int_Steal_spec (pre := [.int .i64 (room : Int)]) hr) ?_ | refine at_callR (deque_Deque_int_Steal_spec (pre := [.int .i64 (room : Int)]) hr) ?_
  refine ⟨fun h0 => absurd h0 (by simp), fun hrn ring3 top3 hlen3 hr3 => ?_⟩
  repeat' first | apply step | (apply g_op; · repeat first | exact Evs.nil | (apply Evs.cons; exact rfl)) | (refine Br.mk (fun _ => ?_) (fun _ => ?_) <;> try (exfalso; omega)) | (refine Sd.mk ?_ ?_; · ((repeat' apply And.intro) <;> first | omega | trivial | assumption | (simp; done) | (simp; omega))) | (refine Sx.mk ?_ ?_; · omega) | refine Fa.mk (fun _ => ?_) | refine Im.mk (fun _ => ?_) | apply Lw.go | refine g_cond ?_ | refine g_guard ?_ | refine g_keep ?_ | refine g_pass ?_ | refine g_fin ?_ | (apply g_ap; exact rfl; exact rfl; assumption)
  refine fin_foldP (pipe b ⟨room, r, closed, sent, recv + 1⟩) rfl (p, c, ring3, top3) ⟨hr3, ⟨ok.r, by have := ok.q; simp at this ⊢; omega, ok.s, by dsimp only; omega⟩⟩ ?_
  exact fin hR
end
end Go.AMS

namespace Go.AMS
open Go.AM hiding Kt At WP WL Runs RunsY
open Go.AM.G
set_option linter.unusedVariables false
set_option linter.unusedSimpArgs false
set_option linter.unusedSectionVars false
set_option maxRecDepth 100000
set_option maxHeartbeats 1000000
attribute [local irreducible] AtS AtV AtC AtG FinA Spec Post LP G.At G.WP G.WL pt own fro rdl ro hx mp lrec elt sub

section
/-- A sender: its row, how many were sent, its pipe. -/
structure Sn where
  row : List Int
  sent : Nat
  pi : Pi
  exited : Bool
def snd (b : Nat) (s : Sn) : HP := hx fun (x : (Option Addr × Nat) × Nat) => (s.row.length ≤ 1000 ∧ s.sent ≤ s.row.length, [pt b [.slice x.1.1 s.row.length x.1.2, .int .i64 (s.sent : Int), .pointer (some ⟨x.2, 0, none⟩), .bool s.exited] 0, fro (kInt .i64) x.1.1 x.1.2 s.row, pipe x.2 s.pi])
instance low_snd {b : Nat} {s : Sn} : Low (snd b s) := low_hx fun _ => inferInstance
def Sn.rdy (s : Sn) : Bool := !s.exited && (decide (s.row.length ≤ s.sent) || decide (s.pi.q.length < s.pi.room))
variable {b : Nat} {s : Sn}
theorem merge_sender_int_ready_spec : Spec prog1 n_merge_sender_int_ready [.pointer (some ⟨b, 0, none⟩)] [ro (snd b s)] (fun R => R (.bool s.rdy) []) := by
  refine spec_code c_merge_sender_int_ready rfl ?_; intro n F R hR; unfold F_merge_sender_int_ready
  refine at_openRP (snd b s) rfl ?_
  rintro ⟨⟨p, c⟩, pb⟩ ⟨h1, h2⟩
  dsimp only at h1 h2 ⊢
  unfold Sn.rdy at hR
  cases hx : s.exited
  · rw [hx] at hR
    repeat' first | apply step | (apply g_op; · repeat first | exact Evs.nil | (apply Evs.cons; exact rfl)) | (refine Br.mk (fun _ => ?_) (fun _ => ?_) <;> try (exfalso; omega)) | (refine Sd.mk ?_ ?_; · ((repeat' apply And.intro) <;> first | omega | trivial | assumption | (simp; done) | (simp; omega))) | (refine Sx.mk ?_ ?_; · omega) | refine Fa.mk (fun _ => ?_) | refine Im.mk (fun _ => ?_) | apply Lw.go | refine g_cond ?_ | refine g_guard ?_ | refine g_keep ?_ | refine g_pass ?_ | refine g_fin ?_ | (apply g_ap; exact rfl; exact rfl; assumption)
    · rw [decide_eq_true (show s.row.length ≤ s.sent by omega)] at hR
      exact fin hR
    · rw [decide_eq_false (show ¬ s.row.length ≤ s.sent by omega)] at hR
      first | refine at_callS (pipe_Pipe_int_Len_spec (P := s.pi)) ?_ | refine at_callR (pipe_Pipe_int_Len_spec (P := s.pi)) ?_
      repeat' first | apply step | (apply g_op; · repeat first | exact Evs.nil | (apply Evs.cons; exact rfl)) | (refine Br.mk (fun _ => ?_) (fun _ => ?_) <;> try (exfalso; omega)) | (refine Sd.mk ?_ ?_; · ((repeat' apply And.intro) <;> first | omega | trivial | assumption | (simp; done) | (simp; omega))) | (refine Sx.mk ?_ ?_; · omega) | refine Fa.mk (fun _ => ?_) | refine Im.mk (fun _ => ?_) | apply Lw.go | refine g_cond ?_ | refine g_guard ?_ | refine g_keep ?_ | refine g_pass ?_ | refine g_fin ?_ | (apply g_ap; exact rfl; exact rfl; assumption)
      first | refine at_callS (pipe_Pipe_int_Room_spec (P := s.pi)) ?_ | refine at_callR (pipe_Pipe_int_Room_spec (P := s.pi)) ?_
      repeat' first | apply step | (apply g_op; · repeat first | exact Evs.nil | (apply Evs.cons; exact rfl)) | (refine Br.mk (fun _ => ?_) (fun _ => ?_) <;> try (exfalso; omega)) | (refine Sd.mk ?_ ?_; · ((repeat' apply And.intro) <;> first | omega | trivial | assumption | (simp; done) | (simp; omega))) | (refine Sx.mk ?_ ?_; · omega) | refine Fa.mk (fun _ => ?_) | refine Im.mk (fun _ => ?_) | apply Lw.go | refine g_cond ?_ | refine g_guard ?_ | refine g_keep ?_ | refine g_pass ?_ | refine g_fin ?_ | (apply g_ap; exact rfl; exact rfl; assumption)
      · rw [decide_eq_true (by omega)] at hR
        exact fin hR
      · rw [decide_eq_false (by omega)] at hR
        exact fin hR
  · rw [hx] at hR
    repeat' first | apply step | (apply g_op; · repeat first | exact Evs.nil | (apply Evs.cons; exact rfl)) | (refine Br.mk (fun _ => ?_) (fun _ => ?_) <;> try (exfalso; omega)) | (refine Sd.mk ?_ ?_; · ((repeat' apply And.intro) <;> first | omega | trivial | assumption | (simp; done) | (simp; omega))) | (refine Sx.mk ?_ ?_; · omega) | refine Fa.mk (fun _ => ?_) | refine Im.mk (fun _ => ?_) | apply Lw.go | refine g_cond ?_ | refine g_guard ?_ | refine g_keep ?_ | refine g_pass ?_ | refine g_fin ?_ | (apply g_ap; exact rfl; exact rfl; assumption)
    exact fin hR
theorem merge_sender_int_step_end (hc : s.pi.closed = false) (he : s.row.length ≤ s.sent) : Spec prog1 n_merge_sender_int_step [.pointer (some ⟨b, 0, none⟩)] [snd b s] (fun R => R (.tuple #[]) [snd b { s with exited := true, pi := { s.pi with closed := true } }]) := by
  refine spec_code c_merge_sender_int_step rfl ?_; intro n F R hR; unfold F_merge_sender_int_step
  refine at_openP (snd b s) rfl ?_
  rintro ⟨⟨p, c⟩, pb⟩ ⟨h1, h2⟩
  dsimp only at h1 h2 ⊢
  repeat' first | apply step | (apply g_op; · repeat first | exact Evs.nil | (apply Evs.cons; exact rfl)) | (refine Br.mk (fun _ => ?_) (fun _ => ?_) <;> try (exfalso; omega)) | (refine Sd.mk ?_ ?_; · ((repeat' apply And.intro) <;> first | omega | trivial | assumption | (simp; done) | (simp; omega))) | (refine Sx.mk ?_ ?_; · omega) | refine Fa.mk (fun _ => ?_) | refine Im.mk (fun _ => ?_) | apply Lw.go | refine g_cond ?_ | refine g_guard ?_ | refine g_keep ?_ | refine g_pass ?_ | refine g_fin ?_ | (apply g_ap; exact rfl; exact rfl; assumption)
  first | refine at_callS (pipe_Pipe_int_Close_spec (P := s.pi) hc) ?_ | refine at_callR (pipe_Pipe_int_Close_spec (P := s.pi) hc) ?_
  repeat' first | apply step | (apply g_op; · repeat first | exact Evs.nil | (apply Evs.cons; exact rfl)) | (refine Br.mk (fun _ => ?_) (fun _ => ?_) <;> try (exfalso; omega)) | (refine Sd.mk ?_ ?_; · ((repeat' apply And.intro) <;> first | omega | trivial | assumption | (simp; done) | (simp; omega))) | (refine Sx.mk ?_ ?_; · omega) | refine Fa.mk (fun _ => ?_) | refine Im.mk (fun _ => ?_) | apply Lw.go | refine g_cond ?_ | refine g_guard ?_ | refine g_keep ?_ | refine g_pass ?_ | refine g_fin ?_ | (apply g_ap; exact rfl; exact rfl; assumption)
  refine fin_foldP (snd b { s with exited := true, pi := { s.pi with closed := true } }) rfl ((p, c), pb) ⟨h1, h2⟩ ?_
  exact fin hR
theorem merge_sender_int_step_send (hc : s.pi.closed = false) (he : s.sent < s.row.length) (hq : s.pi.q.length < s.pi.room) (hs : s.pi.sent < 100000) : Spec prog1 n_merge_sender_int_step [.pointer (some ⟨b, 0, none⟩)] [snd b s] (fun R => R (.tuple #[]) [snd b { s with sent := s.sent + 1, pi := { s.pi with q := s.pi.q ++ [s.row[s.sent]], sent := s.pi.sent + 1 } }]) := by
  refine spec_code c_merge_sender_int_step rfl ?_; intro n F R hR; unfold F_merge_sender_int_step
  refine at_openP (snd b s) rfl ?_
  rintro ⟨⟨p, c⟩, pb⟩ ⟨h1, h2⟩
  dsimp only at h1 h2 ⊢
  repeat' first | apply step | (apply g_op; · repeat first | exact Evs.nil | (apply Evs.cons; exact rfl)) | (refine Br.mk (fun _ => ?_) (fun _ => ?_) <;> try (exfalso; omega)) | (refine Sd.mk ?_ ?_; · ((repeat' apply And.intro) <;> first | omega | trivial | assumption | (simp; done) | (simp; omega))) | (refine Sx.mk ?_ ?_; · omega) | refine Fa.mk (fun _ => ?_) | refine Im.mk (fun _ => ?_) | apply Lw.go | refine g_cond ?_ | refine g_guard ?_ | refine g_keep ?_ | refine g_pass ?_ | refine g_fin ?_ | (apply g_ap; exact rfl; exact rfl; assumption)
  first | refine at_callS (pipe_Pipe_int_Send_spec (P := s.pi) (v := s.row[s.sent]) hc hq hs (by omega)) ?_ | refine at_callR (pipe_Pipe_int_Send_spec (P := s.pi) (v := s.row[s.sent]) hc hq hs (by omega)) ?_
  repeat' first | apply step | (apply g_op; · repeat first | exact Evs.nil | (apply Evs.cons; exact rfl)) | (refine Br.mk (fun _ => ?_) (fun _ => ?_) <;> try (exfalso; omega)) | (refine Sd.mk ?_ ?_; · ((repeat' apply And.intro) <;> first | omega | trivial | assumption | (simp; done) | (simp; omega))) | (refine Sx.mk ?_ ?_; · omega) | refine Fa.mk (fun _ => ?_) | refine Im.mk (fun _ => ?_) | apply Lw.go | refine g_cond ?_ | refine g_guard ?_ | refine g_keep ?_ | refine g_pass ?_ | refine g_fin ?_ | (apply g_ap; exact rfl; exact rfl; assumption)
  refine fin_foldP (snd b { s with sent := s.sent + 1, pi := { s.pi with q := s.pi.q ++ [s.row[s.sent]], sent := s.pi.sent + 1 } }) rfl ((p, c), pb) ⟨h1, by dsimp only; omega⟩ ?_
  exact fin hR
/-- What the merger has. -/
structure Mg where
  l : List Sn
  heads : List Int
  has : List Bool
  out : List Int
  exited : Bool
structure Mg.ok (M : Mg) : Prop where
  h : M.heads.length = M.l.length
  s : M.has.length = M.l.length
  n : M.l.length ≤ 1000
  o : M.out.length ≤ 1000000
def mrg (b : Nat) (f : Value) (M : Mg) : HP := hx fun (x : ((Option Addr × Nat) × List Nat) × (Option Addr × Nat) × (Option Addr × Nat) × (Option Addr × Nat)) => (M.ok ∧ x.1.2.length = M.l.length, [pt b [.slice x.1.1.1 x.1.2.length x.1.1.2, f, .slice x.2.1.1 M.heads.length x.2.1.2, .slice x.2.2.1.1 M.has.length x.2.2.1.2, .slice x.2.2.2.1 M.out.length x.2.2.2.2, .bool M.exited] 0, own kPtr x.1.1.1 x.1.1.2 x.1.2, each snd x.1.2 M.l, own (kInt .i64) x.2.1.1 x.2.1.2 M.heads, own kBool x.2.2.1.1 x.2.2.1.2 M.has, own (kInt .i64) x.2.2.2.1 x.2.2.2.2 M.out])
/-- The first pipe that something can be received from. -/
def Mg.can (M : Mg) (k : Nat) : Bool := !M.has.getD k false && decide (0 < ((M.l[k]?).map fun s => s.pi.q.length).getD 0)
def Mg.recv (M : Mg) : Int := match (List.range M.l.length).find? M.can with
  | some k => k
  | none => -1
theorem recv_none {M : Mg} (h : ∀ j, j < M.l.length → M.can j = false) : M.recv = -1 := by
  have : (List.range M.l.length).find? M.can = none := List.find?_eq_none.2 fun j hj => by rw [h j (List.mem_range.1 hj)]; simp
  unfold Mg.recv; rw [this]
theorem recv_some {M : Mg} {k : Nat} (hk : k < M.l.length) (hc : M.can k = true) (h : ∀ j, j < k → M.can j = false) : M.recv = k := by
  have : (List.range M.l.length).find? M.can = some k := by
    rw [List.find?_range_eq_some]
    exact ⟨hc, List.mem_range.2 hk, fun j hj => by rw [h j hj]; rfl⟩
  unfold Mg.recv; rw [this]
theorem merge_merger_int_receives_spec {f : Value} {M : Mg} : Spec prog1 n_merge_merger_int_receives [.pointer (some ⟨b, 0, none⟩)] [ro (mrg b f M)] (fun R => R (.int .i64 M.recv) []) := by
  refine spec_code c_merge_merger_int_receives rfl ?_; intro n F R hR; unfold F_merge_merger_int_receives
  refine at_openRP (mrg b f M) rfl ?_
  rintro ⟨⟨⟨lp, lc⟩, bs⟩, ⟨hp, hc⟩, ⟨sp, sc⟩, ⟨op, oc⟩⟩ ⟨⟨o1, o2, o3, o4⟩, hl⟩
  dsimp only at hl ⊢
  repeat' first | apply step | (apply g_op; · repeat first | exact Evs.nil | (apply Evs.cons; exact rfl)) | (refine Br.mk (fun _ => ?_) (fun _ => ?_) <;> try (exfalso; omega)) | (refine Sd.mk ?_ ?_; · ((repeat' apply And.intro) <;> first | omega | trivial | assumption | (simp; done) | (simp; omega))) | (refine Sx.mk ?_ ?_; · omega) | refine Fa.mk (fun _ => ?_) | refine Im.mk (fun _ => ?_) | apply Lw.go | refine g_cond ?_ | refine g_guard ?_ | refine g_keep ?_ | refine g_pass ?_ | refine g_fin ?_ | (apply g_ap; exact rfl; exact rfl; assumption)
  refine at_loopS (ι := Nat) (E := fun k => [(0, .pointer (some ⟨b, 0, none⟩)), (8, .slice lp bs.length lc), (9, .int .i64 (bs.length : Int)), (10, .int .i64 (k : Int))]) (Δ := fun k => ro (pt b [.slice lp bs.length lc, f, .slice hp M.heads.length hc, .slice sp M.has.length sc, .slice op M.out.length oc, .bool M.exited] 0) :: rdl kPtr lp bs :: ro (each snd bs M.l) :: rdl kBool sp M.has :: F) (P := fun k => k ≤ M.l.length ∧ ∀ j, j < k → M.can j = false) (μ := fun k => M.l.length - k) 0 ⟨Nat.zero_le _, by simp⟩ ?_
  rintro k ⟨hk, hno⟩
  try dsimp only
  rcases Nat.lt_or_ge k M.l.length with hk' | hk'
  · have hks : k < M.has.length := by omega
    have hcan : M.can k = (!M.has[k] && decide (0 < M.l[k].pi.q.length)) := by
      unfold Mg.can; rw [getD_lt hks, List.getElem?_eq_getElem hk']; rfl
    cases hb : M.has[k]
    · rw [hb] at hcan
      repeat' first | rw [hb] | apply step | (apply g_op; · repeat first | exact Evs.nil | (apply Evs.cons; exact rfl)) | (refine Br.mk (fun _ => ?_) (fun _ => ?_) <;> try (exfalso; omega)) | (refine Sd.mk ?_ ?_; · ((repeat' apply And.intro) <;> first | omega | trivial | assumption | (simp; done) | (simp; omega))) | (refine Sx.mk ?_ ?_; · omega) | refine Fa.mk (fun _ => ?_) | refine Im.mk (fun _ => ?_) | apply Lw.go | refine g_cond ?_ | refine g_guard ?_ | refine g_keep ?_ | refine g_pass ?_ | refine g_fin ?_ | (apply g_ap; exact rfl; exact rfl; assumption)
      refine av_via (each_ro (g := snd) (xs := bs) (i := k) (by omega) hk') ?_
      refine av_openRP (snd bs[k] M.l[k]) rfl ?_
      rintro ⟨⟨p, c⟩, pb⟩ ⟨q1, q2⟩
      dsimp only at q1 q2 ⊢
      repeat' first | apply step | (apply g_op; · repeat first | exact Evs.nil | (apply Evs.cons; exact rfl)) | (refine Br.mk (fun _ => ?_) (fun _ => ?_) <;> try (exfalso; omega)) | (refine Sd.mk ?_ ?_; · ((repeat' apply And.intro) <;> first | omega | trivial | assumption | (simp; done) | (simp; omega))) | (refine Sx.mk ?_ ?_; · omega) | refine Fa.mk (fun _ => ?_) | refine Im.mk (fun _ => ?_) | apply Lw.go | refine g_cond ?_ | refine g_guard ?_ | refine g_keep ?_ | refine g_pass ?_ | refine g_fin ?_ | (apply g_ap; exact rfl; exact rfl; assumption)
      first | refine at_callS (pipe_Pipe_int_Len_spec (P := M.l[k].pi)) ?_ | refine at_callR (pipe_Pipe_int_Len_spec (P := M.l[k].pi)) ?_
      repeat' first | apply step | (apply g_op; · repeat first | exact Evs.nil | (apply Evs.cons; exact rfl)) | (refine Br.mk (fun _ => ?_) (fun _ => ?_) <;> try (exfalso; omega)) | (refine Sd.mk ?_ ?_; · ((repeat' apply And.intro) <;> first | omega | trivial | assumption | (simp; done) | (simp; omega))) | (refine Sx.mk ?_ ?_; · omega) | refine Fa.mk (fun _ => ?_) | refine Im.mk (fun _ => ?_) | apply Lw.go | refine g_cond ?_ | refine g_guard ?_ | refine g_keep ?_ | refine g_pass ?_ | refine g_fin ?_ | (apply g_ap; exact rfl; exact rfl; assumption)
      · rw [decide_eq_true (by omega)] at hcan
        rw [recv_some hk' hcan hno] at hR
        exact fin hR
      · rw [decide_eq_false (by omega)] at hcan
        refine lp_next (k + 1) ⟨by omega, fun j hj => ?_⟩ (by omega)
        rcases Nat.lt_or_ge j k with q | q
        · exact hno j q
        · rw [show j = k by omega]; exact hcan
    · rw [hb] at hcan
      repeat' first | rw [hb] | apply step | (apply g_op; · repeat first | exact Evs.nil | (apply Evs.cons; exact rfl)) | (refine Br.mk (fun _ => ?_) (fun _ => ?_) <;> try (exfalso; omega)) | (refine Sd.mk ?_ ?_; · ((repeat' apply And.intro) <;> first | omega | trivial | assumption | (simp; done) | (simp; omega))) | (refine Sx.mk ?_ ?_; · omega) | refine Fa.mk (fun _ => ?_) | refine Im.mk (fun _ => ?_) | apply Lw.go | refine g_cond ?_ | refine g_guard ?_ | refine g_keep ?_ | refine g_pass ?_ | refine g_fin ?_ | (apply g_ap; exact rfl; exact rfl; assumption)
      refine lp_next (k + 1) ⟨by omega, fun j hj => ?_⟩ (by omega)
      rcases Nat.lt_or_ge j k with q | q
      · exact hno j q
      · rw [show j = k by omega]; exact hcan
  · have : M.recv = -1 := recv_none (fun j hj => hno j (by omega))
    rw [this] at hR
    repeat' first | apply step | (apply g_op; · repeat first | exact Evs.nil | (apply Evs.cons; exact rfl)) | (refine Br.mk (fun _ => ?_) (fun _ => ?_) <;> try (exfalso; omega)) | (refine Sd.mk ?_ ?_; · ((repeat' apply And.intro) <;> first | omega | trivial | assumption | (simp; done) | (simp; omega))) | (refine Sx.mk ?_ ?_; · omega) | refine Fa.mk (fun _ => ?_) | refine Im.mk (fun _ => ?_) | apply Lw.go | refine g_cond ?_ | refine g_guard ?_ | refine g_keep ?_ | refine g_pass ?_ | refine g_fin ?_ | (apply g_ap; exact rfl; exact rfl; assumption)
    exact fin hR
/-- Whether a head is still to come. -/
def Mg.wants (M : Mg) (k : Nat) : Bool := !M.has.getD k false && !(((M.l[k]?).map fun s => s.pi.closed && decide (s.pi.q.length = 0)).getD true)
def Mg.full (M : Mg) : Bool := !(List.range M.l.length).any M.wants
theorem full_yes {M : Mg} (h : ∀ j, j < M.l.length → M.wants j = false) : M.full = true := by
  unfold Mg.full
  rw [List.any_eq_false.2 fun j hj => by rw [h j (List.mem_range.1 hj)]; simp]; rfl
theorem full_no {M : Mg} {k : Nat} (hk : k < M.l.length) (hc : M.wants k = true) : M.full = false := by
  unfold Mg.full
  rw [List.any_eq_true.2 ⟨k, List.mem_range.2 hk, hc⟩]; rfl
theorem merge_merger_int_full_spec {f : Value} {M : Mg} : Spec prog1 n_merge_merger_int_full [.pointer (some ⟨b, 0, none⟩)] [ro (mrg b f M)] (fun R => R (.bool M.full) []) := by
  refine spec_code c_merge_merger_int_full rfl ?_; intro n F R hR; unfold F_merge_merger_int_full
  refine at_openRP (mrg b f M) rfl ?_
  rintro ⟨⟨⟨lp, lc⟩, bs⟩, ⟨hp, hc⟩, ⟨sp, sc⟩, ⟨op, oc⟩⟩ ⟨⟨o1, o2, o3, o4⟩, hl⟩
  dsimp only at hl ⊢
  repeat' first | apply step | (apply g_op; · repeat first | exact Evs.nil | (apply Evs.cons; exact rfl)) | (refine Br.mk (fun _ => ?_) (fun _ => ?_) <;> try (exfalso; omega)) | (refine Sd.mk ?_ ?_; · ((repeat' apply And.intro) <;> first | omega | trivial | assumption | (simp; done) | (simp; omega))) | (refine Sx.mk ?_ ?_; · omega) | refine Fa.mk (fun _ => ?_) | refine Im.mk (fun _ => ?_) | apply Lw.go | refine g_cond ?_ | refine g_guard ?_ | refine g_keep ?_ | refine g_pass ?_ | refine g_fin ?_ | (apply g_ap; exact rfl; exact rfl; assumption)
  refine at_loopS (ι := Nat) (E := fun k => [(0, .pointer (some ⟨b, 0, none⟩)), (8, .slice lp bs.length lc), (9, .int .i64 (bs.length : Int)), (10, .int .i64 (k : Int))]) (Δ := fun k => ro (pt b [.slice lp bs.length lc, f, .slice hp M.heads.length hc, .slice sp M.has.length sc, .slice op M.out.length oc, .bool M.exited] 0) :: rdl kPtr lp bs :: ro (each snd bs M.l) :: rdl kBool sp M.has :: F) (P := fun k => k ≤ M.l.length ∧ ∀ j, j < k → M.wants j = false) (μ := fun k => M.l.length - k) 0 ⟨Nat.zero_le _, by simp⟩ ?_
  rintro k ⟨hk, hno⟩
  try dsimp only
  rcases Nat.lt_or_ge k M.l.length with hk' | hk'
  · have hks : k < M.has.length := by omega
    have hcan : M.wants k = (!M.has[k] && !(M.l[k].pi.closed && decide (M.l[k].pi.q.length = 0))) := by
      unfold Mg.wants; rw [getD_lt hks, List.getElem?_eq_getElem hk']; rfl
    cases hb : M.has[k]
    · rw [hb] at hcan
      repeat' first | rw [hb] | apply step | (apply g_op; · repeat first | exact Evs.nil | (apply Evs.cons; exact rfl)) | (refine Br.mk (fun _ => ?_) (fun _ => ?_) <;> try (exfalso; omega)) | (refine Sd.mk ?_ ?_; · ((repeat' apply And.intro) <;> first | omega | trivial | assumption | (simp; done) | (simp; omega))) | (refine Sx.mk ?_ ?_; · omega) | refine Fa.mk (fun _ => ?_) | refine Im.mk (fun _ => ?_) | apply Lw.go | refine g_cond ?_ | refine g_guard ?_ | refine g_keep ?_ | refine g_pass ?_ | refine g_fin ?_ | (apply g_ap; exact rfl; exact rfl; assumption)
      refine av_via (each_ro (g := snd) (xs := bs) (i := k) (by omega) hk') ?_
      refine av_openRP (snd bs[k] M.l[k]) rfl ?_
      rintro ⟨⟨p, c⟩, pb⟩ ⟨q1, q2⟩
      dsimp only at q1 q2 ⊢
      repeat' first | apply step | (apply g_op; · repeat first | exact Evs.nil | (apply Evs.cons; exact rfl)) | (refine Br.mk (fun _ => ?_) (fun _ => ?_) <;> try (exfalso; omega)) | (refine Sd.mk ?_ ?_; · ((repeat' apply And.intro) <;> first | omega | trivial | assumption | (simp; done) | (simp; omega))) | (refine Sx.mk ?_ ?_; · omega) | refine Fa.mk (fun _ => ?_) | refine Im.mk (fun _ => ?_) | apply Lw.go | refine g_cond ?_ | refine g_guard ?_ | refine g_keep ?_ | refine g_pass ?_ | refine g_fin ?_ | (apply g_ap; exact rfl; exact rfl; assumption)
      first | refine at_callS (pipe_Pipe_int_Done_spec (P := M.l[k].pi)) ?_ | refine at_callR (pipe_Pipe_int_Done_spec (P := M.l[k].pi)) ?_
      generalize (M.l[k].pi.closed && decide (M.l[k].pi.q.length = 0)) = dn at *
      cases dn
      · repeat' first | apply step | (apply g_op; · repeat first | exact Evs.nil | (apply Evs.cons; exact rfl)) | (refine Br.mk (fun _ => ?_) (fun _ => ?_) <;> try (exfalso; omega)) | (refine Sd.mk ?_ ?_; · ((repeat' apply And.intro) <;> first | omega | trivial | assumption | (simp; done) | (simp; omega))) | (refine Sx.mk ?_ ?_; · omega) | refine Fa.mk (fun _ => ?_) | refine Im.mk (fun _ => ?_) | apply Lw.go | refine g_cond ?_ | refine g_guard ?_ | refine g_keep ?_ | refine g_pass ?_ | refine g_fin ?_ | (apply g_ap; exact rfl; exact rfl; assumption)
        rw [full_no hk' hcan] at hR
        exact fin hR
      · repeat' first | apply step | (apply g_op; · repeat first | exact Evs.nil | (apply Evs.cons; exact rfl)) | (refine Br.mk (fun _ => ?_) (fun _ => ?_) <;> try (exfalso; omega)) | (refine Sd.mk ?_ ?_; · ((repeat' apply And.intro) <;> first | omega | trivial | assumption | (simp; done) | (simp; omega))) | (refine Sx.mk ?_ ?_; · omega) | refine Fa.mk (fun _ => ?_) | refine Im.mk (fun _ => ?_) | apply Lw.go | refine g_cond ?_ | refine g_guard ?_ | refine g_keep ?_ | refine g_pass ?_ | refine g_fin ?_ | (apply g_ap; exact rfl; exact rfl; assumption)
        refine lp_next (k + 1) ⟨by omega, fun j hj => ?_⟩ (by omega)
        rcases Nat.lt_or_ge j k with q | q
        · exact hno j q
        · rw [show j = k by omega]; exact hcan
    · rw [hb] at hcan
      repeat' first | rw [hb] | apply step | (apply g_op; · repeat first | exact Evs.nil | (apply Evs.cons; exact rfl)) | (refine Br.mk (fun _ => ?_) (fun _ => ?_) <;> try (exfalso; omega)) | (refine Sd.mk ?_ ?_; · ((repeat' apply And.intro) <;> first | omega | trivial | assumption | (simp; done) | (simp; omega))) | (refine Sx.mk ?_ ?_; · omega) | refine Fa.mk (fun _ => ?_) | refine Im.mk (fun _ => ?_) | apply Lw.go | refine g_cond ?_ | refine g_guard ?_ | refine g_keep ?_ | refine g_pass ?_ | refine g_fin ?_ | (apply g_ap; exact rfl; exact rfl; assumption)
      refine lp_next (k + 1) ⟨by omega, fun j hj => ?_⟩ (by omega)
      rcases Nat.lt_or_ge j k with q | q
      · exact hno j q
      · rw [show j = k by omega]; exact hcan
  · have : M.full = true := full_yes (fun j hj => hno j (by omega))
    rw [this] at hR
    repeat' first | apply step | (apply g_op; · repeat first | exact Evs.nil | (apply Evs.cons; exact rfl)) | (refine Br.mk (fun _ => ?_) (fun _ => ?_) <;> try (exfalso; omega)) | (refine Sd.mk ?_ ?_; · ((repeat' apply And.intro) <;> first | omega | trivial | assumption | (simp; done) | (simp; omega))) | (refine Sx.mk ?_ ?_; · omega) | refine Fa.mk (fun _ => ?_) | refine Im.mk (fun _ => ?_) | apply Lw.go | refine g_cond ?_ | refine g_guard ?_ | refine g_keep ?_ | refine g_pass ?_ | refine g_fin ?_ | (apply g_ap; exact rfl; exact rfl; assumption)
    exact fin hR
/-- The senders that go on, of the first so many. -/
def Mg.goes (M : Mg) (k : Nat) : List Int := ((List.range k).filter fun k => ((M.l[k]?).map Sn.rdy).getD false).map Int.ofNat
theorem goes_succ {M : Mg} {k : Nat} (hk : k < M.l.length) : M.goes (k + 1) = M.goes k ++ (if M.l[k].rdy = true then [(k : Int)] else []) := by
  unfold Mg.goes
  rw [List.range_succ, List.filter_append, List.map_append]
  congr 1
  have : ((M.l[k]?).map Sn.rdy).getD false = M.l[k].rdy := by rw [List.getElem?_eq_getElem hk]; rfl
  by_cases h : M.l[k].rdy = true
  · rw [if_pos h]; simp only [List.filter_cons, this, h, if_true, List.filter_nil]; rfl
  · rw [if_neg h]; simp only [List.filter_cons, this, List.filter_nil]; rw [if_neg h]; rfl
theorem goes_len (M : Mg) (k : Nat) : (M.goes k).length ≤ k := by
  unfold Mg.goes
  rw [List.length_map]
  exact Nat.le_trans (List.length_filter_le _ _) (by simp)
def Mg.readyL (M : Mg) : List Int := M.goes M.l.length ++ (if (!M.exited && (decide (0 ≤ M.recv) || M.full)) = true then [(M.l.length : Int)] else [])
theorem merge_merger_int_ready_spec {f : Value} {M : Mg} : Spec prog1 n_merge_merger_int_ready [.pointer (some ⟨b, 0, none⟩)] [ro (mrg b f M)] (fun R => ∀ p c, R (.slice p M.readyL.length c) [own (kInt .i64) p c M.readyL]) := by
  refine spec_code c_merge_merger_int_ready rfl ?_; intro n F R hR; unfold F_merge_merger_int_ready
  refine at_openRP (mrg b f M) rfl ?_
  rintro ⟨⟨⟨lp, lc⟩, bs⟩, ⟨hp, hc⟩, ⟨sp, sc⟩, ⟨op, oc⟩⟩ ⟨⟨o1, o2, o3, o4⟩, hl⟩
  dsimp only at hl ⊢
  repeat' first | apply step | (apply g_op; · repeat first | exact Evs.nil | (apply Evs.cons; exact rfl)) | (refine Br.mk (fun _ => ?_) (fun _ => ?_) <;> try (exfalso; omega)) | (refine Sd.mk ?_ ?_; · ((repeat' apply And.intro) <;> first | omega | trivial | assumption | (simp; done) | (simp; omega))) | (refine Sx.mk ?_ ?_; · omega) | refine Fa.mk (fun _ => ?_) | refine Im.mk (fun _ => ?_) | apply Lw.go | refine g_cond ?_ | refine g_guard ?_ | refine g_keep ?_ | refine g_pass ?_ | refine g_fin ?_ | (apply g_ap; exact rfl; exact rfl; assumption)
  refine at_loopS (ι := Nat × Option Addr × Nat) (E := fun k => [(0, .pointer (some ⟨b, 0, none⟩)), (3, .slice k.2.1 (M.goes k.1).length k.2.2), (9, .slice lp bs.length lc), (10, .int .i64 (bs.length : Int)), (11, .int .i64 (k.1 : Int))]) (Δ := fun k => own (kInt .i64) k.2.1 k.2.2 (M.goes k.1) :: ro (pt b [.slice lp bs.length lc, f, .slice hp M.heads.length hc, .slice sp M.has.length sc, .slice op M.out.length oc, .bool M.exited] 0) :: rdl kPtr lp bs :: ro (each snd bs M.l) :: ro (mrg b f M) :: F) (P := fun k => k.1 ≤ M.l.length) (μ := fun k => M.l.length - k.1) (0, none, 0) (Nat.zero_le _) ?_
  rintro ⟨k, p, c⟩ hk
  dsimp only at hk ⊢
  have hgl := goes_len M k
  rcases Nat.lt_or_ge k M.l.length with hk' | hk'
  · have hgs := goes_succ hk'
    repeat' first | apply step | (apply g_op; · repeat first | exact Evs.nil | (apply Evs.cons; exact rfl)) | (refine Br.mk (fun _ => ?_) (fun _ => ?_) <;> try (exfalso; omega)) | (refine Sd.mk ?_ ?_; · ((repeat' apply And.intro) <;> first | omega | trivial | assumption | (simp; done) | (simp; omega))) | (refine Sx.mk ?_ ?_; · omega) | refine Fa.mk (fun _ => ?_) | refine Im.mk (fun _ => ?_) | apply Lw.go | refine g_cond ?_ | refine g_guard ?_ | refine g_keep ?_ | refine g_pass ?_ | refine g_fin ?_ | (apply g_ap; exact rfl; exact rfl; assumption)
    refine av_via (each_ro (g := snd) (xs := bs) (i := k) (by omega) hk') ?_
    first | refine at_callS (merge_sender_int_ready_spec (s := M.l[k])) ?_ | refine at_callR (merge_sender_int_ready_spec (s := M.l[k])) ?_
    cases hrd : M.l[k].rdy
    · rw [hrd] at hgs
      simp only [Bool.false_eq_true, if_false, List.append_nil] at hgs
      repeat' first | apply step | (apply g_op; · repeat first | exact Evs.nil | (apply Evs.cons; exact rfl)) | (refine Br.mk (fun _ => ?_) (fun _ => ?_) <;> try (exfalso; omega)) | (refine Sd.mk ?_ ?_; · ((repeat' apply And.intro) <;> first | omega | trivial | assumption | (simp; done) | (simp; omega))) | (refine Sx.mk ?_ ?_; · omega) | refine Fa.mk (fun _ => ?_) | refine Im.mk (fun _ => ?_) | apply Lw.go | refine g_cond ?_ | refine g_guard ?_ | refine g_keep ?_ | refine g_pass ?_ | refine g_fin ?_ | (apply g_ap; exact rfl; exact rfl; assumption)
      exact lp_next (k + 1, p, c) (by dsimp only; omega) (by dsimp only; omega) (by simp only [hgs]) (hs := by simp only [hgs]; repeat first | exact Ent.refl _ | (apply Ent.more; · repeat first | exact Ent.keep | exact Ent.here | exact Ent.lend | exact ent_nil | apply Ent.there) | apply Ent.drop)
    · rw [hrd] at hgs
      simp only [if_true] at hgs
      repeat' first | apply step | (apply g_op; · repeat first | exact Evs.nil | (apply Evs.cons; exact rfl)) | (refine Br.mk (fun _ => ?_) (fun _ => ?_) <;> try (exfalso; omega)) | (refine Sd.mk ?_ ?_; · ((repeat' apply And.intro) <;> first | omega | trivial | assumption | (simp; done) | (simp; omega))) | (refine Sx.mk ?_ ?_; · omega) | refine Fa.mk (fun _ => ?_) | refine Im.mk (fun _ => ?_) | apply Lw.go | refine g_cond ?_ | refine g_guard ?_ | refine g_keep ?_ | refine g_pass ?_ | refine g_fin ?_ | (apply g_ap; exact rfl; exact rfl; assumption)
      rename_i p2 c2
      exact lp_next (k + 1, p2, c2) (by dsimp only; omega) (by dsimp only; omega) (by simp only [hgs]) (hs := by simp only [hgs]; repeat first | exact Ent.refl _ | (apply Ent.more; · repeat first | exact Ent.keep | exact Ent.here | exact Ent.lend | exact ent_nil | apply Ent.there) | apply Ent.drop)
  · have hkk : k = M.l.length := by omega
    subst hkk
    unfold Mg.readyL at hR
    cases hx : M.exited
    · rw [hx] at hR
      repeat' first | rw [hx] | apply step | (apply g_op; · repeat first | exact Evs.nil | (apply Evs.cons; exact rfl)) | (refine Br.mk (fun _ => ?_) (fun _ => ?_) <;> try (exfalso; omega)) | (refine Sd.mk ?_ ?_; · ((repeat' apply And.intro) <;> first | omega | trivial | assumption | (simp; done) | (simp; omega))) | (refine Sx.mk ?_ ?_; · omega) | refine Fa.mk (fun _ => ?_) | refine Im.mk (fun _ => ?_) | apply Lw.go | refine g_cond ?_ | refine g_guard ?_ | refine g_keep ?_ | refine g_pass ?_ | refine g_fin ?_ | (apply g_ap; exact rfl; exact rfl; assumption)
      first | refine at_callS (merge_merger_int_receives_spec (f := f) (M := M)) ?_ | refine at_callR (merge_merger_int_receives_spec (f := f) (M := M)) ?_
      by_cases hrv : 0 ≤ M.recv
      · rw [decide_eq_true hrv] at hR
        simp only [Bool.not_false, Bool.true_and, Bool.true_or, if_true] at hR
        repeat' first | apply step | (apply g_op; · repeat first | exact Evs.nil | (apply Evs.cons; exact rfl)) | (refine Br.mk (fun _ => ?_) (fun _ => ?_) <;> try (exfalso; omega)) | (refine Sd.mk ?_ ?_; · ((repeat' apply And.intro) <;> first | omega | trivial | assumption | (simp; done) | (simp; omega))) | (refine Sx.mk ?_ ?_; · omega) | refine Fa.mk (fun _ => ?_) | refine Im.mk (fun _ => ?_) | apply Lw.go | refine g_cond ?_ | refine g_guard ?_ | refine g_keep ?_ | refine g_pass ?_ | refine g_fin ?_ | (apply g_ap; exact rfl; exact rfl; assumption)
        rename_i p2 c2
        rw [hl]; exact fin (hR p2 c2)
      · rw [decide_eq_false hrv] at hR
        repeat' first | apply step | (apply g_op; · repeat first | exact Evs.nil | (apply Evs.cons; exact rfl)) | (refine Br.mk (fun _ => ?_) (fun _ => ?_) <;> try (exfalso; omega)) | (refine Sd.mk ?_ ?_; · ((repeat' apply And.intro) <;> first | omega | trivial | assumption | (simp; done) | (simp; omega))) | (refine Sx.mk ?_ ?_; · omega) | refine Fa.mk (fun _ => ?_) | refine Im.mk (fun _ => ?_) | apply Lw.go | refine g_cond ?_ | refine g_guard ?_ | refine g_keep ?_ | refine g_pass ?_ | refine g_fin ?_ | (apply g_ap; exact rfl; exact rfl; assumption)
        first | refine at_callS (merge_merger_int_full_spec (f := f) (M := M)) ?_ | refine at_callR (merge_merger_int_full_spec (f := f) (M := M)) ?_
        cases hfl : M.full
        · rw [hfl] at hR
          simp only [Bool.not_false, Bool.true_and, Bool.false_or, Bool.or_false, Bool.false_eq_true, if_false, List.append_nil] at hR
          repeat' first | apply step | (apply g_op; · repeat first | exact Evs.nil | (apply Evs.cons; exact rfl)) | (refine Br.mk (fun _ => ?_) (fun _ => ?_) <;> try (exfalso; omega)) | (refine Sd.mk ?_ ?_; · ((repeat' apply And.intro) <;> first | omega | trivial | assumption | (simp; done) | (simp; omega))) | (refine Sx.mk ?_ ?_; · omega) | refine Fa.mk (fun _ => ?_) | refine Im.mk (fun _ => ?_) | apply Lw.go | refine g_cond ?_ | refine g_guard ?_ | refine g_keep ?_ | refine g_pass ?_ | refine g_fin ?_ | (apply g_ap; exact rfl; exact rfl; assumption)
          exact fin (hR p c)
        · rw [hfl] at hR
          simp only [Bool.not_false, Bool.true_and, Bool.or_true, if_true] at hR
          repeat' first | apply step | (apply g_op; · repeat first | exact Evs.nil | (apply Evs.cons; exact rfl)) | (refine Br.mk (fun _ => ?_) (fun _ => ?_) <;> try (exfalso; omega)) | (refine Sd.mk ?_ ?_; · ((repeat' apply And.intro) <;> first | omega | trivial | assumption | (simp; done) | (simp; omega))) | (refine Sx.mk ?_ ?_; · omega) | refine Fa.mk (fun _ => ?_) | refine Im.mk (fun _ => ?_) | apply Lw.go | refine g_cond ?_ | refine g_guard ?_ | refine g_keep ?_ | refine g_pass ?_ | refine g_fin ?_ | (apply g_ap; exact rfl; exact rfl; assumption)
          rename_i p2 c2
          rw [hl]; exact fin (hR p2 c2)
    · rw [hx] at hR
      simp only [Bool.not_true, Bool.false_and, Bool.false_eq_true, if_false, List.append_nil] at hR
      repeat' first | rw [hx] | apply step | (apply g_op; · repeat first | exact Evs.nil | (apply Evs.cons; exact rfl)) | (refine Br.mk (fun _ => ?_) (fun _ => ?_) <;> try (exfalso; omega)) | (refine Sd.mk ?_ ?_; · ((repeat' apply And.intro) <;> first | omega | trivial | assumption | (simp; done) | (simp; omega))) | (refine Sx.mk ?_ ?_; · omega) | refine Fa.mk (fun _ => ?_) | refine Im.mk (fun _ => ?_) | apply Lw.go | refine g_cond ?_ | refine g_guard ?_ | refine g_keep ?_ | refine g_pass ?_ | refine g_fin ?_ | (apply g_ap; exact rfl; exact rfl; assumption)
      exact fin (hR p c)
def Mg.sentN (M : Mg) (k : Nat) : Nat := ((M.l.take k).map (·.sent)).sum
def Mg.exN (M : Mg) (k : Nat) : Nat := ((M.l.take k).filter (·.exited)).length
theorem sentN_succ {M : Mg} {k : Nat} (hk : k < M.l.length) : M.sentN (k + 1) = M.sentN k + M.l[k].sent := by
  unfold Mg.sentN
  rw [List.take_succ_eq_append_getElem hk, List.map_append, List.sum_append]; simp
theorem exN_succ {M : Mg} {k : Nat} (hk : k < M.l.length) : M.exN (k + 1) = M.exN k + (bif M.l[k].exited then 1 else 0) := by
  unfold Mg.exN
  rw [List.take_succ_eq_append_getElem hk, List.filter_append, List.length_append]
  cases h : M.l[k].exited <;> simp [h]
theorem exN_le (M : Mg) (k : Nat) : M.exN k ≤ k := by
  unfold Mg.exN
  exact Nat.le_trans (List.length_filter_le _ _) (by rw [List.length_take]; omega)
theorem merge_merger_int_stats_spec {f : Value} {M : Mg} {st : Nat} (hs : st ≤ 1000000) (hsn : ∀ k, M.sentN k ≤ 1000000) : Spec prog1 n_merge_merger_int_stats [.pointer (some ⟨b, 0, none⟩), .int .i64 (st : Int)] [ro (mrg b f M)] (fun R => R (.agg #[.int .i64 (st : Int), .int .i64 (M.sentN M.l.length : Int), .int .i64 ((M.exN M.l.length + (bif M.exited then 1 else 0) : Nat) : Int)]) []) := by
  refine spec_code c_merge_merger_int_stats rfl ?_; intro n F R hR; unfold F_merge_merger_int_stats
  refine at_openRP (mrg b f M) rfl ?_
  rintro ⟨⟨⟨lp, lc⟩, bs⟩, ⟨hp, hc⟩, ⟨sp, sc⟩, ⟨op, oc⟩⟩ ⟨⟨o1, o2, o3, o4⟩, hl⟩
  dsimp only at hl ⊢
  repeat' first | apply step | (apply g_op; · repeat first | exact Evs.nil | (apply Evs.cons; exact rfl)) | (refine Br.mk (fun _ => ?_) (fun _ => ?_) <;> try (exfalso; omega)) | (refine Sd.mk ?_ ?_; · ((repeat' apply And.intro) <;> first | omega | trivial | assumption | (simp; done) | (simp; omega))) | (refine Sx.mk ?_ ?_; · omega) | refine Fa.mk (fun _ => ?_) | refine Im.mk (fun _ => ?_) | apply Lw.go | refine g_cond ?_ | refine g_guard ?_ | refine g_keep ?_ | refine g_pass ?_ | refine g_fin ?_ | (apply g_ap; exact rfl; exact rfl; assumption)
  rename_i xr xo
  refine at_loopS (ι := Nat) (E := fun k => [(0, .pointer (some ⟨b, 0, none⟩)), (4, .pointer (some ⟨xr, 0, none⟩)), (5, .pointer (some ⟨xo, 0, none⟩)), (13, .slice lp bs.length lc), (14, .int .i64 (bs.length : Int)), (15, .int .i64 (k : Int))]) (Δ := fun k => pt xo [.int .i64 (st : Int), .int .i64 (M.sentN k : Int), .int .i64 (M.exN k : Int)] 0 :: pt xr [.int .i64 0, .int .i64 0, .int .i64 0] 0 :: ro (pt b [.slice lp bs.length lc, f, .slice hp M.heads.length hc, .slice sp M.has.length sc, .slice op M.out.length oc, .bool M.exited] 0) :: rdl kPtr lp bs :: ro (each snd bs M.l) :: F) (P := fun k => k ≤ M.l.length) (μ := fun k => M.l.length - k) 0 (Nat.zero_le _) ?_
  rintro k hk
  try dsimp only
  have hxl := exN_le M k
  have hsk := hsn k
  rcases Nat.lt_or_ge k M.l.length with hk' | hk'
  · have g1 := sentN_succ hk'
    have g2 := exN_succ hk'
    have hsk1 := hsn (k + 1)
    repeat' first | apply step | (apply g_op; · repeat first | exact Evs.nil | (apply Evs.cons; exact rfl)) | (refine Br.mk (fun _ => ?_) (fun _ => ?_) <;> try (exfalso; omega)) | (refine Sd.mk ?_ ?_; · ((repeat' apply And.intro) <;> first | omega | trivial | assumption | (simp; done) | (simp; omega))) | (refine Sx.mk ?_ ?_; · omega) | refine Fa.mk (fun _ => ?_) | refine Im.mk (fun _ => ?_) | apply Lw.go | refine g_cond ?_ | refine g_guard ?_ | refine g_keep ?_ | refine g_pass ?_ | refine g_fin ?_ | (apply g_ap; exact rfl; exact rfl; assumption)
    refine av_via (each_ro (g := snd) (xs := bs) (i := k) (by omega) hk') ?_
    refine av_openRP (snd bs[k] M.l[k]) rfl ?_
    rintro ⟨⟨p, c⟩, pb⟩ ⟨q1, q2⟩
    dsimp only at q1 q2 ⊢
    cases hx : M.l[k].exited
    · rw [hx] at g2
      repeat' first | apply step | (apply g_op; · repeat first | exact Evs.nil | (apply Evs.cons; exact rfl)) | (refine Br.mk (fun _ => ?_) (fun _ => ?_) <;> try (exfalso; omega)) | (refine Sd.mk ?_ ?_; · ((repeat' apply And.intro) <;> first | omega | trivial | assumption | (simp; done) | (simp; omega))) | (refine Sx.mk ?_ ?_; · omega) | refine Fa.mk (fun _ => ?_) | refine Im.mk (fun _ => ?_) | apply Lw.go | refine g_cond ?_ | refine g_guard ?_ | refine g_keep ?_ | refine g_pass ?_ | refine g_fin ?_ | (apply g_ap; exact rfl; exact rfl; assumption)
      exact lp_next (k + 1) (by omega) (by omega) (hs := by (try dsimp only); rw [g1, g2]; repeat first | exact Ent.refl _ | (apply Ent.more; · repeat first | exact Ent.keep | exact Ent.here | exact Ent.lend | exact ent_nil | apply Ent.there) | apply Ent.drop)
    · rw [hx] at g2
      repeat' first | apply step | (apply g_op; · repeat first | exact Evs.nil | (apply Evs.cons; exact rfl)) | (refine Br.mk (fun _ => ?_) (fun _ => ?_) <;> try (exfalso; omega)) | (refine Sd.mk ?_ ?_; · ((repeat' apply And.intro) <;> first | omega | trivial | assumption | (simp; done) | (simp; omega))) | (refine Sx.mk ?_ ?_; · omega) | refine Fa.mk (fun _ => ?_) | refine Im.mk (fun _ => ?_) | apply Lw.go | refine g_cond ?_ | refine g_guard ?_ | refine g_keep ?_ | refine g_pass ?_ | refine g_fin ?_ | (apply g_ap; exact rfl; exact rfl; assumption)
      exact lp_next (k + 1) (by omega) (by omega) (hs := by (try dsimp only); rw [g1, g2]; repeat first | exact Ent.refl _ | (apply Ent.more; · repeat first | exact Ent.keep | exact Ent.here | exact Ent.lend | exact ent_nil | apply Ent.there) | apply Ent.drop)
  · have hkk : k = M.l.length := by omega
    subst hkk
    cases hx : M.exited
    · rw [hx] at hR
      repeat' first | apply step | (apply g_op; · repeat first | exact Evs.nil | (apply Evs.cons; exact rfl)) | (refine Br.mk (fun _ => ?_) (fun _ => ?_) <;> try (exfalso; omega)) | (refine Sd.mk ?_ ?_; · ((repeat' apply And.intro) <;> first | omega | trivial | assumption | (simp; done) | (simp; omega))) | (refine Sx.mk ?_ ?_; · omega) | refine Fa.mk (fun _ => ?_) | refine Im.mk (fun _ => ?_) | apply Lw.go | refine g_cond ?_ | refine g_guard ?_ | refine g_keep ?_ | refine g_pass ?_ | refine g_fin ?_ | (apply g_ap; exact rfl; exact rfl; assumption)
      exact fin hR
    · rw [hx] at hR
      repeat' first | apply step | (apply g_op; · repeat first | exact Evs.nil | (apply Evs.cons; exact rfl)) | (refine Br.mk (fun _ => ?_) (fun _ => ?_) <;> try (exfalso; omega)) | (refine Sd.mk ?_ ?_; · ((repeat' apply And.intro) <;> first | omega | trivial | assumption | (simp; done) | (simp; omega))) | (refine Sx.mk ?_ ?_; · omega) | refine Fa.mk (fun _ => ?_) | refine Im.mk (fun _ => ?_) | apply Lw.go | refine g_cond ?_ | refine g_guard ?_ | refine g_keep ?_ | refine g_pass ?_ | refine g_fin ?_ | (apply g_ap; exact rfl; exact rfl; assumption)
      exact fin hR
theorem merge_merger_int_stats_open {f : Value} {M : Mg} {st : Nat} {lp hp sp op : Option Addr} {lc hc sc oc : Nat} {bs : List Nat} (ok : M.ok) (hl : bs.length = M.l.length) (hs : st ≤ 1000000) (hsn : ∀ k, M.sentN k ≤ 1000000) : Spec prog1 n_merge_merger_int_stats [.pointer (some ⟨b, 0, none⟩), .int .i64 (st : Int)] [ro (pt b [.slice lp bs.length lc, f, .slice hp M.heads.length hc, .slice sp M.has.length sc, .slice op M.out.length oc, .bool M.exited] 0), rdl kPtr lp bs, ro (each snd bs M.l)] (fun R => R (.agg #[.int .i64 (st : Int), .int .i64 (M.sentN M.l.length : Int), .int .i64 ((M.exN M.l.length + (bif M.exited then 1 else 0) : Nat) : Int)]) []) := by
  refine spec_code c_merge_merger_int_stats rfl ?_; intro n F R hR; unfold F_merge_merger_int_stats
  obtain ⟨o1, o2, o3, o4⟩ := ok
  repeat' first | apply step | (apply g_op; · repeat first | exact Evs.nil | (apply Evs.cons; exact rfl)) | (refine Br.mk (fun _ => ?_) (fun _ => ?_) <;> try (exfalso; omega)) | (refine Sd.mk ?_ ?_; · ((repeat' apply And.intro) <;> first | omega | trivial | assumption | (simp; done) | (simp; omega))) | (refine Sx.mk ?_ ?_; · omega) | refine Fa.mk (fun _ => ?_) | refine Im.mk (fun _ => ?_) | apply Lw.go | refine g_cond ?_ | refine g_guard ?_ | refine g_keep ?_ | refine g_pass ?_ | refine g_fin ?_ | (apply g_ap; exact rfl; exact rfl; assumption)
  rename_i xr xo
  refine at_loopS (ι := Nat) (E := fun k => [(0, .pointer (some ⟨b, 0, none⟩)), (4, .pointer (some ⟨xr, 0, none⟩)), (5, .pointer (some ⟨xo, 0, none⟩)), (13, .slice lp bs.length lc), (14, .int .i64 (bs.length : Int)), (15, .int .i64 (k : Int))]) (Δ := fun k => pt xo [.int .i64 (st : Int), .int .i64 (M.sentN k : Int), .int .i64 (M.exN k : Int)] 0 :: pt xr [.int .i64 0, .int .i64 0, .int .i64 0] 0 :: ro (pt b [.slice lp bs.length lc, f, .slice hp M.heads.length hc, .slice sp M.has.length sc, .slice op M.out.length oc, .bool M.exited] 0) :: rdl kPtr lp bs :: ro (each snd bs M.l) :: F) (P := fun k => k ≤ M.l.length) (μ := fun k => M.l.length - k) 0 (Nat.zero_le _) ?_
  rintro k hk
  try dsimp only
  have hxl := exN_le M k
  have hsk := hsn k
  rcases Nat.lt_or_ge k M.l.length with hk' | hk'
  · have g1 := sentN_succ hk'
    have g2 := exN_succ hk'
    have hsk1 := hsn (k + 1)
    repeat' first | apply step | (apply g_op; · repeat first | exact Evs.nil | (apply Evs.cons; exact rfl)) | (refine Br.mk (fun _ => ?_) (fun _ => ?_) <;> try (exfalso; omega)) | (refine Sd.mk ?_ ?_; · ((repeat' apply And.intro) <;> first | omega | trivial | assumption | (simp; done) | (simp; omega))) | (refine Sx.mk ?_ ?_; · omega) | refine Fa.mk (fun _ => ?_) | refine Im.mk (fun _ => ?_) | apply Lw.go | refine g_cond ?_ | refine g_guard ?_ | refine g_keep ?_ | refine g_pass ?_ | refine g_fin ?_ | (apply g_ap; exact rfl; exact rfl; assumption)
    refine av_via (each_ro (g := snd) (xs := bs) (i := k) (by omega) hk') ?_
    refine av_openRP (snd bs[k] M.l[k]) rfl ?_
    rintro ⟨⟨p, c⟩, pb⟩ ⟨q1, q2⟩
    dsimp only at q1 q2 ⊢
    cases hx : M.l[k].exited
    · rw [hx] at g2
      repeat' first | apply step | (apply g_op; · repeat first | exact Evs.nil | (apply Evs.cons; exact rfl)) | (refine Br.mk (fun _ => ?_) (fun _ => ?_) <;> try (exfalso; omega)) | (refine Sd.mk ?_ ?_; · ((repeat' apply And.intro) <;> first | omega | trivial | assumption | (simp; done) | (simp; omega))) | (refine Sx.mk ?_ ?_; · omega) | refine Fa.mk (fun _ => ?_) | refine Im.mk (fun _ => ?_) | apply Lw.go | refine g_cond ?_ | refine g_guard ?_ | refine g_keep ?_ | refine g_pass ?_ | refine g_fin ?_ | (apply g_ap; exact rfl; exact rfl; assumption)
      exact lp_next (k + 1) (by omega) (by omega) (hs := by (try dsimp only); rw [g1, g2]; repeat first | exact Ent.refl _ | (apply Ent.more; · repeat first | exact Ent.keep | exact Ent.here | exact Ent.lend | exact ent_nil | apply Ent.there) | apply Ent.drop)
    · rw [hx] at g2
      repeat' first | apply step | (apply g_op; · repeat first | exact Evs.nil | (apply Evs.cons; exact rfl)) | (refine Br.mk (fun _ => ?_) (fun _ => ?_) <;> try (exfalso; omega)) | (refine Sd.mk ?_ ?_; · ((repeat' apply And.intro) <;> first | omega | trivial | assumption | (simp; done) | (simp; omega))) | (refine Sx.mk ?_ ?_; · omega) | refine Fa.mk (fun _ => ?_) | refine Im.mk (fun _ => ?_) | apply Lw.go | refine g_cond ?_ | refine g_guard ?_ | refine g_keep ?_ | refine g_pass ?_ | refine g_fin ?_ | (apply g_ap; exact rfl; exact rfl; assumption)
      exact lp_next (k + 1) (by omega) (by omega) (hs := by (try dsimp only); rw [g1, g2]; repeat first | exact Ent.refl _ | (apply Ent.more; · repeat first | exact Ent.keep | exact Ent.here | exact Ent.lend | exact ent_nil | apply Ent.there) | apply Ent.drop)
  · have hkk : k = M.l.length := by omega
    subst hkk
    cases hx : M.exited
    · rw [hx] at hR
      repeat' first | apply step | (apply g_op; · repeat first | exact Evs.nil | (apply Evs.cons; exact rfl)) | (refine Br.mk (fun _ => ?_) (fun _ => ?_) <;> try (exfalso; omega)) | (refine Sd.mk ?_ ?_; · ((repeat' apply And.intro) <;> first | omega | trivial | assumption | (simp; done) | (simp; omega))) | (refine Sx.mk ?_ ?_; · omega) | refine Fa.mk (fun _ => ?_) | refine Im.mk (fun _ => ?_) | apply Lw.go | refine g_cond ?_ | refine g_guard ?_ | refine g_keep ?_ | refine g_pass ?_ | refine g_fin ?_ | (apply g_ap; exact rfl; exact rfl; assumption)
      exact fin hR
    · rw [hx] at hR
      repeat' first | apply step | (apply g_op; · repeat first | exact Evs.nil | (apply Evs.cons; exact rfl)) | (refine Br.mk (fun _ => ?_) (fun _ => ?_) <;> try (exfalso; omega)) | (refine Sd.mk ?_ ?_; · ((repeat' apply And.intro) <;> first | omega | trivial | assumption | (simp; done) | (simp; omega))) | (refine Sx.mk ?_ ?_; · omega) | refine Fa.mk (fun _ => ?_) | refine Im.mk (fun _ => ?_) | apply Lw.go | refine g_cond ?_ | refine g_guard ?_ | refine g_keep ?_ | refine g_pass ?_ | refine g_fin ?_ | (apply g_ap; exact rfl; exact rfl; assumption)
      exact fin hR
end
end Go.AMS

namespace Go.AMS
open Go.AM hiding Kt At WP WL Runs RunsY
open Go.AM.G
set_option linter.unusedVariables false
set_option linter.unusedSimpArgs false
set_option linter.unusedSectionVars false
set_option maxRecDepth 100000
set_option maxHeartbeats 1000000
attribute [local irreducible] AtS AtV AtC AtG FinA Spec Post LP G.At G.WP G.WL pt own fro rdl ro hx mp lrec elt sub

open Go.AM.G.Set
section
/-- The first place of the least of so many things. -/
def bestN (v : Nat → Option Int) : Nat → Option Nat
  | 0 => none
  | k + 1 => match v k with
    | none => bestN v k
    | some x => match bestN v k with
      | none => some k
      | some b => if x < (v b).getD 0 then some k else some b
theorem best_skip {v : Nat → Option Int} {k : Nat} (h : v k = none) : bestN v (k + 1) = bestN v k := by
  rw [bestN, h]
theorem best_first {v : Nat → Option Int} {k : Nat} {x : Int} (h : v k = some x) (hb : bestN v k = none) : bestN v (k + 1) = some k := by
  rw [bestN, h, hb]
theorem best_less {v : Nat → Option Int} {k b : Nat} {x y : Int} (h : v k = some x) (hb : bestN v k = some b) (hy : v b = some y) (hl : x < y) : bestN v (k + 1) = some k := by
  rw [bestN, h, hb]; simp only; rw [hy]; exact if_pos hl
theorem best_keep {v : Nat → Option Int} {k b : Nat} {x y : Int} (h : v k = some x) (hb : bestN v k = some b) (hy : v b = some y) (hl : ¬ x < y) : bestN v (k + 1) = some b := by
  rw [bestN, h, hb]; simp only; rw [hy]; exact if_neg hl
theorem best_spec (v : Nat → Option Int) : ∀ n, (bestN v n = none → ∀ j, j < n → v j = none) ∧ ∀ b, bestN v n = some b → b < n ∧ ∃ x, v b = some x ∧ ∀ j y, j < n → v j = some y → x ≤ y
  | 0 => ⟨fun _ j hj => by omega, fun b h => by simp [bestN] at h⟩
  | n + 1 => by
    obtain ⟨h1, h2⟩ := best_spec v n
    cases hv : v n with
    | none =>
      rw [best_skip hv]
      refine ⟨fun h j hj => ?_, fun b h => ?_⟩
      · rcases Nat.lt_or_ge j n with q | q
        · exact h1 h j q
        · rw [show j = n by omega]; exact hv
      · obtain ⟨q1, x, q2, q3⟩ := h2 b h
        refine ⟨by omega, x, q2, fun j y hj hy => ?_⟩
        rcases Nat.lt_or_ge j n with q | q
        · exact q3 j y q hy
        · rw [show j = n by omega, hv] at hy; cases hy
    | some x =>
      cases hb : bestN v n with
      | none =>
        rw [best_first hv hb]
        refine ⟨fun h => (by cases h), fun b h => ?_⟩
        obtain rfl : n = b := by simpa using h
        refine ⟨by omega, x, hv, fun j y hj hy => ?_⟩
        rcases Nat.lt_or_ge j n with q | q
        · rw [h1 hb j q] at hy; cases hy
        · rw [show j = n by omega, hv] at hy; cases hy; omega
      | some b0 =>
        obtain ⟨q1, z, q2, q3⟩ := h2 b0 hb
        by_cases hl : x < z
        · rw [best_less hv hb q2 hl]
          refine ⟨fun h => (by cases h), fun b h => ?_⟩
          obtain rfl : n = b := by simpa using h
          refine ⟨by omega, x, hv, fun j y hj hy => ?_⟩
          rcases Nat.lt_or_ge j n with q | q
          · have := q3 j y q hy; omega
          · rw [show j = n by omega, hv] at hy; cases hy; omega
        · rw [best_keep hv hb q2 hl]
          refine ⟨fun h => (by cases h), fun b h => ?_⟩
          obtain rfl : b0 = b := by simpa using h
          refine ⟨by omega, z, q2, fun j y hj hy => ?_⟩
          rcases Nat.lt_or_ge j n with q | q
          · exact q3 j y q hy
          · rw [show j = n by omega, hv] at hy; cases hy; omega
theorem best_congr {v w : Nat → Option Int} : ∀ {n : Nat}, (∀ j, j < n → v j = w j) → bestN v n = bestN w n
  | 0, _ => rfl
  | n + 1, h => by
    have ih := best_congr (n := n) fun j hj => h j (by omega)
    have h0 := h n (by omega)
    rw [bestN, bestN, ih, h0]
    cases w n with
    | none => rfl
    | some x =>
      cases hb : bestN w n with
      | none => rfl
      | some b =>
        have := ((best_spec w n).2 b hb).1
        simp only [h b (by omega)]

def putS (out : List Int) (x : Int) : List Int := if out.getLast? = some x then out else out ++ [x]
def hd (l : List (List Int)) (k : Nat) : Option Int := (l[k]?).bind List.head?
def cnt (l : List (List Int)) : Nat := (l.map List.length).sum
def mrow : Nat → List (List Int) → List Int → List Int
  | 0, _, out => out
  | f + 1, l, out => match bestN (hd l) l.length with
    | none => out
    | some k => mrow f (l.set k (l.getD k []).tail) (putS out ((hd l k).getD 0))
/-- What rows make together, behind what was made. -/
def rowsL (l : List (List Int)) (out : List Int) : List Int := mrow (cnt l) l out
theorem sum_set {α : Type} (f : α → Nat) : ∀ {l : List α} {k : Nat} (hk : k < l.length) (a : α), ((l.set k a).map f).sum + f l[k] = (l.map f).sum + f a
  | b :: l, 0, _, a => by simp; omega
  | b :: l, k + 1, hk, a => by
    have := sum_set f (l := l) (k := k) (by simpa using hk) a
    simp only [List.set_cons_succ, List.map_cons, List.sum_cons, List.getElem_cons_succ]
    omega
theorem cnt_tail {l : List (List Int)} {k : Nat} {x : Int} (h : hd l k = some x) : ∃ hk : k < l.length, ∃ r, l[k] = x :: r ∧ cnt (l.set k r) + 1 = cnt l ∧ l.getD k [] = x :: r := by
  unfold hd at h
  rcases Nat.lt_or_ge k l.length with hk | hk
  · rw [List.getElem?_eq_getElem hk] at h
    have h' : l[k].head? = some x := h
    cases hl : l[k] with
    | nil => rw [hl] at h'; cases h'
    | cons y r =>
      rw [hl] at h'
      cases h'
      refine ⟨hk, r, hl, ?_, by rw [getD_lt hk, hl]⟩
      have := sum_set List.length hk r
      unfold cnt
      rw [hl] at this
      simp only [List.length_cons] at this
      omega
  · rw [List.getElem?_eq_none hk] at h; cases h
theorem rows_put {l : List (List Int)} {out : List Int} {k : Nat} {x : Int} {r : List Int} (h : bestN (hd l) l.length = some k) (hk : k < l.length) (hx : l[k] = x :: r) : rowsL l out = rowsL (l.set k r) (putS out x) ∧ cnt (l.set k r) + 1 = cnt l := by
  have h0 : hd l k = some x := by unfold hd; rw [List.getElem?_eq_getElem hk, hx]; rfl
  obtain ⟨_, r', h1, h2, h3⟩ := cnt_tail h0
  rw [hx] at h1; cases h1
  refine ⟨?_, h2⟩
  unfold rowsL
  rw [← h2, mrow, h]
  simp only
  rw [h3, h0]; rfl
structure Ce where
  row : List Int
  sent : Nat
  q : List Int
  recv : Nat
  exited : Bool
  head : Int
  has : Bool
def Ce.sn (R : Nat) (c : Ce) : Sn := ⟨c.row, c.sent, ⟨R, c.q, c.exited, c.sent, c.recv⟩, c.exited⟩
structure Ms where
  c : List Ce
  out : List Int
  exited : Bool
def Ms.mg (R : Nat) (M : Ms) : Mg := ⟨M.c.map (Ce.sn R), M.c.map Ce.head, M.c.map Ce.has, M.out, M.exited⟩
def Ce.can (c : Ce) : Bool := !c.has && decide (0 < c.q.length)
def Ce.fll (c : Ce) : Bool := c.has || (c.exited && decide (c.q.length = 0))
def Ce.rdy (R : Nat) (c : Ce) : Bool := !c.exited && (decide (c.row.length ≤ c.sent) || decide (c.q.length < R))
def Ce.step (c : Ce) : Ce := if c.row.length ≤ c.sent then { c with exited := true } else { c with sent := c.sent + 1, q := c.q ++ [c.row.getD c.sent 0] }
def Ce.get (c : Ce) : Ce := { c with head := c.q.headD 0, q := c.q.tail, recv := c.recv + 1, has := true }
def Ce.off (c : Ce) : Ce := { c with has := false }
def Ce.rest (c : Ce) : List Int := (bif c.has then [c.head] else []) ++ c.q ++ c.row.drop c.sent
def Ce.w (c : Ce) : Nat := 3 * (c.row.length - c.sent) + 2 * c.q.length + (bif c.has then 1 else 0) + (bif c.exited then 0 else 1)
def Ce.hd (c : Ce) : Option Int := bif c.has then some c.head else none
def Ms.hv (M : Ms) (k : Nat) : Option Int := (M.c[k]?).bind Ce.hd
def Ms.recv (M : Ms) : Option Nat := M.c.findIdx? Ce.can
def Ms.full (M : Ms) : Bool := M.c.all Ce.fll
def Ms.least (M : Ms) : Option Nat := bestN M.hv M.c.length
def Ms.upd (M : Ms) (k : Nat) (f : Ce → Ce) : Ms := match M.c[k]? with
  | some c => { M with c := M.c.set k (f c) }
  | none => M
def Ms.put (M : Ms) : Ms := match M.least with
  | none => { M with exited := true }
  | some k => { M.upd k Ce.off with out := putS M.out ((M.hv k).getD 0) }
def Ms.step (M : Ms) : Ms := match M.recv with
  | some k => M.upd k Ce.get
  | none => M.put
def Ms.act (M : Ms) (k : Nat) : Ms := if k < M.c.length then M.upd k Ce.step else M.step
def Ms.goes (R : Nat) (M : Ms) : Bool := !M.exited && (M.recv.isSome || M.full)
def Ms.ready (R : Nat) (M : Ms) : List Nat := ((List.range M.c.length).filter fun k => ((M.c[k]?).map (Ce.rdy R)).getD false) ++ (if M.goes R = true then [M.c.length] else [])
def Ms.mu (M : Ms) : Nat := (M.c.map Ce.w).sum + (bif M.exited then 0 else 1)
def Ms.res (M : Ms) : List Int := rowsL (M.c.map Ce.rest) M.out
theorem upd_lt {M : Ms} {k : Nat} {f : Ce → Ce} (hk : k < M.c.length) : M.upd k f = { M with c := M.c.set k (f M.c[k]) } := by
  unfold Ms.upd; rw [List.getElem?_eq_getElem hk]
structure Ce.ok (R : Nat) (c : Ce) : Prop where
  s : c.sent ≤ c.row.length
  q : c.q.length ≤ R
  e : c.exited = true → c.sent = c.row.length
  v : c.recv + c.q.length = c.sent
  p : c.q = (c.row.take c.sent).drop c.recv
  n : c.row.length ≤ 1000
structure Ms.ok (R : Nat) (M : Ms) : Prop where
  r : 0 < R ∧ R ≤ 64
  n : M.c.length ≤ 1000
  c : ∀ c ∈ M.c, c.ok R
  o : M.out.length + M.mu ≤ 1000000
  x : M.exited = true → ∀ c ∈ M.c, c.w = 0
variable {R : Nat} {M : Ms} {k : Nat}
theorem ce_step_ok {c : Ce} (h : c.ok R) (hr : c.rdy R = true) : c.step.ok R ∧ c.step.w + 1 = c.w ∧ c.step.rest = c.rest ∧ c.step.row = c.row := by
  obtain ⟨h1, h2, h3, h4, h5, h6⟩ := h
  unfold Ce.rdy at hr
  simp only [Bool.and_eq_true, Bool.or_eq_true, decide_eq_true_eq, Bool.not_eq_true'] at hr
  obtain ⟨r1, r2⟩ := hr
  unfold Ce.step
  by_cases hq : c.row.length ≤ c.sent
  · rw [if_pos hq]
    refine ⟨⟨h1, h2, fun _ => by dsimp only; omega, h4, h5, h6⟩, ?_, rfl, rfl⟩
    unfold Ce.w; dsimp only; rw [r1]; simp
  · rw [if_neg hq]
    have hlt : c.sent < c.row.length := by omega
    have r2' : c.q.length < R := by omega
    refine ⟨⟨hlt, by simp; omega, fun he => (by dsimp only at he; rw [r1] at he; cases he), by simp; omega, ?_, h6⟩, ?_, ?_, rfl⟩
    · dsimp only
      rw [List.take_succ_eq_append_getElem hlt, List.drop_append_of_le_length (by rw [List.length_take]; omega), ← h5, getD_lt hlt]
    · unfold Ce.w; dsimp only
      rw [List.length_append]; simp only [List.length_singleton]; omega
    · unfold Ce.rest; dsimp only
      rw [List.drop_eq_getElem_cons hlt, getD_lt hlt]; simp
theorem ce_get_ok {c : Ce} (h : c.ok R) (hc : c.can = true) : c.get.ok R ∧ c.get.w + 1 = c.w ∧ c.get.rest = c.rest ∧ c.get.row = c.row := by
  obtain ⟨h1, h2, h3, h4, h5, h6⟩ := h
  unfold Ce.can at hc
  simp only [Bool.and_eq_true, decide_eq_true_eq, Bool.not_eq_true'] at hc
  obtain ⟨r1, r2⟩ := hc
  obtain ⟨row, sent, q, recv, exited, head, has⟩ := c
  dsimp only at *
  subst r1
  cases q with
  | nil => simp at r2
  | cons x q =>
    simp only [List.length_cons] at *
    refine ⟨⟨h1, by show q.length ≤ R; omega, h3, by show recv + 1 + q.length = sent; omega, ?_, h6⟩, ?_, ?_, rfl⟩
    · show q = (row.take sent).drop (recv + 1)
      rw [← List.tail_drop, ← h5]; rfl
    · show 3 * (row.length - sent) + 2 * q.length + 1 + (bif exited then 0 else 1) + 1 = 3 * (row.length - sent) + 2 * (q.length + 1) + 0 + (bif exited then 0 else 1)
      omega
    · rfl
theorem ce_off_ok {c : Ce} (h : c.ok R) (hc : c.has = true) : c.off.ok R ∧ c.off.w + 1 = c.w ∧ c.rest = c.head :: c.off.rest ∧ c.off.row = c.row := by
  obtain ⟨h1, h2, h3, h4, h5, h6⟩ := h
  refine ⟨⟨h1, h2, h3, h4, h5, h6⟩, ?_, ?_, rfl⟩
  · unfold Ce.w Ce.off; dsimp only; rw [hc]; simp; omega
  · unfold Ce.rest Ce.off; dsimp only; rw [hc]; rfl
theorem set_map_same {α β : Type} {f : α → β} {l : List α} {k : Nat} {a : α} (hk : k < l.length) (h : f a = f l[k]) : (l.set k a).map f = l.map f := by
  rw [List.map_set, h, ← List.getElem_map f (h := by simpa using hk)]
  exact List.set_getElem_self _
theorem mem_set_ok {P : Ce → Prop} {l : List Ce} {a : Ce} (h : ∀ c ∈ l, P c) (ha : P a) : ∀ c ∈ l.set k a, P c := fun c hc => by
  rcases List.mem_or_eq_of_mem_set hc with q | q
  · exact h c q
  · rw [q]; exact ha
/-- A cell's step, that keeps what is to come. -/
theorem upd_ok {f : Ce → Ce} (ok : M.ok R) (hx : M.exited = false) (hk : k < M.c.length) (h : (f M.c[k]).ok R ∧ (f M.c[k]).w + 1 = M.c[k].w ∧ (f M.c[k]).rest = M.c[k].rest ∧ (f M.c[k]).row = M.c[k].row) :
    (M.upd k f).ok R ∧ (M.upd k f).mu + 1 = M.mu ∧ (M.upd k f).res = M.res ∧ (M.upd k f).c.map Ce.row = M.c.map Ce.row := by
  obtain ⟨h1, h2, h3, h4⟩ := h
  rw [upd_lt hk]
  have hs := sum_set Ce.w hk (f M.c[k])
  have hmu : ({ M with c := M.c.set k (f M.c[k]) } : Ms).mu + 1 = M.mu := by
    unfold Ms.mu; dsimp only; omega
  refine ⟨⟨ok.r, by simpa using ok.n, mem_set_ok ok.c h1, by have := ok.o; dsimp only; omega, fun he => (by dsimp only at he; rw [hx] at he; cases he)⟩, hmu, ?_, set_map_same hk h4⟩
  unfold Ms.res; dsimp only
  rw [set_map_same hk h3]
theorem mem_ready {k : Nat} : k ∈ M.ready R ↔ (∃ h : k < M.c.length, M.c[k].rdy R = true) ∨ (k = M.c.length ∧ M.goes R = true) := by
  unfold Ms.ready
  rw [List.mem_append, List.mem_filter, List.mem_range]
  constructor
  · rintro (⟨h1, h2⟩ | h)
    · refine .inl ⟨h1, ?_⟩
      rw [List.getElem?_eq_getElem h1] at h2; exact h2
    · split at h
      · rename_i hg
        exact .inr ⟨by simpa using h, hg⟩
      · cases h
  · rintro (⟨h1, h2⟩ | ⟨h1, h2⟩)
    · refine .inl ⟨h1, ?_⟩
      rw [List.getElem?_eq_getElem h1]; exact h2
    · refine .inr ?_
      rw [if_pos h2]; simp [h1]
theorem recv_lt (h : M.recv = some k) : ∃ hk : k < M.c.length, M.c[k].can = true := by
  obtain ⟨h1, h2, _⟩ := List.findIdx?_eq_some_iff_getElem.1 h
  exact ⟨h1, h2⟩
theorem recv_no (h : M.recv = none) : ∀ c ∈ M.c, c.can = false := List.findIdx?_eq_none_iff.1 h
/-- Somebody goes on. -/
theorem ready_some (ok : M.ok R) (hx : M.exited = false) : M.ready R ≠ [] := by
  intro he
  have hno : ∀ k, k ∉ M.ready R := fun k h => by rw [he] at h; cases h
  have hg : M.goes R = false := by
    cases hg : M.goes R with
    | false => rfl
    | true => exact absurd (mem_ready.2 (.inr ⟨rfl, hg⟩)) (hno M.c.length)
  unfold Ms.goes at hg
  rw [hx] at hg
  simp only [Bool.not_false, Bool.true_and, Bool.or_eq_false_iff] at hg
  obtain ⟨g1, g2⟩ := hg
  have g1' : M.recv = none := by simpa using g1
  have hc := recv_no g1'
  unfold Ms.full at g2
  obtain ⟨c, hm, hf⟩ := List.all_eq_false.1 g2
  obtain ⟨j, hj, rfl⟩ := List.mem_iff_getElem.1 hm
  have h1 := hc _ hm
  have h2 : ¬ M.c[j].rdy R = true := fun h => hno j (mem_ready.2 (.inl ⟨hj, h⟩))
  have hr := ok.r.1
  unfold Ce.can at h1
  unfold Ce.rdy at h2
  unfold Ce.fll at hf
  rcases Nat.eq_zero_or_pos M.c[j].q.length with hq | hq <;> cases hh : M.c[j].has <;> cases hx : M.c[j].exited <;> simp [hh, hx, hq] at h1 h2 hf <;> omega
theorem hv_lt (hk : k < M.c.length) : M.hv k = M.c[k].hd := by
  unfold Ms.hv; rw [List.getElem?_eq_getElem hk]; rfl
theorem hd_map (hk : k < M.c.length) : AMS.hd (M.c.map Ce.rest) k = M.c[k].rest.head? := by
  unfold AMS.hd; rw [List.getElem?_map, List.getElem?_eq_getElem hk]; rfl
/-- All heads are there: the least of them is the least of all that is to come. -/
theorem full_least (hr : M.recv = none) (hf : M.full = true) (ok : M.ok R) : bestN (AMS.hd (M.c.map Ce.rest)) (M.c.map Ce.rest).length = M.least := by
  rw [List.length_map]
  refine best_congr fun j hj => ?_
  rw [hd_map hj, hv_lt hj]
  have hm : M.c[j] ∈ M.c := List.getElem_mem _
  have h1 := recv_no hr _ hm
  unfold Ms.full at hf
  have h2 := List.all_eq_true.1 hf _ hm
  have h3 := (ok.c _ hm).e
  unfold Ce.can at h1
  unfold Ce.fll at h2
  unfold Ce.rest Ce.hd
  cases hh : M.c[j].has
  · rw [hh] at h1 h2
    simp only [Bool.false_or, Bool.and_eq_true, decide_eq_true_eq] at h2
    rw [List.eq_nil_of_length_eq_zero h2.2, h3 h2.1]; simp
  · simp
theorem w_zero {c : Ce} (h1 : c.fll = true) (h2 : c.has = false) (ok : c.ok R) : c.w = 0 := by
  unfold Ce.fll at h1
  rw [h2] at h1
  simp only [Bool.false_or, Bool.and_eq_true, decide_eq_true_eq] at h1
  unfold Ce.w
  rw [ok.e h1.1, h1.2, h1.1, h2]; simp
theorem put_len (out : List Int) (x : Int) : (putS out x).length ≤ out.length + 1 := by
  unfold putS; split <;> simp
/-- A step of one who goes on: one less is to be done, and what comes out is the same. -/
theorem act_ok (ok : M.ok R) (hx : M.exited = false) (hk : k ∈ M.ready R) : (M.act k).ok R ∧ (M.act k).mu + 1 = M.mu ∧ (M.act k).res = M.res ∧ (M.act k).c.map Ce.row = M.c.map Ce.row := by
  rcases mem_ready.1 hk with ⟨h1, h2⟩ | ⟨h1, h2⟩
  · unfold Ms.act
    rw [if_pos h1]
    exact upd_ok ok hx h1 (ce_step_ok (ok.c _ (List.getElem_mem _)) h2)
  · subst h1
    unfold Ms.act
    rw [if_neg (by omega)]
    unfold Ms.step
    cases hr : M.recv with
    | some j =>
      obtain ⟨hj, hc⟩ := recv_lt hr
      exact upd_ok ok hx hj (ce_get_ok (ok.c _ (List.getElem_mem _)) hc)
    | none =>
      unfold Ms.goes at h2
      rw [hx, hr] at h2
      simp only [Bool.not_false, Bool.true_and, Option.isSome_none, Bool.false_or] at h2
      have hfl := full_least hr h2 ok
      unfold Ms.put
      simp only
      cases hl : M.least with
      | none =>
        simp only
        have hz : ∀ c ∈ M.c, c.w = 0 := fun c hc => by
          obtain ⟨j, hj, rfl⟩ := List.mem_iff_getElem.1 hc
          have h3 := (best_spec M.hv M.c.length).1 hl j hj
          rw [hv_lt hj] at h3
          refine w_zero (List.all_eq_true.1 h2 _ hc) ?_ (ok.c _ hc)
          unfold Ce.hd at h3
          cases hh : M.c[j].has with
          | false => rfl
          | true => rw [hh] at h3; cases h3
        have hs : (M.c.map Ce.w).sum = 0 := List.sum_eq_zero_iff_forall_eq_nat.2 fun n hn => by
          obtain ⟨c, hc, rfl⟩ := List.mem_map.1 hn
          exact hz c hc
        have hmu : ({ M with exited := true } : Ms).mu + 1 = M.mu := by
          unfold Ms.mu; dsimp only; rw [hx]; rfl
        exact ⟨⟨ok.r, ok.n, ok.c, by have := ok.o; dsimp only; omega, fun _ => hz⟩, hmu, by trivial, by trivial⟩
      | some j =>
        simp only
        obtain ⟨hj, x, h3, h4⟩ := (best_spec M.hv M.c.length).2 j hl
        have h5 := h3
        rw [hv_lt hj] at h5
        have hh : M.c[j].has = true ∧ M.c[j].head = x := by
          unfold Ce.hd at h5
          cases hh : M.c[j].has with
          | false => rw [hh] at h5; cases h5
          | true => rw [hh] at h5; exact ⟨rfl, by simpa using h5⟩
        obtain ⟨o1, o2, o3, o4⟩ := ce_off_ok (ok.c _ (List.getElem_mem hj)) hh.1
        rw [upd_lt hj]
        have hs := sum_set Ce.w hj M.c[j].off
        have hpl := put_len M.out x
        rw [h3]
        have hmu : ({ M with c := M.c.set j M.c[j].off, out := putS M.out ((some x).getD 0) } : Ms).mu + 1 = M.mu := by
          unfold Ms.mu; dsimp only; omega
        refine ⟨⟨ok.r, by simpa using ok.n, mem_set_ok ok.c o1, by have := ok.o; simp only [Option.getD_some] at *; omega, fun he => (by dsimp only at he; rw [hx] at he; cases he)⟩, hmu, ?_, set_map_same hj o4⟩
        unfold Ms.res; dsimp only
        rw [hl] at hfl
        have hjm : j < (M.c.map Ce.rest).length := by simpa using hj
        have := rows_put (out := M.out) hfl hjm (x := x) (r := M.c[j].off.rest) (by rw [List.getElem_map, o3, hh.2])
        rw [this.1, List.map_set]; rfl
/-- The whole run. -/
def runM (R : Nat) : Nat → Ms → Scr → Ms × Scr × Int
  | 0, M, s => (M, s, 0)
  | f + 1, M, s => if M.exited = true then (M, s, 0) else
    if s.off then (M, s, 8) else runM R f (M.act (stepS s ((M.ready R).map Int.ofNat)).2.1.toNat) s.one.took
theorem runM_done {f : Nat} {s : Scr} (h : M.exited = true) : runM R f M s = (M, s, 0) := by
  cases f with
  | zero => rfl
  | succ f => rw [runM, if_pos h]
theorem runM_off {f : Nat} {s : Scr} (h : M.exited = false) (ho : s.off) : runM R (f + 1) M s = (M, s, 8) := by
  rw [runM, if_neg (by rw [h]; simp), if_pos ho]
theorem runM_on {f : Nat} {s : Scr} (ok : M.ok R) (h : M.exited = false) (ho : ¬ s.off) : ∃ k, k ∈ M.ready R ∧ stepS s ((M.ready R).map Int.ofNat) = (s.one.took, (k : Int), 0) ∧ runM R (f + 1) M s = runM R f (M.act k) s.one.took := by
  obtain ⟨h1, h2⟩ := stepS_on ho (map_ne (ready_some ok h))
  obtain ⟨k, h3, h4⟩ := List.mem_map.1 h2
  refine ⟨k, h3, by rw [h1, ← h4]; rfl, ?_⟩
  rw [runM, if_neg (by rw [h]; simp), if_neg ho, h1, ← h4]; rfl
theorem mu_pos (h : M.exited = false) : 0 < M.mu := by unfold Ms.mu; rw [h]; simp
end
end Go.AMS

namespace Go.AMS
open Go.AM hiding Kt At WP WL Runs RunsY
open Go.AM.G
set_option linter.unusedVariables false
set_option linter.unusedSimpArgs false
set_option linter.unusedSectionVars false
set_option maxRecDepth 100000
set_option maxHeartbeats 1000000
attribute [local irreducible] AtS AtV AtC AtG FinA Spec Post LP G.At G.WP G.WL pt own fro rdl ro hx mp lrec elt sub

open Go.AM.G.Set
section
abbrev ordV (n : Nat) : Value := .func (.func n) #[] #[]
def bI : Option Nat → Int
  | some k => k
  | none => -1
theorem bI_some (k : Nat) : bI (some k) = k := rfl
theorem bI_none : bI none = -1 := rfl
variable {b : Nat} {R : Nat} {M : Ms}
theorem l11_order_spec {x y : Int} : Spec prog1 n_l11_order [.int .i64 x, .int .i64 y] [] (fun R => (x < y → R (.int .i64 (-1)) []) ∧ (x = y → R (.int .i64 0) []) ∧ (y < x → R (.int .i64 1) [])) := by
  refine spec_code c_l11_order rfl ?_; intro n F R hR; unfold F_l11_order
  repeat' first | apply step | (apply g_op; · repeat first | exact Evs.nil | (apply Evs.cons; exact rfl)) | (refine Br.mk (fun _ => ?_) (fun _ => ?_) <;> try (exfalso; omega)) | (refine Sd.mk ?_ ?_; · ((repeat' apply And.intro) <;> first | omega | trivial | assumption | (simp; done) | (simp; omega))) | (refine Sx.mk ?_ ?_; · omega) | refine Fa.mk (fun _ => ?_) | refine Im.mk (fun _ => ?_) | apply Lw.go | refine g_cond ?_ | refine g_guard ?_ | refine g_keep ?_ | refine g_pass ?_ | refine g_fin ?_ | (apply g_ap; exact rfl; exact rfl; assumption)
  · exact fin (hR.1 (by omega))
  · exact fin (hR.2.2 (by omega))
  · exact fin (hR.2.1 (by omega))
theorem mg_can {j : Nat} (hj : j < M.c.length) : (M.mg R).can j = M.c[j].can := by
  unfold Mg.can Ms.mg Ce.can; dsimp only
  rw [getD_lt (by simpa using hj), List.getElem?_map, List.getElem?_eq_getElem hj, List.getElem_map]; rfl
theorem mg_len : (M.mg R).l.length = M.c.length := by simp [Ms.mg]
theorem mg_recv : (M.mg R).recv = bI M.recv := by
  cases h : M.recv with
  | none =>
    refine recv_none fun j hj => ?_
    rw [mg_len] at hj
    rw [mg_can hj]; exact recv_no h _ (List.getElem_mem hj)
  | some k =>
    obtain ⟨h1, h2, h3⟩ := List.findIdx?_eq_some_iff_getElem.1 h
    refine recv_some (k := k) (by rw [mg_len]; exact h1) (by rw [mg_can h1]; exact h2) fun j hj => ?_
    rw [mg_can (by omega)]
    have := h3 j hj
    simpa using this
theorem mg_wants {j : Nat} (hj : j < M.c.length) : (M.mg R).wants j = !M.c[j].fll := by
  unfold Mg.wants Ms.mg Ce.fll; dsimp only
  rw [getD_lt (by simpa using hj), List.getElem?_map, List.getElem?_eq_getElem hj, List.getElem_map, Bool.not_or]; rfl
theorem mg_full : (M.mg R).full = M.full := by
  cases h : M.full with
  | true =>
    refine full_yes fun j hj => ?_
    rw [mg_len] at hj
    rw [mg_wants hj, List.all_eq_true.1 h _ (List.getElem_mem hj)]; rfl
  | false =>
    obtain ⟨c, hm, hf⟩ := List.all_eq_false.1 h
    obtain ⟨j, hj, rfl⟩ := List.mem_iff_getElem.1 hm
    refine full_no (k := j) (by rw [mg_len]; exact hj) ?_
    rw [mg_wants hj]; simpa using hf
theorem mg_ready : (M.mg R).readyL = (M.ready R).map Int.ofNat := by
  unfold Mg.readyL Ms.ready
  rw [List.map_append]
  congr 1
  · unfold Mg.goes
    rw [mg_len]
    congr 1
    refine List.filter_congr fun k _ => ?_
    show (((M.c.map (Ce.sn R))[k]?).map Sn.rdy).getD false = _
    rw [List.getElem?_map, Option.map_map]; rfl
  · have e : (!(M.mg R).exited && (decide (0 ≤ (M.mg R).recv) || (M.mg R).full)) = M.goes R := by
      unfold Ms.goes
      rw [mg_recv, mg_full]
      show (!M.exited && _) = _
      cases M.recv with
      | none => rfl
      | some k => rw [bI_some, decide_eq_true (by omega)]; rfl
    rw [e, mg_len]
    split <;> rfl
def Mg.hv (M : Mg) (k : Nat) : Option Int := bif M.has.getD k false then some (M.heads.getD k 0) else none
def Mg.least (M : Mg) : Option Nat := bestN M.hv M.l.length
theorem mg_hv {j : Nat} (hj : j < M.c.length) : (M.mg R).hv j = M.hv j := by
  rw [hv_lt hj]
  unfold Mg.hv Ms.mg Ce.hd; dsimp only
  rw [getD_lt (by simpa using hj), getD_lt (by simpa using hj), List.getElem_map, List.getElem_map]
theorem mg_least : (M.mg R).least = M.least := by
  unfold Mg.least Ms.least
  rw [mg_len]
  exact best_congr fun j hj => mg_hv hj
theorem mg_ok (ok : M.ok R) : (M.mg R).ok := ⟨by simp [Ms.mg], by simp [Ms.mg], by rw [mg_len]; exact ok.n, by have := ok.o; show M.out.length ≤ _; omega⟩

theorem merge_merger_int_least_spec {M : Mg} : Spec prog1 n_merge_merger_int_least [.pointer (some ⟨b, 0, none⟩)] [ro (mrg b (ordV n_l11_order) M)] (fun R => R (.int .i64 (bI M.least)) []) := by
  refine spec_code c_merge_merger_int_least rfl ?_; intro n F R hR; unfold F_merge_merger_int_least
  refine at_openRP (mrg b (ordV n_l11_order) M) rfl ?_
  rintro ⟨⟨⟨lp, lc⟩, bs⟩, ⟨hp, hc⟩, ⟨sp, sc⟩, ⟨op, oc⟩⟩ ⟨⟨o1, o2, o3, o4⟩, hl⟩
  dsimp only at hl ⊢
  repeat' first | apply step | (apply g_op; · repeat first | exact Evs.nil | (apply Evs.cons; exact rfl)) | (refine Br.mk (fun _ => ?_) (fun _ => ?_) <;> try (exfalso; omega)) | (refine Sd.mk ?_ ?_; · ((repeat' apply And.intro) <;> first | omega | trivial | assumption | (simp; done) | (simp; omega))) | (refine Sx.mk ?_ ?_; · omega) | refine Fa.mk (fun _ => ?_) | refine Im.mk (fun _ => ?_) | apply Lw.go | refine g_cond ?_ | refine g_guard ?_ | refine g_keep ?_ | refine g_pass ?_ | refine g_fin ?_ | (apply g_ap; exact rfl; exact rfl; assumption)
  refine at_loopS (ι := Nat) (E := fun k => [(0, .pointer (some ⟨b, 0, none⟩)), (3, .int .i64 (bI (bestN M.hv k))), (9, .int .i64 (bs.length : Int)), (10, .int .i64 (k : Int))]) (Δ := fun k => ro (pt b [.slice lp bs.length lc, (ordV n_l11_order), .slice hp M.heads.length hc, .slice sp M.has.length sc, .slice op M.out.length oc, .bool M.exited] 0) :: rdl kPtr lp bs :: ro (each snd bs M.l) :: rdl (kInt .i64) hp M.heads :: rdl kBool sp M.has :: F) (P := fun k => k ≤ M.l.length) (μ := fun k => M.l.length - k) 0 (Nat.zero_le _) ?_
  rintro k hk
  try dsimp only
  rcases Nat.lt_or_ge k M.l.length with hk' | hk'
  · have hks : k < M.has.length := by omega
    have hkh : k < M.heads.length := by omega
    have hv : M.hv k = bif M.has[k] then some M.heads[k] else none := by
      unfold Mg.hv; rw [getD_lt hks, getD_lt hkh]
    cases hb : M.has[k]
    · rw [hb] at hv
      have e1 := best_skip hv
      repeat' first | rw [hb] | apply step | (apply g_op; · repeat first | exact Evs.nil | (apply Evs.cons; exact rfl)) | (refine Br.mk (fun _ => ?_) (fun _ => ?_) <;> try (exfalso; omega)) | (refine Sd.mk ?_ ?_; · ((repeat' apply And.intro) <;> first | omega | trivial | assumption | (simp; done) | (simp; omega))) | (refine Sx.mk ?_ ?_; · omega) | refine Fa.mk (fun _ => ?_) | refine Im.mk (fun _ => ?_) | apply Lw.go | refine g_cond ?_ | refine g_guard ?_ | refine g_keep ?_ | refine g_pass ?_ | refine g_fin ?_ | (apply g_ap; exact rfl; exact rfl; assumption)
      exact lp_next (k + 1) (by omega) (by omega) (by rw [e1])
    · rw [hb] at hv
      cases hbn : bestN M.hv k with
      | none =>
        have e1 := best_first hv hbn
        rw [bI_none]
        repeat' first | rw [hb] | apply step | (apply g_op; · repeat first | exact Evs.nil | (apply Evs.cons; exact rfl)) | (refine Br.mk (fun _ => ?_) (fun _ => ?_) <;> try (exfalso; omega)) | (refine Sd.mk ?_ ?_; · ((repeat' apply And.intro) <;> first | omega | trivial | assumption | (simp; done) | (simp; omega))) | (refine Sx.mk ?_ ?_; · omega) | refine Fa.mk (fun _ => ?_) | refine Im.mk (fun _ => ?_) | apply Lw.go | refine g_cond ?_ | refine g_guard ?_ | refine g_keep ?_ | refine g_pass ?_ | refine g_fin ?_ | (apply g_ap; exact rfl; exact rfl; assumption)
        exact lp_next (k + 1) (by omega) (by omega) (by rw [e1, bI_some])
      | some q =>
        obtain ⟨hq, y, hy, _⟩ := (best_spec M.hv k).2 q hbn
        have hqs : q < M.has.length := by omega
        have hqh : q < M.heads.length := by omega
        have hy' : y = M.heads[q] := by
          unfold Mg.hv at hy
          rw [getD_lt hqs, getD_lt hqh] at hy
          cases hh : M.has[q] with
          | false => rw [hh] at hy; cases hy
          | true => rw [hh] at hy; simpa using hy.symm
        subst hy'
        rw [bI_some]
        repeat' first | rw [hb] | apply step | (apply g_op; · repeat first | exact Evs.nil | (apply Evs.cons; exact rfl)) | (refine Br.mk (fun _ => ?_) (fun _ => ?_) <;> try (exfalso; omega)) | (refine Sd.mk ?_ ?_; · ((repeat' apply And.intro) <;> first | omega | trivial | assumption | (simp; done) | (simp; omega))) | (refine Sx.mk ?_ ?_; · omega) | refine Fa.mk (fun _ => ?_) | refine Im.mk (fun _ => ?_) | apply Lw.go | refine g_cond ?_ | refine g_guard ?_ | refine g_keep ?_ | refine g_pass ?_ | refine g_fin ?_ | (apply g_ap; exact rfl; exact rfl; assumption)
        first | refine at_callS (l11_order_spec (x := M.heads[k]) (y := M.heads[q])) ?_ | refine at_callR (l11_order_spec (x := M.heads[k]) (y := M.heads[q])) ?_
        refine ⟨fun h => ?_, fun h => ?_, fun h => ?_⟩
        · have e1 := best_less hv hbn hy h
          repeat' first | apply step | (apply g_op; · repeat first | exact Evs.nil | (apply Evs.cons; exact rfl)) | (refine Br.mk (fun _ => ?_) (fun _ => ?_) <;> try (exfalso; omega)) | (refine Sd.mk ?_ ?_; · ((repeat' apply And.intro) <;> first | omega | trivial | assumption | (simp; done) | (simp; omega))) | (refine Sx.mk ?_ ?_; · omega) | refine Fa.mk (fun _ => ?_) | refine Im.mk (fun _ => ?_) | apply Lw.go | refine g_cond ?_ | refine g_guard ?_ | refine g_keep ?_ | refine g_pass ?_ | refine g_fin ?_ | (apply g_ap; exact rfl; exact rfl; assumption)
          exact lp_next (k + 1) (by omega) (by omega) (by rw [e1, bI_some])
        · have e1 := best_keep hv hbn hy (by omega)
          repeat' first | apply step | (apply g_op; · repeat first | exact Evs.nil | (apply Evs.cons; exact rfl)) | (refine Br.mk (fun _ => ?_) (fun _ => ?_) <;> try (exfalso; omega)) | (refine Sd.mk ?_ ?_; · ((repeat' apply And.intro) <;> first | omega | trivial | assumption | (simp; done) | (simp; omega))) | (refine Sx.mk ?_ ?_; · omega) | refine Fa.mk (fun _ => ?_) | refine Im.mk (fun _ => ?_) | apply Lw.go | refine g_cond ?_ | refine g_guard ?_ | refine g_keep ?_ | refine g_pass ?_ | refine g_fin ?_ | (apply g_ap; exact rfl; exact rfl; assumption)
          exact lp_next (k + 1) (by omega) (by omega) (by rw [e1, bI_some])
        · have e1 := best_keep hv hbn hy (by omega)
          repeat' first | apply step | (apply g_op; · repeat first | exact Evs.nil | (apply Evs.cons; exact rfl)) | (refine Br.mk (fun _ => ?_) (fun _ => ?_) <;> try (exfalso; omega)) | (refine Sd.mk ?_ ?_; · ((repeat' apply And.intro) <;> first | omega | trivial | assumption | (simp; done) | (simp; omega))) | (refine Sx.mk ?_ ?_; · omega) | refine Fa.mk (fun _ => ?_) | refine Im.mk (fun _ => ?_) | apply Lw.go | refine g_cond ?_ | refine g_guard ?_ | refine g_keep ?_ | refine g_pass ?_ | refine g_fin ?_ | (apply g_ap; exact rfl; exact rfl; assumption)
          exact lp_next (k + 1) (by omega) (by omega) (by rw [e1, bI_some])
  · have hkk : k = M.l.length := by omega
    subst hkk
    unfold Mg.least at hR
    repeat' first | apply step | (apply g_op; · repeat first | exact Evs.nil | (apply Evs.cons; exact rfl)) | (refine Br.mk (fun _ => ?_) (fun _ => ?_) <;> try (exfalso; omega)) | (refine Sd.mk ?_ ?_; · ((repeat' apply And.intro) <;> first | omega | trivial | assumption | (simp; done) | (simp; omega))) | (refine Sx.mk ?_ ?_; · omega) | refine Fa.mk (fun _ => ?_) | refine Im.mk (fun _ => ?_) | apply Lw.go | refine g_cond ?_ | refine g_guard ?_ | refine g_keep ?_ | refine g_pass ?_ | refine g_fin ?_ | (apply g_ap; exact rfl; exact rfl; assumption)
    exact fin hR
theorem merge_put_int_spec {p : Option Addr} {c : Nat} {l : List Int} {x : Int} (hl : l.length < 1000000) (hx : -9223372036854775808 ≤ x ∧ x ≤ 9223372036854775807) : Spec prog1 n_merge_put_int [.slice p l.length c, .int .i64 x, (ordV n_l11_order)] [own (kInt .i64) p c l] (fun R => ∀ p' c', R (.slice p' (putS l x).length c') [own (kInt .i64) p' c' (putS l x)]) := by
  refine spec_code c_merge_put_int rfl ?_; intro n F R hR; unfold F_merge_put_int
  unfold putS at hR
  rcases Nat.eq_zero_or_pos l.length with h0 | h0
  · obtain rfl := List.eq_nil_of_length_eq_zero h0
    rw [if_neg (by simp)] at hR
    repeat' first | apply step | (apply g_op; · repeat first | exact Evs.nil | (apply Evs.cons; exact rfl)) | (refine Br.mk (fun _ => ?_) (fun _ => ?_) <;> try (exfalso; omega)) | (refine Sd.mk ?_ ?_; · ((repeat' apply And.intro) <;> first | omega | trivial | assumption | (simp; done) | (simp; omega))) | (refine Sx.mk ?_ ?_; · omega) | refine Fa.mk (fun _ => ?_) | refine Im.mk (fun _ => ?_) | apply Lw.go | refine g_cond ?_ | refine g_guard ?_ | refine g_keep ?_ | refine g_pass ?_ | refine g_fin ?_ | (apply g_ap; exact rfl; exact rfl; assumption)
    all_goals first | (exfalso; simp at *; done) | skip
    rename_i p2 c2
    exact fin (hR p2 c2)
  · have hlast : l.getLast? = some l[l.length - 1] := by rw [List.getLast?_eq_getElem?, List.getElem?_eq_getElem (by omega)]
    rw [hlast] at hR
    have e : ((l.length : Int) - 1).toNat = l.length - 1 := by omega
    repeat' first | apply step | (apply g_op; · repeat first | exact Evs.nil | (apply Evs.cons; exact rfl)) | (refine Br.mk (fun _ => ?_) (fun _ => ?_) <;> try (exfalso; omega)) | (refine Sd.mk ?_ ?_; · ((repeat' apply And.intro) <;> first | omega | trivial | assumption | (simp; done) | (simp; omega))) | (refine Sx.mk ?_ ?_; · omega) | refine Fa.mk (fun _ => ?_) | refine Im.mk (fun _ => ?_) | apply Lw.go | refine g_cond ?_ | refine g_guard ?_ | refine g_keep ?_ | refine g_pass ?_ | refine g_fin ?_ | (apply g_ap; exact rfl; exact rfl; assumption)
    simp only [e] at *
    first | refine at_callS (l11_order_spec (x := l[l.length - 1]) (y := x)) ?_ | refine at_callR (l11_order_spec (x := l[l.length - 1]) (y := x)) ?_
    refine ⟨fun h => ?_, fun h => ?_, fun h => ?_⟩
    · rw [if_neg (by intro q; simp at q; omega)] at hR
      repeat' first | apply step | (apply g_op; · repeat first | exact Evs.nil | (apply Evs.cons; exact rfl)) | (refine Br.mk (fun _ => ?_) (fun _ => ?_) <;> try (exfalso; omega)) | (refine Sd.mk ?_ ?_; · ((repeat' apply And.intro) <;> first | omega | trivial | assumption | (simp; done) | (simp; omega))) | (refine Sx.mk ?_ ?_; · omega) | refine Fa.mk (fun _ => ?_) | refine Im.mk (fun _ => ?_) | apply Lw.go | refine g_cond ?_ | refine g_guard ?_ | refine g_keep ?_ | refine g_pass ?_ | refine g_fin ?_ | (apply g_ap; exact rfl; exact rfl; assumption)
      rename_i p2 c2
      exact fin (hR p2 c2)
    · rw [if_pos (by rw [h])] at hR
      repeat' first | apply step | (apply g_op; · repeat first | exact Evs.nil | (apply Evs.cons; exact rfl)) | (refine Br.mk (fun _ => ?_) (fun _ => ?_) <;> try (exfalso; omega)) | (refine Sd.mk ?_ ?_; · ((repeat' apply And.intro) <;> first | omega | trivial | assumption | (simp; done) | (simp; omega))) | (refine Sx.mk ?_ ?_; · omega) | refine Fa.mk (fun _ => ?_) | refine Im.mk (fun _ => ?_) | apply Lw.go | refine g_cond ?_ | refine g_guard ?_ | refine g_keep ?_ | refine g_pass ?_ | refine g_fin ?_ | (apply g_ap; exact rfl; exact rfl; assumption)
      exact fin (hR p c)
    · rw [if_neg (by intro q; simp at q; omega)] at hR
      repeat' first | apply step | (apply g_op; · repeat first | exact Evs.nil | (apply Evs.cons; exact rfl)) | (refine Br.mk (fun _ => ?_) (fun _ => ?_) <;> try (exfalso; omega)) | (refine Sd.mk ?_ ?_; · ((repeat' apply And.intro) <;> first | omega | trivial | assumption | (simp; done) | (simp; omega))) | (refine Sx.mk ?_ ?_; · omega) | refine Fa.mk (fun _ => ?_) | refine Im.mk (fun _ => ?_) | apply Lw.go | refine g_cond ?_ | refine g_guard ?_ | refine g_keep ?_ | refine g_pass ?_ | refine g_fin ?_ | (apply g_ap; exact rfl; exact rfl; assumption)
      rename_i p2 c2
      exact fin (hR p2 c2)
end
end Go.AMS

namespace Go.AMS
open Go.AM hiding Kt At WP WL Runs RunsY
open Go.AM.G
set_option linter.unusedVariables false
set_option linter.unusedSimpArgs false
set_option linter.unusedSectionVars false
set_option maxRecDepth 100000
set_option maxHeartbeats 1000000
attribute [local irreducible] AtS AtV AtC AtG FinA Spec Post LP G.At G.WP G.WL pt own fro rdl ro hx mp lrec elt sub

open Go.AM.G.Set
section
variable {b : Nat} {rm : Nat} {M : Ms}
theorem getElem_sn {k : Nat} (hk : k < M.c.length) : ((M.mg rm).l[k]'(by rw [mg_len]; exact hk)) = M.c[k].sn rm := List.getElem_map ..
theorem mg_get {k : Nat} (hk : k < M.c.length) : (M.upd k Ce.get).mg rm = { (M.mg rm) with l := (M.mg rm).l.set k (M.c[k].get.sn rm), heads := (M.mg rm).heads.set k (M.c[k].q.headD 0), has := (M.mg rm).has.set k true } := by
  rw [upd_lt hk]; unfold Ms.mg; simp only [List.map_set]; rfl
theorem mg_off {k : Nat} (hk : k < M.c.length) (o : List Int) : ({ M.upd k Ce.off with out := o } : Ms).mg rm = { (M.mg rm) with has := (M.mg rm).has.set k false, out := o } := by
  rw [upd_lt hk]
  unfold Ms.mg
  simp only
  congr 1
  · exact set_map_same hk rfl
  · exact set_map_same hk rfl
  · rw [List.map_set]; rfl
theorem mg_step {k : Nat} (hk : k < M.c.length) : (M.upd k Ce.step).mg rm = { (M.mg rm) with l := (M.mg rm).l.set k (M.c[k].step.sn rm) } := by
  rw [upd_lt hk]
  unfold Ms.mg
  simp only
  congr 1
  · rw [List.map_set]
  · exact set_map_same hk (by unfold Ce.step; split <;> rfl)
  · exact set_map_same hk (by unfold Ce.step; split <;> rfl)
theorem Mg_ok_set {M : Mg} (ok : M.ok) {k : Nat} {s : Sn} {x : Int} {h : Bool} : ({ M with l := M.l.set k s, heads := M.heads.set k x, has := M.has.set k h } : Mg).ok := ⟨by simpa using ok.h, by simpa using ok.s, by simpa using ok.n, ok.o⟩
theorem merge_merger_int_step_spec (ok : M.ok rm) (hx : M.exited = false) : Spec prog1 n_merge_merger_int_step [.pointer (some ⟨b, 0, none⟩)] [mrg b (ordV n_l11_order) (M.mg rm)] (fun W => W (.tuple #[]) [mrg b (ordV n_l11_order) (M.step.mg rm)]) := by
  refine spec_code c_merge_merger_int_step rfl ?_; intro n F R hR; unfold F_merge_merger_int_step
  have mok := mg_ok ok
  have hlen : (M.mg rm).l.length = M.c.length := mg_len
  repeat' first | apply step | (apply g_op; · repeat first | exact Evs.nil | (apply Evs.cons; exact rfl)) | (refine Br.mk (fun _ => ?_) (fun _ => ?_) <;> try (exfalso; omega)) | (refine Sd.mk ?_ ?_; · ((repeat' apply And.intro) <;> first | omega | trivial | assumption | (simp; done) | (simp; omega))) | (refine Sx.mk ?_ ?_; · omega) | refine Fa.mk (fun _ => ?_) | refine Im.mk (fun _ => ?_) | apply Lw.go | refine g_cond ?_ | refine g_guard ?_ | refine g_keep ?_ | refine g_pass ?_ | refine g_fin ?_ | (apply g_ap; exact rfl; exact rfl; assumption)
  first | refine at_callS (merge_merger_int_receives_spec (f := (ordV n_l11_order)) (M := M.mg rm)) ?_ | refine at_callR (merge_merger_int_receives_spec (f := (ordV n_l11_order)) (M := M.mg rm)) ?_
  rw [mg_recv]
  unfold Ms.step at hR
  cases hr : M.recv with
  | some k =>
    obtain ⟨hk, hcan⟩ := recv_lt hr
    rw [hr] at hR
    dsimp only at hR
    rw [bI_some]
    have cok := ok.c _ (List.getElem_mem hk)
    obtain ⟨q1, q2⟩ : M.c[k].has = false ∧ 0 < M.c[k].q.length := by
      unfold Ce.can at hcan; simpa using hcan
    have hc1 := cok.v; have hc2 := cok.s; have hc3 := cok.n
    obtain ⟨v, r, hvr⟩ : ∃ v r, M.c[k].q = v :: r := by
      cases h : M.c[k].q with
      | nil => rw [h] at q2; simp at q2
      | cons v r => exact ⟨v, r, rfl⟩
    repeat' first | apply step | (apply g_op; · repeat first | exact Evs.nil | (apply Evs.cons; exact rfl)) | (refine Br.mk (fun _ => ?_) (fun _ => ?_) <;> try (exfalso; omega)) | (refine Sd.mk ?_ ?_; · ((repeat' apply And.intro) <;> first | omega | trivial | assumption | (simp; done) | (simp; omega))) | (refine Sx.mk ?_ ?_; · omega) | refine Fa.mk (fun _ => ?_) | refine Im.mk (fun _ => ?_) | apply Lw.go | refine g_cond ?_ | refine g_guard ?_ | refine g_keep ?_ | refine g_pass ?_ | refine g_fin ?_ | (apply g_ap; exact rfl; exact rfl; assumption)
    first | refine at_openP (mrg b (ordV n_l11_order) (M.mg rm)) rfl ?_ | refine av_openP (mrg b (ordV n_l11_order) (M.mg rm)) rfl ?_
    rintro ⟨⟨⟨lp, lc⟩, bs⟩, ⟨hp, hc⟩, ⟨sp, sc⟩, ⟨op, oc⟩⟩ ⟨⟨o1, o2, o3, o4⟩, hl⟩
    dsimp only at hl ⊢
    repeat' first | apply step | (apply g_op; · repeat first | exact Evs.nil | (apply Evs.cons; exact rfl)) | (refine Br.mk (fun _ => ?_) (fun _ => ?_) <;> try (exfalso; omega)) | (refine Sd.mk ?_ ?_; · ((repeat' apply And.intro) <;> first | omega | trivial | assumption | (simp; done) | (simp; omega))) | (refine Sx.mk ?_ ?_; · omega) | refine Fa.mk (fun _ => ?_) | refine Im.mk (fun _ => ?_) | apply Lw.go | refine g_cond ?_ | refine g_guard ?_ | refine g_keep ?_ | refine g_pass ?_ | refine g_fin ?_ | (apply g_ap; exact rfl; exact rfl; assumption)
    refine at_opsKS b 15 (fun sz hsz => ?_)
    repeat' first | apply step | (apply g_op; · repeat first | exact Evs.nil | (apply Evs.cons; exact rfl)) | (refine Br.mk (fun _ => ?_) (fun _ => ?_) <;> try (exfalso; omega)) | (refine Sd.mk ?_ ?_; · ((repeat' apply And.intro) <;> first | omega | trivial | assumption | (simp; done) | (simp; omega))) | (refine Sx.mk ?_ ?_; · omega) | refine Fa.mk (fun _ => ?_) | refine Im.mk (fun _ => ?_) | apply Lw.go | refine g_cond ?_ | refine g_guard ?_ | refine g_keep ?_ | refine g_pass ?_ | refine g_fin ?_ | (apply g_ap; exact rfl; exact rfl; assumption)
    refine av_via (each_get (g := snd) (xs := bs) (ys := (M.mg rm).l) (i := k) (b := M.c[k].sn rm) (by omega) (by omega) (getElem_sn hk)) ?_
    refine av_openP (snd bs[k] (M.c[k].sn rm)) rfl ?_
    rintro ⟨⟨p, c⟩, pb⟩ ⟨h1, h2⟩
    dsimp only at h1 h2 ⊢
    repeat' first | apply step | (apply g_op; · repeat first | exact Evs.nil | (apply Evs.cons; exact rfl)) | (refine Br.mk (fun _ => ?_) (fun _ => ?_) <;> try (exfalso; omega)) | (refine Sd.mk ?_ ?_; · ((repeat' apply And.intro) <;> first | omega | trivial | assumption | (simp; done) | (simp; omega))) | (refine Sx.mk ?_ ?_; · omega) | refine Fa.mk (fun _ => ?_) | refine Im.mk (fun _ => ?_) | apply Lw.go | refine g_cond ?_ | refine g_guard ?_ | refine g_keep ?_ | refine g_pass ?_ | refine g_fin ?_ | (apply g_ap; exact rfl; exact rfl; assumption)
    refine kp1 b ?_ hsz
    repeat' first | apply step | (apply g_op; · repeat first | exact Evs.nil | (apply Evs.cons; exact rfl)) | (refine Br.mk (fun _ => ?_) (fun _ => ?_) <;> try (exfalso; omega)) | (refine Sd.mk ?_ ?_; · ((repeat' apply And.intro) <;> first | omega | trivial | assumption | (simp; done) | (simp; omega))) | (refine Sx.mk ?_ ?_; · omega) | refine Fa.mk (fun _ => ?_) | refine Im.mk (fun _ => ?_) | apply Lw.go | refine g_cond ?_ | refine g_guard ?_ | refine g_keep ?_ | refine g_pass ?_ | refine g_fin ?_ | (apply g_ap; exact rfl; exact rfl; assumption)
    refine av_bnd (p := p) (fun hrb => ?_)
    have hvb := hrb v (by
      have : v ∈ M.c[k].q := by rw [hvr]; simp
      rw [cok.p] at this
      exact List.mem_of_mem_take (List.mem_of_mem_drop this))
    first | refine at_callS (pipe_Pipe_int_Recv_spec (P := (M.c[k].sn rm).pi) (v := v) (r := r) hvr (by show M.c[k].recv < 100000; omega)) ?_ | refine at_callR (pipe_Pipe_int_Recv_spec (P := (M.c[k].sn rm).pi) (v := v) (r := r) hvr (by show M.c[k].recv < 100000; omega)) ?_
    repeat' first | apply step | (apply g_op; · repeat first | exact Evs.nil | (apply Evs.cons; exact rfl)) | (refine Br.mk (fun _ => ?_) (fun _ => ?_) <;> try (exfalso; omega)) | (refine Sd.mk ?_ ?_; · ((repeat' apply And.intro) <;> first | omega | trivial | assumption | (simp; done) | (simp; omega))) | (refine Sx.mk ?_ ?_; · omega) | refine Fa.mk (fun _ => ?_) | refine Im.mk (fun _ => ?_) | apply Lw.go | refine g_cond ?_ | refine g_guard ?_ | refine g_keep ?_ | refine g_pass ?_ | refine g_fin ?_ | (apply g_ap; exact rfl; exact rfl; assumption)
    refine kp2 ?_
    repeat' first | apply step | (apply g_op; · repeat first | exact Evs.nil | (apply Evs.cons; exact rfl)) | (refine Br.mk (fun _ => ?_) (fun _ => ?_) <;> try (exfalso; omega)) | (refine Sd.mk ?_ ?_; · ((repeat' apply And.intro) <;> first | omega | trivial | assumption | (simp; done) | (simp; omega))) | (refine Sx.mk ?_ ?_; · omega) | refine Fa.mk (fun _ => ?_) | refine Im.mk (fun _ => ?_) | apply Lw.go | refine g_cond ?_ | refine g_guard ?_ | refine g_keep ?_ | refine g_pass ?_ | refine g_fin ?_ | (apply g_ap; exact rfl; exact rfl; assumption)
    have eg : M.c[k].get.sn rm = { M.c[k].sn rm with pi := { (M.c[k].sn rm).pi with q := r, recv := (M.c[k].sn rm).pi.recv + 1 } } := by
      unfold Ce.get Ce.sn; dsimp only; rw [hvr]; rfl
    rw [mg_get hk, eg, show M.c[k].q.headD 0 = v by rw [hvr]; rfl] at hR
    refine fin_foldP (snd bs[k] { M.c[k].sn rm with pi := { (M.c[k].sn rm).pi with q := r, recv := (M.c[k].sn rm).pi.recv + 1 } }) rfl ((p, c), pb) ⟨h1, h2⟩ ?_
    refine fin_via2 (each_put (g := snd) (xs := bs) (ys := (M.mg rm).l) (i := k) (by omega) (by omega)) ?_
    rw [show (M.mg rm).heads.length = ((M.mg rm).heads.set k v).length by simp, show (M.mg rm).has.length = ((M.mg rm).has.set k true).length by simp]
    refine fin_foldP (mrg b (ordV n_l11_order) _) rfl (((lp, lc), bs), (hp, hc), (sp, sc), (op, oc)) ⟨Mg_ok_set ⟨o1, o2, o3, o4⟩, by dsimp only; simpa using hl⟩ ?_
    exact fin hR
  | none =>
    rw [hr] at hR
    dsimp only at hR
    rw [bI_none]
    repeat' first | apply step | (apply g_op; · repeat first | exact Evs.nil | (apply Evs.cons; exact rfl)) | (refine Br.mk (fun _ => ?_) (fun _ => ?_) <;> try (exfalso; omega)) | (refine Sd.mk ?_ ?_; · ((repeat' apply And.intro) <;> first | omega | trivial | assumption | (simp; done) | (simp; omega))) | (refine Sx.mk ?_ ?_; · omega) | refine Fa.mk (fun _ => ?_) | refine Im.mk (fun _ => ?_) | apply Lw.go | refine g_cond ?_ | refine g_guard ?_ | refine g_keep ?_ | refine g_pass ?_ | refine g_fin ?_ | (apply g_ap; exact rfl; exact rfl; assumption)
    first | refine at_callS (merge_merger_int_least_spec (M := M.mg rm)) ?_ | refine at_callR (merge_merger_int_least_spec (M := M.mg rm)) ?_
    rw [mg_least]
    unfold Ms.put at hR
    cases hls : M.least with
    | none =>
      rw [hls] at hR
      dsimp only at hR
      rw [bI_none]
      repeat' first | apply step | (apply g_op; · repeat first | exact Evs.nil | (apply Evs.cons; exact rfl)) | (refine Br.mk (fun _ => ?_) (fun _ => ?_) <;> try (exfalso; omega)) | (refine Sd.mk ?_ ?_; · ((repeat' apply And.intro) <;> first | omega | trivial | assumption | (simp; done) | (simp; omega))) | (refine Sx.mk ?_ ?_; · omega) | refine Fa.mk (fun _ => ?_) | refine Im.mk (fun _ => ?_) | apply Lw.go | refine g_cond ?_ | refine g_guard ?_ | refine g_keep ?_ | refine g_pass ?_ | refine g_fin ?_ | (apply g_ap; exact rfl; exact rfl; assumption)
      first | refine at_openP (mrg b (ordV n_l11_order) (M.mg rm)) rfl ?_ | refine av_openP (mrg b (ordV n_l11_order) (M.mg rm)) rfl ?_
      rintro ⟨⟨⟨lp, lc⟩, bs⟩, ⟨hp, hc⟩, ⟨sp, sc⟩, ⟨op, oc⟩⟩ ⟨⟨o1, o2, o3, o4⟩, hl⟩
      dsimp only at hl ⊢
      repeat' first | apply step | (apply g_op; · repeat first | exact Evs.nil | (apply Evs.cons; exact rfl)) | (refine Br.mk (fun _ => ?_) (fun _ => ?_) <;> try (exfalso; omega)) | (refine Sd.mk ?_ ?_; · ((repeat' apply And.intro) <;> first | omega | trivial | assumption | (simp; done) | (simp; omega))) | (refine Sx.mk ?_ ?_; · omega) | refine Fa.mk (fun _ => ?_) | refine Im.mk (fun _ => ?_) | apply Lw.go | refine g_cond ?_ | refine g_guard ?_ | refine g_keep ?_ | refine g_pass ?_ | refine g_fin ?_ | (apply g_ap; exact rfl; exact rfl; assumption)
      refine fin_foldP (mrg b (ordV n_l11_order) (({ M with exited := true } : Ms).mg rm)) rfl (((lp, lc), bs), (hp, hc), (sp, sc), (op, oc)) ⟨⟨o1, o2, o3, o4⟩, hl⟩ ?_
      exact fin hR
    | some j =>
      rw [hls] at hR
      dsimp only at hR
      rw [bI_some]
      obtain ⟨hj, x, hx1, hx2⟩ := (best_spec M.hv M.c.length).2 j hls
      rw [hx1] at hR
      have hxh : M.c[j].has = true ∧ M.c[j].head = x := by
        have h5 := hx1
        rw [hv_lt hj] at h5
        unfold Ce.hd at h5
        cases hh : M.c[j].has with
        | false => rw [hh] at h5; cases h5
        | true => rw [hh] at h5; exact ⟨rfl, by simpa using h5⟩
      repeat' first | apply step | (apply g_op; · repeat first | exact Evs.nil | (apply Evs.cons; exact rfl)) | (refine Br.mk (fun _ => ?_) (fun _ => ?_) <;> try (exfalso; omega)) | (refine Sd.mk ?_ ?_; · ((repeat' apply And.intro) <;> first | omega | trivial | assumption | (simp; done) | (simp; omega))) | (refine Sx.mk ?_ ?_; · omega) | refine Fa.mk (fun _ => ?_) | refine Im.mk (fun _ => ?_) | apply Lw.go | refine g_cond ?_ | refine g_guard ?_ | refine g_keep ?_ | refine g_pass ?_ | refine g_fin ?_ | (apply g_ap; exact rfl; exact rfl; assumption)
      first | refine at_openP (mrg b (ordV n_l11_order) (M.mg rm)) rfl ?_ | refine av_openP (mrg b (ordV n_l11_order) (M.mg rm)) rfl ?_
      rintro ⟨⟨⟨lp, lc⟩, bs⟩, ⟨hp, hc⟩, ⟨sp, sc⟩, ⟨op, oc⟩⟩ ⟨⟨o1, o2, o3, o4⟩, hl⟩
      dsimp only at hl ⊢
      repeat' first | apply step | (apply g_op; · repeat first | exact Evs.nil | (apply Evs.cons; exact rfl)) | (refine Br.mk (fun _ => ?_) (fun _ => ?_) <;> try (exfalso; omega)) | (refine Sd.mk ?_ ?_; · ((repeat' apply And.intro) <;> first | omega | trivial | assumption | (simp; done) | (simp; omega))) | (refine Sx.mk ?_ ?_; · omega) | refine Fa.mk (fun _ => ?_) | refine Im.mk (fun _ => ?_) | apply Lw.go | refine g_cond ?_ | refine g_guard ?_ | refine g_keep ?_ | refine g_pass ?_ | refine g_fin ?_ | (apply g_ap; exact rfl; exact rfl; assumption)
      rename_i hxb
      have hjh : j < (M.mg rm).heads.length := by omega
      have hxe : (M.mg rm).heads[j] = x := by
        rw [← hxh.2]; exact List.getElem_map ..
      have hob : (M.mg rm).out.length < 1000000 := by
        have h1 := ok.o; have h2 := mu_pos hx
        show M.out.length < _; omega
      rw [hxe] at hxb ⊢
      rw [mg_off hj, show (some x).getD 0 = x from rfl, show M.out = (M.mg rm).out from rfl] at hR
      first | refine at_callS (merge_put_int_spec (l := (M.mg rm).out) (x := x) hob hxb) ?_ | refine at_callR (merge_put_int_spec (l := (M.mg rm).out) (x := x) hob hxb) ?_
      intro p' c'
      repeat' first | apply step | (apply g_op; · repeat first | exact Evs.nil | (apply Evs.cons; exact rfl)) | (refine Br.mk (fun _ => ?_) (fun _ => ?_) <;> try (exfalso; omega)) | (refine Sd.mk ?_ ?_; · ((repeat' apply And.intro) <;> first | omega | trivial | assumption | (simp; done) | (simp; omega))) | (refine Sx.mk ?_ ?_; · omega) | refine Fa.mk (fun _ => ?_) | refine Im.mk (fun _ => ?_) | apply Lw.go | refine g_cond ?_ | refine g_guard ?_ | refine g_keep ?_ | refine g_pass ?_ | refine g_fin ?_ | (apply g_ap; exact rfl; exact rfl; assumption)
      rw [show (M.mg rm).has.length = ((M.mg rm).has.set j false).length by simp]
      have hpl := put_len (M.mg rm).out x
      refine fin_foldP (mrg b (ordV n_l11_order) { (M.mg rm) with has := (M.mg rm).has.set j false, out := putS (M.mg rm).out x }) rfl (((lp, lc), bs), (hp, hc), (sp, sc), (p', c')) ⟨⟨o1, by dsimp only; simpa using o2, o3, by dsimp only; omega⟩, hl⟩ ?_
      exact fin hR
/-- A sender's step, or the merger's. -/
theorem merge_Run_int_c1_spec {xs xm : Nat} {st k : Nat} (ok : M.ok rm) (hx : M.exited = false) (hk : k ∈ M.ready rm) (hst : st < 1000000) : Spec prog1 n_merge_Run_int_c1 [.int .i64 (k : Int), .pointer (some ⟨xs, 0, none⟩), .pointer (some ⟨xm, 0, none⟩)] [pt xs [.int .i64 (st : Int)] 0, pt xm [.pointer (some ⟨b, 0, none⟩)] 0, mrg b (ordV n_l11_order) (M.mg rm)] (fun W => W (.tuple #[]) [pt xs [.int .i64 ((st + 1 : Nat) : Int)] 0, pt xm [.pointer (some ⟨b, 0, none⟩)] 0, mrg b (ordV n_l11_order) ((M.act k).mg rm)]) := by
  refine spec_code c_merge_Run_int_c1 rfl ?_; intro n F R hR; unfold F_merge_Run_int_c1
  have hlen : (M.mg rm).l.length = M.c.length := mg_len
  repeat' first | apply step | (apply g_op; · repeat first | exact Evs.nil | (apply Evs.cons; exact rfl)) | (refine Br.mk (fun _ => ?_) (fun _ => ?_) <;> try (exfalso; omega)) | (refine Sd.mk ?_ ?_; · ((repeat' apply And.intro) <;> first | omega | trivial | assumption | (simp; done) | (simp; omega))) | (refine Sx.mk ?_ ?_; · omega) | refine Fa.mk (fun _ => ?_) | refine Im.mk (fun _ => ?_) | apply Lw.go | refine g_cond ?_ | refine g_guard ?_ | refine g_keep ?_ | refine g_pass ?_ | refine g_fin ?_ | (apply g_ap; exact rfl; exact rfl; assumption)
  first | refine at_openP (mrg b (ordV n_l11_order) (M.mg rm)) rfl ?_ | refine av_openP (mrg b (ordV n_l11_order) (M.mg rm)) rfl ?_
  rintro ⟨⟨⟨lp, lc⟩, bs⟩, ⟨hp, hc⟩, ⟨sp, sc⟩, ⟨op, oc⟩⟩ ⟨mo, hl⟩
  dsimp only at hl ⊢
  unfold Ms.act at hR
  rcases mem_ready.1 hk with ⟨h1, h2⟩ | ⟨h1, h2⟩
  · rw [if_pos h1, mg_step h1] at hR
    have cok := ok.c _ (List.getElem_mem h1)
    have hc1 := cok.v; have hc2 := cok.s; have hc3 := cok.n
    obtain ⟨r1, r2⟩ : M.c[k].exited = false ∧ (M.c[k].row.length ≤ M.c[k].sent ∨ M.c[k].q.length < rm) := by
      unfold Ce.rdy at h2; simpa using h2
    repeat' first | apply step | (apply g_op; · repeat first | exact Evs.nil | (apply Evs.cons; exact rfl)) | (refine Br.mk (fun _ => ?_) (fun _ => ?_) <;> try (exfalso; omega)) | (refine Sd.mk ?_ ?_; · ((repeat' apply And.intro) <;> first | omega | trivial | assumption | (simp; done) | (simp; omega))) | (refine Sx.mk ?_ ?_; · omega) | refine Fa.mk (fun _ => ?_) | refine Im.mk (fun _ => ?_) | apply Lw.go | refine g_cond ?_ | refine g_guard ?_ | refine g_keep ?_ | refine g_pass ?_ | refine g_fin ?_ | (apply g_ap; exact rfl; exact rfl; assumption)
    refine av_via (each_get (g := snd) (xs := bs) (ys := (M.mg rm).l) (i := k) (b := M.c[k].sn rm) (by omega) (by omega) (getElem_sn h1)) ?_
    by_cases he : M.c[k].row.length ≤ M.c[k].sent
    · first | refine at_callS (merge_sender_int_step_end (s := M.c[k].sn rm) r1 he) ?_ | refine at_callR (merge_sender_int_step_end (s := M.c[k].sn rm) r1 he) ?_
      repeat' first | apply step | (apply g_op; · repeat first | exact Evs.nil | (apply Evs.cons; exact rfl)) | (refine Br.mk (fun _ => ?_) (fun _ => ?_) <;> try (exfalso; omega)) | (refine Sd.mk ?_ ?_; · ((repeat' apply And.intro) <;> first | omega | trivial | assumption | (simp; done) | (simp; omega))) | (refine Sx.mk ?_ ?_; · omega) | refine Fa.mk (fun _ => ?_) | refine Im.mk (fun _ => ?_) | apply Lw.go | refine g_cond ?_ | refine g_guard ?_ | refine g_keep ?_ | refine g_pass ?_ | refine g_fin ?_ | (apply g_ap; exact rfl; exact rfl; assumption)
      have eg : M.c[k].step.sn rm = { M.c[k].sn rm with exited := true, pi := { (M.c[k].sn rm).pi with closed := true } } := by
        unfold Ce.step Ce.sn; rw [if_pos he]
      rw [eg] at hR
      refine fin_via2 (each_put (g := snd) (xs := bs) (ys := (M.mg rm).l) (i := k) (by omega) (by omega)) ?_
      refine fin_foldP (mrg b (ordV n_l11_order) { (M.mg rm) with l := (M.mg rm).l.set k { M.c[k].sn rm with exited := true, pi := { (M.c[k].sn rm).pi with closed := true } } }) rfl (((lp, lc), bs), (hp, hc), (sp, sc), (op, oc)) ⟨⟨by simpa using mo.h, by simpa using mo.s, by simpa using mo.n, mo.o⟩, by simpa using hl⟩ ?_
      exact fin hR
    · have hq : M.c[k].q.length < rm := by omega
      first | refine at_callS (merge_sender_int_step_send (s := M.c[k].sn rm) r1 (by show M.c[k].sent < M.c[k].row.length; omega) hq (by show M.c[k].sent < 100000; omega)) ?_ | refine at_callR (merge_sender_int_step_send (s := M.c[k].sn rm) r1 (by show M.c[k].sent < M.c[k].row.length; omega) hq (by show M.c[k].sent < 100000; omega)) ?_
      repeat' first | apply step | (apply g_op; · repeat first | exact Evs.nil | (apply Evs.cons; exact rfl)) | (refine Br.mk (fun _ => ?_) (fun _ => ?_) <;> try (exfalso; omega)) | (refine Sd.mk ?_ ?_; · ((repeat' apply And.intro) <;> first | omega | trivial | assumption | (simp; done) | (simp; omega))) | (refine Sx.mk ?_ ?_; · omega) | refine Fa.mk (fun _ => ?_) | refine Im.mk (fun _ => ?_) | apply Lw.go | refine g_cond ?_ | refine g_guard ?_ | refine g_keep ?_ | refine g_pass ?_ | refine g_fin ?_ | (apply g_ap; exact rfl; exact rfl; assumption)
      have eg : M.c[k].step.sn rm = { M.c[k].sn rm with sent := (M.c[k].sn rm).sent + 1, pi := { (M.c[k].sn rm).pi with q := (M.c[k].sn rm).pi.q ++ [(M.c[k].sn rm).row[(M.c[k].sn rm).sent]'(by show M.c[k].sent < M.c[k].row.length; omega)], sent := (M.c[k].sn rm).pi.sent + 1 } } := by
        unfold Ce.step; rw [if_neg he]; unfold Ce.sn; dsimp only; rw [getD_lt (by omega)]
      rw [eg] at hR
      refine fin_via2 (each_put (g := snd) (xs := bs) (ys := (M.mg rm).l) (i := k) (by omega) (by omega)) ?_
      refine fin_foldP (mrg b (ordV n_l11_order) { (M.mg rm) with l := (M.mg rm).l.set k { M.c[k].sn rm with sent := (M.c[k].sn rm).sent + 1, pi := { (M.c[k].sn rm).pi with q := (M.c[k].sn rm).pi.q ++ [(M.c[k].sn rm).row[(M.c[k].sn rm).sent]'(by show M.c[k].sent < M.c[k].row.length; omega)], sent := (M.c[k].sn rm).pi.sent + 1 } } }) rfl (((lp, lc), bs), (hp, hc), (sp, sc), (op, oc)) ⟨⟨by simpa using mo.h, by simpa using mo.s, by simpa using mo.n, mo.o⟩, by simpa using hl⟩ ?_
      exact fin hR
  · rw [if_neg (by omega)] at hR
    repeat' first | apply step | (apply g_op; · repeat first | exact Evs.nil | (apply Evs.cons; exact rfl)) | (refine Br.mk (fun _ => ?_) (fun _ => ?_) <;> try (exfalso; omega)) | (refine Sd.mk ?_ ?_; · ((repeat' apply And.intro) <;> first | omega | trivial | assumption | (simp; done) | (simp; omega))) | (refine Sx.mk ?_ ?_; · omega) | refine Fa.mk (fun _ => ?_) | refine Im.mk (fun _ => ?_) | apply Lw.go | refine g_cond ?_ | refine g_guard ?_ | refine g_keep ?_ | refine g_pass ?_ | refine g_fin ?_ | (apply g_ap; exact rfl; exact rfl; assumption)
    refine av_foldP (mrg b (ordV n_l11_order) (M.mg rm)) rfl (((lp, lc), bs), (hp, hc), (sp, sc), (op, oc)) ⟨mo, hl⟩ ?_
    first | refine at_callS (merge_merger_int_step_spec (b := b) ok hx) ?_ | refine at_callR (merge_merger_int_step_spec (b := b) ok hx) ?_
    repeat' first | apply step | (apply g_op; · repeat first | exact Evs.nil | (apply Evs.cons; exact rfl)) | (refine Br.mk (fun _ => ?_) (fun _ => ?_) <;> try (exfalso; omega)) | (refine Sd.mk ?_ ?_; · ((repeat' apply And.intro) <;> first | omega | trivial | assumption | (simp; done) | (simp; omega))) | (refine Sx.mk ?_ ?_; · omega) | refine Fa.mk (fun _ => ?_) | refine Im.mk (fun _ => ?_) | apply Lw.go | refine g_cond ?_ | refine g_guard ?_ | refine g_keep ?_ | refine g_pass ?_ | refine g_fin ?_ | (apply g_ap; exact rfl; exact rfl; assumption)
    exact fin hR
end
end Go.AMS

