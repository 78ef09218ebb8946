/- What the functions do, part 1. -/
import Derived.Test.YtjnipkbnmbnfpaaCode
import Derived.Test.YtjnipkbnmbnfpaaSetLaw
namespace Go.AMS
open Go.AM hiding Kt At WP WL Runs RunsY
open Go.AM.G
set_option linter.unusedVariables false
set_option linter.unusedSimpArgs false
theorem sortL_len (l : List Int) : (sortL l).length = l.length := by unfold sortL; simp
theorem slices_Sort_int_int_spec {p : Option Addr} {c : Nat} {l : List Int} (hl : l.length ≤ 1000000000) : Spec prog1 n_slices_Sort_int_int [.slice p l.length c] [own (kInt .i64) p c l] (fun R => R (.tuple #[]) [own (kInt .i64) p c (sortL l)]) := by
  intro n F h R hs hw H hH
  obtain ⟨⟨S, ⟨t1, t2, k1, k3, k4, k5⟩, k6⟩, hp, hn⟩ := id hs
  have hsl := sortL_len l
  by_cases h0 : l = []
  · subst h0
    have e : sortL [] = [] := by simp [sortL]
    rw [e] at hw
    exact ⟨1, .tuple #[], H, h, by simp only [callV, c_slices_Sort_int_int]; rfl, rfl, hH, .refl h, rfl, _, hw, hs⟩
  · rcases k1 with ⟨_, _, h1, _⟩ | ⟨b, cs, rfl, h2, h3, h4, rfl⟩
    · exact absurd h1 h0
    have hcs := cells_int_eq h4
    subst hcs
    have hn0 : ¬ l.length = 0 := by simpa using h0
    have hb : n ≤ b := k6 b ((k5 b).2 (.inl rfl))
    obtain ⟨own', e1, e2⟩ := hH.cells h3
    have e3 : H.get b = some (.cells (l.map (.int .i64)) (some 1)) := by
      rcases e2 with rfl | e2
      · exact e1
      · cases e2
    have hsp : splice (l.map (Value.int .i64)) 0 ((sortL l).map (.int .i64)) = (sortL l).map (.int .i64) := by
      unfold splice
      simp only [List.take_zero, List.nil_append, List.length_map, hsl, Nat.zero_add]
      rw [List.drop_eq_nil_of_le (by simp), List.append_nil]
    have hst : St h (h.set b (.cells ((sortL l).map (.int .i64)) (some 1))) := .set _ (by rw [hp]; exact hb) (fun x hx => by rw [h3] at hx; cases hx)
    refine ⟨1, .tuple #[], H.set b (.cells ((sortL l).map (.int .i64)) (some 1)), h.set b (.cells ((sortL l).map (.int .i64)) (some 1)), ?_, rfl, hH.set _ _, hst, rfl, _, hw, ⟨S, ⟨(· = b), t2, .inr ⟨b, _, rfl, h2, by rw [Heap.get_set, if_pos rfl]; rfl, cells_int fun x hx => ?_, rfl⟩, k3.loc hst (fun x hx => by rw [Heap.get_set, if_neg (fun e => k4 x e hx)]), k4, k5⟩, k6⟩, hp, hn⟩
    · simp only [callV, c_slices_Sort_int_int, sortO]
      rw [if_neg hn0]
      simp only [e3]
      rw [if_pos ⟨by have := hH.prot; omega, by simp, by omega⟩]
      rw [List.drop_zero, show l.length = (l.map (Value.int .i64)).length by simp, List.take_length, intsOf_map]
      simp only [hsp]
    · have hx' : x ∈ l := by unfold sortL at hx; rwa [List.mem_mergeSort] at hx
      obtain ⟨c, h⟩ := h4.mem x hx'
      exact h.2

end Go.AMS

namespace Go.AMS
open Go.AM hiding Kt At WP WL Runs RunsY
open Go.AM.G
set_option linter.unusedVariables false
set_option linter.unusedSimpArgs false
set_option linter.unusedSectionVars false
set_option maxRecDepth 100000
set_option maxHeartbeats 1000000
attribute [local irreducible] AtS AtV AtC AtG FinA Spec Post LP G.At G.WP G.WL pt own fro rdl ro hx mp lrec elt sub

open Go.AM.G.Set
section
theorem slices_Clone_int_int_spec {p : Option Addr} {c : Nat} {l : List Int} (hl : l.length ≤ 1000000000) : Spec prog1 n_slices_Clone_int_int [.slice p l.length c] [rdl (kInt .i64) p l] (fun R => ∀ p' c', R (.slice p' l.length c') [own (kInt .i64) p' c' l]) := by
  refine spec_code c_slices_Clone_int_int rfl ?_; intro n F R hR; unfold F_slices_Clone_int_int
  repeat' first | apply step | (apply g_op; · repeat first | exact Evs.nil | (apply Evs.cons; exact rfl)) | (refine Br.mk (fun _ => ?_) (fun _ => ?_) <;> try (exfalso; omega)) | (refine Sd.mk ?_ ?_; · ((repeat' apply And.intro) <;> first | omega | trivial | assumption | (simp; done) | (simp; omega))) | (refine Sx.mk ?_ ?_; · omega) | refine Fa.mk (fun _ => ?_) | refine Im.mk (fun _ => ?_) | apply Lw.go | refine g_cond ?_ | refine g_guard ?_ | refine g_keep ?_ | refine g_pass ?_ | refine g_fin ?_ | (apply g_ap; exact rfl; exact rfl; assumption)
  · subst_vars
    exact fin (hR none 0)
  · exact fin (hR _ _)

theorem take_set_snoc {l : List Int} {i : Nat} {a : Int} (h : i < l.length) : (l.set i a).take (i + 1) = l.take i ++ [a] := by
  rw [List.take_succ_eq_append_getElem (by simp; omega), List.take_set_of_le (Nat.le_refl _)]; simp
theorem slices_Compact_int_int_spec {p : Option Addr} {c : Nat} {l : List Int} (hl : l.length ≤ 1000000000) : Spec prog1 n_slices_Compact_int_int [.slice p l.length c] [own (kInt .i64) p c l] (fun R => ∀ c' (l' : List Int), l'.take (compactL l).length = compactL l → (compactL l).length ≤ l'.length → R (.slice p (compactL l).length c') [own (kInt .i64) p c l']) := by
  refine spec_code c_slices_Compact_int_int rfl ?_; intro n F R hR; unfold F_slices_Compact_int_int
  have same : compactL l = l → R (.slice p l.length c) [own (kInt .i64) p c l] := fun e => by
    have := hR c l (by rw [e, List.take_length]) (by rw [e]; exact Nat.le_refl _)
    rwa [e] at this
  repeat' first | apply step | (apply g_op; · repeat first | exact Evs.nil | (apply Evs.cons; exact rfl)) | (refine Br.mk (fun _ => ?_) (fun _ => ?_) <;> try (exfalso; omega)) | (refine Sd.mk ?_ ?_; · ((repeat' apply And.intro) <;> first | omega | trivial | assumption | (simp; done) | (simp; omega))) | (refine Sx.mk ?_ ?_; · omega) | refine Fa.mk (fun _ => ?_) | refine Im.mk (fun _ => ?_) | apply Lw.go | refine g_cond ?_ | refine g_guard ?_ | refine g_keep ?_ | refine g_pass ?_ | refine g_fin ?_ | (apply g_ap; exact rfl; exact rfl; assumption)
  · exact fin (same (compactL_short (by omega)))
  refine at_loopS (ι := Nat) (E := fun k => [(0, .slice p l.length c), (3, .int .i64 (k : Int))]) (Δ := fun _ => own (kInt .i64) p c l :: F) (P := fun k => 0 < k ∧ k ≤ l.length ∧ ∀ i, 0 < i → (hi : i < l.length) → i < k → l[i] ≠ l[i - 1]) (μ := fun k => l.length - k) 1 ⟨by omega, by omega, fun i h1 h2 h3 => by omega⟩ ?_
  rintro k ⟨hk0, hk, hI⟩
  repeat' first | apply step | (apply g_op; · repeat first | exact Evs.nil | (apply Evs.cons; exact rfl)) | (refine Br.mk (fun _ => ?_) (fun _ => ?_) <;> try (exfalso; omega)) | (refine Sd.mk ?_ ?_; · ((repeat' apply And.intro) <;> first | omega | trivial | assumption | (simp; done) | (simp; omega))) | (refine Sx.mk ?_ ?_; · omega) | refine Fa.mk (fun _ => ?_) | refine Im.mk (fun _ => ?_) | apply Lw.go | refine g_cond ?_ | refine g_guard ?_ | refine g_keep ?_ | refine g_pass ?_ | refine g_fin ?_ | (apply g_ap; exact rfl; exact rfl; assumption)
  · -- two alike
    rename_i hi1 _ hi2 _ hdup
    have hk1 : ((k : Int) - 1).toNat = k - 1 := by omega
    simp only [hk1] at hdup
    have hkl : k < l.length := by omega
    have hstart : compactL (l.take (k + 1)) = l.take k := by
      rw [compactL_take hk0 hkl, if_pos hdup]
      refine compactL_id fun i h1 h2 => ?_
      have h3 : i < k := by simp at h2; omega
      simp only [List.getElem_take]
      exact hI i h1 (by omega) h3
    refine at_loopS (ι := Nat × Nat × List Int) (E := fun w => [(0, .slice p l.length c), (3, .int .i64 (w.2.1 : Int)), (4, .slice (sub p k 1) (l.length - k) (l.length - k)), (5, .int .i64 (w.1 : Int))]) (Δ := fun w => own (kInt .i64) p c w.2.2 :: F)
      (P := fun w => w.2.2.length = l.length ∧ 1 ≤ w.1 ∧ w.1 ≤ l.length - k ∧ w.2.1 ≤ k + w.1 - 1 ∧ w.2.2.take w.2.1 = compactL (l.take (k + w.1)) ∧ w.2.2.drop (k + w.1 - 1) = l.drop (k + w.1 - 1)) (μ := fun w => l.length - w.1) (1, k, l) ⟨rfl, by omega, by omega, by simp, hstart.symm, rfl⟩ ?_
    rintro ⟨j, kk, l2⟩ ⟨hl2, hj1, hj2, hkk, htk, hdr⟩
    simp only at hl2 hj1 hj2 hkk htk hdr
    have hdl : (l2.drop k).length = l.length - k := by simp; omega
    have hsame : ∀ q, k + j - 1 ≤ q → (hq : q < l.length) → l2[q]'(by omega) = l[q] := by
      intro q h1 h3
      have := congrArg (fun z => z[q - (k + j - 1)]?) hdr
      simp only [List.getElem?_drop] at this
      rw [show k + j - 1 + (q - (k + j - 1)) = q by omega, List.getElem?_eq_getElem (by omega), List.getElem?_eq_getElem h3] at this
      exact Option.some.inj this
    have hct : ∀ hq : k + j < l.length, compactL (l.take (k + j + 1)) = if l[k + j] = l[k + j - 1] then compactL (l.take (k + j)) else compactL (l.take (k + j)) ++ [l[k + j]] := fun hq => compactL_take (by omega) hq
    have hj : ((j : Int) - 1).toNat = j - 1 := by omega
    dsimp only
    repeat' first | apply step | (apply g_op; · repeat first | exact Evs.nil | (apply Evs.cons; exact rfl)) | (refine Br.mk (fun _ => ?_) (fun _ => ?_) <;> try (exfalso; omega)) | (refine Sd.mk ?_ ?_; · ((repeat' apply And.intro) <;> first | omega | trivial | assumption | (simp; done) | (simp; omega))) | (refine Sx.mk ?_ ?_; · omega) | refine Fa.mk (fun _ => ?_) | refine Im.mk (fun _ => ?_) | apply Lw.go | refine g_cond ?_ | refine g_guard ?_ | refine g_keep ?_ | refine g_pass ?_ | refine g_fin ?_ | (apply g_ap; exact rfl; exact rfl; assumption)
    · have hjn : j < l.length - k := by omega
      have hq : k + j < l.length := by omega
      have e1 : (l2.drop k)[j]'(by omega) = l[k + j] := by rw [List.getElem_drop]; exact hsame _ (by omega) hq
      have e2 : (l2.drop k)[((j : Int) - 1).toNat]'(by omega) = l[k + j - 1] := by
        rw [List.getElem_drop]
        have := hsame (k + (j - 1)) (by omega) (by omega)
        simp only [hj]
        rw [this]; congr 1; omega
      have hcmp : ¬ l[k + j] = l[k + j - 1] := by rw [← e1, ← e2]; assumption
      have hkn : kk < l2.length := by omega
      rw [e1]
      refine lp_next (j + 1, kk + 1, l2.set kk l[k + j]) ⟨by simp [hl2], by dsimp only; omega, by dsimp only; omega, by dsimp only; omega, ?_, ?_⟩ (by dsimp only; omega)
      · show (l2.set kk l[k + j]).take (kk + 1) = compactL (l.take (k + (j + 1)))
        rw [show k + (j + 1) = k + j + 1 by omega, hct hq, if_neg hcmp, ← htk, take_set_snoc hkn]
      · show (l2.set kk l[k + j]).drop (k + (j + 1) - 1) = l.drop (k + (j + 1) - 1)
        rw [show k + (j + 1) - 1 = k + j by omega, List.drop_set_of_lt (by omega)]
        have := congrArg (List.drop 1) hdr
        rw [List.drop_drop, List.drop_drop, show k + j - 1 + 1 = k + j by omega] at this
        exact this
    · have hjn : j < l.length - k := by omega
      have hq : k + j < l.length := by omega
      have e1 : (l2.drop k)[j]'(by omega) = l[k + j] := by rw [List.getElem_drop]; exact hsame _ (by omega) hq
      have e2 : (l2.drop k)[((j : Int) - 1).toNat]'(by omega) = l[k + j - 1] := by
        rw [List.getElem_drop]
        have := hsame (k + (j - 1)) (by omega) (by omega)
        simp only [hj]
        rw [this]; congr 1; omega
      have hcmp : ¬ l[k + j] ≠ l[k + j - 1] := by rw [← e1, ← e2]; assumption
      refine lp_next (j + 1, kk, l2) ⟨hl2, by dsimp only; omega, by dsimp only; omega, by dsimp only; omega, ?_, ?_⟩ (by dsimp only; omega)
      · show l2.take kk = compactL (l.take (k + (j + 1)))
        rw [show k + (j + 1) = k + j + 1 by omega, hct hq, if_pos (by simpa using hcmp)]; exact htk
      · show l2.drop (k + (j + 1) - 1) = l.drop (k + (j + 1) - 1)
        have := congrArg (List.drop 1) hdr
        rw [List.drop_drop, List.drop_drop, show k + j - 1 + 1 = k + j by omega] at this
        rw [show k + (j + 1) - 1 = k + j by omega]; exact this
    · have hkl2 : compactL l = l2.take kk := by rw [htk, show k + j = l.length by omega, List.take_length]
      have hlen : (compactL l).length = kk := by rw [hkl2]; simp; omega
      have := hR kk (l2.take kk ++ List.replicate (l.length - kk) 0 ++ l2.drop (kk + (l.length - kk))) (by rw [hlen, hkl2, List.append_assoc, List.take_left' (by simp; omega)]) (by rw [hlen]; simp; omega)
      rw [hlen] at this
      exact fin this
  · refine lp_next (k + 1) ⟨by omega, by omega, fun i h1 h2 h3 => ?_⟩ (by omega)
    rename_i hdup
    have hk1 : ((k : Int) - 1).toNat = k - 1 := by omega
    simp only [hk1] at hdup
    by_cases e : i = k
    · subst e; exact hdup
    · exact hI i h1 h2 (by omega)
  · exact fin (same (compactL_id fun i h1 h2 => hI i h1 h2 (by omega)))
end
end Go.AMS

namespace Go.AMS
open Go.AM hiding Kt At WP WL Runs RunsY
open Go.AM.G
set_option linter.unusedVariables false
set_option linter.unusedSimpArgs false
set_option linter.unusedSectionVars false
set_option maxRecDepth 100000
set_option maxHeartbeats 1000000
attribute [local irreducible] AtS AtV AtC AtG FinA Spec Post LP G.At G.WP G.WL pt own fro rdl ro hx mp lrec elt sub

open Go.AM.G.Set
section
theorem sorted_Of_int_spec {p : Option Addr} {c : Nat} {l : List Int} (hl : l.length ≤ 1000000000) : Spec prog1 n_sorted_Of_int [.slice p l.length c] [rdl (kInt .i64) p l] (fun R => ∀ p' c', R (.agg #[.slice p' (setL l).length c']) [lst (kInt .i64) p' (setL l)]) := by
  refine spec_code c_sorted_Of_int rfl ?_; intro n F R hR; unfold F_sorted_Of_int
  repeat' first | apply step | (apply g_op; · repeat first | exact Evs.nil | (apply Evs.cons; exact rfl)) | (refine Br.mk (fun _ => ?_) (fun _ => ?_) <;> try (exfalso; omega)) | (refine Sd.mk ?_ ?_; · ((repeat' apply And.intro) <;> first | omega | trivial | assumption | (simp; done) | (simp; omega))) | (refine Sx.mk ?_ ?_; · omega) | refine Fa.mk (fun _ => ?_) | refine Im.mk (fun _ => ?_) | apply Lw.go | refine g_cond ?_ | refine g_guard ?_ | refine g_keep ?_ | refine g_pass ?_ | refine g_fin ?_ | (apply g_ap; exact rfl; exact rfl; assumption)
  first | refine at_callS (slices_Clone_int_int_spec hl) ?_ | refine at_callR (slices_Clone_int_int_spec hl) ?_
  intro p1 c1
  repeat' first | apply step | (apply g_op; · repeat first | exact Evs.nil | (apply Evs.cons; exact rfl)) | (refine Br.mk (fun _ => ?_) (fun _ => ?_) <;> try (exfalso; omega)) | (refine Sd.mk ?_ ?_; · ((repeat' apply And.intro) <;> first | omega | trivial | assumption | (simp; done) | (simp; omega))) | (refine Sx.mk ?_ ?_; · omega) | refine Fa.mk (fun _ => ?_) | refine Im.mk (fun _ => ?_) | apply Lw.go | refine g_cond ?_ | refine g_guard ?_ | refine g_keep ?_ | refine g_pass ?_ | refine g_fin ?_ | (apply g_ap; exact rfl; exact rfl; assumption)
  first | refine at_callS (slices_Sort_int_int_spec hl) ?_ | refine at_callR (slices_Sort_int_int_spec hl) ?_
  repeat' first | apply step | (apply g_op; · repeat first | exact Evs.nil | (apply Evs.cons; exact rfl)) | (refine Br.mk (fun _ => ?_) (fun _ => ?_) <;> try (exfalso; omega)) | (refine Sd.mk ?_ ?_; · ((repeat' apply And.intro) <;> first | omega | trivial | assumption | (simp; done) | (simp; omega))) | (refine Sx.mk ?_ ?_; · omega) | refine Fa.mk (fun _ => ?_) | refine Im.mk (fun _ => ?_) | apply Lw.go | refine g_cond ?_ | refine g_guard ?_ | refine g_keep ?_ | refine g_pass ?_ | refine g_fin ?_ | (apply g_ap; exact rfl; exact rfl; assumption)
  rw [← sortL_len l]
  first | refine at_callS (slices_Compact_int_int_spec (by rw [sortL_len]; exact hl)) ?_ | refine at_callR (slices_Compact_int_int_spec (by rw [sortL_len]; exact hl)) ?_
  intro c2 l2 h1 h2
  repeat' first | apply step | (apply g_op; · repeat first | exact Evs.nil | (apply Evs.cons; exact rfl)) | (refine Br.mk (fun _ => ?_) (fun _ => ?_) <;> try (exfalso; omega)) | (refine Sd.mk ?_ ?_; · ((repeat' apply And.intro) <;> first | omega | trivial | assumption | (simp; done) | (simp; omega))) | (refine Sx.mk ?_ ?_; · omega) | refine Fa.mk (fun _ => ?_) | refine Im.mk (fun _ => ?_) | apply Lw.go | refine g_cond ?_ | refine g_guard ?_ | refine g_keep ?_ | refine g_pass ?_ | refine g_fin ?_ | (apply g_ap; exact rfl; exact rfl; assumption)
  refine fin_via (own_lst (p := p1) (l := l2) _ h1) ?_
  exact fin (hR p1 c2)
theorem sorted_Set_int_Len_spec {p : Option Addr} {n c : Nat} : Spec prog1 n_sorted_Set_int_Len [.agg #[.slice p n c]] [] (fun R => R (.int .i64 n) []) := by
  refine spec_code c_sorted_Set_int_Len rfl ?_; intro n F R hR; unfold F_sorted_Set_int_Len
  repeat' first | apply step | (apply g_op; · repeat first | exact Evs.nil | (apply Evs.cons; exact rfl)) | (refine Br.mk (fun _ => ?_) (fun _ => ?_) <;> try (exfalso; omega)) | (refine Sd.mk ?_ ?_; · ((repeat' apply And.intro) <;> first | omega | trivial | assumption | (simp; done) | (simp; omega))) | (refine Sx.mk ?_ ?_; · omega) | refine Fa.mk (fun _ => ?_) | refine Im.mk (fun _ => ?_) | apply Lw.go | refine g_cond ?_ | refine g_guard ?_ | refine g_keep ?_ | refine g_pass ?_ | refine g_fin ?_ | (apply g_ap; exact rfl; exact rfl; assumption)
  exact fin hR
theorem sorted_Set_int_List_spec {p : Option Addr} {c : Nat} {l : List Int} (hl : l.length ≤ 1000000000) : Spec prog1 n_sorted_Set_int_List [.agg #[.slice p l.length c]] [rdl (kInt .i64) p l] (fun R => ∀ p' c', R (.slice p' l.length c') [own (kInt .i64) p' c' l]) := by
  refine spec_code c_sorted_Set_int_List rfl ?_; intro n F R hR; unfold F_sorted_Set_int_List
  repeat' first | apply step | (apply g_op; · repeat first | exact Evs.nil | (apply Evs.cons; exact rfl)) | (refine Br.mk (fun _ => ?_) (fun _ => ?_) <;> try (exfalso; omega)) | (refine Sd.mk ?_ ?_; · ((repeat' apply And.intro) <;> first | omega | trivial | assumption | (simp; done) | (simp; omega))) | (refine Sx.mk ?_ ?_; · omega) | refine Fa.mk (fun _ => ?_) | refine Im.mk (fun _ => ?_) | apply Lw.go | refine g_cond ?_ | refine g_guard ?_ | refine g_keep ?_ | refine g_pass ?_ | refine g_fin ?_ | (apply g_ap; exact rfl; exact rfl; assumption)
  first | refine at_callS (slices_Clone_int_int_spec hl) ?_ | refine at_callR (slices_Clone_int_int_spec hl) ?_
  intro p1 c1
  repeat' first | apply step | (apply g_op; · repeat first | exact Evs.nil | (apply Evs.cons; exact rfl)) | (refine Br.mk (fun _ => ?_) (fun _ => ?_) <;> try (exfalso; omega)) | (refine Sd.mk ?_ ?_; · ((repeat' apply And.intro) <;> first | omega | trivial | assumption | (simp; done) | (simp; omega))) | (refine Sx.mk ?_ ?_; · omega) | refine Fa.mk (fun _ => ?_) | refine Im.mk (fun _ => ?_) | apply Lw.go | refine g_cond ?_ | refine g_guard ?_ | refine g_keep ?_ | refine g_pass ?_ | refine g_fin ?_ | (apply g_ap; exact rfl; exact rfl; assumption)
  exact fin (hR p1 c1)

/-- A script: picks, where all is cancelled, how many steps there were, how many picks were used. -/
structure Scr where
  l : List Int
  cancel : Int
  steps : Nat
  used : Nat
def Scr.off (s : Scr) : Prop := 0 ≤ s.cancel ∧ s.cancel ≤ s.steps
instance (s : Scr) : Decidable s.off := by unfold Scr.off; exact inferInstance
def idx (k : Int) (n : Nat) : Nat := (if k.tmod n < 0 then k.tmod n + n else k.tmod n).toNat
/-- The next place of so many. -/
def Scr.pick (s : Scr) (n : Nat) : Nat := if h : s.used < s.l.length then idx s.l[s.used] n else 0
def Scr.took (s : Scr) : Scr := if s.used < s.l.length then { s with used := s.used + 1 } else s
def Scr.one (s : Scr) : Scr := { s with steps := s.steps + 1 }
def stepS (s : Scr) (r : List Int) : Scr × Int × Int :=
  if s.off then (s, 0, 8) else
  if (setL r).length = 0 then (s, 0, 10) else
  (s.one.took, (setL r).getD (s.pick (setL r).length) 0, 0)
theorem idx_lt {k : Int} {n : Nat} (hn : 0 < n) : idx k n < n := by
  unfold idx
  have h1 := Int.tmod_lt_of_pos k (show (0 : Int) < n by omega)
  have h2 : -(n : Int) < k.tmod n := by
    have := Int.lt_tmod_of_pos k (show (0 : Int) < n by omega)
    omega
  split <;> omega
theorem pick_lt {s : Scr} {n : Nat} (hn : 0 < n) : s.pick n < n := by
  unfold Scr.pick; split
  · exact idx_lt hn
  · exact hn
structure Scr.ok (s : Scr) : Prop where
  hc : -9223372036854775808 ≤ s.cancel ∧ s.cancel ≤ 9223372036854775807
  hs : s.steps ≤ 1000000000000
  hu : s.used ≤ 1000000000000
  hl : s.l.length ≤ 1000000000
/-- A script in a heap. -/
def scr (m : Bool) (b : Nat) (s : Scr) : HP := hx fun (w : Option Addr × Nat) => (s.ok, [pt b [.bool m, .slice w.1 s.l.length w.2, .int .i64 s.cancel, .int .i64 s.steps, .int .i64 s.used] 0, own (kInt .i64) w.1 w.2 s.l])
instance low_scr {m : Bool} {b : Nat} {s : Scr} : Low (scr m b s) := low_hx fun _ => inferInstance
section
variable {b : Nat} {s : Scr} {m : Bool}
theorem picks_Script_is_spec : Spec prog1 n_picks_Script_is [.pointer (some ⟨b, 0, none⟩)] [ro (scr m b s)] (fun R => R (.bool m) []) := by
  refine spec_code c_picks_Script_is rfl ?_; intro n F R hR; unfold F_picks_Script_is
  refine at_openRP (scr _ b s) rfl ?_
  rintro ⟨p, c⟩ ⟨hc, hs, hu, hl⟩
  repeat' first | apply step | (apply g_op; · repeat first | exact Evs.nil | (apply Evs.cons; exact rfl)) | (refine Br.mk (fun _ => ?_) (fun _ => ?_) <;> try (exfalso; omega)) | (refine Sd.mk ?_ ?_; · ((repeat' apply And.intro) <;> first | omega | trivial | assumption | (simp; done) | (simp; omega))) | (refine Sx.mk ?_ ?_; · omega) | refine Fa.mk (fun _ => ?_) | refine Im.mk (fun _ => ?_) | apply Lw.go | refine g_cond ?_ | refine g_guard ?_ | refine g_keep ?_ | refine g_pass ?_ | refine g_fin ?_ | (apply g_ap; exact rfl; exact rfl; assumption)
  exact fin hR
theorem picks_Script_Cancelled_spec : Spec prog1 n_picks_Script_Cancelled [.pointer (some ⟨b, 0, none⟩)] [ro (scr true b s)] (fun R => (s.off → R (.bool true) []) ∧ (¬ s.off → R (.bool false) [])) := by
  refine spec_code c_picks_Script_Cancelled rfl ?_; intro n F R hR; unfold F_picks_Script_Cancelled
  refine at_openRP (scr true b s) rfl ?_
  rintro ⟨p, c⟩ ⟨hc, hs, hu, hl⟩
  repeat' first | apply step | (apply g_op; · repeat first | exact Evs.nil | (apply Evs.cons; exact rfl)) | (refine Br.mk (fun _ => ?_) (fun _ => ?_) <;> try (exfalso; omega)) | (refine Sd.mk ?_ ?_; · ((repeat' apply And.intro) <;> first | omega | trivial | assumption | (simp; done) | (simp; omega))) | (refine Sx.mk ?_ ?_; · omega) | refine Fa.mk (fun _ => ?_) | refine Im.mk (fun _ => ?_) | apply Lw.go | refine g_cond ?_ | refine g_guard ?_ | refine g_keep ?_ | refine g_pass ?_ | refine g_fin ?_ | (apply g_ap; exact rfl; exact rfl; assumption)
  first | refine at_callS (picks_Script_is_spec (m := true) (s := s)) ?_ | refine at_callR (picks_Script_is_spec (m := true) (s := s)) ?_
  repeat' first | apply step | (apply g_op; · repeat first | exact Evs.nil | (apply Evs.cons; exact rfl)) | (refine Br.mk (fun _ => ?_) (fun _ => ?_) <;> try (exfalso; omega)) | (refine Sd.mk ?_ ?_; · ((repeat' apply And.intro) <;> first | omega | trivial | assumption | (simp; done) | (simp; omega))) | (refine Sx.mk ?_ ?_; · omega) | refine Fa.mk (fun _ => ?_) | refine Im.mk (fun _ => ?_) | apply Lw.go | refine g_cond ?_ | refine g_guard ?_ | refine g_keep ?_ | refine g_pass ?_ | refine g_fin ?_ | (apply g_ap; exact rfl; exact rfl; assumption)
  · exact fin (hR.1 ⟨by omega, by omega⟩)
  · exact fin (hR.2 (fun h => by have := h.2; omega))
  · exact fin (hR.2 (fun h => by have := h.1; omega))
theorem picks_Script_Steps_spec : Spec prog1 n_picks_Script_Steps [.pointer (some ⟨b, 0, none⟩)] [ro (scr true b s)] (fun R => R (.int .i64 s.steps) []) := by
  refine spec_code c_picks_Script_Steps rfl ?_; intro n F R hR; unfold F_picks_Script_Steps
  refine at_openRP (scr true b s) rfl ?_
  rintro ⟨p, c⟩ ⟨hc, hs, hu, hl⟩
  repeat' first | apply step | (apply g_op; · repeat first | exact Evs.nil | (apply Evs.cons; exact rfl)) | (refine Br.mk (fun _ => ?_) (fun _ => ?_) <;> try (exfalso; omega)) | (refine Sd.mk ?_ ?_; · ((repeat' apply And.intro) <;> first | omega | trivial | assumption | (simp; done) | (simp; omega))) | (refine Sx.mk ?_ ?_; · omega) | refine Fa.mk (fun _ => ?_) | refine Im.mk (fun _ => ?_) | apply Lw.go | refine g_cond ?_ | refine g_guard ?_ | refine g_keep ?_ | refine g_pass ?_ | refine g_fin ?_ | (apply g_ap; exact rfl; exact rfl; assumption)
  first | refine at_callS (picks_Script_is_spec (m := true) (s := s)) ?_ | refine at_callR (picks_Script_is_spec (m := true) (s := s)) ?_
  repeat' first | apply step | (apply g_op; · repeat first | exact Evs.nil | (apply Evs.cons; exact rfl)) | (refine Br.mk (fun _ => ?_) (fun _ => ?_) <;> try (exfalso; omega)) | (refine Sd.mk ?_ ?_; · ((repeat' apply And.intro) <;> first | omega | trivial | assumption | (simp; done) | (simp; omega))) | (refine Sx.mk ?_ ?_; · omega) | refine Fa.mk (fun _ => ?_) | refine Im.mk (fun _ => ?_) | apply Lw.go | refine g_cond ?_ | refine g_guard ?_ | refine g_keep ?_ | refine g_pass ?_ | refine g_fin ?_ | (apply g_ap; exact rfl; exact rfl; assumption)
  exact fin hR
theorem picks_Script_choice_spec {q : Nat} (hn : 0 < q) (hn2 : q ≤ 1000000000) (hub : s.used < 1000000000000) : Spec prog1 n_picks_Script_choice [.pointer (some ⟨b, 0, none⟩), .int .i64 q] [scr true b s] (fun R => R (.int .i64 (s.pick q)) [scr true b s.took]) := by
  refine spec_code c_picks_Script_choice rfl ?_; intro n F R hR; unfold F_picks_Script_choice
  refine at_openP (scr true b s) rfl ?_
  rintro ⟨p, c⟩ ⟨hc, hs, hu, hl⟩
  repeat' first | apply step | (apply g_op; · repeat first | exact Evs.nil | (apply Evs.cons; exact rfl)) | (refine Br.mk (fun _ => ?_) (fun _ => ?_) <;> try (exfalso; omega)) | (refine Sd.mk ?_ ?_; · ((repeat' apply And.intro) <;> first | omega | trivial | assumption | (simp; done) | (simp; omega))) | (refine Sx.mk ?_ ?_; · omega) | refine Fa.mk (fun _ => ?_) | refine Im.mk (fun _ => ?_) | apply Lw.go | refine g_cond ?_ | refine g_guard ?_ | refine g_keep ?_ | refine g_pass ?_ | refine g_fin ?_ | (apply g_ap; exact rfl; exact rfl; assumption)
  · have h1 : s.pick q = 0 := by unfold Scr.pick; rw [dif_neg (by omega)]
    have h2 : s.took = s := by unfold Scr.took; rw [if_neg (by omega)]
    rw [h1, h2] at hR
    refine fin_foldP (scr true b s) rfl (p, c) ⟨hc, hs, hu, hl⟩ ?_
    exact fin hR
  all_goals
    have hlt : s.used < s.l.length := by omega
    have t1 := Int.tmod_lt_of_pos s.l[s.used] (show (0 : Int) < q by omega)
    have t2 : -(q : Int) < s.l[s.used].tmod q := by
      have := Int.lt_tmod_of_pos s.l[s.used] (show (0 : Int) < q by omega)
      omega
    have hpick : (s.pick q : Int) = if s.l[s.used].tmod q < 0 then s.l[s.used].tmod q + q else s.l[s.used].tmod q := by
      unfold Scr.pick idx; rw [dif_pos hlt]; split <;> omega
    have h2 : s.took = { s with used := s.used + 1 } := by unfold Scr.took; rw [if_pos hlt]
    rw [hpick, h2] at hR
    repeat' first | apply step | (apply g_op; · repeat first | exact Evs.nil | (apply Evs.cons; exact rfl)) | (refine Br.mk (fun _ => ?_) (fun _ => ?_) <;> try (exfalso; omega)) | (refine Sd.mk ?_ ?_; · ((repeat' apply And.intro) <;> first | omega | trivial | assumption | (simp; done) | (simp; omega))) | (refine Sx.mk ?_ ?_; · omega) | refine Fa.mk (fun _ => ?_) | refine Im.mk (fun _ => ?_) | apply Lw.go | refine g_cond ?_ | refine g_guard ?_ | refine g_keep ?_ | refine g_pass ?_ | refine g_fin ?_ | (apply g_ap; exact rfl; exact rfl; assumption)
    refine fin_foldP (scr true b { s with used := s.used + 1 }) rfl (p, c) ⟨hc, hs, by simp; omega, hl⟩ ?_
    first | rw [if_pos (by assumption)] at hR | rw [if_neg (by assumption)] at hR
    exact fin hR
theorem picks_Script_Step_spec {A : HP} {p : Option Addr} {c : Nat} {r : List Int} (hA : ∀ Γ, LkS (A :: Γ) p (kInt .i64) r) (hr : r.length ≤ 1000000) (hsb : s.steps < 1000000000000) (hub : s.used < 1000000000000) :
    Spec prog1 n_picks_Script_Step [.pointer (some ⟨b, 0, none⟩), .slice p r.length c] [scr true b s, A] (fun R => R (.tuple #[.int .i64 (stepS s r).2.1, .int .i64 (stepS s r).2.2]) [scr true b (stepS s r).1, A]) := by
  refine spec_code c_picks_Script_Step rfl ?_; intro n F R hR; unfold F_picks_Script_Step
  repeat' first | apply step | (apply g_op; · repeat first | exact Evs.nil | (apply Evs.cons; exact rfl)) | (refine Br.mk (fun _ => ?_) (fun _ => ?_) <;> try (exfalso; omega)) | (refine Sd.mk ?_ ?_; · ((repeat' apply And.intro) <;> first | omega | trivial | assumption | (simp; done) | (simp; omega))) | (refine Sx.mk ?_ ?_; · omega) | refine Fa.mk (fun _ => ?_) | refine Im.mk (fun _ => ?_) | apply Lw.go | refine g_cond ?_ | refine g_guard ?_ | refine g_keep ?_ | refine g_pass ?_ | refine g_fin ?_ | (apply g_ap; exact rfl; exact rfl; assumption)
  have := hA
  first | refine at_callS (sorted_Of_int_spec (l := r) (by omega)) ?_ | refine at_callR (sorted_Of_int_spec (l := r) (by omega)) ?_
  intro p1 c1
  repeat' first | apply step | (apply g_op; · repeat first | exact Evs.nil | (apply Evs.cons; exact rfl)) | (refine Br.mk (fun _ => ?_) (fun _ => ?_) <;> try (exfalso; omega)) | (refine Sd.mk ?_ ?_; · ((repeat' apply And.intro) <;> first | omega | trivial | assumption | (simp; done) | (simp; omega))) | (refine Sx.mk ?_ ?_; · omega) | refine Fa.mk (fun _ => ?_) | refine Im.mk (fun _ => ?_) | apply Lw.go | refine g_cond ?_ | refine g_guard ?_ | refine g_keep ?_ | refine g_pass ?_ | refine g_fin ?_ | (apply g_ap; exact rfl; exact rfl; assumption)
  have hsl := setL_le r
  first | refine at_callS (picks_Script_is_spec (m := true) (s := s)) ?_ | refine at_callR (picks_Script_is_spec (m := true) (s := s)) ?_
  repeat' first | apply step | (apply g_op; · repeat first | exact Evs.nil | (apply Evs.cons; exact rfl)) | (refine Br.mk (fun _ => ?_) (fun _ => ?_) <;> try (exfalso; omega)) | (refine Sd.mk ?_ ?_; · ((repeat' apply And.intro) <;> first | omega | trivial | assumption | (simp; done) | (simp; omega))) | (refine Sx.mk ?_ ?_; · omega) | refine Fa.mk (fun _ => ?_) | refine Im.mk (fun _ => ?_) | apply Lw.go | refine g_cond ?_ | refine g_guard ?_ | refine g_keep ?_ | refine g_pass ?_ | refine g_fin ?_ | (apply g_ap; exact rfl; exact rfl; assumption)
  first | refine at_callS (picks_Script_Cancelled_spec (s := s)) ?_ | refine at_callR (picks_Script_Cancelled_spec (s := s)) ?_
  refine ⟨fun hoff => ?_, fun hoff => ?_⟩
  · repeat' first | apply step | (apply g_op; · repeat first | exact Evs.nil | (apply Evs.cons; exact rfl)) | (refine Br.mk (fun _ => ?_) (fun _ => ?_) <;> try (exfalso; omega)) | (refine Sd.mk ?_ ?_; · ((repeat' apply And.intro) <;> first | omega | trivial | assumption | (simp; done) | (simp; omega))) | (refine Sx.mk ?_ ?_; · omega) | refine Fa.mk (fun _ => ?_) | refine Im.mk (fun _ => ?_) | apply Lw.go | refine g_cond ?_ | refine g_guard ?_ | refine g_keep ?_ | refine g_pass ?_ | refine g_fin ?_ | (apply g_ap; exact rfl; exact rfl; assumption)
    unfold stepS at hR
    rw [if_pos hoff] at hR
    exact fin hR
  repeat' first | apply step | (apply g_op; · repeat first | exact Evs.nil | (apply Evs.cons; exact rfl)) | (refine Br.mk (fun _ => ?_) (fun _ => ?_) <;> try (exfalso; omega)) | (refine Sd.mk ?_ ?_; · ((repeat' apply And.intro) <;> first | omega | trivial | assumption | (simp; done) | (simp; omega))) | (refine Sx.mk ?_ ?_; · omega) | refine Fa.mk (fun _ => ?_) | refine Im.mk (fun _ => ?_) | apply Lw.go | refine g_cond ?_ | refine g_guard ?_ | refine g_keep ?_ | refine g_pass ?_ | refine g_fin ?_ | (apply g_ap; exact rfl; exact rfl; assumption)
  first | refine at_callS (sorted_Set_int_Len_spec) ?_ | refine at_callR (sorted_Set_int_Len_spec) ?_
  repeat' first | apply step | (apply g_op; · repeat first | exact Evs.nil | (apply Evs.cons; exact rfl)) | (refine Br.mk (fun _ => ?_) (fun _ => ?_) <;> try (exfalso; omega)) | (refine Sd.mk ?_ ?_; · ((repeat' apply And.intro) <;> first | omega | trivial | assumption | (simp; done) | (simp; omega))) | (refine Sx.mk ?_ ?_; · omega) | refine Fa.mk (fun _ => ?_) | refine Im.mk (fun _ => ?_) | apply Lw.go | refine g_cond ?_ | refine g_guard ?_ | refine g_keep ?_ | refine g_pass ?_ | refine g_fin ?_ | (apply g_ap; exact rfl; exact rfl; assumption)
  · unfold stepS at hR
    rw [if_neg hoff, if_pos (by omega)] at hR
    exact fin hR
  have hne : (setL r).length ≠ 0 := by omega
  first | refine at_openP (scr true b s) rfl ?_ | refine av_openP (scr true b s) rfl ?_
  rintro ⟨p2, c2⟩ ⟨hc, hs, hu, hl⟩
  repeat' first | apply step | (apply g_op; · repeat first | exact Evs.nil | (apply Evs.cons; exact rfl)) | (refine Br.mk (fun _ => ?_) (fun _ => ?_) <;> try (exfalso; omega)) | (refine Sd.mk ?_ ?_; · ((repeat' apply And.intro) <;> first | omega | trivial | assumption | (simp; done) | (simp; omega))) | (refine Sx.mk ?_ ?_; · omega) | refine Fa.mk (fun _ => ?_) | refine Im.mk (fun _ => ?_) | apply Lw.go | refine g_cond ?_ | refine g_guard ?_ | refine g_keep ?_ | refine g_pass ?_ | refine g_fin ?_ | (apply g_ap; exact rfl; exact rfl; assumption)
  first | refine at_callS (sorted_Set_int_List_spec (l := setL r) (by omega)) ?_ | refine at_callR (sorted_Set_int_List_spec (l := setL r) (by omega)) ?_
  intro p3 c3
  repeat' first | apply step | (apply g_op; · repeat first | exact Evs.nil | (apply Evs.cons; exact rfl)) | (refine Br.mk (fun _ => ?_) (fun _ => ?_) <;> try (exfalso; omega)) | (refine Sd.mk ?_ ?_; · ((repeat' apply And.intro) <;> first | omega | trivial | assumption | (simp; done) | (simp; omega))) | (refine Sx.mk ?_ ?_; · omega) | refine Fa.mk (fun _ => ?_) | refine Im.mk (fun _ => ?_) | apply Lw.go | refine g_cond ?_ | refine g_guard ?_ | refine g_keep ?_ | refine g_pass ?_ | refine g_fin ?_ | (apply g_ap; exact rfl; exact rfl; assumption)
  first | refine at_callS (sorted_Set_int_Len_spec) ?_ | refine at_callR (sorted_Set_int_Len_spec) ?_
  repeat' first | apply step | (apply g_op; · repeat first | exact Evs.nil | (apply Evs.cons; exact rfl)) | (refine Br.mk (fun _ => ?_) (fun _ => ?_) <;> try (exfalso; omega)) | (refine Sd.mk ?_ ?_; · ((repeat' apply And.intro) <;> first | omega | trivial | assumption | (simp; done) | (simp; omega))) | (refine Sx.mk ?_ ?_; · omega) | refine Fa.mk (fun _ => ?_) | refine Im.mk (fun _ => ?_) | apply Lw.go | refine g_cond ?_ | refine g_guard ?_ | refine g_keep ?_ | refine g_pass ?_ | refine g_fin ?_ | (apply g_ap; exact rfl; exact rfl; assumption)
  have hpl := pick_lt (s := s.one) (n := (setL r).length) (by omega)
  refine av_foldP (scr true b s.one) rfl (p2, c2) ⟨hc, by unfold Scr.one; simp; omega, hu, hl⟩ ?_
  first | refine at_callS (picks_Script_choice_spec (s := s.one) (q := (setL r).length) (by omega) (by omega) hub) ?_ | refine at_callR (picks_Script_choice_spec (s := s.one) (q := (setL r).length) (by omega) (by omega) hub) ?_
  repeat' first | apply step | (apply g_op; · repeat first | exact Evs.nil | (apply Evs.cons; exact rfl)) | (refine Br.mk (fun _ => ?_) (fun _ => ?_) <;> try (exfalso; omega)) | (refine Sd.mk ?_ ?_; · ((repeat' apply And.intro) <;> first | omega | trivial | assumption | (simp; done) | (simp; omega))) | (refine Sx.mk ?_ ?_; · omega) | refine Fa.mk (fun _ => ?_) | refine Im.mk (fun _ => ?_) | apply Lw.go | refine g_cond ?_ | refine g_guard ?_ | refine g_keep ?_ | refine g_pass ?_ | refine g_fin ?_ | (apply g_ap; exact rfl; exact rfl; assumption)
  unfold stepS at hR
  rw [if_neg hoff, if_neg hne] at hR
  have e : (setL r).getD (s.pick (setL r).length) 0 = (setL r)[s.one.pick (setL r).length] := by
    show (setL r).getD (s.one.pick (setL r).length) 0 = _
    rw [List.getD_eq_getElem?_getD, List.getElem?_eq_getElem hpl]; rfl
  rw [e] at hR
  exact fin hR
theorem picks_New_spec {p : Option Addr} {c : Nat} {l : List Int} {k : Int} (hl : l.length ≤ 1000000000) (hk : -9223372036854775808 ≤ k ∧ k ≤ 9223372036854775807) : Spec prog1 n_picks_New [.slice p l.length c, .int .i64 k] [rdl (kInt .i64) p l] (fun R => ∀ b, R (.pointer (some ⟨b, 0, none⟩)) [scr true b ⟨l, k, 0, 0⟩]) := by
  refine spec_code c_picks_New rfl ?_; intro n F R hR; unfold F_picks_New
  repeat' first | apply step | (apply g_op; · repeat first | exact Evs.nil | (apply Evs.cons; exact rfl)) | (refine Br.mk (fun _ => ?_) (fun _ => ?_) <;> try (exfalso; omega)) | (refine Sd.mk ?_ ?_; · ((repeat' apply And.intro) <;> first | omega | trivial | assumption | (simp; done) | (simp; omega))) | (refine Sx.mk ?_ ?_; · omega) | refine Fa.mk (fun _ => ?_) | refine Im.mk (fun _ => ?_) | apply Lw.go | refine g_cond ?_ | refine g_guard ?_ | refine g_keep ?_ | refine g_pass ?_ | refine g_fin ?_ | (apply g_ap; exact rfl; exact rfl; assumption)
  first | refine at_callS (slices_Clone_int_int_spec hl) ?_ | refine at_callR (slices_Clone_int_int_spec hl) ?_
  intro p1 c1
  repeat' first | apply step | (apply g_op; · repeat first | exact Evs.nil | (apply Evs.cons; exact rfl)) | (refine Br.mk (fun _ => ?_) (fun _ => ?_) <;> try (exfalso; omega)) | (refine Sd.mk ?_ ?_; · ((repeat' apply And.intro) <;> first | omega | trivial | assumption | (simp; done) | (simp; omega))) | (refine Sx.mk ?_ ?_; · omega) | refine Fa.mk (fun _ => ?_) | refine Im.mk (fun _ => ?_) | apply Lw.go | refine g_cond ?_ | refine g_guard ?_ | refine g_keep ?_ | refine g_pass ?_ | refine g_fin ?_ | (apply g_ap; exact rfl; exact rfl; assumption)
  rename_i b
  refine fin_foldP (scr true b ⟨l, k, 0, 0⟩) rfl (p1, c1) ⟨hk, by simp, by simp, hl⟩ ?_
  exact fin (hR b)
end
end
end Go.AMS

namespace Go.AMS
open Go.AM hiding Kt At WP WL Runs RunsY
open Go.AM.G
set_option linter.unusedVariables false
set_option linter.unusedSimpArgs false
set_option linter.unusedSectionVars false
set_option maxRecDepth 100000
set_option maxHeartbeats 1000000
attribute [local irreducible] AtS AtV AtC AtG FinA Spec Post LP G.At G.WP G.WL pt own fro rdl ro hx mp lrec elt sub

open Go.AM.G.Set
section
theorem r01_Same_spec {p q : Option Addr} {c c' : Nat} {a b : List Int} (ha : a.length ≤ 1000000000000) : Spec prog1 n_r01_Same [.slice p a.length c, .slice q b.length c'] [rdl (kInt .i64) p a, rdl (kInt .i64) q b] (fun R => (a = b → R (.bool true) []) ∧ (a ≠ b → R (.bool false) [])) := by
  refine spec_code c_r01_Same rfl ?_; intro n F R hR; unfold F_r01_Same
  repeat' first | apply step | (apply g_op; · repeat first | exact Evs.nil | (apply Evs.cons; exact rfl)) | (refine Br.mk (fun _ => ?_) (fun _ => ?_) <;> try (exfalso; omega)) | (refine Sd.mk ?_ ?_; · ((repeat' apply And.intro) <;> first | omega | trivial | assumption | (simp; done) | (simp; omega))) | (refine Sx.mk ?_ ?_; · omega) | refine Fa.mk (fun _ => ?_) | refine Im.mk (fun _ => ?_) | apply Lw.go | refine g_cond ?_ | refine g_guard ?_ | refine g_keep ?_ | refine g_pass ?_ | refine g_fin ?_ | (apply g_ap; exact rfl; exact rfl; assumption)
  · exact fin (hR.2 (fun h => by subst h; simp at *))
  refine at_loopS (ι := Nat) (E := fun k => [(0, .slice p a.length c), (1, .slice q b.length c'), (5, .int .i64 (k : Int))]) (Δ := fun _ => rdl (kInt .i64) p a :: rdl (kInt .i64) q b :: F) (P := fun k => k ≤ a.length ∧ a.take k = b.take k) (μ := fun k => a.length - k) 0 ⟨Nat.zero_le _, by simp⟩ ?_
  rintro k ⟨hk, he⟩
  have hlen : a.length = b.length := by omega
  dsimp only
  repeat' first | apply step | (apply g_op; · repeat first | exact Evs.nil | (apply Evs.cons; exact rfl)) | (refine Br.mk (fun _ => ?_) (fun _ => ?_) <;> try (exfalso; omega)) | (refine Sd.mk ?_ ?_; · ((repeat' apply And.intro) <;> first | omega | trivial | assumption | (simp; done) | (simp; omega))) | (refine Sx.mk ?_ ?_; · omega) | refine Fa.mk (fun _ => ?_) | refine Im.mk (fun _ => ?_) | apply Lw.go | refine g_cond ?_ | refine g_guard ?_ | refine g_keep ?_ | refine g_pass ?_ | refine g_fin ?_ | (apply g_ap; exact rfl; exact rfl; assumption)
  · refine fin (hR.2 (fun h => ?_))
    subst h
    simp at *
  · refine lp_next (k + 1) ⟨by omega, ?_⟩ (by omega)
    have : a[k]'(by omega) = b[k]'(by omega) := by simpa using ‹¬ _ ≠ _›
    rw [List.take_succ_eq_append_getElem (by omega), List.take_succ_eq_append_getElem (by omega), he, this]
  · refine fin (hR.1 ?_)
    rw [List.take_of_length_le (by omega), List.take_of_length_le (by omega)] at he
    exact he
theorem r05_Has_spec {p : Option Addr} {c : Nat} {l : List Int} {x : Int} (hl : l.length ≤ 1000000000000) : Spec prog1 n_r05_Has [.slice p l.length c, .int .i64 x] [rdl (kInt .i64) p l] (fun R => (x ∈ l → R (.bool true) []) ∧ (x ∉ l → R (.bool false) [])) := by
  refine spec_code c_r05_Has rfl ?_; intro n F R hR; unfold F_r05_Has
  repeat' first | apply step | (apply g_op; · repeat first | exact Evs.nil | (apply Evs.cons; exact rfl)) | (refine Br.mk (fun _ => ?_) (fun _ => ?_) <;> try (exfalso; omega)) | (refine Sd.mk ?_ ?_; · ((repeat' apply And.intro) <;> first | omega | trivial | assumption | (simp; done) | (simp; omega))) | (refine Sx.mk ?_ ?_; · omega) | refine Fa.mk (fun _ => ?_) | refine Im.mk (fun _ => ?_) | apply Lw.go | refine g_cond ?_ | refine g_guard ?_ | refine g_keep ?_ | refine g_pass ?_ | refine g_fin ?_ | (apply g_ap; exact rfl; exact rfl; assumption)
  refine at_loopS (ι := Nat) (E := fun k => [(0, .slice p l.length c), (1, .int .i64 x), (5, .int .i64 (k : Int))]) (Δ := fun _ => rdl (kInt .i64) p l :: F) (P := fun k => k ≤ l.length ∧ x ∉ l.take k) (μ := fun k => l.length - k) 0 ⟨Nat.zero_le _, by simp⟩ ?_
  rintro k ⟨hk, hI⟩
  dsimp only
  repeat' first | apply step | (apply g_op; · repeat first | exact Evs.nil | (apply Evs.cons; exact rfl)) | (refine Br.mk (fun _ => ?_) (fun _ => ?_) <;> try (exfalso; omega)) | (refine Sd.mk ?_ ?_; · ((repeat' apply And.intro) <;> first | omega | trivial | assumption | (simp; done) | (simp; omega))) | (refine Sx.mk ?_ ?_; · omega) | refine Fa.mk (fun _ => ?_) | refine Im.mk (fun _ => ?_) | apply Lw.go | refine g_cond ?_ | refine g_guard ?_ | refine g_keep ?_ | refine g_pass ?_ | refine g_fin ?_ | (apply g_ap; exact rfl; exact rfl; assumption)
  · exact fin (hR.1 (by rw [← ‹l[k] = x›]; exact List.getElem_mem _))
  · refine lp_next (k + 1) ⟨by omega, ?_⟩ (by omega)
    rw [List.take_succ_eq_append_getElem (by omega)]
    intro hm
    rcases List.mem_append.1 hm with hm | hm
    · exact hI hm
    · simp at hm; exact absurd hm.symm (by assumption)
  · refine fin (hR.2 ?_)
    rwa [List.take_of_length_le (by omega)] at hI

theorem setL_get {l : List Int} {i j : Nat} (hij : i < j) (hj : j < (setL l).length) : (setL l)[i]'(by omega) < (setL l)[j] :=
  List.pairwise_iff_getElem.1 (setL_lt l) i j (by omega) hj hij
theorem not_in_take {l : List Int} {n : Nat} (hn : n < (setL l).length) : (setL l)[n] ∉ (setL l).take n := by
  intro h
  obtain ⟨i, hi, e⟩ := List.getElem_of_mem h
  rw [List.getElem_take] at e
  simp at hi
  have := setL_get (l := l) (i := i) (j := n) (by omega) hn
  omega
theorem all_taken {l : List Int} {n : Nat} (h : ∀ x ∈ l, x ∈ (setL l).take n) : (setL l).take n = setL l := by
  refine List.take_of_length_le ?_
  rcases Nat.lt_or_ge n (setL l).length with hn | hn
  · exact absurd (h _ (mem_setL.1 (List.getElem_mem hn))) (not_in_take hn)
  · exact hn
theorem next_least {l : List Int} {n : Nat} {best : Int} (h1 : best ∈ l) (h2 : best ∉ (setL l).take n) (h3 : ∀ x ∈ l, x ∉ (setL l).take n → best ≤ x) : n < (setL l).length ∧ (setL l).take (n + 1) = (setL l).take n ++ [best] := by
  obtain ⟨i, hi, e⟩ := List.getElem_of_mem (mem_setL.2 h1)
  have hin : n ≤ i := by
    rcases Nat.lt_or_ge i n with q | q
    · exfalso; apply h2
      rw [List.mem_take_iff_getElem]
      exact ⟨i, by omega, e⟩
    · exact q
  have hn : n < (setL l).length := by omega
  refine ⟨hn, ?_⟩
  rw [List.take_succ_eq_append_getElem hn]
  congr 2
  have h4 := h3 _ (mem_setL.1 (List.getElem_mem hn)) (not_in_take hn)
  rcases Nat.lt_or_eq_of_le hin with q | q
  · have := setL_get (l := l) q hi; omega
  · subst q; exact e
theorem r05_Of_spec {p : Option Addr} {c : Nat} {l : List Int} (hl : l.length ≤ 1000000000) : Spec prog1 n_r05_Of [.slice p l.length c] [rdl (kInt .i64) p l] (fun R => ∀ p' c', R (.slice p' (setL l).length c') [own (kInt .i64) p' c' (setL l)]) := by
  refine spec_code c_r05_Of rfl ?_; intro n F R hR; unfold F_r05_Of
  have hsl := setL_le l
  iterate 2 apply step
  refine at_bnd (p := p) (l := l) (fun hb => ?_)
  repeat' first | apply step | (apply g_op; · repeat first | exact Evs.nil | (apply Evs.cons; exact rfl)) | (refine Br.mk (fun _ => ?_) (fun _ => ?_) <;> try (exfalso; omega)) | (refine Sd.mk ?_ ?_; · ((repeat' apply And.intro) <;> first | omega | trivial | assumption | (simp; done) | (simp; omega))) | (refine Sx.mk ?_ ?_; · omega) | refine Fa.mk (fun _ => ?_) | refine Im.mk (fun _ => ?_) | apply Lw.go | refine g_cond ?_ | refine g_guard ?_ | refine g_keep ?_ | refine g_pass ?_ | refine g_fin ?_ | (apply g_ap; exact rfl; exact rfl; assumption)
  refine at_loopS (ι := Option Addr × Nat × List Int × Nat) (E := fun w => [(0, .slice p l.length c), (3, .slice w.1 w.2.2.1.length w.2.1), (4, .int .i64 (w.2.2.2 : Int))]) (Δ := fun w => own (kInt .i64) w.1 w.2.1 w.2.2.1 :: rdl (kInt .i64) p l :: F) (P := fun w => w.2.2.2 ≤ l.length ∧ w.2.2.1.length = w.2.2.2 ∧ w.2.2.1 = (setL l).take w.2.2.2) (μ := fun w => l.length + 1 - w.2.2.2) (none, 0, [], 0) ⟨Nat.zero_le _, rfl, by simp⟩ ?_
  rintro ⟨po, co, out, j⟩ ⟨hle, hj, ho⟩
  dsimp only at hle hj ho ⊢
  repeat' first | apply step | (apply g_op; · repeat first | exact Evs.nil | (apply Evs.cons; exact rfl)) | (refine Br.mk (fun _ => ?_) (fun _ => ?_) <;> try (exfalso; omega)) | (refine Sd.mk ?_ ?_; · ((repeat' apply And.intro) <;> first | omega | trivial | assumption | (simp; done) | (simp; omega))) | (refine Sx.mk ?_ ?_; · omega) | refine Fa.mk (fun _ => ?_) | refine Im.mk (fun _ => ?_) | apply Lw.go | refine g_cond ?_ | refine g_guard ?_ | refine g_keep ?_ | refine g_pass ?_ | refine g_fin ?_ | (apply g_ap; exact rfl; exact rfl; assumption)
  refine at_loopS (ι := Int × Bool × Nat) (E := fun w => [(0, .slice p l.length c), (3, .slice po out.length co), (4, .int .i64 (j : Int)), (5, .int .i64 w.1), (6, .bool w.2.1), (7, .int .i64 (w.2.2 : Int))]) (Δ := fun w => own (kInt .i64) po co out :: rdl (kInt .i64) p l :: F)
    (P := fun w => w.2.2 ≤ l.length ∧ (w.2.1 = false → ∀ x ∈ l.take w.2.2, x ∈ out) ∧ (w.2.1 = true → w.1 ∈ l ∧ w.1 ∉ out ∧ ∀ x ∈ l.take w.2.2, x ∉ out → w.1 ≤ x)) (μ := fun w => l.length - w.2.2) (0, false, 0) ⟨Nat.zero_le _, by simp, by simp⟩ ?_
  rintro ⟨best, found, k⟩ ⟨hk, hf, ht⟩
  dsimp only at hk hf ht ⊢
  repeat' first | apply step | (apply g_op; · repeat first | exact Evs.nil | (apply Evs.cons; exact rfl)) | (refine Br.mk (fun _ => ?_) (fun _ => ?_) <;> try (exfalso; omega)) | (refine Sd.mk ?_ ?_; · ((repeat' apply And.intro) <;> first | omega | trivial | assumption | (simp; done) | (simp; omega))) | (refine Sx.mk ?_ ?_; · omega) | refine Fa.mk (fun _ => ?_) | refine Im.mk (fun _ => ?_) | apply Lw.go | refine g_cond ?_ | refine g_guard ?_ | refine g_keep ?_ | refine g_pass ?_ | refine g_fin ?_ | (apply g_ap; exact rfl; exact rfl; assumption)
  · have hkl : k < l.length := by omega
    have stp : ∀ x ∈ l.take (k + 1), x ∈ l.take k ∨ x = l[k] := by
      intro x hx
      rw [List.take_succ_eq_append_getElem hkl] at hx
      rcases List.mem_append.1 hx with h | h
      · exact .inl h
      · simp at h; exact .inr h
    first | refine at_callS (r05_Has_spec (l := out) (x := l[k]) (by omega)) ?_ | refine at_callR (r05_Has_spec (l := out) (x := l[k]) (by omega)) ?_
    refine ⟨fun hin => ?_, fun hin => ?_⟩
    · repeat' first | apply step | (apply g_op; · repeat first | exact Evs.nil | (apply Evs.cons; exact rfl)) | (refine Br.mk (fun _ => ?_) (fun _ => ?_) <;> try (exfalso; omega)) | (refine Sd.mk ?_ ?_; · ((repeat' apply And.intro) <;> first | omega | trivial | assumption | (simp; done) | (simp; omega))) | (refine Sx.mk ?_ ?_; · omega) | refine Fa.mk (fun _ => ?_) | refine Im.mk (fun _ => ?_) | apply Lw.go | refine g_cond ?_ | refine g_guard ?_ | refine g_keep ?_ | refine g_pass ?_ | refine g_fin ?_ | (apply g_ap; exact rfl; exact rfl; assumption)
      refine lp_next (best, found, k + 1) ⟨by dsimp only; omega, fun h x hx => ?_, fun h => ?_⟩ (by dsimp only; omega)
      · rcases stp x hx with h1 | rfl
        · exact hf h x h1
        · exact hin
      · refine ⟨(ht h).1, (ht h).2.1, fun x hx hx2 => ?_⟩
        rcases stp x hx with h1 | rfl
        · exact (ht h).2.2 x h1 hx2
        · exact absurd hin hx2
    · cases found
      all_goals
        repeat' first | apply step | (apply g_op; · repeat first | exact Evs.nil | (apply Evs.cons; exact rfl)) | (refine Br.mk (fun _ => ?_) (fun _ => ?_) <;> try (exfalso; omega)) | (refine Sd.mk ?_ ?_; · ((repeat' apply And.intro) <;> first | omega | trivial | assumption | (simp; done) | (simp; omega))) | (refine Sx.mk ?_ ?_; · omega) | refine Fa.mk (fun _ => ?_) | refine Im.mk (fun _ => ?_) | apply Lw.go | refine g_cond ?_ | refine g_guard ?_ | refine g_keep ?_ | refine g_pass ?_ | refine g_fin ?_ | (apply g_ap; exact rfl; exact rfl; assumption)
      · refine lp_next (l[k], true, k + 1) ⟨by dsimp only; omega, by simp, fun _ => ⟨List.getElem_mem hkl, hin, fun x hx hx2 => ?_⟩⟩ (by dsimp only; omega)
        rcases stp x hx with h | rfl
        · exact absurd (hf rfl x h) hx2
        · exact Int.le_refl _
      · refine lp_next (l[k], true, k + 1) ⟨by dsimp only; omega, by simp, fun _ => ⟨List.getElem_mem hkl, hin, fun x hx hx2 => ?_⟩⟩ (by dsimp only; omega)
        rcases stp x hx with h | rfl
        · have := (ht rfl).2.2 x h hx2; omega
        · exact Int.le_refl _
      · refine lp_next (best, true, k + 1) ⟨by dsimp only; omega, by simp, fun _ => ⟨(ht rfl).1, (ht rfl).2.1, fun x hx hx2 => ?_⟩⟩ (by dsimp only; omega)
        rcases stp x hx with h | rfl
        · exact (ht rfl).2.2 x h hx2
        · omega
  · -- one more
    have hkl : l.take k = l := List.take_of_length_le (by omega)
    rw [hkl] at ht
    obtain ⟨h1, h2, h3⟩ := ht (by assumption)
    rw [ho] at h2 h3
    obtain ⟨q1, q2⟩ := next_least h1 h2 h3
    have := hb best h1
    repeat' first | apply step | (apply g_op; · repeat first | exact Evs.nil | (apply Evs.cons; exact rfl)) | (refine Br.mk (fun _ => ?_) (fun _ => ?_) <;> try (exfalso; omega)) | (refine Sd.mk ?_ ?_; · ((repeat' apply And.intro) <;> first | omega | trivial | assumption | (simp; done) | (simp; omega))) | (refine Sx.mk ?_ ?_; · omega) | refine Fa.mk (fun _ => ?_) | refine Im.mk (fun _ => ?_) | apply Lw.go | refine g_cond ?_ | refine g_guard ?_ | refine g_keep ?_ | refine g_pass ?_ | refine g_fin ?_ | (apply g_ap; exact rfl; exact rfl; assumption)
    refine lp_next (_, _, out ++ [best], j + 1) ⟨by dsimp only; omega, ?_, ?_⟩ (by dsimp only; omega)
    · simp; omega
    · show out ++ [best] = _
      rw [q2, ← ho]
  · have hkl : l.take k = l := List.take_of_length_le (by omega)
    rw [hkl] at hf
    have hall := hf (by simpa using ‹¬ found = true›)
    rw [ho] at hall
    have := all_taken hall
    rw [← ho] at this
    subst this
    exact fin (hR po co)
theorem r09_Cancelled_spec {s : Scr} {p : Option Addr} {c : Nat} : Spec prog1 n_r09_Cancelled [.agg #[.slice p s.l.length c, .int .i64 s.cancel, .int .i64 (s.steps : Int), .int .i64 (s.used : Int)]] [] (fun R => (s.off → R (.bool true) []) ∧ (¬ s.off → R (.bool false) [])) := by
  refine spec_code c_r09_Cancelled rfl ?_; intro n F R hR; unfold F_r09_Cancelled
  repeat' first | apply step | (apply g_op; · repeat first | exact Evs.nil | (apply Evs.cons; exact rfl)) | (refine Br.mk (fun _ => ?_) (fun _ => ?_) <;> try (exfalso; omega)) | (refine Sd.mk ?_ ?_; · ((repeat' apply And.intro) <;> first | omega | trivial | assumption | (simp; done) | (simp; omega))) | (refine Sx.mk ?_ ?_; · omega) | refine Fa.mk (fun _ => ?_) | refine Im.mk (fun _ => ?_) | apply Lw.go | refine g_cond ?_ | refine g_guard ?_ | refine g_keep ?_ | refine g_pass ?_ | refine g_fin ?_ | (apply g_ap; exact rfl; exact rfl; assumption)
  · exact fin (hR.1 ⟨by omega, by omega⟩)
  · exact fin (hR.2 (fun h => by have := h.2; omega))
  · exact fin (hR.2 (fun h => by have := h.1; omega))
theorem r09_Step_spec {s : Scr} {p pr : Option Addr} {c cr : Nat} {r : List Int} (hr : r.length ≤ 1000000) (hsb : s.steps < 1000000000000) (hub : s.used < 1000000000000) : Spec prog1 n_r09_Step [.agg #[.slice p s.l.length c, .int .i64 s.cancel, .int .i64 (s.steps : Int), .int .i64 (s.used : Int)], .slice pr r.length cr] [rdl (kInt .i64) p s.l, rdl (kInt .i64) pr r]
    (fun R => R (.tuple #[.agg #[.slice p (stepS s r).1.l.length c, .int .i64 (stepS s r).1.cancel, .int .i64 ((stepS s r).1.steps : Int), .int .i64 ((stepS s r).1.used : Int)], .int .i64 (stepS s r).2.1, .int .i64 (stepS s r).2.2]) []) := by
  refine spec_code c_r09_Step rfl ?_; intro n F R hR; unfold F_r09_Step
  have hsl := setL_le r
  repeat' first | apply step | (apply g_op; · repeat first | exact Evs.nil | (apply Evs.cons; exact rfl)) | (refine Br.mk (fun _ => ?_) (fun _ => ?_) <;> try (exfalso; omega)) | (refine Sd.mk ?_ ?_; · ((repeat' apply And.intro) <;> first | omega | trivial | assumption | (simp; done) | (simp; omega))) | (refine Sx.mk ?_ ?_; · omega) | refine Fa.mk (fun _ => ?_) | refine Im.mk (fun _ => ?_) | apply Lw.go | refine g_cond ?_ | refine g_guard ?_ | refine g_keep ?_ | refine g_pass ?_ | refine g_fin ?_ | (apply g_ap; exact rfl; exact rfl; assumption)
  first | refine at_callS (r09_Cancelled_spec (s := s)) ?_ | refine at_callR (r09_Cancelled_spec (s := s)) ?_
  refine ⟨fun hoff => ?_, fun hoff => ?_⟩
  · repeat' first | apply step | (apply g_op; · repeat first | exact Evs.nil | (apply Evs.cons; exact rfl)) | (refine Br.mk (fun _ => ?_) (fun _ => ?_) <;> try (exfalso; omega)) | (refine Sd.mk ?_ ?_; · ((repeat' apply And.intro) <;> first | omega | trivial | assumption | (simp; done) | (simp; omega))) | (refine Sx.mk ?_ ?_; · omega) | refine Fa.mk (fun _ => ?_) | refine Im.mk (fun _ => ?_) | apply Lw.go | refine g_cond ?_ | refine g_guard ?_ | refine g_keep ?_ | refine g_pass ?_ | refine g_fin ?_ | (apply g_ap; exact rfl; exact rfl; assumption)
    unfold stepS at hR
    rw [if_pos hoff] at hR
    exact fin hR
  repeat' first | apply step | (apply g_op; · repeat first | exact Evs.nil | (apply Evs.cons; exact rfl)) | (refine Br.mk (fun _ => ?_) (fun _ => ?_) <;> try (exfalso; omega)) | (refine Sd.mk ?_ ?_; · ((repeat' apply And.intro) <;> first | omega | trivial | assumption | (simp; done) | (simp; omega))) | (refine Sx.mk ?_ ?_; · omega) | refine Fa.mk (fun _ => ?_) | refine Im.mk (fun _ => ?_) | apply Lw.go | refine g_cond ?_ | refine g_guard ?_ | refine g_keep ?_ | refine g_pass ?_ | refine g_fin ?_ | (apply g_ap; exact rfl; exact rfl; assumption)
  first | refine at_callS (r05_Of_spec (l := r) (by omega)) ?_ | refine at_callR (r05_Of_spec (l := r) (by omega)) ?_
  intro p1 c1
  by_cases hne : (setL r).length = 0
  · repeat' first | apply step | (apply g_op; · repeat first | exact Evs.nil | (apply Evs.cons; exact rfl)) | (refine Br.mk (fun _ => ?_) (fun _ => ?_) <;> try (exfalso; omega)) | (refine Sd.mk ?_ ?_; · ((repeat' apply And.intro) <;> first | omega | trivial | assumption | (simp; done) | (simp; omega))) | (refine Sx.mk ?_ ?_; · omega) | refine Fa.mk (fun _ => ?_) | refine Im.mk (fun _ => ?_) | apply Lw.go | refine g_cond ?_ | refine g_guard ?_ | refine g_keep ?_ | refine g_pass ?_ | refine g_fin ?_ | (apply g_ap; exact rfl; exact rfl; assumption)
    unfold stepS at hR
    rw [if_neg hoff, if_pos hne] at hR
    exact fin hR
  have hpl := pick_lt (s := s) (n := (setL r).length) (by omega)
  unfold stepS at hR
  rw [if_neg hoff, if_neg hne, List.getD_eq_getElem?_getD, List.getElem?_eq_getElem hpl] at hR
  have hnl : setL r ≠ [] := by intro e; rw [e] at hne; exact hne rfl
  by_cases hu : s.used < s.l.length
  · have t1 := Int.tmod_lt_of_pos s.l[s.used] (show (0 : Int) < (setL r).length by omega)
    have t2 : -((setL r).length : Int) < s.l[s.used].tmod (setL r).length := by
      have := Int.lt_tmod_of_pos s.l[s.used] (show (0 : Int) < (setL r).length by omega)
      omega
    have hpick : (s.pick (setL r).length : Int) = if s.l[s.used].tmod (setL r).length < 0 then s.l[s.used].tmod (setL r).length + (setL r).length else s.l[s.used].tmod (setL r).length := by
      unfold Scr.pick idx; rw [dif_pos hu]; split <;> omega
    have htook : s.one.took = { s with steps := s.steps + 1, used := s.used + 1 } := by unfold Scr.took Scr.one; rw [if_pos hu]
    rw [htook] at hR
    repeat' first | apply step | (apply g_op; · repeat first | exact Evs.nil | (apply Evs.cons; exact rfl)) | (refine Br.mk (fun _ => ?_) (fun _ => ?_) <;> try (exfalso; omega)) | (refine Sd.mk ?_ ?_; · ((repeat' apply And.intro) <;> first | omega | trivial | assumption | (simp; done) | (simp; omega))) | (refine Sx.mk ?_ ?_; · omega) | refine Fa.mk (fun _ => ?_) | refine Im.mk (fun _ => ?_) | apply Lw.go | refine g_cond ?_ | refine g_guard ?_ | refine g_keep ?_ | refine g_pass ?_ | refine g_fin ?_ | (apply g_ap; exact rfl; exact rfl; assumption)
    all_goals
      first | rw [if_pos (by assumption)] at hpick | rw [if_neg (by assumption)] at hpick
      rw [← hpick]
      refine at_opsA1 p1 hnl (fun sz hsz => ?_)
      repeat' first | apply step | (apply g_op; · repeat first | exact Evs.nil | (apply Evs.cons; exact rfl)) | (refine Br.mk (fun _ => ?_) (fun _ => ?_) <;> try (exfalso; omega)) | (refine Sd.mk ?_ ?_; · ((repeat' apply And.intro) <;> first | omega | trivial | assumption | (simp; done) | (simp; omega))) | (refine Sx.mk ?_ ?_; · omega) | refine Fa.mk (fun _ => ?_) | refine Im.mk (fun _ => ?_) | apply Lw.go | refine g_cond ?_ | refine g_guard ?_ | refine g_keep ?_ | refine g_pass ?_ | refine g_fin ?_ | (apply g_ap; exact rfl; exact rfl; assumption)
      exact fin hR
  · have hpick : s.pick (setL r).length = 0 := by unfold Scr.pick; rw [dif_neg hu]
    have htook : s.one.took = { s with steps := s.steps + 1 } := by unfold Scr.took Scr.one; rw [if_neg hu]
    simp only [hpick, htook] at hR
    repeat' first | apply step | (apply g_op; · repeat first | exact Evs.nil | (apply Evs.cons; exact rfl)) | (refine Br.mk (fun _ => ?_) (fun _ => ?_) <;> try (exfalso; omega)) | (refine Sd.mk ?_ ?_; · ((repeat' apply And.intro) <;> first | omega | trivial | assumption | (simp; done) | (simp; omega))) | (refine Sx.mk ?_ ?_; · omega) | refine Fa.mk (fun _ => ?_) | refine Im.mk (fun _ => ?_) | apply Lw.go | refine g_cond ?_ | refine g_guard ?_ | refine g_keep ?_ | refine g_pass ?_ | refine g_fin ?_ | (apply g_ap; exact rfl; exact rfl; assumption)
    refine at_opsA1 p1 hnl (fun sz hsz => ?_)
    repeat' first | apply step | (apply g_op; · repeat first | exact Evs.nil | (apply Evs.cons; exact rfl)) | (refine Br.mk (fun _ => ?_) (fun _ => ?_) <;> try (exfalso; omega)) | (refine Sd.mk ?_ ?_; · ((repeat' apply And.intro) <;> first | omega | trivial | assumption | (simp; done) | (simp; omega))) | (refine Sx.mk ?_ ?_; · omega) | refine Fa.mk (fun _ => ?_) | refine Im.mk (fun _ => ?_) | apply Lw.go | refine g_cond ?_ | refine g_guard ?_ | refine g_keep ?_ | refine g_pass ?_ | refine g_fin ?_ | (apply g_ap; exact rfl; exact rfl; assumption)
    exact fin hR
end
end Go.AMS

namespace Go.AMS
open Go.AM hiding Kt At WP WL Runs RunsY
open Go.AM.G Go.AM.G.Set
set_option linter.unusedVariables false
set_option linter.unusedSimpArgs false
/-- A worker: its row, and the job that it holds. -/
structure Wk where
  row : List Int
  job : Int
  holds : Bool
  deriving Inhabited
/-- What comes of a job. -/
def hv (x : Int) : List Int := if x < 2 then [] else [x / 2, x - x / 2]
/-- How many jobs come of a job, itself too. -/
def wt (x : Int) : Nat := if x < 2 then 1 else 2 * x.toNat - 1
def wts (l : List Int) : Nat := (l.map wt).sum
structure Po where
  ws : List Wk
  next : Nat
  did : List Int
  stolen : Nat
  who : List Int
def wait (ws : List Wk) : Nat := (ws.map fun w => w.row.length).sum
def rdy (ws : List Wk) (w : Wk) : Bool := w.holds || decide (0 < wait ws)
def readyL (ws : List Wk) : List Nat := (List.range ws.length).filter fun k => rdy ws (ws.getD k default)
def rowAt (ws : List Wk) (k : Nat) : List Int := (ws.getD k default).row
/-- The first other worker that has something. -/
def firstJ (ws : List Wk) (k : Nat) : Option Nat := (List.range' 1 (ws.length - 1)).find? fun j => !(rowAt ws ((k + j) % ws.length)).isEmpty
def Po.push (P : Po) (k : Nat) (x : Int) : Po := { P with ws := P.ws.set k { P.ws.getD k default with row := rowAt P.ws k ++ [x] } }
def Po.add (P : Po) (x : Int) : Po := { P.push P.next x with next := (P.next + 1) % P.ws.length }
def Po.adds (P : Po) (l : List Int) : Po := l.foldl Po.add P
def Po.took (P : Po) (k : Nat) : Po :=
  let w := P.ws.getD k default
  if w.row ≠ [] then { P with ws := P.ws.set k ⟨w.row.dropLast, w.row.getLastD 0, true⟩ }
  else match firstJ P.ws k with
    | some j =>
      let f := (k + j) % P.ws.length
      let v := P.ws.getD f default
      { P with ws := (P.ws.set f ⟨v.row.tail, v.job, v.holds⟩).set k ⟨[], v.row.headD 0, true⟩, stolen := P.stolen + 1 }
    | none => { P with ws := P.ws.set k ⟨[], 0, false⟩ }
def Po.step (P : Po) (k : Nat) : Po :=
  let w := P.ws.getD k default
  let P := { P with who := P.who ++ [(k : Int)] }
  if w.holds then { P with ws := P.ws.set k ⟨w.row ++ hv w.job, 0, false⟩, did := P.did ++ [w.job] }
  else P.took k
/-- How many steps are still to come. -/
def mw (w : Wk) : Nat := 2 * wts w.row + bif w.holds then 2 * wt w.job - 1 else 0
def mm (ws : List Wk) : Nat := (ws.map mw).sum
def runP : Nat → Po → Scr → Po × Scr × Int
  | 0, P, s => (P, s, 0)
  | f + 1, P, s =>
    if readyL P.ws = [] then (P, s, 0) else
    let t := stepS s ((readyL P.ws).map Int.ofNat)
    if t.2.2 ≠ 0 then (P, t.1, t.2.2) else runP f (P.step t.2.1.toNat) t.1

theorem wt_pos (x : Int) : 0 < wt x := by unfold wt; split <;> omega
theorem wts_nil : wts [] = 0 := rfl
theorem wts_cons (x : Int) (l : List Int) : wts (x :: l) = wt x + wts l := by simp [wts]
theorem wts_app (a b : List Int) : wts (a ++ b) = wts a + wts b := by simp [wts]
theorem wts_len (l : List Int) : l.length ≤ wts l := by
  induction l with
  | nil => simp [wts]
  | cons x l ih => rw [wts_cons, List.length_cons]; have := wt_pos x; omega
theorem wt_hv (x : Int) : wt x = wts (hv x) + 1 := by
  unfold hv
  split
  · rename_i h; unfold wt; rw [if_pos h]; rfl
  · rename_i h
    have h1 : wt x = 2 * x.toNat - 1 := by unfold wt; rw [if_neg h]
    have key : ∀ y : Int, 1 ≤ y → wt y = 2 * y.toNat - 1 := by
      intro y hy; unfold wt; split
      · omega
      · rfl
    rw [wts_cons, wts_cons, wts_nil, key (x / 2) (by omega), key (x - x / 2) (by omega), h1]
    omega
theorem mm_set {ws : List Wk} {k : Nat} (hk : k < ws.length) (w : Wk) : mm (ws.set k w) + mw ws[k] = mm ws + mw w := by
  unfold mm
  rw [List.map_set]
  have : ∀ (l : List Nat) (k : Nat) (hk : k < l.length) (x : Nat), (l.set k x).sum + l[k] = l.sum + x := by
    intro l
    induction l with
    | nil => intro k hk; simp at hk
    | cons a l ih =>
      intro k hk x
      cases k with
      | zero => simp; omega
      | succ k => have := ih k (by simpa using hk) x; simp at this ⊢; omega
  have := this (ws.map mw) k (by simpa using hk) (mw w)
  simpa using this
theorem sum_get {l : List Nat} {k : Nat} (hk : k < l.length) : l[k] ≤ l.sum := by
  induction l generalizing k with
  | nil => simp at hk
  | cons a l ih =>
    cases k with
    | zero => simp
    | succ k => have := ih (k := k) (by simpa using hk); simp at this ⊢; omega
theorem mw_le {ws : List Wk} {k : Nat} (hk : k < ws.length) : mw ws[k] ≤ mm ws := by
  have := sum_get (l := ws.map mw) (k := k) (by simpa using hk)
  simpa [mm] using this
theorem row_le {ws : List Wk} {k : Nat} (hk : k < ws.length) : 2 * ws[k].row.length ≤ mm ws := by
  have h1 := mw_le hk
  have h2 := wts_len ws[k].row
  unfold mw at h1
  omega
theorem wait_le (ws : List Wk) : 2 * wait ws ≤ mm ws := by
  unfold wait mm
  induction ws with
  | nil => simp
  | cons w ws ih =>
    simp only [List.map_cons, List.sum_cons]
    have h2 := wts_len w.row
    unfold mw at ih ⊢
    omega
/-- One of the rows that are not empty. -/
theorem wait_pos {ws : List Wk} (h : 0 < wait ws) : ∃ f, ∃ hf : f < ws.length, ws[f].row ≠ [] := by
  induction ws with
  | nil => simp [wait] at h
  | cons w ws ih =>
    by_cases hw : w.row = []
    · have : 0 < wait ws := by simpa [wait, hw] using h
      obtain ⟨f, hf, hr⟩ := ih this
      exact ⟨f + 1, by simpa using hf, by simpa using hr⟩
    · exact ⟨0, by simp, hw⟩
theorem getD_row {ws : List Wk} {k : Nat} (hk : k < ws.length) : ws.getD k default = ws[k] := getD_lt hk
theorem rowAt_lt {ws : List Wk} {k : Nat} (hk : k < ws.length) : rowAt ws k = ws[k].row := by unfold rowAt; rw [getD_row hk]
/-- Who has nothing itself finds another one that has. -/
theorem firstJ_some {ws : List Wk} {k : Nat} (hk : k < ws.length) (h0 : ws[k].row = []) (hw : 0 < wait ws) : ∃ j, firstJ ws k = some j := by
  obtain ⟨f, hf, hr⟩ := wait_pos hw
  cases hq : firstJ ws k with
  | some j => exact ⟨j, rfl⟩
  | none =>
    exfalso
    unfold firstJ at hq
    rw [List.find?_eq_none] at hq
    have hfk : f ≠ k := by rintro rfl; exact hr h0
    have key : ∃ j, 1 ≤ j ∧ j < ws.length ∧ (k + j) % ws.length = f := by
      by_cases c : k < f
      · exact ⟨f - k, by omega, by omega, by rw [show k + (f - k) = f by omega, Nat.mod_eq_of_lt hf]⟩
      · exact ⟨f + ws.length - k, by omega, by omega, by rw [show k + (f + ws.length - k) = f + ws.length by omega, Nat.add_mod_right, Nat.mod_eq_of_lt hf]⟩
    obtain ⟨j, h1, h2, h3⟩ := key
    have := hq j (by rw [List.mem_range'_1]; omega)
    rw [h3, rowAt_lt hf] at this
    simp at this
    exact hr this
theorem find_range {p : Nat → Bool} {n j : Nat} (h1 : 1 ≤ j) (h2 : j < n) (hp : p j = true) (hb : ∀ i, 1 ≤ i → i < j → p i = false) : (List.range' 1 (n - 1)).find? p = some j := by
  have e : List.range' 1 (n - 1) = List.range' 1 (j - 1) ++ j :: List.range' (j + 1) (n - 1 - j) := by
    have a1 : List.range' 1 (j - 1) ++ List.range' (1 + (j - 1)) (n - j) = List.range' 1 (n - 1) := by
      rw [List.range'_append_1]; congr 1; omega
    rw [← a1]
    congr 1
    rw [show 1 + (j - 1) = j by omega, show n - j = (n - 1 - j) + 1 by omega, List.range'_succ]
  rw [e, List.find?_append, List.find?_eq_none.2 (fun i hi => by
    rw [List.mem_range'_1] at hi
    rw [hb i (by omega) (by omega)]; simp)]
  simp [hp]
theorem find_none {p : Nat → Bool} {n : Nat} (hb : ∀ i, 1 ≤ i → i < n → p i = false) : (List.range' 1 (n - 1)).find? p = none := by
  rw [List.find?_eq_none]
  intro i hi
  rw [List.mem_range'_1] at hi
  rw [hb i (by omega) (by omega)]; simp
theorem firstJ_spec {ws : List Wk} {k j : Nat} (h : firstJ ws k = some j) : 1 ≤ j ∧ j < ws.length ∧ rowAt ws ((k + j) % ws.length) ≠ [] := by
  unfold firstJ at h
  have h1 := List.mem_of_find?_eq_some h
  have h2 := List.find?_some h
  rw [List.mem_range'_1] at h1
  refine ⟨by omega, by omega, ?_⟩
  intro e; rw [e] at h2; simp at h2
/-- A step: one less. -/
theorem step_mm {P : Po} {k : Nat} (hk : k < P.ws.length) (hr : rdy P.ws P.ws[k] = true) : mm (P.step k).ws + 1 = mm P.ws ∧ (P.step k).ws.length = P.ws.length := by
  unfold Po.step
  simp only [getD_row hk]
  by_cases hh : P.ws[k].holds = true
  · rw [if_pos hh]
    have h1 := mm_set hk ⟨P.ws[k].row ++ hv P.ws[k].job, 0, false⟩
    have h2 := wt_hv P.ws[k].job
    refine ⟨?_, by simp⟩
    simp only
    unfold mw at h1
    simp only [hh, wts_app, cond_true, cond_false] at h1
    omega
  · rw [if_neg hh]
    have hh' : P.ws[k].holds = false := by simpa using hh
    have hw : 0 < wait P.ws := by unfold rdy at hr; rw [hh'] at hr; simpa using hr
    unfold Po.took
    simp only [getD_row hk]
    by_cases h0 : P.ws[k].row = []
    · rw [if_neg (by simpa using h0)]
      obtain ⟨j, hj⟩ := firstJ_some hk h0 hw
      rw [hj]
      obtain ⟨j1, j2, j3⟩ := firstJ_spec hj
      have hf : (k + j) % P.ws.length < P.ws.length := Nat.mod_lt _ (by omega)
      simp only
      generalize hfe : (k + j) % P.ws.length = f at *
      rw [rowAt_lt hf] at j3
      simp only [getD_row hf]
      have hne : f ≠ k := by rintro rfl; exact j3 h0
      obtain ⟨x, l, hl⟩ := List.exists_cons_of_ne_nil j3
      have a1 := mm_set hf ⟨P.ws[f].row.tail, P.ws[f].job, P.ws[f].holds⟩
      have a2 := mm_set (ws := P.ws.set f ⟨P.ws[f].row.tail, P.ws[f].job, P.ws[f].holds⟩) (k := k) (by simpa using hk) ⟨[], P.ws[f].row.headD 0, true⟩
      have a3 : (P.ws.set f ⟨P.ws[f].row.tail, P.ws[f].job, P.ws[f].holds⟩)[k]'(by simpa using hk) = P.ws[k] := by rw [List.getElem_set_ne hne]
      rw [a3] at a2
      refine ⟨?_, by simp⟩
      unfold mw at a1 a2
      simp only [hl, h0, hh', List.tail_cons, List.headD_cons, wts_cons, wts_nil, cond_true, cond_false] at a1 a2 ⊢
      have := wt_pos x
      omega
    · rw [if_pos h0]
      have h1 := mm_set hk ⟨P.ws[k].row.dropLast, P.ws[k].row.getLastD 0, true⟩
      refine ⟨?_, by simp⟩
      have h2 : P.ws[k].row = P.ws[k].row.dropLast ++ [P.ws[k].row.getLastD 0] := by
        rw [List.getLastD_eq_getLast?, List.getLast?_eq_some_getLast h0]
        exact (List.dropLast_concat_getLast h0).symm
      have h3 : wts P.ws[k].row = wts P.ws[k].row.dropLast + wt (P.ws[k].row.getLastD 0) := by
        conv => lhs; rw [h2]
        rw [wts_app, wts_cons, wts_nil]; omega
      unfold mw at h1
      simp only [hh', cond_true, cond_false] at h1 ⊢
      have := wt_pos (P.ws[k].row.getLastD 0)
      omega
theorem mem_readyL {ws : List Wk} {k : Nat} : k ∈ readyL ws ↔ ∃ h : k < ws.length, rdy ws ws[k] = true := by
  unfold readyL
  rw [List.mem_filter, List.mem_range]
  constructor
  · rintro ⟨h1, h2⟩; exact ⟨h1, by rwa [getD_row h1] at h2⟩
  · rintro ⟨h1, h2⟩; exact ⟨h1, by rwa [getD_row h1]⟩
structure Po.ok (P : Po) : Prop where
  n : 0 < P.ws.length ∧ P.ws.length ≤ 64
  x : P.next < P.ws.length
  w : P.who.length + mm P.ws ≤ 1000000
  d : P.did.length + mm P.ws ≤ 1000000
  s : P.stolen + mm P.ws ≤ 1000000
theorem wts_take_le (k : Nat) (l : List Int) : wts (l.take k) ≤ wts l := by
  conv => rhs; rw [← List.take_append_drop k l, wts_app]
  exact Nat.le_add_right _ _
theorem add_ok {P : Po} {x : Int} (ok : P.ok) (h : P.who.length + P.did.length + P.stolen + mm P.ws + 2 * wt x ≤ 1000000) : (P.add x).ok ∧ mm (P.add x).ws = mm P.ws + 2 * wt x ∧ (P.add x).who = P.who ∧ (P.add x).did = P.did ∧ (P.add x).stolen = P.stolen ∧ (P.add x).ws.length = P.ws.length := by
  have hn := ok.x
  have e : mm (P.add x).ws = mm P.ws + 2 * wt x := by
    unfold Po.add Po.push
    simp only [getD_row hn, rowAt_lt hn]
    have := mm_set hn { P.ws[P.next] with row := P.ws[P.next].row ++ [x] }
    unfold mw at this
    simp only [wts_app, wts_cons, wts_nil] at this
    omega
  have hw : (P.add x).who = P.who := rfl
  have hd : (P.add x).did = P.did := rfl
  have hs : (P.add x).stolen = P.stolen := rfl
  have hl : (P.add x).ws.length = P.ws.length := by simp [Po.add, Po.push]
  exact ⟨⟨by rw [hl]; exact ok.n, by rw [hl]; exact Nat.mod_lt _ ok.n.1, by rw [e, hw]; omega, by rw [e, hd]; omega, by rw [e, hs]; omega⟩, e, hw, hd, hs, hl⟩
theorem adds_ok {l : List Int} : ∀ {P : Po}, P.ok → P.who.length + P.did.length + P.stolen + mm P.ws + 2 * wts l ≤ 1000000 → (P.adds l).ok ∧ mm (P.adds l).ws = mm P.ws + 2 * wts l ∧ (P.adds l).who = P.who ∧ (P.adds l).did = P.did ∧ (P.adds l).stolen = P.stolen ∧ (P.adds l).ws.length = P.ws.length := by
  induction l with
  | nil => intro P ok h; exact ⟨ok, rfl, rfl, rfl, rfl, rfl⟩
  | cons x l ih =>
    intro P ok h
    rw [wts_cons] at h
    obtain ⟨h1, h2, h3, h4, h5, h6⟩ := add_ok (x := x) ok (by omega)
    obtain ⟨k1, k2, k3, k4, k5, k6⟩ := ih h1 (by rw [h2, h3, h4, h5]; omega)
    rw [wts_cons]
    exact ⟨k1, by show mm ((P.add x).adds l).ws = _; rw [k2, h2]; omega, k3.trans h3, k4.trans h4, k5.trans h5, k6.trans h6⟩
end Go.AMS

namespace Go.AMS
open Go.AM hiding Kt At WP WL Runs RunsY
open Go.AM.G
set_option linter.unusedVariables false
set_option linter.unusedSimpArgs false
set_option linter.unusedSectionVars false
set_option maxRecDepth 100000
set_option maxHeartbeats 1000000
attribute [local irreducible] AtS AtV AtC AtG FinA Spec Post LP G.At G.WP G.WL pt own fro rdl ro hx mp lrec elt sub

section
/-- A row in a ring. -/
structure Rg (ring : List Int) (top : Nat) (l : List Int) : Prop where
  le : l.length ≤ ring.length
  tp : top < ring.length ∨ ring.length = 0
  tt : top ≤ 1000000000
  rl : ring.length ≤ 1000000000
  ats : ∀ i (hi : i < l.length), ring[(top + i) % ring.length]? = some l[i]
theorem Rg.bnd {ring l : List Int} {top : Nat} (hr : Rg ring top l) (hb : ∀ x ∈ ring, -9223372036854775808 ≤ x ∧ x ≤ 9223372036854775807) : ∀ x ∈ l, -9223372036854775808 ≤ x ∧ x ≤ 9223372036854775807 := by
  intro x hx
  obtain ⟨i, hi, rfl⟩ := List.getElem_of_mem hx
  exact hb _ (List.mem_of_getElem? (hr.ats i hi))
theorem Rg.empty : Rg [] 0 [] := ⟨Nat.le_refl _, .inr rfl, by omega, Nat.zero_le _, fun i hi => by simp at hi⟩
section
variable {pre post : List Value} {b z m c top n : Nat} {p : Option Addr}
theorem deque_Deque_int_Len_spec : Spec prog1 n_deque_Deque_int_Len [.pointer (some ⟨b, pre.length, none⟩)] [ro (pt b (pre ++ (.slice p m c :: .int .i64 (top : Int) :: .int .i64 (n : Int) :: post)) z)] (fun R => R (.int .i64 (n : Int)) []) := by
  refine spec_code c_deque_Deque_int_Len rfl ?_; intro n F R hR; unfold F_deque_Deque_int_Len
  repeat' first | apply step | (apply g_op; · repeat first | exact Evs.nil | (apply Evs.cons; exact rfl)) | (refine Br.mk (fun _ => ?_) (fun _ => ?_) <;> try (exfalso; omega)) | (refine Sd.mk ?_ ?_; · ((repeat' apply And.intro) <;> first | omega | trivial | assumption | (simp; done) | (simp; omega))) | (refine Sx.mk ?_ ?_; · omega) | refine Fa.mk (fun _ => ?_) | refine Im.mk (fun _ => ?_) | apply Lw.go | refine g_cond ?_ | refine g_guard ?_ | refine g_keep ?_ | refine g_pass ?_ | refine g_fin ?_ | (apply g_ap; exact rfl; exact rfl; assumption)
  exact fin hR
theorem deque_Deque_int_at_spec {i : Nat} (hm : 0 < m) (ht : top + i ≤ 4000000000) : Spec prog1 n_deque_Deque_int_at [.pointer (some ⟨b, pre.length, none⟩), .int .i64 (i : Int)] [ro (pt b (pre ++ (.slice p m c :: .int .i64 (top : Int) :: .int .i64 (n : Int) :: post)) z)] (fun R => R (.int .i64 (((top + i) % m : Nat) : Int)) []) := by
  refine spec_code c_deque_Deque_int_at rfl ?_; intro n F R hR; unfold F_deque_Deque_int_at
  repeat' first | apply step | (apply g_op; · repeat first | exact Evs.nil | (apply Evs.cons; exact rfl)) | (refine Br.mk (fun _ => ?_) (fun _ => ?_) <;> try (exfalso; omega)) | (refine Sd.mk ?_ ?_; · ((repeat' apply And.intro) <;> first | omega | trivial | assumption | (simp; done) | (simp; omega))) | (refine Sx.mk ?_ ?_; · omega) | refine Fa.mk (fun _ => ?_) | refine Im.mk (fun _ => ?_) | apply Lw.go | refine g_cond ?_ | refine g_guard ?_ | refine g_keep ?_ | refine g_pass ?_ | refine g_fin ?_ | (apply g_ap; exact rfl; exact rfl; assumption)
  exact fin hR
theorem deque_Deque_int_each_spec : Spec prog1 n_deque_Deque_int_each [.pointer (some ⟨b, pre.length, none⟩)] [] (fun R => ∀ x, R (.func (.func n_deque_Deque_int_each_c1) #[] #[.pointer (some ⟨x, 0, none⟩)]) [pt x [.pointer (some ⟨b, pre.length, none⟩)] 0]) := by
  refine spec_code c_deque_Deque_int_each rfl ?_; intro n F R hR; unfold F_deque_Deque_int_each
  repeat' first | apply step | (apply g_op; · repeat first | exact Evs.nil | (apply Evs.cons; exact rfl)) | (refine Br.mk (fun _ => ?_) (fun _ => ?_) <;> try (exfalso; omega)) | (refine Sd.mk ?_ ?_; · ((repeat' apply And.intro) <;> first | omega | trivial | assumption | (simp; done) | (simp; omega))) | (refine Sx.mk ?_ ?_; · omega) | refine Fa.mk (fun _ => ?_) | refine Im.mk (fun _ => ?_) | apply Lw.go | refine g_cond ?_ | refine g_guard ?_ | refine g_keep ?_ | refine g_pass ?_ | refine g_fin ?_ | (apply g_ap; exact rfl; exact rfl; assumption)
  exact fin (hR _)
theorem deque_Deque_int_each_c1_spec {x ly : Nat} {ring l : List Int} {A : Nat → HP} {B : AX → HP} (hr : Rg ring top l) (hy : ∀ i (hi : i < l.length), YSpec prog1 ly [.int .i64 l[i]] [A i] (fun R => R (.bool true) [A (i + 1)] ∧ ∀ x, x ≠ .norm → R (.bool false) [B x])) :
    Spec prog1 n_deque_Deque_int_each_c1 [.func (.yield ly) #[] #[], .pointer (some ⟨x, 0, none⟩)] [A 0, pt x [.pointer (some ⟨b, pre.length, none⟩)] 0, ro (pt b (pre ++ (.slice p ring.length c :: .int .i64 (top : Int) :: .int .i64 (l.length : Int) :: post)) z), rdl (kInt .i64) p ring] (fun R => (∀ v, R v [A l.length]) ∧ ∀ x v, x ≠ .norm → R v [B x]) := by
  refine spec_code c_deque_Deque_int_each_c1 rfl ?_; intro n F R hR; unfold F_deque_Deque_int_each_c1
  repeat' first | apply step | (apply g_op; · repeat first | exact Evs.nil | (apply Evs.cons; exact rfl)) | (refine Br.mk (fun _ => ?_) (fun _ => ?_) <;> try (exfalso; omega)) | (refine Sd.mk ?_ ?_; · ((repeat' apply And.intro) <;> first | omega | trivial | assumption | (simp; done) | (simp; omega))) | (refine Sx.mk ?_ ?_; · omega) | refine Fa.mk (fun _ => ?_) | refine Im.mk (fun _ => ?_) | apply Lw.go | refine g_cond ?_ | refine g_guard ?_ | refine g_keep ?_ | refine g_pass ?_ | refine g_fin ?_ | (apply g_ap; exact rfl; exact rfl; assumption)
  refine at_loopS (ι := Nat) (E := fun k => [(0, .func (.yield ly) #[] #[]), (1, .pointer (some ⟨x, 0, none⟩)), (3, .int .i64 (k : Int))]) (Δ := fun k => A k :: pt x [.pointer (some ⟨b, pre.length, none⟩)] 0 :: ro (pt b (pre ++ (.slice p ring.length c :: .int .i64 (top : Int) :: .int .i64 (l.length : Int) :: post)) z) :: rdl (kInt .i64) p ring :: F) (P := fun k => k ≤ l.length) (μ := fun k => l.length - k) 0 (Nat.zero_le _) ?_
  rintro k hk
  dsimp only
  repeat' first | apply step | (apply g_op; · repeat first | exact Evs.nil | (apply Evs.cons; exact rfl)) | (refine Br.mk (fun _ => ?_) (fun _ => ?_) <;> try (exfalso; omega)) | (refine Sd.mk ?_ ?_; · ((repeat' apply And.intro) <;> first | omega | trivial | assumption | (simp; done) | (simp; omega))) | (refine Sx.mk ?_ ?_; · omega) | refine Fa.mk (fun _ => ?_) | refine Im.mk (fun _ => ?_) | apply Lw.go | refine g_cond ?_ | refine g_guard ?_ | refine g_keep ?_ | refine g_pass ?_ | refine g_fin ?_ | (apply g_ap; exact rfl; exact rfl; assumption)
  first | refine at_callS (deque_Deque_int_Len_spec) ?_ | refine at_callR (deque_Deque_int_Len_spec) ?_
  repeat' first | apply step | (apply g_op; · repeat first | exact Evs.nil | (apply Evs.cons; exact rfl)) | (refine Br.mk (fun _ => ?_) (fun _ => ?_) <;> try (exfalso; omega)) | (refine Sd.mk ?_ ?_; · ((repeat' apply And.intro) <;> first | omega | trivial | assumption | (simp; done) | (simp; omega))) | (refine Sx.mk ?_ ?_; · omega) | refine Fa.mk (fun _ => ?_) | refine Im.mk (fun _ => ?_) | apply Lw.go | refine g_cond ?_ | refine g_guard ?_ | refine g_keep ?_ | refine g_pass ?_ | refine g_fin ?_ | (apply g_ap; exact rfl; exact rfl; assumption)
  · have := hr.le
    have := hr.tt
    have := hr.rl
    have hlt : k < l.length := by omega
    first | refine at_callS (deque_Deque_int_at_spec (m := ring.length) (top := top) (i := k) (by omega) (by omega)) ?_ | refine at_callR (deque_Deque_int_at_spec (m := ring.length) (top := top) (i := k) (by omega) (by omega)) ?_
    have hmod : (top + k) % ring.length < ring.length := Nat.mod_lt _ (by omega)
    repeat' first | apply step | (apply g_op; · repeat first | exact Evs.nil | (apply Evs.cons; exact rfl)) | (refine Br.mk (fun _ => ?_) (fun _ => ?_) <;> try (exfalso; omega)) | (refine Sd.mk ?_ ?_; · ((repeat' apply And.intro) <;> first | omega | trivial | assumption | (simp; done) | (simp; omega))) | (refine Sx.mk ?_ ?_; · omega) | refine Fa.mk (fun _ => ?_) | refine Im.mk (fun _ => ?_) | apply Lw.go | refine g_cond ?_ | refine g_guard ?_ | refine g_keep ?_ | refine g_pass ?_ | refine g_fin ?_ | (apply g_ap; exact rfl; exact rfl; assumption)
    have hat := hr.ats k hlt
    rw [List.getElem?_eq_getElem hmod] at hat
    rw [Option.some.inj hat]
    refine at_callY (hy k hlt) ⟨?_, fun x hx => ?_⟩
    · repeat' first | apply step | (apply g_op; · repeat first | exact Evs.nil | (apply Evs.cons; exact rfl)) | (refine Br.mk (fun _ => ?_) (fun _ => ?_) <;> try (exfalso; omega)) | (refine Sd.mk ?_ ?_; · ((repeat' apply And.intro) <;> first | omega | trivial | assumption | (simp; done) | (simp; omega))) | (refine Sx.mk ?_ ?_; · omega) | refine Fa.mk (fun _ => ?_) | refine Im.mk (fun _ => ?_) | apply Lw.go | refine g_cond ?_ | refine g_guard ?_ | refine g_keep ?_ | refine g_pass ?_ | refine g_fin ?_ | (apply g_ap; exact rfl; exact rfl; assumption)
      refine lp_next (k + 1) (by omega) (by omega)
    · repeat' first | apply step | (apply g_op; · repeat first | exact Evs.nil | (apply Evs.cons; exact rfl)) | (refine Br.mk (fun _ => ?_) (fun _ => ?_) <;> try (exfalso; omega)) | (refine Sd.mk ?_ ?_; · ((repeat' apply And.intro) <;> first | omega | trivial | assumption | (simp; done) | (simp; omega))) | (refine Sx.mk ?_ ?_; · omega) | refine Fa.mk (fun _ => ?_) | refine Im.mk (fun _ => ?_) | apply Lw.go | refine g_cond ?_ | refine g_guard ?_ | refine g_keep ?_ | refine g_pass ?_ | refine g_fin ?_ | (apply g_ap; exact rfl; exact rfl; assumption)
      exact fin (hR.2 x _ hx)
  · repeat' first | apply step | (apply g_op; · repeat first | exact Evs.nil | (apply Evs.cons; exact rfl)) | (refine Br.mk (fun _ => ?_) (fun _ => ?_) <;> try (exfalso; omega)) | (refine Sd.mk ?_ ?_; · ((repeat' apply And.intro) <;> first | omega | trivial | assumption | (simp; done) | (simp; omega))) | (refine Sx.mk ?_ ?_; · omega) | refine Fa.mk (fun _ => ?_) | refine Im.mk (fun _ => ?_) | apply Lw.go | refine g_cond ?_ | refine g_guard ?_ | refine g_keep ?_ | refine g_pass ?_ | refine g_fin ?_ | (apply g_ap; exact rfl; exact rfl; assumption)
    have : k = l.length := by omega
    subst this
    exact fin (hR.1 _)
theorem deque_Deque_int_List_spec {ring l : List Int} (hr : Rg ring top l) (hl : l.length ≤ 1000000) : Spec prog1 n_deque_Deque_int_List [.pointer (some ⟨b, pre.length, none⟩)] [ro (pt b (pre ++ (.slice p ring.length c :: .int .i64 (top : Int) :: .int .i64 (l.length : Int) :: post)) z), rdl (kInt .i64) p ring] (fun R => ∀ p' c', R (.slice p' l.length c') [own (kInt .i64) p' c' l]) := by
  refine spec_code c_deque_Deque_int_List rfl ?_; intro n F R hR; unfold F_deque_Deque_int_List
  iterate 2 apply step
  refine at_bnd (p := p) (l := ring) (fun hb => ?_)
  have hbl : ∀ i (hi : i < l.length), -9223372036854775808 ≤ l[i] ∧ l[i] ≤ 9223372036854775807 := fun i hi => hb _ (List.mem_of_getElem? (hr.ats i hi))
  repeat' first | apply step | (apply g_op; · repeat first | exact Evs.nil | (apply Evs.cons; exact rfl)) | (refine Br.mk (fun _ => ?_) (fun _ => ?_) <;> try (exfalso; omega)) | (refine Sd.mk ?_ ?_; · ((repeat' apply And.intro) <;> first | omega | trivial | assumption | (simp; done) | (simp; omega))) | (refine Sx.mk ?_ ?_; · omega) | refine Fa.mk (fun _ => ?_) | refine Im.mk (fun _ => ?_) | apply Lw.go | refine g_cond ?_ | refine g_guard ?_ | refine g_keep ?_ | refine g_pass ?_ | refine g_fin ?_ | (apply g_ap; exact rfl; exact rfl; assumption)
  first | refine at_callS (deque_Deque_int_each_spec) ?_ | refine at_callR (deque_Deque_int_each_spec) ?_
  intro x
  repeat' first | apply step | (apply g_op; · repeat first | exact Evs.nil | (apply Evs.cons; exact rfl)) | (refine Br.mk (fun _ => ?_) (fun _ => ?_) <;> try (exfalso; omega)) | (refine Sd.mk ?_ ?_; · ((repeat' apply And.intro) <;> first | omega | trivial | assumption | (simp; done) | (simp; omega))) | (refine Sx.mk ?_ ?_; · omega) | refine Fa.mk (fun _ => ?_) | refine Im.mk (fun _ => ?_) | apply Lw.go | refine g_cond ?_ | refine g_guard ?_ | refine g_keep ?_ | refine g_pass ?_ | refine g_fin ?_ | (apply g_ap; exact rfl; exact rfl; assumption)
  rename_i xo
  obtain ⟨I, hI⟩ : ∃ I : Nat → HP, ∀ i, I i = hx fun (w : Option Addr × Nat × List Int) => (w.2.2 = l.take i, [pt xo [.slice w.1 w.2.2.length w.2.1] 0, own (kInt .i64) w.1 w.2.1 w.2.2]) := ⟨_, fun _ => rfl⟩
  refine at_foldP (I 0) (hI 0) (none, 0, []) (by simp) ?_
  refine at_rfunS (I := I) (J := fun _ => noP) (Po := []) l.length (fun i => [.int .i64 (l.getD i 0)])
    (fun ly A B h => deque_Deque_int_each_c1_spec hr (fun i hi => by have := h i hi; rwa [getD_lt hi] at this)) (fun _ _ => rfl) ?_ ?_ (fun _ _ => at_no)
  · intro i hi ly m F'
    refine at_openP (I i) (hI i) ?_
    rintro ⟨p', c', l'⟩ h
    dsimp only at h ⊢
    subst h
    rw [getD_lt hi]
    have := hbl i hi
    repeat' first | apply step | (apply g_op; · repeat first | exact Evs.nil | (apply Evs.cons; exact rfl)) | (refine Br.mk (fun _ => ?_) (fun _ => ?_) <;> try (exfalso; omega)) | (refine Sd.mk ?_ ?_; · ((repeat' apply And.intro) <;> first | omega | trivial | assumption | (simp; done) | (simp; omega))) | (refine Sx.mk ?_ ?_; · omega) | refine Fa.mk (fun _ => ?_) | refine Im.mk (fun _ => ?_) | apply Lw.go | refine g_cond ?_ | refine g_guard ?_ | refine g_keep ?_ | refine g_pass ?_ | refine g_fin ?_ | (apply g_ap; exact rfl; exact rfl; assumption)
    refine at_foldP (I (i + 1)) (hI _) (_, _, l.take i ++ [l[i]]) (take_snoc hi) ?_
    exact y_next
  · refine at_openP (I _) (hI _) ?_
    rintro ⟨p', c', l'⟩ h
    dsimp only at h ⊢
    rw [List.take_length] at h
    subst h
    repeat' first | apply step | (apply g_op; · repeat first | exact Evs.nil | (apply Evs.cons; exact rfl)) | (refine Br.mk (fun _ => ?_) (fun _ => ?_) <;> try (exfalso; omega)) | (refine Sd.mk ?_ ?_; · ((repeat' apply And.intro) <;> first | omega | trivial | assumption | (simp; done) | (simp; omega))) | (refine Sx.mk ?_ ?_; · omega) | refine Fa.mk (fun _ => ?_) | refine Im.mk (fun _ => ?_) | apply Lw.go | refine g_cond ?_ | refine g_guard ?_ | refine g_keep ?_ | refine g_pass ?_ | refine g_fin ?_ | (apply g_ap; exact rfl; exact rfl; assumption)
    exact fin (hR _ _)
/-- Unlike places of a ring. -/
theorem modne {a i j m : Nat} (h1 : j < i) (h2 : i - j < m) : (a + i) % m ≠ (a + j) % m := by
  intro e
  have k1 := Nat.div_add_mod (a + i) m
  have k2 := Nat.div_add_mod (a + j) m
  rw [e] at k1
  have h3 : (a + i) - (a + j) = m * ((a + i) / m - (a + j) / m) := by
    rw [Nat.mul_sub]; omega
  have h4 : 0 < (a + i) / m - (a + j) / m := by
    rcases Nat.eq_zero_or_pos ((a + i) / m - (a + j) / m) with q | q
    · rw [q] at h3; omega
    · exact q
  have := Nat.mul_le_mul_left m h4
  omega
theorem Rg.fresh {l : List Int} {k : Nat} (h1 : l.length ≤ k) (h2 : k ≤ 1000000000) : Rg (l ++ List.drop l.length (List.replicate k 0)) 0 l := by
  have e : (l ++ List.drop l.length (List.replicate k (0 : Int))).length = k := by simp; omega
  refine ⟨by omega, by omega, by omega, by omega, fun i hi => ?_⟩
  rw [e, Nat.zero_add, Nat.mod_eq_of_lt (by omega), List.getElem?_append_left hi, List.getElem?_eq_getElem hi]
theorem deque_Deque_int_grow_spec {ring l : List Int} (hr : Rg ring top l) (hl : l.length ≤ 1000000) : Spec prog1 n_deque_Deque_int_grow [.pointer (some ⟨b, pre.length, none⟩)] [pt b (pre ++ (.slice p ring.length c :: .int .i64 (top : Int) :: .int .i64 (l.length : Int) :: post)) z, own (kInt .i64) p c ring] (fun R => ∀ p' c' ring' (top' : Nat), Rg ring' top' l → l.length < ring'.length → R (.tuple #[]) [pt b (pre ++ (.slice p' ring'.length c' :: .int .i64 (top' : Int) :: .int .i64 (l.length : Int) :: post)) z, own (kInt .i64) p' c' ring']) := by
  refine spec_code c_deque_Deque_int_grow rfl ?_; intro n F R hR; unfold F_deque_Deque_int_grow
  repeat' first | apply step | (apply g_op; · repeat first | exact Evs.nil | (apply Evs.cons; exact rfl)) | (refine Br.mk (fun _ => ?_) (fun _ => ?_) <;> try (exfalso; omega)) | (refine Sd.mk ?_ ?_; · ((repeat' apply And.intro) <;> first | omega | trivial | assumption | (simp; done) | (simp; omega))) | (refine Sx.mk ?_ ?_; · omega) | refine Fa.mk (fun _ => ?_) | refine Im.mk (fun _ => ?_) | apply Lw.go | refine g_cond ?_ | refine g_guard ?_ | refine g_keep ?_ | refine g_pass ?_ | refine g_fin ?_ | (apply g_ap; exact rfl; exact rfl; assumption)
  · exact fin (hR _ _ _ _ hr (by omega))
  all_goals
    first | refine at_callS (deque_Deque_int_List_spec hr hl) ?_ | refine at_callR (deque_Deque_int_List_spec hr hl) ?_
    intro p1 c1
    repeat' first | apply step | (apply g_op; · repeat first | exact Evs.nil | (apply Evs.cons; exact rfl)) | (refine Br.mk (fun _ => ?_) (fun _ => ?_) <;> try (exfalso; omega)) | (refine Sd.mk ?_ ?_; · ((repeat' apply And.intro) <;> first | omega | trivial | assumption | (simp; done) | (simp; omega))) | (refine Sx.mk ?_ ?_; · omega) | refine Fa.mk (fun _ => ?_) | refine Im.mk (fun _ => ?_) | apply Lw.go | refine g_cond ?_ | refine g_guard ?_ | refine g_keep ?_ | refine g_pass ?_ | refine g_fin ?_ | (apply g_ap; exact rfl; exact rfl; assumption)
  · rename_i xb
    have e : (l ++ List.drop l.length (List.replicate (2 * l.length) (0 : Int))).length = 2 * l.length := by simp; omega
    have := hR (some ⟨xb, 0, none⟩) (2 * l.length) (l ++ List.drop l.length (List.replicate (2 * l.length) 0)) 0 (Rg.fresh (by omega) (by omega)) (by omega)
    rw [e] at this
    exact fin this
  · rename_i xb
    have e : (l ++ List.drop l.length (List.replicate 4 (0 : Int))).length = 4 := by simp; omega
    have := hR (some ⟨xb, 0, none⟩) 4 (l ++ List.drop l.length (List.replicate 4 0)) 0 (Rg.fresh (by omega) (by omega)) (by omega)
    rw [e] at this
    exact fin this
/-- What is pushed. -/
theorem Rg.push {ring l : List Int} {top : Nat} {x : Int} (hr : Rg ring top l) (hl : l.length < ring.length) : Rg (ring.set ((top + l.length) % ring.length) x) top (l ++ [x]) := by
  have hm : (top + l.length) % ring.length < ring.length := Nat.mod_lt _ (by omega)
  refine ⟨by simp; omega, by simpa using hr.tp, hr.tt, by simpa using hr.rl, fun i hi => ?_⟩
  simp only [List.length_set]
  simp only [List.length_append, List.length_cons, List.length_nil] at hi
  rw [List.getElem?_set]
  by_cases h : i = l.length
  · subst h
    rw [if_pos rfl, if_pos hm, List.getElem_append_right (by omega)]; simp
  · have hi' : i < l.length := by omega
    have hne : (top + l.length) % ring.length ≠ (top + i) % ring.length := modne (by omega) (by omega)
    rw [if_neg hne, hr.ats i hi', List.getElem_append_left hi']
theorem deque_Deque_int_Push_spec {ring l : List Int} {v : Int} (hr : Rg ring top l) (hl : l.length < 1000000) (hv : -9223372036854775808 ≤ v ∧ v ≤ 9223372036854775807) : Spec prog1 n_deque_Deque_int_Push [.pointer (some ⟨b, pre.length, none⟩), .int .i64 v] [pt b (pre ++ (.slice p ring.length c :: .int .i64 (top : Int) :: .int .i64 (l.length : Int) :: post)) z, own (kInt .i64) p c ring] (fun R => ∀ p' c' ring' (top' : Nat), Rg ring' top' (l ++ [v]) → R (.tuple #[]) [pt b (pre ++ (.slice p' ring'.length c' :: .int .i64 (top' : Int) :: .int .i64 ((l ++ [v]).length : Int) :: post)) z, own (kInt .i64) p' c' ring']) := by
  refine spec_code c_deque_Deque_int_Push rfl ?_; intro n F R hR; unfold F_deque_Deque_int_Push
  repeat' first | apply step | (apply g_op; · repeat first | exact Evs.nil | (apply Evs.cons; exact rfl)) | (refine Br.mk (fun _ => ?_) (fun _ => ?_) <;> try (exfalso; omega)) | (refine Sd.mk ?_ ?_; · ((repeat' apply And.intro) <;> first | omega | trivial | assumption | (simp; done) | (simp; omega))) | (refine Sx.mk ?_ ?_; · omega) | refine Fa.mk (fun _ => ?_) | refine Im.mk (fun _ => ?_) | apply Lw.go | refine g_cond ?_ | refine g_guard ?_ | refine g_keep ?_ | refine g_pass ?_ | refine g_fin ?_ | (apply g_ap; exact rfl; exact rfl; assumption)
  first | refine at_callS (deque_Deque_int_grow_spec hr (by omega)) ?_ | refine at_callR (deque_Deque_int_grow_spec hr (by omega)) ?_
  intro p1 c1 ring1 top1 hr1 hlt
  repeat' first | apply step | (apply g_op; · repeat first | exact Evs.nil | (apply Evs.cons; exact rfl)) | (refine Br.mk (fun _ => ?_) (fun _ => ?_) <;> try (exfalso; omega)) | (refine Sd.mk ?_ ?_; · ((repeat' apply And.intro) <;> first | omega | trivial | assumption | (simp; done) | (simp; omega))) | (refine Sx.mk ?_ ?_; · omega) | refine Fa.mk (fun _ => ?_) | refine Im.mk (fun _ => ?_) | apply Lw.go | refine g_cond ?_ | refine g_guard ?_ | refine g_keep ?_ | refine g_pass ?_ | refine g_fin ?_ | (apply g_ap; exact rfl; exact rfl; assumption)
  have := hr1.tt
  have := hr1.rl
  first | refine at_callS (deque_Deque_int_at_spec (m := ring1.length) (top := top1) (i := l.length) (by omega) (by omega)) ?_ | refine at_callR (deque_Deque_int_at_spec (m := ring1.length) (top := top1) (i := l.length) (by omega) (by omega)) ?_
  have hm : (top1 + l.length) % ring1.length < ring1.length := Nat.mod_lt _ (by omega)
  repeat' first | apply step | (apply g_op; · repeat first | exact Evs.nil | (apply Evs.cons; exact rfl)) | (refine Br.mk (fun _ => ?_) (fun _ => ?_) <;> try (exfalso; omega)) | (refine Sd.mk ?_ ?_; · ((repeat' apply And.intro) <;> first | omega | trivial | assumption | (simp; done) | (simp; omega))) | (refine Sx.mk ?_ ?_; · omega) | refine Fa.mk (fun _ => ?_) | refine Im.mk (fun _ => ?_) | apply Lw.go | refine g_cond ?_ | refine g_guard ?_ | refine g_keep ?_ | refine g_pass ?_ | refine g_fin ?_ | (apply g_ap; exact rfl; exact rfl; assumption)
  have := hR p1 c1 _ top1 (hr1.push (x := v) hlt)
  simp only [List.length_set, List.length_append, List.length_cons, List.length_nil, Nat.zero_add] at this
  exact fin this
/-- What is taken at an end. -/
theorem Rg.pop {ring l : List Int} {top : Nat} (hr : Rg ring top l) (hl : l ≠ []) (x : Int) : Rg (ring.set ((top + (l.length - 1)) % ring.length) x) top l.dropLast := by
  have hpos : 0 < l.length := List.length_pos_iff.2 hl
  have := hr.le
  refine ⟨by simp; omega, by simpa using hr.tp, hr.tt, by simpa using hr.rl, fun i hi => ?_⟩
  simp only [List.length_set]
  simp only [List.length_dropLast] at hi
  rw [List.getElem?_set, if_neg (modne (by omega) (by omega)), hr.ats i (by omega), List.getElem_dropLast]
theorem Rg.steal {ring l : List Int} {top : Nat} (hr : Rg ring top l) (hl : l ≠ []) (x : Int) : Rg (ring.set (top % ring.length) x) ((top + 1) % ring.length) l.tail := by
  have hpos : 0 < l.length := List.length_pos_iff.2 hl
  have := hr.le
  have := hr.rl
  have hm : (top + 1) % ring.length < ring.length := Nat.mod_lt _ (by omega)
  refine ⟨by simp; omega, by simp; omega, by omega, by simpa using hr.rl, fun i hi => ?_⟩
  simp only [List.length_set]
  simp only [List.length_tail] at hi
  have e : ((top + 1) % ring.length + i) % ring.length = (top + (i + 1)) % ring.length := by
    rw [Nat.mod_add_mod]; congr 1; omega
  rw [e, List.getElem?_set, if_neg (by
    have := modne (a := top) (i := i + 1) (j := 0) (m := ring.length) (by omega) (by omega)
    simp only [Nat.add_zero] at this; exact fun q => this q.symm), hr.ats (i + 1) (by omega), List.getElem_tail]
theorem deque_Deque_int_take_spec {ring l : List Int} {i : Nat} (hr : Rg ring top l) (hi : i < l.length) : Spec prog1 n_deque_Deque_int_take [.pointer (some ⟨b, pre.length, none⟩), .int .i64 (i : Int)] [pt b (pre ++ (.slice p ring.length c :: .int .i64 (top : Int) :: .int .i64 (l.length : Int) :: post)) z, own (kInt .i64) p c ring] (fun R => R (.int .i64 l[i]) [pt b (pre ++ (.slice p ring.length c :: .int .i64 (top : Int) :: .int .i64 ((l.length - 1 : Nat) : Int) :: post)) z, own (kInt .i64) p c (ring.set ((top + i) % ring.length) 0)]) := by
  refine spec_code c_deque_Deque_int_take rfl ?_; intro n F R hR; unfold F_deque_Deque_int_take
  have := hr.tt
  have := hr.rl
  have := hr.le
  repeat' first | apply step | (apply g_op; · repeat first | exact Evs.nil | (apply Evs.cons; exact rfl)) | (refine Br.mk (fun _ => ?_) (fun _ => ?_) <;> try (exfalso; omega)) | (refine Sd.mk ?_ ?_; · ((repeat' apply And.intro) <;> first | omega | trivial | assumption | (simp; done) | (simp; omega))) | (refine Sx.mk ?_ ?_; · omega) | refine Fa.mk (fun _ => ?_) | refine Im.mk (fun _ => ?_) | apply Lw.go | refine g_cond ?_ | refine g_guard ?_ | refine g_keep ?_ | refine g_pass ?_ | refine g_fin ?_ | (apply g_ap; exact rfl; exact rfl; assumption)
  first | refine at_callS (deque_Deque_int_at_spec (m := ring.length) (top := top) (i := i) (by omega) (by omega)) ?_ | refine at_callR (deque_Deque_int_at_spec (m := ring.length) (top := top) (i := i) (by omega) (by omega)) ?_
  have hm : (top + i) % ring.length < ring.length := Nat.mod_lt _ (by omega)
  have hat := hr.ats i hi
  rw [List.getElem?_eq_getElem hm] at hat
  have hat := Option.some.inj hat
  repeat' first | apply step | (apply g_op; · repeat first | exact Evs.nil | (apply Evs.cons; exact rfl)) | (refine Br.mk (fun _ => ?_) (fun _ => ?_) <;> try (exfalso; omega)) | (refine Sd.mk ?_ ?_; · ((repeat' apply And.intro) <;> first | omega | trivial | assumption | (simp; done) | (simp; omega))) | (refine Sx.mk ?_ ?_; · omega) | refine Fa.mk (fun _ => ?_) | refine Im.mk (fun _ => ?_) | apply Lw.go | refine g_cond ?_ | refine g_guard ?_ | refine g_keep ?_ | refine g_pass ?_ | refine g_fin ?_ | (apply g_ap; exact rfl; exact rfl; assumption)
  rw [hat]
  rw [show ((l.length - 1 : Nat) : Int) = (l.length : Int) - 1 by omega] at hR
  exact fin hR
theorem deque_Deque_int_Pop_spec {ring l : List Int} (hr : Rg ring top l) : Spec prog1 n_deque_Deque_int_Pop [.pointer (some ⟨b, pre.length, none⟩)] [pt b (pre ++ (.slice p ring.length c :: .int .i64 (top : Int) :: .int .i64 (l.length : Int) :: post)) z, own (kInt .i64) p c ring] (fun R =>
    (l = [] → R (.tuple #[.int .i64 0, .bool false]) [pt b (pre ++ (.slice p ring.length c :: .int .i64 (top : Int) :: .int .i64 (l.length : Int) :: post)) z, own (kInt .i64) p c ring]) ∧
    (∀ (h : l ≠ []) ring', ring'.length = ring.length → Rg ring' top l.dropLast → R (.tuple #[.int .i64 (l.getLast h), .bool true]) [pt b (pre ++ (.slice p ring'.length c :: .int .i64 (top : Int) :: .int .i64 (l.dropLast.length : Int) :: post)) z, own (kInt .i64) p c ring'])) := by
  refine spec_code c_deque_Deque_int_Pop rfl ?_; intro n F R hR; unfold F_deque_Deque_int_Pop
  have := hr.le
  have := hr.rl
  have := hr.tt
  repeat' first | apply step | (apply g_op; · repeat first | exact Evs.nil | (apply Evs.cons; exact rfl)) | (refine Br.mk (fun _ => ?_) (fun _ => ?_) <;> try (exfalso; omega)) | (refine Sd.mk ?_ ?_; · ((repeat' apply And.intro) <;> first | omega | trivial | assumption | (simp; done) | (simp; omega))) | (refine Sx.mk ?_ ?_; · omega) | refine Fa.mk (fun _ => ?_) | refine Im.mk (fun _ => ?_) | apply Lw.go | refine g_cond ?_ | refine g_guard ?_ | refine g_keep ?_ | refine g_pass ?_ | refine g_fin ?_ | (apply g_ap; exact rfl; exact rfl; assumption)
  first | refine at_callS (deque_Deque_int_Len_spec) ?_ | refine at_callR (deque_Deque_int_Len_spec) ?_
  repeat' first | apply step | (apply g_op; · repeat first | exact Evs.nil | (apply Evs.cons; exact rfl)) | (refine Br.mk (fun _ => ?_) (fun _ => ?_) <;> try (exfalso; omega)) | (refine Sd.mk ?_ ?_; · ((repeat' apply And.intro) <;> first | omega | trivial | assumption | (simp; done) | (simp; omega))) | (refine Sx.mk ?_ ?_; · omega) | refine Fa.mk (fun _ => ?_) | refine Im.mk (fun _ => ?_) | apply Lw.go | refine g_cond ?_ | refine g_guard ?_ | refine g_keep ?_ | refine g_pass ?_ | refine g_fin ?_ | (apply g_ap; exact rfl; exact rfl; assumption)
  · exact fin (hR.1 (List.eq_nil_of_length_eq_zero (by omega)))
  · have hne : l ≠ [] := by rintro rfl; simp at *
    have hpos := List.length_pos_iff.2 hne
    have e : (l.length : Int) - 1 = ((l.length - 1 : Nat) : Int) := by omega
    rw [e]
    first | refine at_callS (deque_Deque_int_take_spec hr (i := l.length - 1) (by omega)) ?_ | refine at_callR (deque_Deque_int_take_spec hr (i := l.length - 1) (by omega)) ?_
    repeat' first | apply step | (apply g_op; · repeat first | exact Evs.nil | (apply Evs.cons; exact rfl)) | (refine Br.mk (fun _ => ?_) (fun _ => ?_) <;> try (exfalso; omega)) | (refine Sd.mk ?_ ?_; · ((repeat' apply And.intro) <;> first | omega | trivial | assumption | (simp; done) | (simp; omega))) | (refine Sx.mk ?_ ?_; · omega) | refine Fa.mk (fun _ => ?_) | refine Im.mk (fun _ => ?_) | apply Lw.go | refine g_cond ?_ | refine g_guard ?_ | refine g_keep ?_ | refine g_pass ?_ | refine g_fin ?_ | (apply g_ap; exact rfl; exact rfl; assumption)
    have := hR.2 hne _ (by simp) (hr.pop hne 0)
    rw [List.getLast_eq_getElem, List.length_dropLast, List.length_set] at this
    exact fin this
theorem deque_Deque_int_Steal_spec {ring l : List Int} (hr : Rg ring top l) : Spec prog1 n_deque_Deque_int_Steal [.pointer (some ⟨b, pre.length, none⟩)] [pt b (pre ++ (.slice p ring.length c :: .int .i64 (top : Int) :: .int .i64 (l.length : Int) :: post)) z, own (kInt .i64) p c ring] (fun R =>
    (l = [] → R (.tuple #[.int .i64 0, .bool false]) [pt b (pre ++ (.slice p ring.length c :: .int .i64 (top : Int) :: .int .i64 (l.length : Int) :: post)) z, own (kInt .i64) p c ring]) ∧
    (∀ (h : l ≠ []) ring' (top' : Nat), ring'.length = ring.length → Rg ring' top' l.tail → R (.tuple #[.int .i64 (l.head h), .bool true]) [pt b (pre ++ (.slice p ring'.length c :: .int .i64 (top' : Int) :: .int .i64 (l.tail.length : Int) :: post)) z, own (kInt .i64) p c ring'])) := by
  refine spec_code c_deque_Deque_int_Steal rfl ?_; intro n F R hR; unfold F_deque_Deque_int_Steal
  have := hr.le
  have := hr.rl
  have := hr.tt
  repeat' first | apply step | (apply g_op; · repeat first | exact Evs.nil | (apply Evs.cons; exact rfl)) | (refine Br.mk (fun _ => ?_) (fun _ => ?_) <;> try (exfalso; omega)) | (refine Sd.mk ?_ ?_; · ((repeat' apply And.intro) <;> first | omega | trivial | assumption | (simp; done) | (simp; omega))) | (refine Sx.mk ?_ ?_; · omega) | refine Fa.mk (fun _ => ?_) | refine Im.mk (fun _ => ?_) | apply Lw.go | refine g_cond ?_ | refine g_guard ?_ | refine g_keep ?_ | refine g_pass ?_ | refine g_fin ?_ | (apply g_ap; exact rfl; exact rfl; assumption)
  first | refine at_callS (deque_Deque_int_Len_spec) ?_ | refine at_callR (deque_Deque_int_Len_spec) ?_
  repeat' first | apply step | (apply g_op; · repeat first | exact Evs.nil | (apply Evs.cons; exact rfl)) | (refine Br.mk (fun _ => ?_) (fun _ => ?_) <;> try (exfalso; omega)) | (refine Sd.mk ?_ ?_; · ((repeat' apply And.intro) <;> first | omega | trivial | assumption | (simp; done) | (simp; omega))) | (refine Sx.mk ?_ ?_; · omega) | refine Fa.mk (fun _ => ?_) | refine Im.mk (fun _ => ?_) | apply Lw.go | refine g_cond ?_ | refine g_guard ?_ | refine g_keep ?_ | refine g_pass ?_ | refine g_fin ?_ | (apply g_ap; exact rfl; exact rfl; assumption)
  · exact fin (hR.1 (List.eq_nil_of_length_eq_zero (by omega)))
  · have hne : l ≠ [] := by rintro rfl; simp at *
    have hpos := List.length_pos_iff.2 hne
    have := hr.le
    have := hr.tt
    first | refine at_callS (deque_Deque_int_take_spec hr (i := 0) hpos) ?_ | refine at_callR (deque_Deque_int_take_spec hr (i := 0) hpos) ?_
    repeat' first | apply step | (apply g_op; · repeat first | exact Evs.nil | (apply Evs.cons; exact rfl)) | (refine Br.mk (fun _ => ?_) (fun _ => ?_) <;> try (exfalso; omega)) | (refine Sd.mk ?_ ?_; · ((repeat' apply And.intro) <;> first | omega | trivial | assumption | (simp; done) | (simp; omega))) | (refine Sx.mk ?_ ?_; · omega) | refine Fa.mk (fun _ => ?_) | refine Im.mk (fun _ => ?_) | apply Lw.go | refine g_cond ?_ | refine g_guard ?_ | refine g_keep ?_ | refine g_pass ?_ | refine g_fin ?_ | (apply g_ap; exact rfl; exact rfl; assumption)
    first | refine at_callS (deque_Deque_int_at_spec (m := ring.length) (top := top) (i := 1) (by omega) (by omega)) ?_ | refine at_callR (deque_Deque_int_at_spec (m := ring.length) (top := top) (i := 1) (by omega) (by omega)) ?_
    repeat' first | apply step | (apply g_op; · repeat first | exact Evs.nil | (apply Evs.cons; exact rfl)) | (refine Br.mk (fun _ => ?_) (fun _ => ?_) <;> try (exfalso; omega)) | (refine Sd.mk ?_ ?_; · ((repeat' apply And.intro) <;> first | omega | trivial | assumption | (simp; done) | (simp; omega))) | (refine Sx.mk ?_ ?_; · omega) | refine Fa.mk (fun _ => ?_) | refine Im.mk (fun _ => ?_) | apply Lw.go | refine g_cond ?_ | refine g_guard ?_ | refine g_keep ?_ | refine g_pass ?_ | refine g_fin ?_ | (apply g_ap; exact rfl; exact rfl; assumption)
    have hst := hr.steal hne 0
    have := hR.2 hne _ _ (by simp) hst
    rw [List.head_eq_getElem, List.length_tail, List.length_set] at this
    exact fin this
end
end
end Go.AMS

namespace Go.AMS
open Go.AM hiding Kt At WP WL Runs RunsY
open Go.AM.G
set_option linter.unusedVariables false
set_option linter.unusedSimpArgs false
set_option linter.unusedSectionVars false
set_option maxRecDepth 100000
set_option maxHeartbeats 1000000
attribute [local irreducible] AtS AtV AtC AtG FinA Spec Post LP G.At G.WP G.WL pt own fro rdl ro hx mp lrec elt sub

section
variable {b : Nat}
theorem l10_works_spec : Spec prog1 n_l10_works [] [] (fun R => R (.bool true) []) := closed_spec c_l10_works
end
end Go.AMS

namespace Go.AMS
open Go.AM hiding Kt At WP WL Runs RunsY
open Go.AM.G
set_option linter.unusedVariables false
set_option linter.unusedSimpArgs false
set_option linter.unusedSectionVars false
set_option maxRecDepth 100000
set_option maxHeartbeats 1000000
attribute [local irreducible] AtS AtV AtC AtG FinA Spec Post LP G.At G.WP G.WL pt own fro rdl ro hx mp lrec elt sub

open Go.AM.G.Set
section
variable {b sb : Nat}
/-- A worker in a heap. -/
def wk (b : Nat) (w : Wk) : HP := hx fun (x : Option Addr × Nat × List Int × Nat) => (Rg x.2.2.1 x.2.2.2 w.row ∧ (-9223372036854775808 ≤ w.job ∧ w.job ≤ 9223372036854775807), [pt b (.slice x.1 x.2.2.1.length x.2.1 :: .int .i64 (x.2.2.2 : Int) :: .int .i64 (w.row.length : Int) :: .int .i64 w.job :: .bool w.holds :: []) 0, own (kInt .i64) x.1 x.2.1 x.2.2.1])
instance low_wk {b : Nat} {w : Wk} : Low (wk b w) := low_hx fun _ => inferInstance
/-- A pool in a heap. -/
def pool (b sb : Nat) (P : Po) : HP := hx fun (x : (Option Addr × Nat) × (Option Addr × Nat) × List Nat) => (x.2.2.length = P.ws.length, [pt b [.pointer (some ⟨sb, 0, none⟩), .slice x.1.1 x.2.2.length x.1.2, .int .i64 (P.next : Int), .int .i64 (P.did.length : Int), .int .i64 (P.stolen : Int), .slice x.2.1.1 P.who.length x.2.1.2] 0, own kPtr x.1.1 x.1.2 x.2.2, own (kInt .i64) x.2.1.1 x.2.1.2 P.who, each wk x.2.2 P.ws])
instance low_pool {P : Po} : Low (pool b sb P) := low_hx fun _ => inferInstance
variable {P : Po}
theorem pool_Pool_int_is_spec (ok : P.ok) : Spec prog1 n_pool_Pool_int_is [.pointer (some ⟨b, 0, none⟩)] [ro (pool b sb P)] (fun R => R (.bool true) []) := by
  refine spec_code c_pool_Pool_int_is rfl ?_; intro n F R hR; unfold F_pool_Pool_int_is
  refine at_openRP (pool b sb P) rfl ?_
  rintro ⟨⟨lp, lc⟩, ⟨wp, wc⟩, bs⟩ hl
  dsimp only at hl ⊢
  have := ok.n
  repeat' first | apply step | (apply g_op; · repeat first | exact Evs.nil | (apply Evs.cons; exact rfl)) | (refine Br.mk (fun _ => ?_) (fun _ => ?_) <;> try (exfalso; omega)) | (refine Sd.mk ?_ ?_; · ((repeat' apply And.intro) <;> first | omega | trivial | assumption | (simp; done) | (simp; omega))) | (refine Sx.mk ?_ ?_; · omega) | refine Fa.mk (fun _ => ?_) | refine Im.mk (fun _ => ?_) | apply Lw.go | refine g_cond ?_ | refine g_guard ?_ | refine g_keep ?_ | refine g_pass ?_ | refine g_fin ?_ | (apply g_ap; exact rfl; exact rfl; assumption)
  exact fin hR
theorem pool_Pool_int_Done_spec (ok : P.ok) : Spec prog1 n_pool_Pool_int_Done [.pointer (some ⟨b, 0, none⟩)] [ro (pool b sb P)] (fun R => R (.int .i64 (P.did.length : Int)) []) := by
  refine spec_code c_pool_Pool_int_Done rfl ?_; intro n F R hR; unfold F_pool_Pool_int_Done
  refine at_openRP (pool b sb P) rfl ?_
  rintro ⟨⟨lp, lc⟩, ⟨wp, wc⟩, bs⟩ hl
  dsimp only at hl ⊢
  repeat' first | apply step | (apply g_op; · repeat first | exact Evs.nil | (apply Evs.cons; exact rfl)) | (refine Br.mk (fun _ => ?_) (fun _ => ?_) <;> try (exfalso; omega)) | (refine Sd.mk ?_ ?_; · ((repeat' apply And.intro) <;> first | omega | trivial | assumption | (simp; done) | (simp; omega))) | (refine Sx.mk ?_ ?_; · omega) | refine Fa.mk (fun _ => ?_) | refine Im.mk (fun _ => ?_) | apply Lw.go | refine g_cond ?_ | refine g_guard ?_ | refine g_keep ?_ | refine g_pass ?_ | refine g_fin ?_ | (apply g_ap; exact rfl; exact rfl; assumption)
  first | refine at_callS (pool_Pool_int_is_spec ok (b := b) (sb := sb)) ?_ | refine at_callR (pool_Pool_int_is_spec ok (b := b) (sb := sb)) ?_
  repeat' first | apply step | (apply g_op; · repeat first | exact Evs.nil | (apply Evs.cons; exact rfl)) | (refine Br.mk (fun _ => ?_) (fun _ => ?_) <;> try (exfalso; omega)) | (refine Sd.mk ?_ ?_; · ((repeat' apply And.intro) <;> first | omega | trivial | assumption | (simp; done) | (simp; omega))) | (refine Sx.mk ?_ ?_; · omega) | refine Fa.mk (fun _ => ?_) | refine Im.mk (fun _ => ?_) | apply Lw.go | refine g_cond ?_ | refine g_guard ?_ | refine g_keep ?_ | refine g_pass ?_ | refine g_fin ?_ | (apply g_ap; exact rfl; exact rfl; assumption)
  exact fin hR
theorem pool_Pool_int_Stolen_spec (ok : P.ok) : Spec prog1 n_pool_Pool_int_Stolen [.pointer (some ⟨b, 0, none⟩)] [ro (pool b sb P)] (fun R => R (.int .i64 (P.stolen : Int)) []) := by
  refine spec_code c_pool_Pool_int_Stolen rfl ?_; intro n F R hR; unfold F_pool_Pool_int_Stolen
  refine at_openRP (pool b sb P) rfl ?_
  rintro ⟨⟨lp, lc⟩, ⟨wp, wc⟩, bs⟩ hl
  dsimp only at hl ⊢
  repeat' first | apply step | (apply g_op; · repeat first | exact Evs.nil | (apply Evs.cons; exact rfl)) | (refine Br.mk (fun _ => ?_) (fun _ => ?_) <;> try (exfalso; omega)) | (refine Sd.mk ?_ ?_; · ((repeat' apply And.intro) <;> first | omega | trivial | assumption | (simp; done) | (simp; omega))) | (refine Sx.mk ?_ ?_; · omega) | refine Fa.mk (fun _ => ?_) | refine Im.mk (fun _ => ?_) | apply Lw.go | refine g_cond ?_ | refine g_guard ?_ | refine g_keep ?_ | refine g_pass ?_ | refine g_fin ?_ | (apply g_ap; exact rfl; exact rfl; assumption)
  first | refine at_callS (pool_Pool_int_is_spec ok (b := b) (sb := sb)) ?_ | refine at_callR (pool_Pool_int_is_spec ok (b := b) (sb := sb)) ?_
  repeat' first | apply step | (apply g_op; · repeat first | exact Evs.nil | (apply Evs.cons; exact rfl)) | (refine Br.mk (fun _ => ?_) (fun _ => ?_) <;> try (exfalso; omega)) | (refine Sd.mk ?_ ?_; · ((repeat' apply And.intro) <;> first | omega | trivial | assumption | (simp; done) | (simp; omega))) | (refine Sx.mk ?_ ?_; · omega) | refine Fa.mk (fun _ => ?_) | refine Im.mk (fun _ => ?_) | apply Lw.go | refine g_cond ?_ | refine g_guard ?_ | refine g_keep ?_ | refine g_pass ?_ | refine g_fin ?_ | (apply g_ap; exact rfl; exact rfl; assumption)
  exact fin hR
theorem pool_Pool_int_Who_spec (ok : P.ok) : Spec prog1 n_pool_Pool_int_Who [.pointer (some ⟨b, 0, none⟩)] [ro (pool b sb P)] (fun R => ∀ p c, R (.slice p P.who.length c) [own (kInt .i64) p c P.who]) := by
  refine spec_code c_pool_Pool_int_Who rfl ?_; intro n F R hR; unfold F_pool_Pool_int_Who
  refine at_openRP (pool b sb P) rfl ?_
  rintro ⟨⟨lp, lc⟩, ⟨wp, wc⟩, bs⟩ hl
  dsimp only at hl ⊢
  have := ok.w
  repeat' first | apply step | (apply g_op; · repeat first | exact Evs.nil | (apply Evs.cons; exact rfl)) | (refine Br.mk (fun _ => ?_) (fun _ => ?_) <;> try (exfalso; omega)) | (refine Sd.mk ?_ ?_; · ((repeat' apply And.intro) <;> first | omega | trivial | assumption | (simp; done) | (simp; omega))) | (refine Sx.mk ?_ ?_; · omega) | refine Fa.mk (fun _ => ?_) | refine Im.mk (fun _ => ?_) | apply Lw.go | refine g_cond ?_ | refine g_guard ?_ | refine g_keep ?_ | refine g_pass ?_ | refine g_fin ?_ | (apply g_ap; exact rfl; exact rfl; assumption)
  first | refine at_callS (pool_Pool_int_is_spec ok (b := b) (sb := sb)) ?_ | refine at_callR (pool_Pool_int_is_spec ok (b := b) (sb := sb)) ?_
  repeat' first | apply step | (apply g_op; · repeat first | exact Evs.nil | (apply Evs.cons; exact rfl)) | (refine Br.mk (fun _ => ?_) (fun _ => ?_) <;> try (exfalso; omega)) | (refine Sd.mk ?_ ?_; · ((repeat' apply And.intro) <;> first | omega | trivial | assumption | (simp; done) | (simp; omega))) | (refine Sx.mk ?_ ?_; · omega) | refine Fa.mk (fun _ => ?_) | refine Im.mk (fun _ => ?_) | apply Lw.go | refine g_cond ?_ | refine g_guard ?_ | refine g_keep ?_ | refine g_pass ?_ | refine g_fin ?_ | (apply g_ap; exact rfl; exact rfl; assumption)
  first | refine at_callS (slices_Clone_int_int_spec (l := P.who) (by omega)) ?_ | refine at_callR (slices_Clone_int_int_spec (l := P.who) (by omega)) ?_
  intro p c
  repeat' first | apply step | (apply g_op; · repeat first | exact Evs.nil | (apply Evs.cons; exact rfl)) | (refine Br.mk (fun _ => ?_) (fun _ => ?_) <;> try (exfalso; omega)) | (refine Sd.mk ?_ ?_; · ((repeat' apply And.intro) <;> first | omega | trivial | assumption | (simp; done) | (simp; omega))) | (refine Sx.mk ?_ ?_; · omega) | refine Fa.mk (fun _ => ?_) | refine Im.mk (fun _ => ?_) | apply Lw.go | refine g_cond ?_ | refine g_guard ?_ | refine g_keep ?_ | refine g_pass ?_ | refine g_fin ?_ | (apply g_ap; exact rfl; exact rfl; assumption)
  exact fin (hR p c)
theorem wait_take {ws : List Wk} {k : Nat} (hk : k < ws.length) : wait (ws.take (k + 1)) = wait (ws.take k) + ws[k].row.length := by
  unfold wait
  rw [List.take_succ_eq_append_getElem hk, List.map_append, List.sum_append]; simp only [List.map_cons, List.map_nil, List.sum_cons, List.sum_nil, Nat.add_zero]
theorem wait_take_le {ws : List Wk} {k : Nat} : wait (ws.take k) ≤ wait ws := by
  unfold wait
  conv => rhs; rw [← List.take_append_drop k ws, List.map_append, List.sum_append]
  exact Nat.le_add_right _ _
theorem pool_Pool_int_waiting_spec (ok : P.ok) : Spec prog1 n_pool_Pool_int_waiting [.pointer (some ⟨b, 0, none⟩)] [ro (pool b sb P)] (fun R => R (.int .i64 (wait P.ws : Int)) []) := by
  refine spec_code c_pool_Pool_int_waiting rfl ?_; intro n F R hR; unfold F_pool_Pool_int_waiting
  refine at_openRP (pool b sb P) rfl ?_
  rintro ⟨⟨lp, lc⟩, ⟨wp, wc⟩, bs⟩ hl
  dsimp only at hl ⊢
  have h1 := ok.n
  have h2 := ok.w
  have h3 := wait_le P.ws
  repeat' first | apply step | (apply g_op; · repeat first | exact Evs.nil | (apply Evs.cons; exact rfl)) | (refine Br.mk (fun _ => ?_) (fun _ => ?_) <;> try (exfalso; omega)) | (refine Sd.mk ?_ ?_; · ((repeat' apply And.intro) <;> first | omega | trivial | assumption | (simp; done) | (simp; omega))) | (refine Sx.mk ?_ ?_; · omega) | refine Fa.mk (fun _ => ?_) | refine Im.mk (fun _ => ?_) | apply Lw.go | refine g_cond ?_ | refine g_guard ?_ | refine g_keep ?_ | refine g_pass ?_ | refine g_fin ?_ | (apply g_ap; exact rfl; exact rfl; assumption)
  refine at_loopS (ι := Nat) (E := fun k => [(3, .int .i64 (wait (P.ws.take k) : Int)), (9, .slice lp bs.length lc), (10, .int .i64 (bs.length : Int)), (11, .int .i64 (k : Int))]) (Δ := fun k => rdl kPtr lp bs :: ro (each wk bs P.ws) :: F) (P := fun k => k ≤ P.ws.length) (μ := fun k => P.ws.length - k) 0 (Nat.zero_le _) ?_
  rintro k hk
  try dsimp only
  repeat' first | apply step | (apply g_op; · repeat first | exact Evs.nil | (apply Evs.cons; exact rfl)) | (refine Br.mk (fun _ => ?_) (fun _ => ?_) <;> try (exfalso; omega)) | (refine Sd.mk ?_ ?_; · ((repeat' apply And.intro) <;> first | omega | trivial | assumption | (simp; done) | (simp; omega))) | (refine Sx.mk ?_ ?_; · omega) | refine Fa.mk (fun _ => ?_) | refine Im.mk (fun _ => ?_) | apply Lw.go | refine g_cond ?_ | refine g_guard ?_ | refine g_keep ?_ | refine g_pass ?_ | refine g_fin ?_ | (apply g_ap; exact rfl; exact rfl; assumption)
  · have hk' : k < P.ws.length := by omega
    refine av_via (each_ro (g := wk) (xs := bs) (i := k) (by omega) hk') ?_
    refine av_openRP (wk bs[k] P.ws[k]) rfl ?_
    rintro ⟨p, c, ring, top⟩ ⟨hr, hj⟩
    dsimp only at hr hj ⊢
    repeat' first | apply step | (apply g_op; · repeat first | exact Evs.nil | (apply Evs.cons; exact rfl)) | (refine Br.mk (fun _ => ?_) (fun _ => ?_) <;> try (exfalso; omega)) | (refine Sd.mk ?_ ?_; · ((repeat' apply And.intro) <;> first | omega | trivial | assumption | (simp; done) | (simp; omega))) | (refine Sx.mk ?_ ?_; · omega) | refine Fa.mk (fun _ => ?_) | refine Im.mk (fun _ => ?_) | apply Lw.go | refine g_cond ?_ | refine g_guard ?_ | refine g_keep ?_ | refine g_pass ?_ | refine g_fin ?_ | (apply g_ap; exact rfl; exact rfl; assumption)
    first | refine at_callS (deque_Deque_int_Len_spec (pre := [])) ?_ | refine at_callR (deque_Deque_int_Len_spec (pre := [])) ?_
    have := @wait_take_le P.ws k
    have := wait_take hk'
    have := @wait_take_le P.ws (k + 1)
    repeat' first | apply step | (apply g_op; · repeat first | exact Evs.nil | (apply Evs.cons; exact rfl)) | (refine Br.mk (fun _ => ?_) (fun _ => ?_) <;> try (exfalso; omega)) | (refine Sd.mk ?_ ?_; · ((repeat' apply And.intro) <;> first | omega | trivial | assumption | (simp; done) | (simp; omega))) | (refine Sx.mk ?_ ?_; · omega) | refine Fa.mk (fun _ => ?_) | refine Im.mk (fun _ => ?_) | apply Lw.go | refine g_cond ?_ | refine g_guard ?_ | refine g_keep ?_ | refine g_pass ?_ | refine g_fin ?_ | (apply g_ap; exact rfl; exact rfl; assumption)
    refine lp_next (k + 1) (by omega) (by omega) (by rw [wait_take hk'])
  · have : P.ws.take k = P.ws := List.take_of_length_le (by omega)
    rw [this]
    exact fin hR
theorem holds_take {ws : List Wk} {k : Nat} (hk : k < ws.length) : ((ws.take (k + 1)).filter (·.holds)).length = ((ws.take k).filter (·.holds)).length + (bif ws[k].holds then 1 else 0) := by
  rw [List.take_succ_eq_append_getElem hk, List.filter_append, List.length_append]
  cases h : ws[k].holds <;> simp [h]
/-- How many hold a job. -/
def held (ws : List Wk) : Nat := (ws.filter (·.holds)).length
theorem pool_Pool_int_Left_spec (ok : P.ok) : Spec prog1 n_pool_Pool_int_Left [.pointer (some ⟨b, 0, none⟩)] [ro (pool b sb P)] (fun R => R (.int .i64 ((wait P.ws + held P.ws : Nat) : Int)) []) := by
  refine spec_code c_pool_Pool_int_Left rfl ?_; intro n F R hR; unfold F_pool_Pool_int_Left
  refine at_openRP (pool b sb P) rfl ?_
  rintro ⟨⟨lp, lc⟩, ⟨wp, wc⟩, bs⟩ hl
  dsimp only at hl ⊢
  have h1 := ok.n
  have h2 := ok.w
  have h3 := wait_le P.ws
  have hf : ∀ k, ((P.ws.take k).filter (·.holds)).length ≤ k := fun k => Nat.le_trans (List.length_filter_le _ _) (by rw [List.length_take]; omega)
  repeat' first | apply step | (apply g_op; · repeat first | exact Evs.nil | (apply Evs.cons; exact rfl)) | (refine Br.mk (fun _ => ?_) (fun _ => ?_) <;> try (exfalso; omega)) | (refine Sd.mk ?_ ?_; · ((repeat' apply And.intro) <;> first | omega | trivial | assumption | (simp; done) | (simp; omega))) | (refine Sx.mk ?_ ?_; · omega) | refine Fa.mk (fun _ => ?_) | refine Im.mk (fun _ => ?_) | apply Lw.go | refine g_cond ?_ | refine g_guard ?_ | refine g_keep ?_ | refine g_pass ?_ | refine g_fin ?_ | (apply g_ap; exact rfl; exact rfl; assumption)
  first | refine at_callS (pool_Pool_int_is_spec ok (b := b) (sb := sb)) ?_ | refine at_callR (pool_Pool_int_is_spec ok (b := b) (sb := sb)) ?_
  repeat' first | apply step | (apply g_op; · repeat first | exact Evs.nil | (apply Evs.cons; exact rfl)) | (refine Br.mk (fun _ => ?_) (fun _ => ?_) <;> try (exfalso; omega)) | (refine Sd.mk ?_ ?_; · ((repeat' apply And.intro) <;> first | omega | trivial | assumption | (simp; done) | (simp; omega))) | (refine Sx.mk ?_ ?_; · omega) | refine Fa.mk (fun _ => ?_) | refine Im.mk (fun _ => ?_) | apply Lw.go | refine g_cond ?_ | refine g_guard ?_ | refine g_keep ?_ | refine g_pass ?_ | refine g_fin ?_ | (apply g_ap; exact rfl; exact rfl; assumption)
  first | refine at_callS (pool_Pool_int_waiting_spec ok (b := b) (sb := sb)) ?_ | refine at_callR (pool_Pool_int_waiting_spec ok (b := b) (sb := sb)) ?_
  repeat' first | apply step | (apply g_op; · repeat first | exact Evs.nil | (apply Evs.cons; exact rfl)) | (refine Br.mk (fun _ => ?_) (fun _ => ?_) <;> try (exfalso; omega)) | (refine Sd.mk ?_ ?_; · ((repeat' apply And.intro) <;> first | omega | trivial | assumption | (simp; done) | (simp; omega))) | (refine Sx.mk ?_ ?_; · omega) | refine Fa.mk (fun _ => ?_) | refine Im.mk (fun _ => ?_) | apply Lw.go | refine g_cond ?_ | refine g_guard ?_ | refine g_keep ?_ | refine g_pass ?_ | refine g_fin ?_ | (apply g_ap; exact rfl; exact rfl; assumption)
  refine at_loopS (ι := Nat) (E := fun k => [(3, .int .i64 ((wait P.ws + ((P.ws.take k).filter (·.holds)).length : Nat) : Int)), (14, .slice lp bs.length lc), (15, .int .i64 (bs.length : Int)), (16, .int .i64 (k : Int))]) (Δ := fun k => rdl kPtr lp bs :: ro (each wk bs P.ws) :: F) (P := fun k => k ≤ P.ws.length) (μ := fun k => P.ws.length - k) 0 (Nat.zero_le _) ?_
  rintro k hk
  try dsimp only
  repeat' first | apply step | (apply g_op; · repeat first | exact Evs.nil | (apply Evs.cons; exact rfl)) | (refine Br.mk (fun _ => ?_) (fun _ => ?_) <;> try (exfalso; omega)) | (refine Sd.mk ?_ ?_; · ((repeat' apply And.intro) <;> first | omega | trivial | assumption | (simp; done) | (simp; omega))) | (refine Sx.mk ?_ ?_; · omega) | refine Fa.mk (fun _ => ?_) | refine Im.mk (fun _ => ?_) | apply Lw.go | refine g_cond ?_ | refine g_guard ?_ | refine g_keep ?_ | refine g_pass ?_ | refine g_fin ?_ | (apply g_ap; exact rfl; exact rfl; assumption)
  · have hk' : k < P.ws.length := by omega
    refine av_via (each_ro (g := wk) (xs := bs) (i := k) (by omega) hk') ?_
    refine av_openRP (wk bs[k] P.ws[k]) rfl ?_
    rintro ⟨p, c, ring, top⟩ ⟨hr, hj⟩
    dsimp only at hr hj ⊢
    have := hf k
    have ht := holds_take hk'
    repeat' first | apply step | (apply g_op; · repeat first | exact Evs.nil | (apply Evs.cons; exact rfl)) | (refine Br.mk (fun _ => ?_) (fun _ => ?_) <;> try (exfalso; omega)) | (refine Sd.mk ?_ ?_; · ((repeat' apply And.intro) <;> first | omega | trivial | assumption | (simp; done) | (simp; omega))) | (refine Sx.mk ?_ ?_; · omega) | refine Fa.mk (fun _ => ?_) | refine Im.mk (fun _ => ?_) | apply Lw.go | refine g_cond ?_ | refine g_guard ?_ | refine g_keep ?_ | refine g_pass ?_ | refine g_fin ?_ | (apply g_ap; exact rfl; exact rfl; assumption)
    · have hh : P.ws[k].holds = true := by assumption
      rw [hh] at ht
      refine lp_next (k + 1) (by omega) (by omega) (by rw [ht]; rfl)
    · have hh : P.ws[k].holds = false := by simpa using ‹¬ P.ws[k].holds = true›
      rw [hh] at ht
      refine lp_next (k + 1) (by omega) (by omega) (by rw [ht]; rfl)
  · have : P.ws.take k = P.ws := List.take_of_length_le (by omega)
    rw [this]
    exact fin hR
theorem pool_Pool_int_Add_spec {p : Option Addr} {c : Nat} {l : List Int} (ok : P.ok) (hl : l.length ≤ 1000) (hm : mm P.ws + 2 * wts l + P.who.length + P.did.length + P.stolen ≤ 100000) : Spec prog1 n_pool_Pool_int_Add [.pointer (some ⟨b, 0, none⟩), .slice p l.length c] [pool b sb P, fro (kInt .i64) p c l] (fun R => R (.tuple #[]) [pool b sb (P.adds l)]) := by
  refine spec_code c_pool_Pool_int_Add rfl ?_; intro n F R hR; unfold F_pool_Pool_int_Add
  iterate 2 apply step
  refine at_bnd (p := p) (l := l) (fun hb => ?_)
  repeat' first | apply step | (apply g_op; · repeat first | exact Evs.nil | (apply Evs.cons; exact rfl)) | (refine Br.mk (fun _ => ?_) (fun _ => ?_) <;> try (exfalso; omega)) | (refine Sd.mk ?_ ?_; · ((repeat' apply And.intro) <;> first | omega | trivial | assumption | (simp; done) | (simp; omega))) | (refine Sx.mk ?_ ?_; · omega) | refine Fa.mk (fun _ => ?_) | refine Im.mk (fun _ => ?_) | apply Lw.go | refine g_cond ?_ | refine g_guard ?_ | refine g_keep ?_ | refine g_pass ?_ | refine g_fin ?_ | (apply g_ap; exact rfl; exact rfl; assumption)
  first | refine at_callS (pool_Pool_int_is_spec ok (b := b) (sb := sb)) ?_ | refine at_callR (pool_Pool_int_is_spec ok (b := b) (sb := sb)) ?_
  repeat' first | apply step | (apply g_op; · repeat first | exact Evs.nil | (apply Evs.cons; exact rfl)) | (refine Br.mk (fun _ => ?_) (fun _ => ?_) <;> try (exfalso; omega)) | (refine Sd.mk ?_ ?_; · ((repeat' apply And.intro) <;> first | omega | trivial | assumption | (simp; done) | (simp; omega))) | (refine Sx.mk ?_ ?_; · omega) | refine Fa.mk (fun _ => ?_) | refine Im.mk (fun _ => ?_) | apply Lw.go | refine g_cond ?_ | refine g_guard ?_ | refine g_keep ?_ | refine g_pass ?_ | refine g_fin ?_ | (apply g_ap; exact rfl; exact rfl; assumption)
  refine at_loopS (ι := Nat) (E := fun k => [(0, .pointer (some ⟨b, 0, none⟩)), (9, .slice p l.length c), (10, .int .i64 (l.length : Int)), (11, .int .i64 (k : Int))]) (Δ := fun k => pool b sb (P.adds (l.take k)) :: fro (kInt .i64) p c l :: F) (P := fun k => k ≤ l.length) (μ := fun k => l.length - k) 0 (Nat.zero_le _) ?_
  rintro k hk
  try dsimp only
  repeat' first | apply step | (apply g_op; · repeat first | exact Evs.nil | (apply Evs.cons; exact rfl)) | (refine Br.mk (fun _ => ?_) (fun _ => ?_) <;> try (exfalso; omega)) | (refine Sd.mk ?_ ?_; · ((repeat' apply And.intro) <;> first | omega | trivial | assumption | (simp; done) | (simp; omega))) | (refine Sx.mk ?_ ?_; · omega) | refine Fa.mk (fun _ => ?_) | refine Im.mk (fun _ => ?_) | apply Lw.go | refine g_cond ?_ | refine g_guard ?_ | refine g_keep ?_ | refine g_pass ?_ | refine g_fin ?_ | (apply g_ap; exact rfl; exact rfl; assumption)
  · have hk' : k < l.length := by omega
    obtain ⟨ok1, e1, e2, e3, e4, e5⟩ := adds_ok (l := l.take k) ok (by have := wts_take_le k l; omega)
    have e6 : P.adds (l.take (k + 1)) = (P.adds (l.take k)).add l[k] := by
      rw [List.take_succ_eq_append_getElem hk']; unfold Po.adds; rw [List.foldl_append]; rfl
    generalize hP : P.adds (l.take k) = P1 at *
    have := ok1.n
    have := ok1.x
    first | refine at_openP (pool b sb P1) rfl ?_ | refine av_openP (pool b sb P1) rfl ?_
    rintro ⟨⟨lp, lc⟩, ⟨wp, wc⟩, bs⟩ hbs
    dsimp only at hbs ⊢
    repeat' first | apply step | (apply g_op; · repeat first | exact Evs.nil | (apply Evs.cons; exact rfl)) | (refine Br.mk (fun _ => ?_) (fun _ => ?_) <;> try (exfalso; omega)) | (refine Sd.mk ?_ ?_; · ((repeat' apply And.intro) <;> first | omega | trivial | assumption | (simp; done) | (simp; omega))) | (refine Sx.mk ?_ ?_; · omega) | refine Fa.mk (fun _ => ?_) | refine Im.mk (fun _ => ?_) | apply Lw.go | refine g_cond ?_ | refine g_guard ?_ | refine g_keep ?_ | refine g_pass ?_ | refine g_fin ?_ | (apply g_ap; exact rfl; exact rfl; assumption)
    have hn : P1.next < P1.ws.length := by omega
    refine av_via (each_take (g := wk) (xs := bs) (i := P1.next) (by omega) hn) ?_
    refine av_openP (wk bs[P1.next] P1.ws[P1.next]) rfl ?_
    rintro ⟨q, d, ring, top⟩ ⟨hr, hj⟩
    dsimp only at hr hj ⊢
    have hrow := row_le hn
    have hwt := wts_take_le k l
    first | refine at_callS (deque_Deque_int_Push_spec (pre := []) (v := l[k]) hr (by omega) (hb _ (List.getElem_mem hk'))) ?_ | refine at_callR (deque_Deque_int_Push_spec (pre := []) (v := l[k]) hr (by omega) (hb _ (List.getElem_mem hk'))) ?_
    intro q' d' ring' top' hr'
    repeat' first | apply step | (apply g_op; · repeat first | exact Evs.nil | (apply Evs.cons; exact rfl)) | (refine Br.mk (fun _ => ?_) (fun _ => ?_) <;> try (exfalso; omega)) | (refine Sd.mk ?_ ?_; · ((repeat' apply And.intro) <;> first | omega | trivial | assumption | (simp; done) | (simp; omega))) | (refine Sx.mk ?_ ?_; · omega) | refine Fa.mk (fun _ => ?_) | refine Im.mk (fun _ => ?_) | apply Lw.go | refine g_cond ?_ | refine g_guard ?_ | refine g_keep ?_ | refine g_pass ?_ | refine g_fin ?_ | (apply g_ap; exact rfl; exact rfl; assumption)
    refine at_foldP (wk bs[P1.next] ⟨P1.ws[P1.next].row ++ [l[k]], P1.ws[P1.next].job, P1.ws[P1.next].holds⟩) rfl (q', d', ring', top') ⟨hr', hj⟩ ?_
    refine at_via2 (each_put (g := wk) (xs := bs) (ys := P1.ws) (i := P1.next) (by omega) hn) ?_
    refine at_foldP (pool b sb (P1.add l[k])) rfl ((lp, lc), (wp, wc), bs) (by simp [Po.add, Po.push, hbs]) ?_ (by
      unfold Po.add Po.push
      simp only [getD_row hn, rowAt_lt hn, hbs, Int.toNat_natCast]
      repeat first | exact Ent.refl _ | (apply Ent.more; · repeat first | exact Ent.keep | exact Ent.here | exact Ent.lend | exact ent_nil | apply Ent.there) | apply Ent.drop)
    refine lp_next (k + 1) (by omega) (by omega) (hs := by (try dsimp only); rw [e6]; repeat first | exact Ent.refl _ | (apply Ent.more; · repeat first | exact Ent.keep | exact Ent.here | exact Ent.lend | exact ent_nil | apply Ent.there) | apply Ent.drop)
  · have : l.take k = l := List.take_of_length_le (by omega)
    rw [this]
    exact fin hR
theorem pool_Pool_int_ready_spec : Spec prog1 n_pool_Pool_int_ready [.pointer (some ⟨b, 0, none⟩)] [] (fun R => ∀ x, R (.func (.func n_pool_Pool_int_ready_c1) #[] #[.pointer (some ⟨x, 0, none⟩)]) [pt x [.pointer (some ⟨b, 0, none⟩)] 0]) := by
  refine spec_code c_pool_Pool_int_ready rfl ?_; intro n F R hR; unfold F_pool_Pool_int_ready
  repeat' first | apply step | (apply g_op; · repeat first | exact Evs.nil | (apply Evs.cons; exact rfl)) | (refine Br.mk (fun _ => ?_) (fun _ => ?_) <;> try (exfalso; omega)) | (refine Sd.mk ?_ ?_; · ((repeat' apply And.intro) <;> first | omega | trivial | assumption | (simp; done) | (simp; omega))) | (refine Sx.mk ?_ ?_; · omega) | refine Fa.mk (fun _ => ?_) | refine Im.mk (fun _ => ?_) | apply Lw.go | refine g_cond ?_ | refine g_guard ?_ | refine g_keep ?_ | refine g_pass ?_ | refine g_fin ?_ | (apply g_ap; exact rfl; exact rfl; assumption)
  exact fin (hR _)
/-- The ready ones among the first. -/
def rdys (ws : List Wk) (k : Nat) : List Nat := (List.range k).filter fun k => rdy ws (ws.getD k default)
theorem rdys_succ (ws : List Wk) (k : Nat) : rdys ws (k + 1) = rdys ws k ++ (if rdy ws (ws.getD k default) = true then [k] else []) := by
  unfold rdys
  rw [List.range_succ, List.filter_append]
  congr 1
  by_cases h : rdy ws (ws.getD k default) = true
  · rw [if_pos h]; simp only [List.filter_cons, h, if_true, List.filter_nil]
  · rw [if_neg h]; simp only [List.filter_cons, List.filter_nil]; rw [if_neg h]
theorem rdys_pre {ws : List Wk} {k : Nat} (h : k ≤ ws.length) : ∃ r, readyL ws = rdys ws k ++ r := by
  unfold readyL rdys
  obtain ⟨m, hm⟩ := Nat.exists_eq_add_of_le h
  rw [hm, List.range_add, List.filter_append]
  exact ⟨_, rfl⟩
theorem rdys_get {ws : List Wk} {k : Nat} (hk : k < ws.length) (hr : rdy ws ws[k] = true) : ∃ h : (rdys ws k).length < (readyL ws).length, (readyL ws)[(rdys ws k).length] = k := by
  obtain ⟨r, h1⟩ := rdys_pre (ws := ws) (k := k + 1) (by omega)
  have h2 := rdys_succ ws k
  rw [getD_row hk, if_pos hr] at h2
  rw [h2] at h1
  refine ⟨by rw [h1]; simp, ?_⟩
  simp only [h1]
  rw [List.getElem_append_left (by simp), List.getElem_append_right (by omega)]; simp
theorem pool_Pool_int_ready_c1_spec {x ly : Nat} {A : Nat → HP} {B : AX → HP} (ok : P.ok) (hy : ∀ i (hi : i < (readyL P.ws).length), YSpec prog1 ly [.int .i64 ((readyL P.ws)[i] : Int)] [A i] (fun R => R (.bool true) [A (i + 1)] ∧ ∀ x, x ≠ .norm → R (.bool false) [B x])) :
    Spec prog1 n_pool_Pool_int_ready_c1 [.func (.yield ly) #[] #[], .pointer (some ⟨x, 0, none⟩)] [A 0, pt x [.pointer (some ⟨b, 0, none⟩)] 0, pool b sb P] (fun R => (∀ v, R v [A (readyL P.ws).length, pool b sb P]) ∧ ∀ x v, x ≠ .norm → R v [B x, pool b sb P]) := by
  refine spec_code c_pool_Pool_int_ready_c1 rfl ?_; intro n F R hR; unfold F_pool_Pool_int_ready_c1
  have h1 := ok.n
  have h2 := ok.w
  have h3 := wait_le P.ws
  repeat' first | apply step | (apply g_op; · repeat first | exact Evs.nil | (apply Evs.cons; exact rfl)) | (refine Br.mk (fun _ => ?_) (fun _ => ?_) <;> try (exfalso; omega)) | (refine Sd.mk ?_ ?_; · ((repeat' apply And.intro) <;> first | omega | trivial | assumption | (simp; done) | (simp; omega))) | (refine Sx.mk ?_ ?_; · omega) | refine Fa.mk (fun _ => ?_) | refine Im.mk (fun _ => ?_) | apply Lw.go | refine g_cond ?_ | refine g_guard ?_ | refine g_keep ?_ | refine g_pass ?_ | refine g_fin ?_ | (apply g_ap; exact rfl; exact rfl; assumption)
  first | refine at_callS (pool_Pool_int_waiting_spec ok (b := b) (sb := sb)) ?_ | refine at_callR (pool_Pool_int_waiting_spec ok (b := b) (sb := sb)) ?_
  refine Lw.go ?_
  refine at_openP (pool b sb P) rfl ?_
  rintro ⟨⟨lp, lc⟩, ⟨wp, wc⟩, bs⟩ hl
  dsimp only at hl ⊢
  repeat' first | apply step | (apply g_op; · repeat first | exact Evs.nil | (apply Evs.cons; exact rfl)) | (refine Br.mk (fun _ => ?_) (fun _ => ?_) <;> try (exfalso; omega)) | (refine Sd.mk ?_ ?_; · ((repeat' apply And.intro) <;> first | omega | trivial | assumption | (simp; done) | (simp; omega))) | (refine Sx.mk ?_ ?_; · omega) | refine Fa.mk (fun _ => ?_) | refine Im.mk (fun _ => ?_) | apply Lw.go | refine g_cond ?_ | refine g_guard ?_ | refine g_keep ?_ | refine g_pass ?_ | refine g_fin ?_ | (apply g_ap; exact rfl; exact rfl; assumption)
  all_goals
    refine at_loopS (ι := Nat) (E := fun k => [(0, .func (.yield ly) #[] #[]), (3, .bool (decide (0 < wait P.ws))), (12, .slice lp bs.length lc), (13, .int .i64 (bs.length : Int)), (14, .int .i64 (k : Int))]) (Δ := fun k => A (rdys P.ws k).length :: own kPtr lp lc bs :: each wk bs P.ws :: pt b [.pointer (some ⟨sb, 0, none⟩), .slice lp bs.length lc, .int .i64 (P.next : Int), .int .i64 (P.did.length : Int), .int .i64 (P.stolen : Int), .slice wp P.who.length wc] 0 :: own (kInt .i64) wp wc P.who :: F) (P := fun k => k ≤ P.ws.length) (μ := fun k => P.ws.length - k) 0 (Nat.zero_le _) ?_ (by first | rw [decide_eq_true (by omega)]; rfl | rw [decide_eq_false (by omega)]; rfl)
    rintro k hk
    try dsimp only
    repeat' first | apply step | (apply g_op; · repeat first | exact Evs.nil | (apply Evs.cons; exact rfl)) | (refine Br.mk (fun _ => ?_) (fun _ => ?_) <;> try (exfalso; omega)) | (refine Sd.mk ?_ ?_; · ((repeat' apply And.intro) <;> first | omega | trivial | assumption | (simp; done) | (simp; omega))) | (refine Sx.mk ?_ ?_; · omega) | refine Fa.mk (fun _ => ?_) | refine Im.mk (fun _ => ?_) | apply Lw.go | refine g_cond ?_ | refine g_guard ?_ | refine g_keep ?_ | refine g_pass ?_ | refine g_fin ?_ | (apply g_ap; exact rfl; exact rfl; assumption)
    · have hk' : k < P.ws.length := by omega
      obtain ⟨row, job, holds, hwk⟩ : ∃ r j h, P.ws[k] = ⟨r, j, h⟩ := ⟨_, _, _, rfl⟩
      refine av_via (each_get (g := wk) (xs := bs) (i := k) (by omega) hk' hwk) ?_
      refine av_openP (wk bs[k] ⟨row, job, holds⟩) rfl ?_
      rintro ⟨p, c, ring, top⟩ ⟨hr, hj⟩
      dsimp only at hr hj ⊢
      have hs := rdys_succ P.ws k
      rw [getD_row hk'] at hs
      have hrd : rdy P.ws P.ws[k] = (holds || decide (0 < wait P.ws)) := by unfold rdy; rw [hwk]
      cases holds
      all_goals
        by_cases hw : 0 < wait P.ws
        all_goals
          first | simp only [decide_eq_true hw] at hrd ⊢ | simp only [decide_eq_false hw] at hrd ⊢
          simp only [Bool.or_true, Bool.or_false, Bool.true_or] at hrd
          repeat' first | apply step | (apply g_op; · repeat first | exact Evs.nil | (apply Evs.cons; exact rfl)) | (refine Br.mk (fun _ => ?_) (fun _ => ?_) <;> try (exfalso; omega)) | (refine Sd.mk ?_ ?_; · ((repeat' apply And.intro) <;> first | omega | trivial | assumption | (simp; done) | (simp; omega))) | (refine Sx.mk ?_ ?_; · omega) | refine Fa.mk (fun _ => ?_) | refine Im.mk (fun _ => ?_) | apply Lw.go | refine g_cond ?_ | refine g_guard ?_ | refine g_keep ?_ | refine g_pass ?_ | refine g_fin ?_ | (apply g_ap; exact rfl; exact rfl; assumption)
          first
          | -- not ready
            rw [hrd, if_neg (by decide), List.append_nil] at hs
            refine at_foldP (wk bs[k] ⟨row, job, false⟩) rfl (p, c, ring, top) ⟨hr, hj⟩ ?_
            refine at_via2 (each_same (g := wk) (xs := bs) (ys := P.ws) (i := k) (by omega) hk' hwk) ?_
            exact lp_next (k + 1) (by omega) (by omega) (by simp only [decide_eq_false hw]) (hs := by (try dsimp only); rw [hs]; repeat first | exact Ent.refl _ | (apply Ent.more; · repeat first | exact Ent.keep | exact Ent.here | exact Ent.lend | exact ent_nil | apply Ent.there) | apply Ent.drop)
          | obtain ⟨hlt, hget⟩ := rdys_get hk' hrd
            rw [hrd, if_pos rfl] at hs
            have hyk := hy _ hlt
            rw [hget] at hyk
            refine at_callY hyk ⟨?_, fun x hx => ?_⟩
            · repeat' first | apply step | (apply g_op; · repeat first | exact Evs.nil | (apply Evs.cons; exact rfl)) | (refine Br.mk (fun _ => ?_) (fun _ => ?_) <;> try (exfalso; omega)) | (refine Sd.mk ?_ ?_; · ((repeat' apply And.intro) <;> first | omega | trivial | assumption | (simp; done) | (simp; omega))) | (refine Sx.mk ?_ ?_; · omega) | refine Fa.mk (fun _ => ?_) | refine Im.mk (fun _ => ?_) | apply Lw.go | refine g_cond ?_ | refine g_guard ?_ | refine g_keep ?_ | refine g_pass ?_ | refine g_fin ?_ | (apply g_ap; exact rfl; exact rfl; assumption)
              refine at_foldP (wk bs[k] ⟨row, job, _⟩) rfl (p, c, ring, top) ⟨hr, hj⟩ ?_
              refine at_via2 (each_same (g := wk) (xs := bs) (ys := P.ws) (i := k) (by omega) hk' hwk) ?_
              exact lp_next (k + 1) (by omega) (by omega) (by first | simp only [decide_eq_true hw] | simp only [decide_eq_false hw]) (hs := by
                (try dsimp only)
                rw [hs, List.length_append, List.length_singleton]
                repeat first | exact Ent.refl _ | (apply Ent.more; · repeat first | exact Ent.keep | exact Ent.here | exact Ent.lend | exact ent_nil | apply Ent.there) | apply Ent.drop)
            · repeat' first | apply step | (apply g_op; · repeat first | exact Evs.nil | (apply Evs.cons; exact rfl)) | (refine Br.mk (fun _ => ?_) (fun _ => ?_) <;> try (exfalso; omega)) | (refine Sd.mk ?_ ?_; · ((repeat' apply And.intro) <;> first | omega | trivial | assumption | (simp; done) | (simp; omega))) | (refine Sx.mk ?_ ?_; · omega) | refine Fa.mk (fun _ => ?_) | refine Im.mk (fun _ => ?_) | apply Lw.go | refine g_cond ?_ | refine g_guard ?_ | refine g_keep ?_ | refine g_pass ?_ | refine g_fin ?_ | (apply g_ap; exact rfl; exact rfl; assumption)
              refine fin_foldP (wk bs[k] ⟨row, job, _⟩) rfl (p, c, ring, top) ⟨hr, hj⟩ ?_
              refine fin_via2 (each_same (g := wk) (xs := bs) (ys := P.ws) (i := k) (by omega) hk' hwk) ?_
              refine fin_foldP (pool b sb P) rfl ((lp, lc), (wp, wc), bs) hl ?_
              exact fin (hR.2 x _ hx)
    · have : rdys P.ws k = readyL P.ws := by unfold rdys readyL; rw [show k = P.ws.length by omega]
      rw [this]
      refine fin_foldP (pool b sb P) rfl ((lp, lc), (wp, wc), bs) hl ?_
      exact fin (hR.1 _)
theorem took_own {P : Po} {k : Nat} (hk : k < P.ws.length) (h : P.ws[k].row ≠ []) : P.took k = { P with ws := P.ws.set k ⟨P.ws[k].row.dropLast, P.ws[k].row.getLast h, true⟩ } := by
  unfold Po.took
  simp only [getD_row hk]
  rw [if_pos h, List.getLastD_eq_getLast?, List.getLast?_eq_some_getLast h]; rfl
theorem took_steal {P : Po} {k i : Nat} (hk : k < P.ws.length) (h0 : P.ws[k].row = []) (h1 : 1 ≤ i) (h2 : i < P.ws.length) (he : ∀ j, 1 ≤ j → j < i → rowAt P.ws ((k + j) % P.ws.length) = []) (hf : (k + i) % P.ws.length < P.ws.length) (hr : P.ws[(k + i) % P.ws.length].row ≠ []) :
    P.took k = { P with ws := (P.ws.set ((k + i) % P.ws.length) ⟨P.ws[(k + i) % P.ws.length].row.tail, P.ws[(k + i) % P.ws.length].job, P.ws[(k + i) % P.ws.length].holds⟩).set k ⟨[], P.ws[(k + i) % P.ws.length].row.head hr, true⟩, stolen := P.stolen + 1 } := by
  have hj : firstJ P.ws k = some i := find_range h1 h2 (by rw [rowAt_lt hf]; simpa using hr) (fun j q1 q2 => by rw [he j q1 q2]; rfl)
  unfold Po.took
  simp only [getD_row hk, hj, getD_row hf]
  rw [if_neg (by simpa using h0)]
  obtain ⟨x, l, hl⟩ := List.exists_cons_of_ne_nil hr
  simp only [hl, List.headD_cons, List.head_cons]
theorem took_none {P : Po} {k : Nat} (hk : k < P.ws.length) (h0 : P.ws[k].row = []) (he : ∀ j, 1 ≤ j → j < P.ws.length → rowAt P.ws ((k + j) % P.ws.length) = []) : P.took k = { P with ws := P.ws.set k ⟨[], 0, false⟩ } := by
  have hj : firstJ P.ws k = none := find_none (fun j q1 q2 => by rw [he j q1 q2]; rfl)
  unfold Po.took
  simp only [getD_row hk, hj]
  rw [if_neg (by simpa using h0)]
theorem pool_Pool_int_take_spec {k : Nat} (h1 : 0 < P.ws.length ∧ P.ws.length ≤ 64) (h2 : P.stolen + mm P.ws ≤ 1000000) (hk : k < P.ws.length) : Spec prog1 n_pool_Pool_int_take [.pointer (some ⟨b, 0, none⟩), .int .i64 (k : Int)] [pool b sb P] (fun R => R (.tuple #[]) [pool b sb (P.took k)]) := by
  refine spec_code c_pool_Pool_int_take rfl ?_; intro n F R hR; unfold F_pool_Pool_int_take
  refine at_openP (pool b sb P) rfl ?_
  rintro ⟨⟨lp, lc⟩, ⟨wp, wc⟩, bs⟩ hl
  dsimp only at hl ⊢
  repeat' first | apply step | (apply g_op; · repeat first | exact Evs.nil | (apply Evs.cons; exact rfl)) | (refine Br.mk (fun _ => ?_) (fun _ => ?_) <;> try (exfalso; omega)) | (refine Sd.mk ?_ ?_; · ((repeat' apply And.intro) <;> first | omega | trivial | assumption | (simp; done) | (simp; omega))) | (refine Sx.mk ?_ ?_; · omega) | refine Fa.mk (fun _ => ?_) | refine Im.mk (fun _ => ?_) | apply Lw.go | refine g_cond ?_ | refine g_guard ?_ | refine g_keep ?_ | refine g_pass ?_ | refine g_fin ?_ | (apply g_ap; exact rfl; exact rfl; assumption)
  have hrow := row_le hk
  obtain ⟨row, job, holds, hwk⟩ : ∃ r j h, P.ws[k] = ⟨r, j, h⟩ := ⟨_, _, _, rfl⟩
  refine av_via (each_get (g := wk) (xs := bs) (i := k) (by omega) hk hwk) ?_
  refine av_openP (wk bs[k] ⟨row, job, holds⟩) rfl ?_
  rintro ⟨p, c, ring, top⟩ ⟨hr, hj⟩
  dsimp only at hr hj ⊢
  apply step
  refine av_bnd (p := p) (l := ring) (fun hb => ?_)
  have hbl := hr.bnd hb
  first | refine at_callS (deque_Deque_int_Pop_spec (pre := []) hr) ?_ | refine at_callR (deque_Deque_int_Pop_spec (pre := []) hr) ?_
  obtain ⟨LI, hLI⟩ : ∃ LI : Nat × Bool × List Wk × Nat → Prop, ∀ w, LI w ↔ (1 ≤ w.1 ∧ w.1 ≤ P.ws.length + 1 ∧ w.2.2.1.length = P.ws.length ∧ w.2.2.2 + (bif w.2.1 then 0 else 1) ≤ 1000001 ∧ (w.2.1 = true → P.took k = { P with ws := w.2.2.1, stolen := w.2.2.2 } ∧ ∃ r j, w.2.2.1[k]? = some ⟨r, j, true⟩) ∧
      (w.2.1 = false → w.2.2.1 = P.ws.set k ⟨[], 0, false⟩ ∧ w.2.2.2 = P.stolen ∧ P.ws[k].row = [] ∧ ∀ j, 1 ≤ j → j < w.1 → rowAt P.ws ((k + j) % P.ws.length) = [])) := ⟨_, fun _ => Iff.rfl⟩
  refine ⟨fun h0 => ?_, fun hne ring' hlen hr' => ?_⟩
  all_goals
    repeat' first | apply step | (apply g_op; · repeat first | exact Evs.nil | (apply Evs.cons; exact rfl)) | (refine Br.mk (fun _ => ?_) (fun _ => ?_) <;> try (exfalso; omega)) | (refine Sd.mk ?_ ?_; · ((repeat' apply And.intro) <;> first | omega | trivial | assumption | (simp; done) | (simp; omega))) | (refine Sx.mk ?_ ?_; · omega) | refine Fa.mk (fun _ => ?_) | refine Im.mk (fun _ => ?_) | apply Lw.go | refine g_cond ?_ | refine g_guard ?_ | refine g_keep ?_ | refine g_pass ?_ | refine g_fin ?_ | (apply g_ap; exact rfl; exact rfl; assumption)
  subst h0
  refine at_foldP (wk bs[k] ⟨[], 0, false⟩) rfl (p, c, ring, top) ⟨hr, by dsimp only; omega⟩ ?_
  refine at_via2 (each_put (g := wk) (xs := bs) (ys := P.ws) (i := k) (by omega) hk) ?_
  refine at_loopS (E := fun w : Nat × Bool × List Wk × Nat => [(0, .pointer (some ⟨b, 0, none⟩)), (1, .int .i64 (k : Int)), (4, .pointer (some ⟨bs[k], 0, none⟩)), (5, .int .i64 (w.1 : Int))]) (Δ := fun w => own kPtr lp lc bs :: each wk bs w.2.2.1 :: pt b [.pointer (some ⟨sb, 0, none⟩), .slice lp bs.length lc, .int .i64 (P.next : Int), .int .i64 (P.did.length : Int), .int .i64 (w.2.2.2 : Int), .slice wp P.who.length wc] 0 :: own (kInt .i64) wp wc P.who :: F) (P := LI) (μ := fun w => P.ws.length + 1 - w.1) (1, false, P.ws.set k ⟨[], 0, false⟩, P.stolen) ((hLI _).2 ⟨Nat.le_refl _, by dsimp only; omega, by simp, by simp; omega, by simp, fun _ => ⟨rfl, rfl, by rw [hwk], fun j q1 q2 => by dsimp only at q2; omega⟩⟩) ?_
  rotate_left
  refine at_foldP (wk bs[k] ⟨row.dropLast, row.getLast hne, true⟩) rfl (p, c, ring', top) ⟨hr', hbl _ (List.getLast_mem hne)⟩ ?_
  refine at_via2 (each_put (g := wk) (xs := bs) (ys := P.ws) (i := k) (by omega) hk) ?_
  refine at_loopS (E := fun w : Nat × Bool × List Wk × Nat => [(0, .pointer (some ⟨b, 0, none⟩)), (1, .int .i64 (k : Int)), (4, .pointer (some ⟨bs[k], 0, none⟩)), (5, .int .i64 (w.1 : Int))]) (Δ := fun w => own kPtr lp lc bs :: each wk bs w.2.2.1 :: pt b [.pointer (some ⟨sb, 0, none⟩), .slice lp bs.length lc, .int .i64 (P.next : Int), .int .i64 (P.did.length : Int), .int .i64 (w.2.2.2 : Int), .slice wp P.who.length wc] 0 :: own (kInt .i64) wp wc P.who :: F) (P := LI) (μ := fun w => P.ws.length + 1 - w.1) (1, true, P.ws.set k ⟨row.dropLast, row.getLast hne, true⟩, P.stolen) ((hLI _).2 ⟨Nat.le_refl _, by dsimp only; omega, by simp, by simp; omega, fun _ => ⟨by
      have := took_own hk (by rw [hwk]; exact hne)
      rw [this]; simp only [hwk], _, _, by rw [List.getElem?_set_self hk]⟩, by simp⟩) ?_
  all_goals
    rintro ⟨i, fd, ws, st⟩ hL
    obtain ⟨hi1, hi2, hws, hst, hf1, hf2⟩ := (hLI _).1 hL
    dsimp only at hi1 hi2 hws hst hf1 hf2 ⊢
    have hkw : k < ws.length := by omega
    repeat' first | apply step | (apply g_op; · repeat first | exact Evs.nil | (apply Evs.cons; exact rfl)) | (refine Br.mk (fun _ => ?_) (fun _ => ?_) <;> try (exfalso; omega)) | (refine Sd.mk ?_ ?_; · ((repeat' apply And.intro) <;> first | omega | trivial | assumption | (simp; done) | (simp; omega))) | (refine Sx.mk ?_ ?_; · omega) | refine Fa.mk (fun _ => ?_) | refine Im.mk (fun _ => ?_) | apply Lw.go | refine g_cond ?_ | refine g_guard ?_ | refine g_keep ?_ | refine g_pass ?_ | refine g_fin ?_ | (apply g_ap; exact rfl; exact rfl; assumption)
    · -- one more may be looked at
      have hin : i < P.ws.length := by omega
      cases fd
      · obtain ⟨rfl, rfl, hk0, hnone⟩ := hf2 rfl
        have hwk2 : (P.ws.set k ⟨[], 0, false⟩)[k]'hkw = ⟨[], 0, false⟩ := by rw [List.getElem_set_self]
        refine av_via (each_get (g := wk) (xs := bs) (i := k) (by omega) hkw hwk2) ?_
        refine av_openP (wk bs[k] ⟨[], 0, false⟩) rfl ?_
        rintro ⟨p1, c1, ring1, top1⟩ ⟨hr1, hj1⟩
        dsimp only at hr1 hj1 ⊢
        have hmod : (k + i) % bs.length < bs.length := Nat.mod_lt _ (by omega)
        repeat' first | apply step | (apply g_op; · repeat first | exact Evs.nil | (apply Evs.cons; exact rfl)) | (refine Br.mk (fun _ => ?_) (fun _ => ?_) <;> try (exfalso; omega)) | (refine Sd.mk ?_ ?_; · ((repeat' apply And.intro) <;> first | omega | trivial | assumption | (simp; done) | (simp; omega))) | (refine Sx.mk ?_ ?_; · omega) | refine Fa.mk (fun _ => ?_) | refine Im.mk (fun _ => ?_) | apply Lw.go | refine g_cond ?_ | refine g_guard ?_ | refine g_keep ?_ | refine g_pass ?_ | refine g_fin ?_ | (apply g_ap; exact rfl; exact rfl; assumption)
        have hne : (k + i) % bs.length ≠ k := by
          have := modne (a := k) (i := i) (j := 0) (m := bs.length) (by omega) (by omega)
          rwa [Nat.add_zero, Nat.mod_eq_of_lt (show k < bs.length by omega)] at this
        obtain ⟨f, hfe⟩ : ∃ f, (k + i) % bs.length = f := ⟨_, rfl⟩
        have hfe' : (k + i) % P.ws.length = f := by rw [← hl]; exact hfe
        simp only [hfe] at hmod hne ⊢
        refine av_foldP (wk bs[k] ⟨[], 0, false⟩) rfl (p1, c1, ring1, top1) ⟨hr1, hj1⟩ ?_
        refine av_via2 (each_same (g := wk) (xs := bs) (i := k) (by omega) hkw hwk2) ?_
        have hf : f < P.ws.length := by omega
        have hff : f < (P.ws.set k ⟨[], 0, false⟩).length := by omega
        obtain ⟨rowf, jobf, holdsf, hwf⟩ : ∃ r j h, P.ws[f] = ⟨r, j, h⟩ := ⟨_, _, _, rfl⟩
        have hwf2 : (P.ws.set k ⟨[], 0, false⟩)[f]'hff = ⟨rowf, jobf, holdsf⟩ := by rw [List.getElem_set_ne (fun e => hne e.symm), hwf]
        refine av_via (each_get (g := wk) (xs := bs) (i := f) (by omega) hff hwf2) ?_
        refine av_openP (wk bs[f] ⟨rowf, jobf, holdsf⟩) rfl ?_
        rintro ⟨p2, c2, ring2, top2⟩ ⟨hr2, hj2⟩
        dsimp only at hr2 hj2 ⊢
        apply step
        refine av_bnd (p := p2) (l := ring2) (fun hb2 => ?_)
        have hbl2 := hr2.bnd hb2
        first | refine at_callS (deque_Deque_int_Steal_spec (pre := []) hr2) ?_ | refine at_callR (deque_Deque_int_Steal_spec (pre := []) hr2) ?_
        refine ⟨fun h0 => ?_, fun hrn ring3 top3 hlen3 hr3 => ?_⟩
        · repeat' first | apply step | (apply g_op; · repeat first | exact Evs.nil | (apply Evs.cons; exact rfl)) | (refine Br.mk (fun _ => ?_) (fun _ => ?_) <;> try (exfalso; omega)) | (refine Sd.mk ?_ ?_; · ((repeat' apply And.intro) <;> first | omega | trivial | assumption | (simp; done) | (simp; omega))) | (refine Sx.mk ?_ ?_; · omega) | refine Fa.mk (fun _ => ?_) | refine Im.mk (fun _ => ?_) | apply Lw.go | refine g_cond ?_ | refine g_guard ?_ | refine g_keep ?_ | refine g_pass ?_ | refine g_fin ?_ | (apply g_ap; exact rfl; exact rfl; assumption)
          subst h0
          refine av_foldP (wk bs[f] ⟨[], jobf, holdsf⟩) rfl (p2, c2, ring2, top2) ⟨hr2, hj2⟩ ?_
          refine av_via2 (each_same (g := wk) (xs := bs) (i := f) (by omega) hff hwf2) ?_
          refine av_via (each_get (g := wk) (xs := bs) (i := k) (by omega) hkw hwk2) ?_
          refine av_openP (wk bs[k] ⟨[], 0, false⟩) rfl ?_
          rintro ⟨p4, c4, ring4, top4⟩ ⟨hr4, hj4⟩
          dsimp only at hr4 hj4 ⊢
          repeat' first | apply step | (apply g_op; · repeat first | exact Evs.nil | (apply Evs.cons; exact rfl)) | (refine Br.mk (fun _ => ?_) (fun _ => ?_) <;> try (exfalso; omega)) | (refine Sd.mk ?_ ?_; · ((repeat' apply And.intro) <;> first | omega | trivial | assumption | (simp; done) | (simp; omega))) | (refine Sx.mk ?_ ?_; · omega) | refine Fa.mk (fun _ => ?_) | refine Im.mk (fun _ => ?_) | apply Lw.go | refine g_cond ?_ | refine g_guard ?_ | refine g_keep ?_ | refine g_pass ?_ | refine g_fin ?_ | (apply g_ap; exact rfl; exact rfl; assumption)
          refine at_foldP (wk bs[k] ⟨[], 0, false⟩) rfl (p4, c4, ring4, top4) ⟨hr4, hj4⟩ ?_
          refine at_via2 (each_same (g := wk) (xs := bs) (i := k) (by omega) hkw hwk2) ?_
          refine lp_next (i + 1, false, P.ws.set k ⟨[], 0, false⟩, P.stolen) ((hLI _).2 ⟨by dsimp only; omega, by dsimp only; omega, by simp, by simp; omega, by simp, fun _ => ⟨rfl, rfl, hk0, fun j q1 q2 => ?_⟩⟩) (by dsimp only; omega)
          dsimp only at q2
          by_cases hji : j = i
          · subst hji; rw [hfe', rowAt_lt hf, hwf]
          · exact hnone j q1 (by omega)
        · repeat' first | apply step | (apply g_op; · repeat first | exact Evs.nil | (apply Evs.cons; exact rfl)) | (refine Br.mk (fun _ => ?_) (fun _ => ?_) <;> try (exfalso; omega)) | (refine Sd.mk ?_ ?_; · ((repeat' apply And.intro) <;> first | omega | trivial | assumption | (simp; done) | (simp; omega))) | (refine Sx.mk ?_ ?_; · omega) | refine Fa.mk (fun _ => ?_) | refine Im.mk (fun _ => ?_) | apply Lw.go | refine g_cond ?_ | refine g_guard ?_ | refine g_keep ?_ | refine g_pass ?_ | refine g_fin ?_ | (apply g_ap; exact rfl; exact rfl; assumption)
          refine av_foldP (wk bs[f] ⟨rowf.tail, jobf, holdsf⟩) rfl (p2, c2, ring3, top3) ⟨hr3, hj2⟩ ?_
          refine av_via2 (each_put (g := wk) (xs := bs) (ys := P.ws.set k ⟨[], 0, false⟩) (i := f) (by omega) hff) ?_
          have hk3 : k < ((P.ws.set k ⟨[], 0, false⟩).set f ⟨rowf.tail, jobf, holdsf⟩).length := by simp; omega
          refine av_via (each_take (g := wk) (xs := bs) (i := k) (by omega) hk3) ?_
          have hwk3 : ((P.ws.set k ⟨[], 0, false⟩).set f ⟨rowf.tail, jobf, holdsf⟩)[k]'hk3 = ⟨[], 0, false⟩ := by rw [List.getElem_set_ne hne, List.getElem_set_self]
          rw [hwk3]
          refine av_openP (wk bs[k] ⟨[], 0, false⟩) rfl ?_
          rintro ⟨p4, c4, ring4, top4⟩ ⟨hr4, hj4⟩
          dsimp only at hr4 hj4 ⊢
          repeat' first | apply step | (apply g_op; · repeat first | exact Evs.nil | (apply Evs.cons; exact rfl)) | (refine Br.mk (fun _ => ?_) (fun _ => ?_) <;> try (exfalso; omega)) | (refine Sd.mk ?_ ?_; · ((repeat' apply And.intro) <;> first | omega | trivial | assumption | (simp; done) | (simp; omega))) | (refine Sx.mk ?_ ?_; · omega) | refine Fa.mk (fun _ => ?_) | refine Im.mk (fun _ => ?_) | apply Lw.go | refine g_cond ?_ | refine g_guard ?_ | refine g_keep ?_ | refine g_pass ?_ | refine g_fin ?_ | (apply g_ap; exact rfl; exact rfl; assumption)
          refine at_foldP (wk bs[k] ⟨[], rowf.head hrn, true⟩) rfl (p4, c4, ring4, top4) ⟨hr4, hbl2 _ (List.head_mem hrn)⟩ ?_
          refine at_via2 (each_put (g := wk) (xs := bs) (ys := (P.ws.set k ⟨[], 0, false⟩).set f ⟨rowf.tail, jobf, holdsf⟩) (i := k) (by omega) hk3) ?_
          have ht := took_steal (P := P) (k := k) (i := i) hk hk0 hi1 hin hnone (by rw [hfe']; exact hf) (by simp only [hfe', hwf]; exact hrn)
          simp only [hfe', hwf] at ht
          have hset : ((P.ws.set k ⟨[], 0, false⟩).set f ⟨rowf.tail, jobf, holdsf⟩).set k ⟨[], rowf.head hrn, true⟩ = (P.ws.set f ⟨rowf.tail, jobf, holdsf⟩).set k ⟨[], rowf.head hrn, true⟩ := by
            rw [List.set_comm _ _ (fun e => hne e.symm), List.set_set]
          refine lp_next (i + 1, true, ((P.ws.set k ⟨[], 0, false⟩).set f ⟨rowf.tail, jobf, holdsf⟩).set k ⟨[], rowf.head hrn, true⟩, P.stolen + 1) ((hLI _).2 ⟨by dsimp only; omega, by dsimp only; omega, by simp, by simp; omega, fun _ => ⟨?_, _, _, by rw [List.getElem?_set_self hk3]⟩, by simp⟩) (by dsimp only; omega)
          dsimp only
          rw [hset]; exact ht
      · obtain ⟨ht, r, j, hg⟩ := hf1 rfl
        have hwk2 : ws[k]'hkw = ⟨r, j, true⟩ := by rw [List.getElem?_eq_getElem hkw] at hg; exact Option.some.inj hg
        refine av_via (each_get (g := wk) (xs := bs) (i := k) (by omega) hkw hwk2) ?_
        refine av_openP (wk bs[k] ⟨r, j, true⟩) rfl ?_
        rintro ⟨p1, c1, ring1, top1⟩ ⟨hr1, hj1⟩
        dsimp only at hr1 hj1 ⊢
        repeat' first | apply step | (apply g_op; · repeat first | exact Evs.nil | (apply Evs.cons; exact rfl)) | (refine Br.mk (fun _ => ?_) (fun _ => ?_) <;> try (exfalso; omega)) | (refine Sd.mk ?_ ?_; · ((repeat' apply And.intro) <;> first | omega | trivial | assumption | (simp; done) | (simp; omega))) | (refine Sx.mk ?_ ?_; · omega) | refine Fa.mk (fun _ => ?_) | refine Im.mk (fun _ => ?_) | apply Lw.go | refine g_cond ?_ | refine g_guard ?_ | refine g_keep ?_ | refine g_pass ?_ | refine g_fin ?_ | (apply g_ap; exact rfl; exact rfl; assumption)
        refine fin_foldP (wk bs[k] ⟨r, j, true⟩) rfl (p1, c1, ring1, top1) ⟨hr1, hj1⟩ ?_
        refine fin_via2 (each_same (g := wk) (xs := bs) (i := k) (by omega) hkw hwk2) ?_
        rw [ht] at hR
        refine fin_foldP (pool b sb { P with ws := ws, stolen := st }) rfl ((lp, lc), (wp, wc), bs) (by dsimp only; omega) ?_
        exact fin hR
    · -- all were looked at
      have hin : i ≥ P.ws.length := by omega
      cases fd
      · obtain ⟨rfl, rfl, hk0, hnone⟩ := hf2 rfl
        have ht := took_none hk hk0 (fun j q1 q2 => hnone j q1 (by omega))
        rw [ht] at hR
        refine fin_foldP (pool b sb { P with ws := P.ws.set k ⟨[], 0, false⟩ }) rfl ((lp, lc), (wp, wc), bs) (by dsimp only; omega) ?_
        exact fin hR
      · obtain ⟨ht, r, j, hg⟩ := hf1 rfl
        rw [ht] at hR
        refine fin_foldP (pool b sb { P with ws := ws, stolen := st }) rfl ((lp, lc), (wp, wc), bs) (by dsimp only; omega) ?_
        exact fin hR
theorem took_did (P : Po) (k : Nat) : (P.took k).did = P.did ∧ (P.took k).who = P.who ∧ (P.took k).next = P.next := by
  unfold Po.took
  simp only
  split
  · exact ⟨rfl, rfl, rfl⟩
  · split <;> exact ⟨rfl, rfl, rfl⟩
theorem hv_bnd {x : Int} (h : -9223372036854775808 ≤ x ∧ x ≤ 9223372036854775807) : ∀ y ∈ hv x, -9223372036854775808 ≤ y ∧ y ≤ 9223372036854775807 := by
  intro y hy
  unfold hv at hy
  split at hy
  · simp at hy
  · simp at hy; omega
theorem hv_len (x : Int) : (hv x).length ≤ 2 := by unfold hv; split <;> simp
/-- What is done with jobs. -/
def Does (fd : FuncId) (caps : Array Value) (D : List Int → HP) : Prop := ∀ (k : Nat) (job : Int) (ds : List Int), k ≤ 64 → -9223372036854775808 ≤ job ∧ job ≤ 9223372036854775807 → ds.length ≤ 1000000 → Spec prog1 fd ([.int .i64 (k : Int), .int .i64 job] ++ caps.toList) [D ds] (fun R => ∀ p c, R (.slice p (hv job).length c) [own (kInt .i64) p c (hv job), D (ds ++ [job])])
theorem pool_Pool_int_step_spec {k : Nat} {fd : FuncId} {caps : Array Value} {D : List Int → HP} (hd : Does fd caps D) (ok : P.ok) (hk : k < P.ws.length) : Spec prog1 n_pool_Pool_int_step [.pointer (some ⟨b, 0, none⟩), .int .i64 (k : Int), .func (.func fd) #[] caps] [pool b sb P, D P.did] (fun R => R (.tuple #[]) [pool b sb (P.step k), D (P.step k).did]) := by
  refine spec_code c_pool_Pool_int_step rfl ?_; intro n F R hR; unfold F_pool_Pool_int_step
  have h1 := ok.n
  have h2 := ok.s
  have h3 := ok.w
  have h4 := ok.d
  have hrow := row_le hk
  refine at_openP (pool b sb P) rfl ?_
  rintro ⟨⟨lp, lc⟩, ⟨wp, wc⟩, bs⟩ hl
  dsimp only at hl ⊢
  repeat' first | apply step | (apply g_op; · repeat first | exact Evs.nil | (apply Evs.cons; exact rfl)) | (refine Br.mk (fun _ => ?_) (fun _ => ?_) <;> try (exfalso; omega)) | (refine Sd.mk ?_ ?_; · ((repeat' apply And.intro) <;> first | omega | trivial | assumption | (simp; done) | (simp; omega))) | (refine Sx.mk ?_ ?_; · omega) | refine Fa.mk (fun _ => ?_) | refine Im.mk (fun _ => ?_) | apply Lw.go | refine g_cond ?_ | refine g_guard ?_ | refine g_keep ?_ | refine g_pass ?_ | refine g_fin ?_ | (apply g_ap; exact rfl; exact rfl; assumption)
  obtain ⟨row, job, holds, hwk⟩ : ∃ r j h, P.ws[k] = ⟨r, j, h⟩ := ⟨_, _, _, rfl⟩
  refine av_via (each_get (g := wk) (xs := bs) (i := k) (by omega) hk hwk) ?_
  refine av_openP (wk bs[k] ⟨row, job, holds⟩) rfl ?_
  rintro ⟨p, c, ring, top⟩ ⟨hr, hj⟩
  dsimp only at hr hj ⊢
  unfold Po.step at hR
  simp only [getD_row hk, hwk] at hR
  rw [hwk] at hrow
  dsimp only at hrow
  cases holds
  · simp only [Bool.false_eq_true, if_false] at hR
    repeat' first | apply step | (apply g_op; · repeat first | exact Evs.nil | (apply Evs.cons; exact rfl)) | (refine Br.mk (fun _ => ?_) (fun _ => ?_) <;> try (exfalso; omega)) | (refine Sd.mk ?_ ?_; · ((repeat' apply And.intro) <;> first | omega | trivial | assumption | (simp; done) | (simp; omega))) | (refine Sx.mk ?_ ?_; · omega) | refine Fa.mk (fun _ => ?_) | refine Im.mk (fun _ => ?_) | apply Lw.go | refine g_cond ?_ | refine g_guard ?_ | refine g_keep ?_ | refine g_pass ?_ | refine g_fin ?_ | (apply g_ap; exact rfl; exact rfl; assumption)
    refine av_foldP (wk bs[k] ⟨row, job, false⟩) rfl (p, c, ring, top) ⟨hr, hj⟩ ?_
    refine av_via2 (each_same (g := wk) (xs := bs) (i := k) (by omega) hk hwk) ?_
    rename_i wp' wc'
    refine av_foldP (pool b sb { P with who := P.who ++ [(k : Int)] }) rfl ((lp, lc), (wp', wc'), bs) hl ?_
    first | refine at_callS (pool_Pool_int_take_spec (P := { P with who := P.who ++ [(k : Int)] }) h1 h2 hk) ?_ | refine at_callR (pool_Pool_int_take_spec (P := { P with who := P.who ++ [(k : Int)] }) h1 h2 hk) ?_
    repeat' first | apply step | (apply g_op; · repeat first | exact Evs.nil | (apply Evs.cons; exact rfl)) | (refine Br.mk (fun _ => ?_) (fun _ => ?_) <;> try (exfalso; omega)) | (refine Sd.mk ?_ ?_; · ((repeat' apply And.intro) <;> first | omega | trivial | assumption | (simp; done) | (simp; omega))) | (refine Sx.mk ?_ ?_; · omega) | refine Fa.mk (fun _ => ?_) | refine Im.mk (fun _ => ?_) | apply Lw.go | refine g_cond ?_ | refine g_guard ?_ | refine g_keep ?_ | refine g_pass ?_ | refine g_fin ?_ | (apply g_ap; exact rfl; exact rfl; assumption)
    rw [(took_did _ _).1] at hR
    exact fin hR
  · simp only [if_true] at hR
    repeat' first | apply step | (apply g_op; · repeat first | exact Evs.nil | (apply Evs.cons; exact rfl)) | (refine Br.mk (fun _ => ?_) (fun _ => ?_) <;> try (exfalso; omega)) | (refine Sd.mk ?_ ?_; · ((repeat' apply And.intro) <;> first | omega | trivial | assumption | (simp; done) | (simp; omega))) | (refine Sx.mk ?_ ?_; · omega) | refine Fa.mk (fun _ => ?_) | refine Im.mk (fun _ => ?_) | apply Lw.go | refine g_cond ?_ | refine g_guard ?_ | refine g_keep ?_ | refine g_pass ?_ | refine g_fin ?_ | (apply g_ap; exact rfl; exact rfl; assumption)
    refine av_foldP (wk bs[k] ⟨row, 0, false⟩) rfl (p, c, ring, top) ⟨hr, by dsimp only; omega⟩ ?_
    refine av_via2 (each_put (g := wk) (xs := bs) (ys := P.ws) (i := k) (by omega) hk) ?_
    rename_i wp' wc'
    have hlen := hv_len job
    first | refine at_callS (hd k job P.did (by omega) hj (by omega)) ?_ | refine at_callR (hd k job P.did (by omega) hj (by omega)) ?_
    intro p5 c5
    repeat' first | apply step | (apply g_op; · repeat first | exact Evs.nil | (apply Evs.cons; exact rfl)) | (refine Br.mk (fun _ => ?_) (fun _ => ?_) <;> try (exfalso; omega)) | (refine Sd.mk ?_ ?_; · ((repeat' apply And.intro) <;> first | omega | trivial | assumption | (simp; done) | (simp; omega))) | (refine Sx.mk ?_ ?_; · omega) | refine Fa.mk (fun _ => ?_) | refine Im.mk (fun _ => ?_) | apply Lw.go | refine g_cond ?_ | refine g_guard ?_ | refine g_keep ?_ | refine g_pass ?_ | refine g_fin ?_ | (apply g_ap; exact rfl; exact rfl; assumption)
    refine at_loopS (ι := Nat) (E := fun i => [(6, .pointer (some ⟨bs[k], 0, none⟩)), (59, .slice p5 (hv job).length c5), (60, .int .i64 ((hv job).length : Int)), (61, .int .i64 (i : Int))]) (Δ := fun i => own (kInt .i64) p5 c5 (hv job) :: D (P.did ++ [job]) :: each wk bs (P.ws.set k ⟨row ++ (hv job).take i, 0, false⟩) :: pt b [.pointer (some ⟨sb, 0, none⟩), .slice lp bs.length lc, .int .i64 (P.next : Int), .int .i64 ((P.did.length + 1 : Nat) : Int), .int .i64 (P.stolen : Int), .slice wp' (P.who ++ [(k : Int)]).length wc'] 0 :: own kPtr lp lc bs :: own (kInt .i64) wp' wc' (P.who ++ [(k : Int)]) :: F) (P := fun i => i ≤ (hv job).length) (μ := fun i => (hv job).length - i) 0 (Nat.zero_le _) ?_ (hs := by simp only [List.take_zero, List.append_nil]; repeat first | exact Ent.refl _ | (apply Ent.more; · repeat first | exact Ent.keep | exact Ent.here | exact Ent.lend | exact ent_nil | apply Ent.there) | apply Ent.drop)
    rintro i hi
    try dsimp only
    repeat' first | apply step | (apply g_op; · repeat first | exact Evs.nil | (apply Evs.cons; exact rfl)) | (refine Br.mk (fun _ => ?_) (fun _ => ?_) <;> try (exfalso; omega)) | (refine Sd.mk ?_ ?_; · ((repeat' apply And.intro) <;> first | omega | trivial | assumption | (simp; done) | (simp; omega))) | (refine Sx.mk ?_ ?_; · omega) | refine Fa.mk (fun _ => ?_) | refine Im.mk (fun _ => ?_) | apply Lw.go | refine g_cond ?_ | refine g_guard ?_ | refine g_keep ?_ | refine g_pass ?_ | refine g_fin ?_ | (apply g_ap; exact rfl; exact rfl; assumption)
    · have hi' : i < (hv job).length := by omega
      have hk2 : k < (P.ws.set k ⟨row ++ (hv job).take i, 0, false⟩).length := by simpa using hk
      have hw2 : (P.ws.set k ⟨row ++ (hv job).take i, 0, false⟩)[k]'hk2 = ⟨row ++ (hv job).take i, 0, false⟩ := by rw [List.getElem_set_self]
      refine av_via (each_get (g := wk) (xs := bs) (i := k) (by omega) hk2 hw2) ?_
      refine av_openP (wk bs[k] ⟨row ++ (hv job).take i, 0, false⟩) rfl ?_
      rintro ⟨p1, c1, ring1, top1⟩ ⟨hr1, hj1⟩
      dsimp only at hr1 hj1 ⊢
      first | refine at_callS (deque_Deque_int_Push_spec (pre := []) (v := (hv job)[i]) hr1 (by simp; omega) (hv_bnd hj _ (List.getElem_mem hi'))) ?_ | refine at_callR (deque_Deque_int_Push_spec (pre := []) (v := (hv job)[i]) hr1 (by simp; omega) (hv_bnd hj _ (List.getElem_mem hi'))) ?_
      intro p2 c2 ring2 top2 hr2
      repeat' first | apply step | (apply g_op; · repeat first | exact Evs.nil | (apply Evs.cons; exact rfl)) | (refine Br.mk (fun _ => ?_) (fun _ => ?_) <;> try (exfalso; omega)) | (refine Sd.mk ?_ ?_; · ((repeat' apply And.intro) <;> first | omega | trivial | assumption | (simp; done) | (simp; omega))) | (refine Sx.mk ?_ ?_; · omega) | refine Fa.mk (fun _ => ?_) | refine Im.mk (fun _ => ?_) | apply Lw.go | refine g_cond ?_ | refine g_guard ?_ | refine g_keep ?_ | refine g_pass ?_ | refine g_fin ?_ | (apply g_ap; exact rfl; exact rfl; assumption)
      refine at_foldP (wk bs[k] ⟨row ++ (hv job).take i ++ [(hv job)[i]], 0, false⟩) rfl (p2, c2, ring2, top2) ⟨hr2, by dsimp only; omega⟩ ?_
      refine at_via2 (each_put (g := wk) (xs := bs) (ys := P.ws.set k ⟨row ++ (hv job).take i, 0, false⟩) (i := k) (by omega) hk2) ?_
      rw [List.set_set, List.append_assoc, take_snoc hi']
      exact lp_next (i + 1) (by omega) (by omega)
    · have : (hv job).take i = hv job := List.take_of_length_le (by omega)
      rw [this]
      refine fin_foldP (pool b sb { P with who := P.who ++ [(k : Int)], ws := P.ws.set k ⟨row ++ hv job, 0, false⟩, did := P.did ++ [job] }) rfl ((lp, lc), (wp', wc'), bs) (by simpa using hl) ?_ (by
        simp only [List.length_append, List.length_cons, List.length_nil, Nat.zero_add]
        repeat first | exact Ent.refl _ | (apply Ent.more; · repeat first | exact Ent.keep | exact Ent.here | exact Ent.lend | exact ent_nil | apply Ent.there) | apply Ent.drop)
      exact fin hR
end
end Go.AMS

namespace Go.AMS
open Go.AM hiding Kt At WP WL Runs RunsY
open Go.AM.G
set_option linter.unusedVariables false
set_option linter.unusedSimpArgs false
set_option linter.unusedSectionVars false
set_option maxRecDepth 100000
set_option maxHeartbeats 1000000
attribute [local irreducible] AtS AtV AtC AtG FinA Spec Post LP G.At G.WP G.WL pt own fro rdl ro hx mp lrec elt sub

open Go.AM.G.Set
section
variable {b sb : Nat} {P : Po}
theorem one_took (s : Scr) : (s.one.took).steps = s.steps + 1 ∧ (s.one.took).used ≤ s.used + 1 ∧ (s.one.took).l = s.l ∧ (s.one.took).cancel = s.cancel := by
  unfold Scr.took Scr.one
  split <;> simp
/-- A step of a script, with somebody ready. -/
theorem stepS_off {s : Scr} {r : List Int} (h : s.off) : stepS s r = (s, 0, 8) := by unfold stepS; rw [if_pos h]
theorem stepS_on {s : Scr} {r : List Int} (h : ¬ s.off) (hr : r ≠ []) : stepS s r = (s.one.took, (setL r).getD (s.pick (setL r).length) 0, 0) ∧ (setL r).getD (s.pick (setL r).length) 0 ∈ r := by
  have hne : (setL r).length ≠ 0 := fun e => hr (setL_nil_iff.1 e)
  refine ⟨by unfold stepS; rw [if_neg h, if_neg hne], ?_⟩
  rw [getD_lt (pick_lt (by omega))]
  exact mem_setL.1 (List.getElem_mem _)
theorem runP_done {f : Nat} {s : Scr} (h : readyL P.ws = []) : runP (f + 1) P s = (P, s, 0) := by
  unfold runP; rw [if_pos h]
theorem runP_off {f : Nat} {s : Scr} (h : readyL P.ws ≠ []) (ho : s.off) : runP (f + 1) P s = (P, s, 8) := by
  unfold runP; rw [if_neg h, stepS_off ho]; simp
theorem map_ne {l : List Nat} (h : l ≠ []) : l.map Int.ofNat ≠ [] := by simpa using h
/-- A step that is done. -/
theorem runP_on {f : Nat} {s : Scr} (h : readyL P.ws ≠ []) (ho : ¬ s.off) : ∃ k, k ∈ readyL P.ws ∧ stepS s ((readyL P.ws).map Int.ofNat) = (s.one.took, (k : Int), 0) ∧ runP (f + 1) P s = runP f (P.step k) s.one.took := by
  obtain ⟨h1, h2⟩ := stepS_on ho (map_ne h)
  obtain ⟨k, h3, h4⟩ := List.mem_map.1 h2
  refine ⟨k, h3, by rw [h1, ← h4]; rfl, ?_⟩
  conv => lhs; unfold runP
  rw [if_neg h, h1, ← h4]
  simp
theorem step_lens (P : Po) (k : Nat) (hk : k < P.ws.length) : (P.step k).who.length = P.who.length + 1 ∧ (P.step k).did.length ≤ P.did.length + 1 ∧ (P.step k).stolen ≤ P.stolen + 1 ∧ (P.step k).next = P.next := by
  unfold Po.step
  simp only
  split
  · simp
  · have h := took_did { P with who := P.who ++ [(k : Int)] } k
    rw [h.1, h.2.1, h.2.2]
    refine ⟨by simp, by simp, ?_, rfl⟩
    unfold Po.took
    simp only
    split
    · simp
    · split <;> simp
theorem step_ok {k : Nat} (ok : P.ok) (hk : k ∈ readyL P.ws) : (P.step k).ok := by
  obtain ⟨hl, hr⟩ := mem_readyL.1 hk
  obtain ⟨h1, h2⟩ := step_mm hl hr
  obtain ⟨h3, h4, h5, h6⟩ := step_lens P k hl
  have := ok.n; have := ok.x; have := ok.w; have := ok.d; have := ok.s
  exact ⟨by omega, by omega, by omega, by omega, by omega⟩
theorem Scr.ok.one {s : Scr} (h : s.ok) (h1 : s.steps + 1 ≤ 1000000000000) (h2 : s.used + 1 ≤ 1000000000000) : s.one.took.ok := by
  obtain ⟨e1, e2, e3, e4⟩ := one_took s
  exact ⟨by rw [e4]; exact h.hc, by omega, by omega, by rw [e3]; exact h.hl⟩
theorem readyL_len (ws : List Wk) : (readyL ws).length ≤ ws.length := by
  unfold readyL
  exact Nat.le_trans (List.length_filter_le _ _) (by simp)
theorem pool_Pool_int_Run_spec {s : Scr} {fd : FuncId} {caps : Array Value} {D : List Int → HP} (hd : Does fd caps D) (ok : P.ok) (h1 : s.steps + mm P.ws < 1000000000000) (h2 : s.used + mm P.ws < 1000000000000) :
    Spec prog1 n_pool_Pool_int_Run [.pointer (some ⟨b, 0, none⟩), .func (.func fd) #[] caps] [pool b sb P, scr true sb s, D P.did] (fun R => R (.int .i64 (runP (mm P.ws + 1) P s).2.2) [pool b sb (runP (mm P.ws + 1) P s).1, scr true sb (runP (mm P.ws + 1) P s).2.1, D (runP (mm P.ws + 1) P s).1.did]) := by
  refine spec_code c_pool_Pool_int_Run rfl ?_; intro n F R hR; unfold F_pool_Pool_int_Run
  repeat' first | apply step | (apply g_op; · repeat first | exact Evs.nil | (apply Evs.cons; exact rfl)) | (refine Br.mk (fun _ => ?_) (fun _ => ?_) <;> try (exfalso; omega)) | (refine Sd.mk ?_ ?_; · ((repeat' apply And.intro) <;> first | omega | trivial | assumption | (simp; done) | (simp; omega))) | (refine Sx.mk ?_ ?_; · omega) | refine Fa.mk (fun _ => ?_) | refine Im.mk (fun _ => ?_) | apply Lw.go | refine g_cond ?_ | refine g_guard ?_ | refine g_keep ?_ | refine g_pass ?_ | refine g_fin ?_ | (apply g_ap; exact rfl; exact rfl; assumption)
  first | refine at_callS (pool_Pool_int_is_spec ok (b := b) (sb := sb)) ?_ | refine at_callR (pool_Pool_int_is_spec ok (b := b) (sb := sb)) ?_
  repeat' first | apply step | (apply g_op; · repeat first | exact Evs.nil | (apply Evs.cons; exact rfl)) | (refine Br.mk (fun _ => ?_) (fun _ => ?_) <;> try (exfalso; omega)) | (refine Sd.mk ?_ ?_; · ((repeat' apply And.intro) <;> first | omega | trivial | assumption | (simp; done) | (simp; omega))) | (refine Sx.mk ?_ ?_; · omega) | refine Fa.mk (fun _ => ?_) | refine Im.mk (fun _ => ?_) | apply Lw.go | refine g_cond ?_ | refine g_guard ?_ | refine g_keep ?_ | refine g_pass ?_ | refine g_fin ?_ | (apply g_ap; exact rfl; exact rfl; assumption)
  obtain ⟨LI, hLI⟩ : ∃ LI : Po × Scr → Prop, ∀ w, LI w ↔ (w.1.ok ∧ w.2.steps + mm w.1.ws < 1000000000000 ∧ w.2.used + mm w.1.ws < 1000000000000 ∧ runP (mm P.ws + 1) P s = runP (mm w.1.ws + 1) w.1 w.2) := ⟨_, fun _ => Iff.rfl⟩
  refine at_loopS (ι := Po × Scr) (E := fun w => [(0, .pointer (some ⟨b, 0, none⟩)), (1, .func (.func fd) #[] caps), (4, .int .i64 0)]) (Δ := fun w => pool b sb w.1 :: scr true sb w.2 :: D w.1.did :: F) (P := LI) (μ := fun w => mm w.1.ws) (P, s) ((hLI _).2 ⟨ok, h1, h2, rfl⟩) ?_
  rintro ⟨P1, s1⟩ hL
  obtain ⟨ok1, hs1, hu1, hrun⟩ := (hLI _).1 hL
  dsimp only at ok1 hs1 hu1 hrun ⊢
  rw [hrun] at hR
  repeat' first | apply step | (apply g_op; · repeat first | exact Evs.nil | (apply Evs.cons; exact rfl)) | (refine Br.mk (fun _ => ?_) (fun _ => ?_) <;> try (exfalso; omega)) | (refine Sd.mk ?_ ?_; · ((repeat' apply And.intro) <;> first | omega | trivial | assumption | (simp; done) | (simp; omega))) | (refine Sx.mk ?_ ?_; · omega) | refine Fa.mk (fun _ => ?_) | refine Im.mk (fun _ => ?_) | apply Lw.go | refine g_cond ?_ | refine g_guard ?_ | refine g_keep ?_ | refine g_pass ?_ | refine g_fin ?_ | (apply g_ap; exact rfl; exact rfl; assumption)
  rename_i xo
  first | refine at_callS (pool_Pool_int_ready_spec) ?_ | refine at_callR (pool_Pool_int_ready_spec) ?_
  intro x
  repeat' first | apply step | (apply g_op; · repeat first | exact Evs.nil | (apply Evs.cons; exact rfl)) | (refine Br.mk (fun _ => ?_) (fun _ => ?_) <;> try (exfalso; omega)) | (refine Sd.mk ?_ ?_; · ((repeat' apply And.intro) <;> first | omega | trivial | assumption | (simp; done) | (simp; omega))) | (refine Sx.mk ?_ ?_; · omega) | refine Fa.mk (fun _ => ?_) | refine Im.mk (fun _ => ?_) | apply Lw.go | refine g_cond ?_ | refine g_guard ?_ | refine g_keep ?_ | refine g_pass ?_ | refine g_fin ?_ | (apply g_ap; exact rfl; exact rfl; assumption)
  obtain ⟨I, hI⟩ : ∃ I : Nat → HP, ∀ i, I i = hx fun (w : Option Addr × Nat × List Int) => (w.2.2 = ((readyL P1.ws).map Int.ofNat).take i, [pt xo [.slice w.1 w.2.2.length w.2.1] 0, own (kInt .i64) w.1 w.2.1 w.2.2]) := ⟨_, fun _ => rfl⟩
  refine at_foldP (I 0) (hI 0) (none, 0, []) (by simp) ?_
  have hrl := readyL_len P1.ws
  have hn1 := ok1.n
  refine at_rfunS (I := I) (J := fun _ => noP) (Po := [pool b sb P1]) (readyL P1.ws).length (fun i => [.int .i64 ((readyL P1.ws).getD i 0 : Int)])
    (fun ly A B h => pool_Pool_int_ready_c1_spec (x := x) ok1 (fun i hi => by have := h i hi; rwa [getD_lt hi] at this)) (fun _ _ => rfl) ?_ ?_ (fun _ _ => at_no)
  · intro i hi ly m F'
    refine at_openP (I i) (hI i) ?_
    rintro ⟨p', c', l'⟩ h
    dsimp only at h ⊢
    subst h
    rw [getD_lt hi]
    have := (mem_readyL.1 (List.getElem_mem hi)).1
    repeat' first | apply step | (apply g_op; · repeat first | exact Evs.nil | (apply Evs.cons; exact rfl)) | (refine Br.mk (fun _ => ?_) (fun _ => ?_) <;> try (exfalso; omega)) | (refine Sd.mk ?_ ?_; · ((repeat' apply And.intro) <;> first | omega | trivial | assumption | (simp; done) | (simp; omega))) | (refine Sx.mk ?_ ?_; · omega) | refine Fa.mk (fun _ => ?_) | refine Im.mk (fun _ => ?_) | apply Lw.go | refine g_cond ?_ | refine g_guard ?_ | refine g_keep ?_ | refine g_pass ?_ | refine g_fin ?_ | (apply g_ap; exact rfl; exact rfl; assumption)
    refine at_foldP (I (i + 1)) (hI _) (_, _, ((readyL P1.ws).map Int.ofNat).take i ++ [((readyL P1.ws)[i] : Int)]) (by
      have := take_snoc (l := (readyL P1.ws).map Int.ofNat) (i := i) (by simpa using hi)
      dsimp only
      rw [← this]; simp) ?_
    exact y_next
  · refine at_openP (I _) (hI _) ?_
    rintro ⟨p', c', l'⟩ h
    dsimp only at h ⊢
    rw [show (readyL P1.ws).length = ((readyL P1.ws).map Int.ofNat).length by simp, List.take_length] at h
    subst h
    repeat' first | apply step | (apply g_op; · repeat first | exact Evs.nil | (apply Evs.cons; exact rfl)) | (refine Br.mk (fun _ => ?_) (fun _ => ?_) <;> try (exfalso; omega)) | (refine Sd.mk ?_ ?_; · ((repeat' apply And.intro) <;> first | omega | trivial | assumption | (simp; done) | (simp; omega))) | (refine Sx.mk ?_ ?_; · omega) | refine Fa.mk (fun _ => ?_) | refine Im.mk (fun _ => ?_) | apply Lw.go | refine g_cond ?_ | refine g_guard ?_ | refine g_keep ?_ | refine g_pass ?_ | refine g_fin ?_ | (apply g_ap; exact rfl; exact rfl; assumption)
    · have hnil : readyL P1.ws = [] := by
        have e : (List.map Int.ofNat (readyL P1.ws)).length = (readyL P1.ws).length := List.length_map ..
        exact List.eq_nil_of_length_eq_zero (by omega)
      rw [runP_done hnil] at hR
      exact fin hR
    · have hne : readyL P1.ws ≠ [] := by
        intro hq
        have e : (List.map Int.ofNat (readyL P1.ws)).length = (readyL P1.ws).length := List.length_map ..
        have e2 : (readyL P1.ws).length = 0 := by rw [hq]; rfl
        omega
      first | refine at_openP (pool b sb P1) rfl ?_ | refine av_openP (pool b sb P1) rfl ?_
      rintro ⟨⟨lp, lc⟩, ⟨wp, wc⟩, bs⟩ hl
      dsimp only at hl ⊢
      repeat' first | apply step | (apply g_op; · repeat first | exact Evs.nil | (apply Evs.cons; exact rfl)) | (refine Br.mk (fun _ => ?_) (fun _ => ?_) <;> try (exfalso; omega)) | (refine Sd.mk ?_ ?_; · ((repeat' apply And.intro) <;> first | omega | trivial | assumption | (simp; done) | (simp; omega))) | (refine Sx.mk ?_ ?_; · omega) | refine Fa.mk (fun _ => ?_) | refine Im.mk (fun _ => ?_) | apply Lw.go | refine g_cond ?_ | refine g_guard ?_ | refine g_keep ?_ | refine g_pass ?_ | refine g_fin ?_ | (apply g_ap; exact rfl; exact rfl; assumption)
      have hlen : (List.map Int.ofNat (readyL P1.ws)).length ≤ 1000000 := by rw [List.length_map]; omega
      first | refine at_callS (picks_Script_Step_spec (b := sb) (s := s1) (A := own (kInt .i64) p' c' ((readyL P1.ws).map Int.ofNat)) (p := p') (c := c') (r := (readyL P1.ws).map Int.ofNat) (fun Γ => inferInstance) hlen (by omega) (by omega)) ?_ | refine at_callR (picks_Script_Step_spec (b := sb) (s := s1) (A := own (kInt .i64) p' c' ((readyL P1.ws).map Int.ofNat)) (p := p') (c := c') (r := (readyL P1.ws).map Int.ofNat) (fun Γ => inferInstance) hlen (by omega) (by omega)) ?_
      by_cases ho : s1.off
      · rw [stepS_off ho]
        rw [runP_off hne ho] at hR
        repeat' first | apply step | (apply g_op; · repeat first | exact Evs.nil | (apply Evs.cons; exact rfl)) | (refine Br.mk (fun _ => ?_) (fun _ => ?_) <;> try (exfalso; omega)) | (refine Sd.mk ?_ ?_; · ((repeat' apply And.intro) <;> first | omega | trivial | assumption | (simp; done) | (simp; omega))) | (refine Sx.mk ?_ ?_; · omega) | refine Fa.mk (fun _ => ?_) | refine Im.mk (fun _ => ?_) | apply Lw.go | refine g_cond ?_ | refine g_guard ?_ | refine g_keep ?_ | refine g_pass ?_ | refine g_fin ?_ | (apply g_ap; exact rfl; exact rfl; assumption)
        refine fin_foldP (pool b sb P1) rfl ((lp, lc), (wp, wc), bs) hl ?_
        exact fin hR
      · obtain ⟨k, hk, hst, hrn⟩ := runP_on (f := mm P1.ws) (s := s1) hne ho
        rw [hst]
        obtain ⟨hkl, hkr⟩ := mem_readyL.1 hk
        obtain ⟨hm1, hm2⟩ := step_mm hkl hkr
        have ok2 := step_ok ok1 hk
        obtain ⟨e1, e2, e3, e4⟩ := one_took s1
        repeat' first | apply step | (apply g_op; · repeat first | exact Evs.nil | (apply Evs.cons; exact rfl)) | (refine Br.mk (fun _ => ?_) (fun _ => ?_) <;> try (exfalso; omega)) | (refine Sd.mk ?_ ?_; · ((repeat' apply And.intro) <;> first | omega | trivial | assumption | (simp; done) | (simp; omega))) | (refine Sx.mk ?_ ?_; · omega) | refine Fa.mk (fun _ => ?_) | refine Im.mk (fun _ => ?_) | apply Lw.go | refine g_cond ?_ | refine g_guard ?_ | refine g_keep ?_ | refine g_pass ?_ | refine g_fin ?_ | (apply g_ap; exact rfl; exact rfl; assumption)
        first | refine at_foldP (pool b sb P1) rfl ((lp, lc), (wp, wc), bs) hl ?_ | refine av_foldP (pool b sb P1) rfl ((lp, lc), (wp, wc), bs) hl ?_
        first | refine at_callS (pool_Pool_int_step_spec (b := b) (sb := sb) (k := k) hd ok1 hkl) ?_ | refine at_callR (pool_Pool_int_step_spec (b := b) (sb := sb) (k := k) hd ok1 hkl) ?_
        repeat' first | apply step | (apply g_op; · repeat first | exact Evs.nil | (apply Evs.cons; exact rfl)) | (refine Br.mk (fun _ => ?_) (fun _ => ?_) <;> try (exfalso; omega)) | (refine Sd.mk ?_ ?_; · ((repeat' apply And.intro) <;> first | omega | trivial | assumption | (simp; done) | (simp; omega))) | (refine Sx.mk ?_ ?_; · omega) | refine Fa.mk (fun _ => ?_) | refine Im.mk (fun _ => ?_) | apply Lw.go | refine g_cond ?_ | refine g_guard ?_ | refine g_keep ?_ | refine g_pass ?_ | refine g_fin ?_ | (apply g_ap; exact rfl; exact rfl; assumption)
        refine lp_next (P1.step k, s1.one.took) ((hLI _).2 ⟨ok2, by dsimp only; omega, by dsimp only; omega, ?_⟩) (by dsimp only; omega)
        dsimp only
        rw [hrun, hrn, hm1]
theorem r10_Of_spec {x : Int} (hx : -9223372036854775808 ≤ x ∧ x ≤ 9223372036854775807) : Spec prog1 n_r10_Of [.int .i64 x] [] (fun R => ∀ p c, R (.slice p (hv x).length c) [own (kInt .i64) p c (hv x)]) := by
  refine spec_code c_r10_Of rfl ?_; intro n F R hR; unfold F_r10_Of
  have hq : x.tdiv 2 = if 0 ≤ x then x / 2 else -(-x / 2) := by
    split
    · exact Int.tdiv_eq_ediv_of_nonneg (by omega)
    · rw [show x = -(-x) by omega, Int.neg_tdiv, Int.tdiv_eq_ediv_of_nonneg (by omega)]; simp
  have hq1 : -9223372036854775808 ≤ x.tdiv 2 ∧ x.tdiv 2 ≤ 9223372036854775807 := by rw [hq]; split <;> omega
  have hq2 : -9223372036854775808 ≤ x - x.tdiv 2 ∧ x - x.tdiv 2 ≤ 9223372036854775807 := by rw [hq]; split <;> omega
  repeat' first | apply step | (apply g_op; · repeat first | exact Evs.nil | (apply Evs.cons; exact rfl)) | (refine Br.mk (fun _ => ?_) (fun _ => ?_) <;> try (exfalso; omega)) | (refine Sd.mk ?_ ?_; · ((repeat' apply And.intro) <;> first | omega | trivial | assumption | (simp; done) | (simp; omega))) | (refine Sx.mk ?_ ?_; · omega) | refine Fa.mk (fun _ => ?_) | refine Im.mk (fun _ => ?_) | apply Lw.go | refine g_cond ?_ | refine g_guard ?_ | refine g_keep ?_ | refine g_pass ?_ | refine g_fin ?_ | (apply g_ap; exact rfl; exact rfl; assumption)
  · have e : hv x = [] := by unfold hv; rw [if_pos (by omega)]
    rw [e] at hR
    exact fin (hR none 0)
  · have e : hv x = [x / 2, x - x / 2] := by unfold hv; rw [if_neg (by omega)]
    have e2 : x.tdiv 2 = x / 2 := Int.tdiv_eq_ediv_of_nonneg (by omega)
    rw [e, ← e2] at hR
    refine fin_via (pt_own (K := kInt .i64) (l := [x.tdiv 2, x - x.tdiv 2]) (cap := 2) rfl inferInstance ?_) ?_
    · exact ⟨hq1, hq2⟩
    exact fin (hR _ 2)
/-- Nothing. -/
def emp : HP := hx fun (_ : Unit) => (True, [])
theorem l10_halves_does : Does n_l10_halves #[] (fun _ => emp) := by
  intro k job ds h1 h2 h3
  refine spec_code c_l10_halves rfl ?_; intro n F R hR; unfold F_l10_halves
  repeat' first | apply step | (apply g_op; · repeat first | exact Evs.nil | (apply Evs.cons; exact rfl)) | (refine Br.mk (fun _ => ?_) (fun _ => ?_) <;> try (exfalso; omega)) | (refine Sd.mk ?_ ?_; · ((repeat' apply And.intro) <;> first | omega | trivial | assumption | (simp; done) | (simp; omega))) | (refine Sx.mk ?_ ?_; · omega) | refine Fa.mk (fun _ => ?_) | refine Im.mk (fun _ => ?_) | apply Lw.go | refine g_cond ?_ | refine g_guard ?_ | refine g_keep ?_ | refine g_pass ?_ | refine g_fin ?_ | (apply g_ap; exact rfl; exact rfl; assumption)
  first | refine at_callS (r10_Of_spec h2) ?_ | refine at_callR (r10_Of_spec h2) ?_
  intro p c
  repeat' first | apply step | (apply g_op; · repeat first | exact Evs.nil | (apply Evs.cons; exact rfl)) | (refine Br.mk (fun _ => ?_) (fun _ => ?_) <;> try (exfalso; omega)) | (refine Sd.mk ?_ ?_; · ((repeat' apply And.intro) <;> first | omega | trivial | assumption | (simp; done) | (simp; omega))) | (refine Sx.mk ?_ ?_; · omega) | refine Fa.mk (fun _ => ?_) | refine Im.mk (fun _ => ?_) | apply Lw.go | refine g_cond ?_ | refine g_guard ?_ | refine g_keep ?_ | refine g_pass ?_ | refine g_fin ?_ | (apply g_ap; exact rfl; exact rfl; assumption)
  exact fin (hR p c)
theorem r10_Few_spec {p : Option Addr} {c : Nat} {l : List Int} : Spec prog1 n_r10_Few [.slice p l.length c] [fro (kInt .i64) p c l] (fun R => (l.length ≤ 20 → (∀ x ∈ l, x ≤ 20) → R (.bool true) []) ∧ R (.bool false) []) := by
  refine spec_code c_r10_Few rfl ?_; intro n F R hR; unfold F_r10_Few
  repeat' first | apply step | (apply g_op; · repeat first | exact Evs.nil | (apply Evs.cons; exact rfl)) | (refine Br.mk (fun _ => ?_) (fun _ => ?_) <;> try (exfalso; omega)) | (refine Sd.mk ?_ ?_; · ((repeat' apply And.intro) <;> first | omega | trivial | assumption | (simp; done) | (simp; omega))) | (refine Sx.mk ?_ ?_; · omega) | refine Fa.mk (fun _ => ?_) | refine Im.mk (fun _ => ?_) | apply Lw.go | refine g_cond ?_ | refine g_guard ?_ | refine g_keep ?_ | refine g_pass ?_ | refine g_fin ?_ | (apply g_ap; exact rfl; exact rfl; assumption)
  · exact fin hR.2
  have hln : l.length ≤ 20 := by omega
  refine at_loopS (ι := Nat) (E := fun k => [(0, .slice p l.length c), (3, .int .i64 (k : Int))]) (Δ := fun k => fro (kInt .i64) p c l :: F) (P := fun k => k ≤ l.length ∧ ∀ x ∈ l.take k, x ≤ 20) (μ := fun k => l.length - k) 0 ⟨Nat.zero_le _, by simp⟩ ?_
  rintro k ⟨hk, hle⟩
  try dsimp only
  repeat' first | apply step | (apply g_op; · repeat first | exact Evs.nil | (apply Evs.cons; exact rfl)) | (refine Br.mk (fun _ => ?_) (fun _ => ?_) <;> try (exfalso; omega)) | (refine Sd.mk ?_ ?_; · ((repeat' apply And.intro) <;> first | omega | trivial | assumption | (simp; done) | (simp; omega))) | (refine Sx.mk ?_ ?_; · omega) | refine Fa.mk (fun _ => ?_) | refine Im.mk (fun _ => ?_) | apply Lw.go | refine g_cond ?_ | refine g_guard ?_ | refine g_keep ?_ | refine g_pass ?_ | refine g_fin ?_ | (apply g_ap; exact rfl; exact rfl; assumption)
  · exact fin hR.2
  · have hk' : k < l.length := by omega
    refine lp_next (k + 1) ⟨by omega, fun x hx => ?_⟩ (by omega)
    rw [List.take_succ_eq_append_getElem hk'] at hx
    rcases List.mem_append.1 hx with hx | hx
    · exact hle x hx
    · rw [List.mem_singleton.1 hx]; omega
  · have e : l.take k = l := List.take_of_length_le (by omega)
    rw [e] at hle
    exact fin (hR.1 hln hle)
theorem wt_le {x : Int} (h : x ≤ 20) : wt x ≤ 39 := by unfold wt; split <;> omega
theorem wts_few {l : List Int} (h : ∀ x ∈ l, x ≤ 20) : wts l ≤ 39 * l.length := by
  induction l with
  | nil => simp [wts]
  | cons x l ih =>
    rw [wts_cons, List.length_cons]
    have := wt_le (h x (by simp))
    have := ih (fun y hy => h y (by simp [hy]))
    omega
theorem r10_Jobs_spec {A : HP} {p : Option Addr} {c : Nat} {l : List Int} [hA : ∀ Γ, LkS (A :: Γ) p (kInt .i64) l] (hl : wts l ≤ 1000000) : Spec prog1 n_r10_Jobs [.slice p l.length c] [A] (fun R => R (.int .i64 (wts l : Int)) [A]) := by
  refine spec_code c_r10_Jobs rfl ?_; intro n F R hR; unfold F_r10_Jobs
  have hln := wts_len l
  repeat' first | apply step | (apply g_op; · repeat first | exact Evs.nil | (apply Evs.cons; exact rfl)) | (refine Br.mk (fun _ => ?_) (fun _ => ?_) <;> try (exfalso; omega)) | (refine Sd.mk ?_ ?_; · ((repeat' apply And.intro) <;> first | omega | trivial | assumption | (simp; done) | (simp; omega))) | (refine Sx.mk ?_ ?_; · omega) | refine Fa.mk (fun _ => ?_) | refine Im.mk (fun _ => ?_) | apply Lw.go | refine g_cond ?_ | refine g_guard ?_ | refine g_keep ?_ | refine g_pass ?_ | refine g_fin ?_ | (apply g_ap; exact rfl; exact rfl; assumption)
  refine at_loopS (ι := Nat) (E := fun k => [(0, .slice p l.length c), (3, .int .i64 (wts (l.take k) : Int)), (4, .int .i64 (k : Int))]) (Δ := fun k => A :: F) (P := fun k => k ≤ l.length) (μ := fun k => l.length - k) 0 (Nat.zero_le _) ?_
  rintro k hk
  try dsimp only
  have hwt := wts_take_le k l
  rcases Nat.lt_or_ge k l.length with hk' | hk'
  · have hs : wts (l.take (k + 1)) = wts (l.take k) + wt l[k] := by rw [List.take_succ_eq_append_getElem hk', wts_app, wts_cons, wts_nil]; rfl
    have hw2 := wts_take_le (k + 1) l
    have hw3 : (2 ≤ l[k] → (wt l[k] : Int) = 2 * l[k] - 1) ∧ (l[k] < 2 → wt l[k] = 1) := ⟨fun h => by unfold wt; rw [if_neg (by omega)]; omega, fun h => by unfold wt; rw [if_pos h]⟩
    have hw4 : l[k] ≤ 1000000 := by
      rcases Int.lt_or_le l[k] 2 with q | q
      · omega
      · have := hw3.1 q; omega
    repeat' first | apply step | (apply g_op; · repeat first | exact Evs.nil | (apply Evs.cons; exact rfl)) | (refine Br.mk (fun _ => ?_) (fun _ => ?_) <;> try (exfalso; omega)) | (refine Sd.mk ?_ ?_; · ((repeat' apply And.intro) <;> first | omega | trivial | assumption | (simp; done) | (simp; omega))) | (refine Sx.mk ?_ ?_; · omega) | refine Fa.mk (fun _ => ?_) | refine Im.mk (fun _ => ?_) | apply Lw.go | refine g_cond ?_ | refine g_guard ?_ | refine g_keep ?_ | refine g_pass ?_ | refine g_fin ?_ | (apply g_ap; exact rfl; exact rfl; assumption)
    · have hwk := hw3.1 (by omega)
      have ht : ((wts (l.take k) + 1 : Nat) : Int) + 2 * (l[k] - 1) = ((wts (l.take (k + 1)) : Nat) : Int) := by omega
      refine lp_next (k + 1) (by omega) (by omega) (by rw [ht])
    · refine lp_next (k + 1) (by omega) (by omega) (by rw [hs, hw3.2 (by omega)])
  · have e : l.take k = l := List.take_of_length_le (by omega)
    rw [e]
    repeat' first | apply step | (apply g_op; · repeat first | exact Evs.nil | (apply Evs.cons; exact rfl)) | (refine Br.mk (fun _ => ?_) (fun _ => ?_) <;> try (exfalso; omega)) | (refine Sd.mk ?_ ?_; · ((repeat' apply And.intro) <;> first | omega | trivial | assumption | (simp; done) | (simp; omega))) | (refine Sx.mk ?_ ?_; · omega) | refine Fa.mk (fun _ => ?_) | refine Im.mk (fun _ => ?_) | apply Lw.go | refine g_cond ?_ | refine g_guard ?_ | refine g_keep ?_ | refine g_pass ?_ | refine g_fin ?_ | (apply g_ap; exact rfl; exact rfl; assumption)
    exact fin hR
/-- A new pool. -/
def P0 (n : Nat) : Po := ⟨List.replicate n ⟨[], 0, false⟩, 0, [], 0, []⟩
theorem mm_rep (n : Nat) : mm (List.replicate n ⟨[], 0, false⟩) = 0 := by
  unfold mm
  rw [List.map_replicate]
  have : mw ⟨[], 0, false⟩ = 0 := rfl
  rw [this]; simp
theorem P0_ok {n : Nat} (h1 : 0 < n) (h2 : n ≤ 64) : (P0 n).ok := by
  have e : mm (P0 n).ws = 0 := mm_rep n
  refine ⟨by simp [P0]; omega, by simp [P0]; omega, by rw [e]; simp [P0], by rw [e]; simp [P0], by rw [e]; simp [P0]⟩
theorem pool_New_int_spec {s : Scr} {w : Int} (hs1 : s.steps < 1000000000000) (hs2 : s.used < 1000000000000) : Spec prog1 n_pool_New_int [.int .i64 w, .pointer (some ⟨sb, 0, none⟩)] [scr true sb s] (fun R => (w < 1 ∨ 64 < w → R (.tuple #[.pointer none, .int .i64 7]) [scr true sb s]) ∧ ∀ n : Nat, w = n → 0 < n → n ≤ 64 → ∀ b, R (.tuple #[.pointer (some ⟨b, 0, none⟩), .int .i64 0]) [pool b sb (P0 n), scr true sb s]) := by
  refine spec_code c_pool_New_int rfl ?_; intro n F R hR; unfold F_pool_New_int
  repeat' first | apply step | (apply g_op; · repeat first | exact Evs.nil | (apply Evs.cons; exact rfl)) | (refine Br.mk (fun _ => ?_) (fun _ => ?_) <;> try (exfalso; omega)) | (refine Sd.mk ?_ ?_; · ((repeat' apply And.intro) <;> first | omega | trivial | assumption | (simp; done) | (simp; omega))) | (refine Sx.mk ?_ ?_; · omega) | refine Fa.mk (fun _ => ?_) | refine Im.mk (fun _ => ?_) | apply Lw.go | refine g_cond ?_ | refine g_guard ?_ | refine g_keep ?_ | refine g_pass ?_ | refine g_fin ?_ | (apply g_ap; exact rfl; exact rfl; assumption)
  · exact fin (hR.1 (by omega))
  · exact fin (hR.1 (by omega))
  obtain ⟨m, rfl⟩ : ∃ m : Nat, w = m := ⟨w.toNat, by omega⟩
  have hn1 : 0 < m := by omega
  have hn2 : m ≤ 64 := by omega
  first | refine at_callS (picks_Script_Step_spec (b := sb) (s := s) (A := own (kInt .i64) none 0 []) (p := none) (c := 0) (r := []) (fun Γ => inferInstance) (by simp) hs1 hs2) ?_ | refine at_callR (picks_Script_Step_spec (b := sb) (s := s) (A := own (kInt .i64) none 0 []) (p := none) (c := 0) (r := []) (fun Γ => inferInstance) (by simp) hs1 hs2) ?_
  have hst : stepS s [] = (s, 0, if s.off then 8 else 10) := by
    unfold stepS
    by_cases ho : s.off
    · rw [if_pos ho, if_pos ho]
    · rw [if_neg ho, if_neg ho, if_pos (setL_nil_iff.2 rfl)]
  have hne : (if s.off then (8 : Int) else 10) = 8 ∨ (if s.off then (8 : Int) else 10) = 10 := by split <;> simp
  rw [hst]
  generalize (if s.off then (8 : Int) else 10) = ec at *
  repeat' first | apply step | (apply g_op; · repeat first | exact Evs.nil | (apply Evs.cons; exact rfl)) | (refine Br.mk (fun _ => ?_) (fun _ => ?_) <;> try (exfalso; omega)) | (refine Sd.mk ?_ ?_; · ((repeat' apply And.intro) <;> first | omega | trivial | assumption | (simp; done) | (simp; omega))) | (refine Sx.mk ?_ ?_; · omega) | refine Fa.mk (fun _ => ?_) | refine Im.mk (fun _ => ?_) | apply Lw.go | refine g_cond ?_ | refine g_guard ?_ | refine g_keep ?_ | refine g_pass ?_ | refine g_fin ?_ | (apply g_ap; exact rfl; exact rfl; assumption)
  rename_i bo
  refine at_loopS (E := fun w : Nat × (Option Addr × Nat) × List Nat => [(8, .pointer (some ⟨bo, 0, none⟩)), (26, .int .i64 (m : Int)), (27, .int .i64 (w.1 : Int))]) (Δ := fun w => own kPtr w.2.1.1 w.2.1.2 w.2.2 :: each wk w.2.2 (List.replicate w.1 ⟨[], 0, false⟩) :: pt bo [.pointer (some ⟨sb, 0, none⟩), .slice w.2.1.1 w.2.2.length w.2.1.2, .int .i64 0, .int .i64 0, .int .i64 0, .slice none 0 0] 0 :: scr true sb s :: F) (P := fun w => w.1 ≤ m ∧ w.2.2.length = w.1) (μ := fun w => m - w.1) (0, (none, 0), []) ⟨Nat.zero_le _, rfl⟩ ?_ (hs := each_nil.trans (by (try dsimp only); repeat first | exact Ent.refl _ | (apply Ent.more; · repeat first | exact Ent.keep | exact Ent.here | exact Ent.lend | exact ent_nil | apply Ent.there) | apply Ent.drop))
  rintro ⟨k, ⟨lp, lc⟩, bs⟩ ⟨hk, hbl⟩
  dsimp only at hk hbl ⊢
  repeat' first | apply step | (apply g_op; · repeat first | exact Evs.nil | (apply Evs.cons; exact rfl)) | (refine Br.mk (fun _ => ?_) (fun _ => ?_) <;> try (exfalso; omega)) | (refine Sd.mk ?_ ?_; · ((repeat' apply And.intro) <;> first | omega | trivial | assumption | (simp; done) | (simp; omega))) | (refine Sx.mk ?_ ?_; · omega) | refine Fa.mk (fun _ => ?_) | refine Im.mk (fun _ => ?_) | apply Lw.go | refine g_cond ?_ | refine g_guard ?_ | refine g_keep ?_ | refine g_pass ?_ | refine g_fin ?_ | (apply g_ap; exact rfl; exact rfl; assumption)
  · rename_i bx b0 lp2 lc2
    refine at_foldP (wk bx ⟨[], 0, false⟩) rfl (none, 0, [], 0) ⟨Rg.fresh (l := []) (k := 0) (by simp) (by omega), by dsimp only; omega⟩ ?_
    refine at_via2 (each_snoc (g := wk) (xs := bs) (ys := List.replicate k ⟨[], 0, false⟩) (by simpa using hbl)) ?_
    rw [← List.replicate_succ']
    refine lp_next (k + 1, (lp2, lc2), bs ++ [bx]) ⟨by dsimp only; omega, by simp [hbl]⟩ (by dsimp only; omega)
  · have hkm : k = m := by omega
    subst hkm
    refine fin_foldP (pool bo sb (P0 k)) rfl ((lp, lc), (none, 0), bs) (by simp [P0, hbl]) ?_
    exact fin (hR.2 k rfl hn1 hn2 bo)
end
end Go.AMS

namespace Go.AMS
open Go.AM hiding Kt At WP WL Runs RunsY
open Go.AM.G
set_option linter.unusedVariables false
set_option linter.unusedSimpArgs false
set_option linter.unusedSectionVars false
set_option maxRecDepth 100000
set_option maxHeartbeats 1000000
attribute [local irreducible] AtS AtV AtC AtG FinA Spec Post LP G.At G.WP G.WL pt own fro rdl ro hx mp lrec elt sub

open Go.AM.G.Set
section
variable {v0 v1 v2 v3 v4 v5 v6 v7 v8 v9 v10 : Value} [Cl v0] [Cl v1] [Cl v2] [Cl v3] [Cl v4] [Cl v5] [Cl v6] [Cl v7] [Cl v8] [Cl v9] [Cl v10]
variable {pr ph pb : Option Addr} {cr ch cb : Nat} {rows : List (List Int)} {held : List Int} {holds : List Bool}
theorem r10_push_spec {k : Nat} {job : Int} (hk : k < rows.length) (hr : rows.length ≤ 64) (hl : rows[k].length ≤ 1000000) (hj : -9223372036854775808 ≤ job ∧ job ≤ 9223372036854775807) :
    Spec prog1 n_r10_push [.agg #[v0, v1, v2, v3, .slice pr rows.length cr, v5, v6, v7, v8, v9, v10], .int .i64 (k : Int), .int .i64 job] [rdl (kSl (kInt .i64)) pr rows]
      (fun R => ∀ p' c' rows', rows' = rows.set k (rows[k] ++ [job]) → R (.agg #[v0, v1, v2, v3, .slice p' rows'.length c', v5, v6, v7, v8, v9, v10]) [own (kSl (kInt .i64)) p' c' rows']) := by
  refine spec_code c_r10_push rfl ?_; intro n F R hR; unfold F_r10_push
  repeat' first | apply step | (apply g_op; · repeat first | exact Evs.nil | (apply Evs.cons; exact rfl)) | (refine Br.mk (fun _ => ?_) (fun _ => ?_) <;> try (exfalso; omega)) | (refine Sd.mk ?_ ?_; · ((repeat' apply And.intro) <;> first | omega | trivial | assumption | (simp; done) | (simp; omega))) | (refine Sx.mk ?_ ?_; · omega) | refine Fa.mk (fun _ => ?_) | refine Im.mk (fun _ => ?_) | apply Lw.go | refine g_cond ?_ | refine g_guard ?_ | refine g_keep ?_ | refine g_pass ?_ | refine g_fin ?_ | (apply g_ap; exact rfl; exact rfl; assumption)
  refine av_freeze ?_
  repeat' first | apply step | (apply g_op; · repeat first | exact Evs.nil | (apply Evs.cons; exact rfl)) | (refine Br.mk (fun _ => ?_) (fun _ => ?_) <;> try (exfalso; omega)) | (refine Sd.mk ?_ ?_; · ((repeat' apply And.intro) <;> first | omega | trivial | assumption | (simp; done) | (simp; omega))) | (refine Sx.mk ?_ ?_; · omega) | refine Fa.mk (fun _ => ?_) | refine Im.mk (fun _ => ?_) | apply Lw.go | refine g_cond ?_ | refine g_guard ?_ | refine g_keep ?_ | refine g_pass ?_ | refine g_fin ?_ | (apply g_ap; exact rfl; exact rfl; assumption)
  have h := fun p c => hR p c _ rfl
  simp only [List.length_set] at h
  exact fin (h _ _)
theorem r10_hold_spec {k : Nat} {job : Int} {b : Bool} (hk : k < held.length) (hk2 : k < holds.length) (hh : held.length ≤ 64) (hb : holds.length ≤ 64) (hj : -9223372036854775808 ≤ job ∧ job ≤ 9223372036854775807) :
    Spec prog1 n_r10_hold [.agg #[v0, v1, v2, v3, v4, .slice ph held.length ch, .slice pb holds.length cb, v7, v8, v9, v10], .int .i64 (k : Int), .int .i64 job, .bool b] [rdl (kInt .i64) ph held, rdl kBool pb holds]
      (fun R => ∀ p' c' q' d' held' holds', held' = held.set k job → holds' = holds.set k b → R (.agg #[v0, v1, v2, v3, v4, .slice p' held'.length c', .slice q' holds'.length d', v7, v8, v9, v10]) [own (kInt .i64) p' c' held', own kBool q' d' holds']) := by
  refine spec_code c_r10_hold rfl ?_; intro n F R hR; unfold F_r10_hold
  repeat' first | apply step | (apply g_op; · repeat first | exact Evs.nil | (apply Evs.cons; exact rfl)) | (refine Br.mk (fun _ => ?_) (fun _ => ?_) <;> try (exfalso; omega)) | (refine Sd.mk ?_ ?_; · ((repeat' apply And.intro) <;> first | omega | trivial | assumption | (simp; done) | (simp; omega))) | (refine Sx.mk ?_ ?_; · omega) | refine Fa.mk (fun _ => ?_) | refine Im.mk (fun _ => ?_) | apply Lw.go | refine g_cond ?_ | refine g_guard ?_ | refine g_keep ?_ | refine g_pass ?_ | refine g_fin ?_ | (apply g_ap; exact rfl; exact rfl; assumption)
  have h := fun p c q d => hR p c q d _ _ rfl rfl
  simp only [List.length_set] at h
  exact fin (h _ _ _ _)
theorem r10_take_spec {k f : Nat} {b : Bool} (hk : k < held.length) (hk2 : k < holds.length) (hh : held.length ≤ 64) (hb : holds.length ≤ 64) (hf : f < rows.length) (hr : rows.length ≤ 64) (hne : rows[f] ≠ []) (hl : rows[f].length ≤ 1000000) :
    Spec prog1 n_r10_take [.agg #[v0, v1, v2, v3, .slice pr rows.length cr, .slice ph held.length ch, .slice pb holds.length cb, v7, v8, v9, v10], .int .i64 (k : Int), .int .i64 (f : Int), .bool b] [rdl (kSl (kInt .i64)) pr rows, rdl (kInt .i64) ph held, rdl kBool pb holds]
      (fun R => ∀ p0 c0 p' c' q' d' rows' held' holds', rows' = rows.set f (bif b then rows[f].dropLast else rows[f].tail) → held' = held.set k (bif b then rows[f].getLastD 0 else rows[f].headD 0) → holds' = holds.set k true → R (.agg #[v0, v1, v2, v3, .slice p0 rows'.length c0, .slice p' held'.length c', .slice q' holds'.length d', v7, v8, v9, v10]) [own (kSl (kInt .i64)) p0 c0 rows', own (kInt .i64) p' c' held', own kBool q' d' holds']) := by
  refine spec_code c_r10_take rfl ?_; intro n F R hR; unfold F_r10_take
  have hp : 0 < rows[f].length := List.length_pos_iff.2 hne
  repeat' first | apply step | (apply g_op; · repeat first | exact Evs.nil | (apply Evs.cons; exact rfl)) | (refine Br.mk (fun _ => ?_) (fun _ => ?_) <;> try (exfalso; omega)) | (refine Sd.mk ?_ ?_; · ((repeat' apply And.intro) <;> first | omega | trivial | assumption | (simp; done) | (simp; omega))) | (refine Sx.mk ?_ ?_; · omega) | refine Fa.mk (fun _ => ?_) | refine Im.mk (fun _ => ?_) | apply Lw.go | refine g_cond ?_ | refine g_guard ?_ | refine g_keep ?_ | refine g_pass ?_ | refine g_fin ?_ | (apply g_ap; exact rfl; exact rfl; assumption)
  · rename_i hb1 hx
    have hb1 : b = true := hb1
    subst hb1
    have e1 : rows[f][((rows[f].length : Int) - 1).toNat]'(by omega) = rows[f].getLastD 0 := by
      rw [List.getLastD_eq_getLast?, List.getLast?_eq_some_getLast hne, Option.getD_some, List.getLast_eq_getElem]
      congr 1; omega
    have e2 : List.take ((rows[f].length : Int) - 1).toNat rows[f] = rows[f].dropLast := by
      rw [List.dropLast_eq_take]; congr 1; omega
    rw [e1] at hx
    rw [e1, e2, List.set_set]
    refine at_callR (r10_hold_spec (held := held) (holds := holds) hk hk2 hh hb hx) ?_
    intro p' c' q' d' L1 L2 h1 h2
    repeat' first | apply step | (apply g_op; · repeat first | exact Evs.nil | (apply Evs.cons; exact rfl)) | (refine Br.mk (fun _ => ?_) (fun _ => ?_) <;> try (exfalso; omega)) | (refine Sd.mk ?_ ?_; · ((repeat' apply And.intro) <;> first | omega | trivial | assumption | (simp; done) | (simp; omega))) | (refine Sx.mk ?_ ?_; · omega) | refine Fa.mk (fun _ => ?_) | refine Im.mk (fun _ => ?_) | apply Lw.go | refine g_cond ?_ | refine g_guard ?_ | refine g_keep ?_ | refine g_pass ?_ | refine g_fin ?_ | (apply g_ap; exact rfl; exact rfl; assumption)
    have h := fun p c => hR p c p' c' q' d' _ L1 L2 rfl h1 h2
    simp only [List.length_set, cond_true] at h
    exact fin (h _ _)
  · rename_i hx hb1
    have hb1 : b = false := by simpa using hb1
    subst hb1
    have e1 : ∀ (l : List Int) (h : 0 < l.length), l[0] = l.headD 0 := fun l h => by cases l with
      | nil => simp at h
      | cons x l => rfl
    rw [List.drop_one]
    rw [e1 _ hp] at hx ⊢
    refine at_callR (r10_hold_spec (held := held) (holds := holds) hk hk2 hh hb hx) ?_
    intro p' c' q' d' L1 L2 h1 h2
    repeat' first | apply step | (apply g_op; · repeat first | exact Evs.nil | (apply Evs.cons; exact rfl)) | (refine Br.mk (fun _ => ?_) (fun _ => ?_) <;> try (exfalso; omega)) | (refine Sd.mk ?_ ?_; · ((repeat' apply And.intro) <;> first | omega | trivial | assumption | (simp; done) | (simp; omega))) | (refine Sx.mk ?_ ?_; · omega) | refine Fa.mk (fun _ => ?_) | refine Im.mk (fun _ => ?_) | apply Lw.go | refine g_cond ?_ | refine g_guard ?_ | refine g_keep ?_ | refine g_pass ?_ | refine g_fin ?_ | (apply g_ap; exact rfl; exact rfl; assumption)
    have h := fun p c => hR p c p' c' q' d' _ L1 L2 rfl h1 h2
    simp only [List.length_set, cond_false] at h
    exact fin (h _ _)
end
structure RA where
  pr : Option Addr
  cr : Nat
  ph : Option Addr
  ch : Nat
  pb : Option Addr
  cb : Nat
  pd : Option Addr
  cd : Nat
  pw : Option Addr
  cw : Nat
abbrev Po.rows (P : Po) : List (List Int) := P.ws.map Wk.row
abbrev Po.hel (P : Po) : List Int := P.ws.map Wk.job
abbrev Po.hol (P : Po) : List Bool := P.ws.map Wk.holds
@[reducible] def rcs (pl : Option Addr) (cl : Nat) (a : RA) (P : Po) (s : Scr) : List Value := [.slice pl s.l.length cl, .int .i64 s.cancel, .int .i64 (s.steps : Int), .int .i64 (s.used : Int), .slice a.pr P.rows.length a.cr, .slice a.ph P.hel.length a.ch, .slice a.pb P.hol.length a.cb, .slice a.pd P.did.length a.cd, .int .i64 (P.stolen : Int), .int .i64 (P.next : Int), .slice a.pw P.who.length a.cw]
section
variable {pl : Option Addr} {cl : Nat} {a : RA} {P : Po} {s : Scr}
theorem rows_len : P.rows.length = P.ws.length := List.length_map ..
theorem hel_len : P.hel.length = P.ws.length := List.length_map ..
theorem hol_len : P.hol.length = P.ws.length := List.length_map ..
def rdyTo (ws : List Wk) (j : Nat) : List Nat := (List.range j).filter fun k => rdy ws (ws.getD k default)
theorem rdyTo_succ {ws : List Wk} {j : Nat} (h : j < ws.length) : rdyTo ws (j + 1) = rdyTo ws j ++ if rdy ws ws[j] = true then [j] else [] := by
  unfold rdyTo
  rw [List.range_succ, List.filter_append]
  congr 1
  simp only [List.filter_cons, List.filter_nil, getD_row h]
theorem rdyTo_len (ws : List Wk) (j : Nat) : (rdyTo ws j).length ≤ j := by
  have := List.length_filter_le (fun k => rdy ws (ws.getD k default)) (List.range j)
  rw [List.length_range] at this; exact this
theorem r10_ready_spec (hn : P.ws.length ≤ 64) : Spec prog1 n_r10_ready [.agg (List.toArray (rcs pl cl a P s))] [rdl (kSl (kInt .i64)) a.pr P.rows, rdl kBool a.pb P.hol] (fun R => ∀ p c, R (.slice p (readyL P.ws).length c) [own (kInt .i64) p c ((readyL P.ws).map Int.ofNat)]) := by
  refine spec_code c_r10_ready rfl ?_; intro n F R hR; unfold F_r10_ready
  have l1 := rows_len (P := P)
  have l3 := hol_len (P := P)
  repeat' first | apply step | (apply g_op; · repeat first | exact Evs.nil | (apply Evs.cons; exact rfl)) | (refine Br.mk (fun _ => ?_) (fun _ => ?_) <;> try (exfalso; omega)) | (refine Sd.mk ?_ ?_; · ((repeat' apply And.intro) <;> first | omega | trivial | assumption | (simp; done) | (simp; omega))) | (refine Sx.mk ?_ ?_; · omega) | refine Fa.mk (fun _ => ?_) | refine Im.mk (fun _ => ?_) | apply Lw.go | refine g_cond ?_ | refine g_guard ?_ | refine g_keep ?_ | refine g_pass ?_ | refine g_fin ?_ | (apply g_ap; exact rfl; exact rfl; assumption)
  rename_i tb
  refine at_loopS (ι := Nat) (E := fun j => [(1, .pointer (some ⟨tb, 0, none⟩)), (3, .bool (decide (0 < wait (P.ws.take j)))), (4, .int .i64 (j : Int))]) (Δ := fun j => pt tb (rcs pl cl a P s) 0 :: rdl (kSl (kInt .i64)) a.pr P.rows :: rdl kBool a.pb P.hol :: F) (P := fun j => j ≤ P.ws.length) (μ := fun j => P.ws.length - j) 0 (Nat.zero_le _) ?_
  rintro j hj
  dsimp only
  rcases Nat.lt_or_ge j P.ws.length with hlt | hge
  · have e1 : ∀ h : j < P.rows.length, P.rows[j] = P.ws[j].row := fun h => List.getElem_map ..
    have hw := wait_take hlt
    by_cases hc : 0 < wait (P.ws.take j)
    · rw [decide_eq_true hc]
      repeat' first | apply step | (apply g_op; · repeat first | exact Evs.nil | (apply Evs.cons; exact rfl)) | (refine Br.mk (fun _ => ?_) (fun _ => ?_) <;> try (exfalso; omega)) | (refine Sd.mk ?_ ?_; · ((repeat' apply And.intro) <;> first | omega | trivial | assumption | (simp; done) | (simp; omega))) | (refine Sx.mk ?_ ?_; · omega) | refine Fa.mk (fun _ => ?_) | refine Im.mk (fun _ => ?_) | apply Lw.go | refine g_cond ?_ | refine g_guard ?_ | refine g_keep ?_ | refine g_pass ?_ | refine g_fin ?_ | (apply g_ap; exact rfl; exact rfl; assumption)
      exact lp_next (j + 1) (by omega) (by omega) (by rw [decide_eq_true (by omega)])
    · rw [decide_eq_false hc]
      repeat' first | apply step | (apply g_op; · repeat first | exact Evs.nil | (apply Evs.cons; exact rfl)) | (refine Br.mk (fun _ => ?_) (fun _ => ?_) <;> try (exfalso; omega)) | (refine Sd.mk ?_ ?_; · ((repeat' apply And.intro) <;> first | omega | trivial | assumption | (simp; done) | (simp; omega))) | (refine Sx.mk ?_ ?_; · omega) | refine Fa.mk (fun _ => ?_) | refine Im.mk (fun _ => ?_) | apply Lw.go | refine g_cond ?_ | refine g_guard ?_ | refine g_keep ?_ | refine g_pass ?_ | refine g_fin ?_ | (apply g_ap; exact rfl; exact rfl; assumption)
      all_goals rename_i hq; rw [e1] at hq
      · exact lp_next (j + 1) (by omega) (by omega) (by rw [decide_eq_true (by omega)])
      · exact lp_next (j + 1) (by omega) (by omega) (by rw [decide_eq_false (by omega)])
  · have hjn : P.ws.take j = P.ws := List.take_of_length_le hge
    rw [hjn]
    repeat' first | apply step | (apply g_op; · repeat first | exact Evs.nil | (apply Evs.cons; exact rfl)) | (refine Br.mk (fun _ => ?_) (fun _ => ?_) <;> try (exfalso; omega)) | (refine Sd.mk ?_ ?_; · ((repeat' apply And.intro) <;> first | omega | trivial | assumption | (simp; done) | (simp; omega))) | (refine Sx.mk ?_ ?_; · omega) | refine Fa.mk (fun _ => ?_) | refine Im.mk (fun _ => ?_) | apply Lw.go | refine g_cond ?_ | refine g_guard ?_ | refine g_keep ?_ | refine g_pass ?_ | refine g_fin ?_ | (apply g_ap; exact rfl; exact rfl; assumption)
    refine at_loopS (ι := Nat × Option Addr × Nat) (E := fun x => [(1, .pointer (some ⟨tb, 0, none⟩)), (3, .bool (decide (0 < wait P.ws))), (5, .slice x.2.1 ((rdyTo P.ws x.1).map Int.ofNat).length x.2.2), (6, .int .i64 (x.1 : Int))]) (Δ := fun x => own (kInt .i64) x.2.1 x.2.2 ((rdyTo P.ws x.1).map Int.ofNat) :: pt tb (rcs pl cl a P s) 0 :: rdl (kSl (kInt .i64)) a.pr P.rows :: rdl kBool a.pb P.hol :: F) (P := fun x => x.1 ≤ P.ws.length) (μ := fun x => P.ws.length - x.1) (0, none, 0) (Nat.zero_le _) ?_
    rintro ⟨i, p, c⟩ hi
    dsimp only at hi ⊢
    have hre := rdyTo_len P.ws i
    rcases Nat.lt_or_ge i P.ws.length with hlt | hge
    · have e1 : ∀ h : i < P.hol.length, P.hol[i] = P.ws[i].holds := fun h => List.getElem_map ..
      have hs := rdyTo_succ hlt
      by_cases hc : 0 < wait P.ws
      · rw [if_pos (by unfold rdy; rw [decide_eq_true hc]; simp)] at hs
        rw [decide_eq_true hc]
        repeat' first | apply step | (apply g_op; · repeat first | exact Evs.nil | (apply Evs.cons; exact rfl)) | (refine Br.mk (fun _ => ?_) (fun _ => ?_) <;> try (exfalso; omega)) | (refine Sd.mk ?_ ?_; · ((repeat' apply And.intro) <;> first | omega | trivial | assumption | (simp; done) | (simp; omega))) | (refine Sx.mk ?_ ?_; · omega) | refine Fa.mk (fun _ => ?_) | refine Im.mk (fun _ => ?_) | apply Lw.go | refine g_cond ?_ | refine g_guard ?_ | refine g_keep ?_ | refine g_pass ?_ | refine g_fin ?_ | (apply g_ap; exact rfl; exact rfl; assumption)
        refine lp_next (i + 1, _, _) (by dsimp only; omega) (by dsimp only; omega) (by dsimp only; rw [hs, List.map_append]; rfl) ?_
        dsimp only
        rw [hs, List.map_append]
        repeat first | exact Ent.refl _ | (apply Ent.more; · repeat first | exact Ent.keep | exact Ent.here | exact Ent.lend | exact ent_nil | apply Ent.there) | apply Ent.drop
      · rw [decide_eq_false hc]
        cases hh : P.ws[i].holds
        all_goals
          rw [show rdy P.ws P.ws[i] = P.ws[i].holds by unfold rdy; rw [decide_eq_false hc]; simp, hh] at hs
          repeat' first | rw [e1] | rw [hh] | apply step | (apply g_op; · repeat first | exact Evs.nil | (apply Evs.cons; exact rfl)) | (refine Br.mk (fun _ => ?_) (fun _ => ?_) <;> try (exfalso; omega)) | (refine Sd.mk ?_ ?_; · ((repeat' apply And.intro) <;> first | omega | trivial | assumption | (simp; done) | (simp; omega))) | (refine Sx.mk ?_ ?_; · omega) | refine Fa.mk (fun _ => ?_) | refine Im.mk (fun _ => ?_) | apply Lw.go | refine g_cond ?_ | refine g_guard ?_ | refine g_keep ?_ | refine g_pass ?_ | refine g_fin ?_ | (apply g_ap; exact rfl; exact rfl; assumption)
        · rw [if_neg (by simp), List.append_nil] at hs
          refine lp_next (i + 1, p, c) (by dsimp only; omega) (by dsimp only; omega) (by dsimp only; rw [hs]) ?_
          dsimp only
          rw [hs]
          repeat first | exact Ent.refl _ | (apply Ent.more; · repeat first | exact Ent.keep | exact Ent.here | exact Ent.lend | exact ent_nil | apply Ent.there) | apply Ent.drop
        · rw [if_pos rfl] at hs
          refine lp_next (i + 1, _, _) (by dsimp only; omega) (by dsimp only; omega) (by dsimp only; rw [hs, List.map_append]; rfl) ?_
          dsimp only
          rw [hs, List.map_append]
          repeat first | exact Ent.refl _ | (apply Ent.more; · repeat first | exact Ent.keep | exact Ent.here | exact Ent.lend | exact ent_nil | apply Ent.there) | apply Ent.drop
    · have hr : rdyTo P.ws i = readyL P.ws := by
        have : i = P.ws.length := by omega
        rw [this]; rfl
      rw [hr]
      repeat' first | apply step | (apply g_op; · repeat first | exact Evs.nil | (apply Evs.cons; exact rfl)) | (refine Br.mk (fun _ => ?_) (fun _ => ?_) <;> try (exfalso; omega)) | (refine Sd.mk ?_ ?_; · ((repeat' apply And.intro) <;> first | omega | trivial | assumption | (simp; done) | (simp; omega))) | (refine Sx.mk ?_ ?_; · omega) | refine Fa.mk (fun _ => ?_) | refine Im.mk (fun _ => ?_) | apply Lw.go | refine g_cond ?_ | refine g_guard ?_ | refine g_keep ?_ | refine g_pass ?_ | refine g_fin ?_ | (apply g_ap; exact rfl; exact rfl; assumption)
      have h := hR p c
      rw [← List.length_map (f := Int.ofNat)] at h
      exact fin h
theorem add_rows (hn : P.next < P.ws.length) (x : Int) : (P.add x).rows = P.rows.set P.next (P.ws[P.next].row ++ [x]) := by
  unfold Po.add Po.push Po.rows
  simp only [getD_row hn, rowAt_lt hn, List.map_set]
theorem set_same {α : Type} {l : List α} {i : Nat} (h : i < l.length) {x : α} (e : l[i] = x) : l.set i x = l := by subst e; exact List.set_getElem_self h
theorem add_hel (hn : P.next < P.ws.length) (x : Int) : (P.add x).hel = P.hel := by
  unfold Po.add Po.push Po.hel
  simp only [getD_row hn, rowAt_lt hn, List.map_set]
  exact set_same (by simpa using hn) (by simp)
theorem add_hol (hn : P.next < P.ws.length) (x : Int) : (P.add x).hol = P.hol := by
  unfold Po.add Po.push Po.hol
  simp only [getD_row hn, rowAt_lt hn, List.map_set]
  exact set_same (by simpa using hn) (by simp)
theorem r10_Add_spec {p : Option Addr} {c : Nat} {l : List Int} (ok : P.ok) (hl : l.length ≤ 1000) (hm : mm P.ws + 2 * wts l + P.who.length + P.did.length + P.stolen ≤ 100000) : Spec prog1 n_r10_Add [.agg (List.toArray (rcs pl cl a P s)), .slice p l.length c] [own (kSl (kInt .i64)) a.pr a.cr P.rows, own (kInt .i64) a.ph a.ch P.hel, own kBool a.pb a.cb P.hol, own (kInt .i64) a.pd a.cd P.did, own (kInt .i64) a.pw a.cw P.who, fro (kInt .i64) p c l] (fun R => ∀ a', R (.agg (List.toArray (rcs pl cl a' (P.adds l) s))) [own (kSl (kInt .i64)) a'.pr a'.cr (P.adds l).rows, own (kInt .i64) a'.ph a'.ch (P.adds l).hel, own kBool a'.pb a'.cb (P.adds l).hol, own (kInt .i64) a'.pd a'.cd (P.adds l).did, own (kInt .i64) a'.pw a'.cw (P.adds l).who]) := by
  refine spec_code c_r10_Add rfl ?_; intro n F R hR; unfold F_r10_Add
  iterate 2 apply step
  refine at_bnd (p := p) (l := l) (fun hb => ?_)
  repeat' first | apply step | (apply g_op; · repeat first | exact Evs.nil | (apply Evs.cons; exact rfl)) | (refine Br.mk (fun _ => ?_) (fun _ => ?_) <;> try (exfalso; omega)) | (refine Sd.mk ?_ ?_; · ((repeat' apply And.intro) <;> first | omega | trivial | assumption | (simp; done) | (simp; omega))) | (refine Sx.mk ?_ ?_; · omega) | refine Fa.mk (fun _ => ?_) | refine Im.mk (fun _ => ?_) | apply Lw.go | refine g_cond ?_ | refine g_guard ?_ | refine g_keep ?_ | refine g_pass ?_ | refine g_fin ?_ | (apply g_ap; exact rfl; exact rfl; assumption)
  rename_i tb rb
  refine at_loopS (ι := Nat × RA) (E := fun k => [(1, .slice p l.length c), (2, .pointer (some ⟨tb, 0, none⟩)), (4, .pointer (some ⟨rb, 0, none⟩)), (5, .int .i64 (k.1 : Int))]) (Δ := fun k => pt tb (rcs pl cl k.2 (P.adds (l.take k.1)) s) 0 :: own (kSl (kInt .i64)) k.2.pr k.2.cr (P.adds (l.take k.1)).rows :: own (kInt .i64) k.2.ph k.2.ch (P.adds (l.take k.1)).hel :: own kBool k.2.pb k.2.cb (P.adds (l.take k.1)).hol :: own (kInt .i64) k.2.pd k.2.cd (P.adds (l.take k.1)).did :: own (kInt .i64) k.2.pw k.2.cw (P.adds (l.take k.1)).who :: pt rb [.slice none 0 0, .int .i64 0, .int .i64 0, .int .i64 0, .slice none 0 0, .slice none 0 0, .slice none 0 0, .slice none 0 0, .int .i64 0, .int .i64 0, .slice none 0 0] 0 :: fro (kInt .i64) p c l :: F) (P := fun k => k.1 ≤ l.length) (μ := fun k => l.length - k.1) (0, a) (Nat.zero_le _) ?_
  rintro ⟨k, a1⟩ hk
  dsimp only at hk ⊢
  rcases Nat.lt_or_ge k l.length with hk' | hk'
  · obtain ⟨ok1, e1, e2, e3, e4, e5⟩ := adds_ok (l := l.take k) ok (by have := wts_take_le k l; omega)
    have e6 : P.adds (l.take (k + 1)) = (P.adds (l.take k)).add l[k] := by
      rw [List.take_succ_eq_append_getElem hk']; unfold Po.adds; rw [List.foldl_append]; rfl
    generalize hP : P.adds (l.take k) = P1 at *
    have := ok1.n
    have hn := ok1.x
    have hrl := rows_len (P := P1)
    have hrow := row_le hn
    have hwt := wts_take_le k l
    have er : P1.rows[P1.next]'(by omega) = P1.ws[P1.next].row := List.getElem_map ..
    have e5' : (P1.add l[k]).ws.length = P1.ws.length := by simp [Po.add, Po.push]
    repeat' first | apply step | (apply g_op; · repeat first | exact Evs.nil | (apply Evs.cons; exact rfl)) | (refine Br.mk (fun _ => ?_) (fun _ => ?_) <;> try (exfalso; omega)) | (refine Sd.mk ?_ ?_; · ((repeat' apply And.intro) <;> first | omega | trivial | assumption | (simp; done) | (simp; omega))) | (refine Sx.mk ?_ ?_; · omega) | refine Fa.mk (fun _ => ?_) | refine Im.mk (fun _ => ?_) | apply Lw.go | refine g_cond ?_ | refine g_guard ?_ | refine g_keep ?_ | refine g_pass ?_ | refine g_fin ?_ | (apply g_ap; exact rfl; exact rfl; assumption)
    refine at_callR (r10_push_spec (rows := P1.rows) (k := P1.next) (job := l[k]) (by omega) (by omega) (by rw [er]; omega) (hb _ (List.getElem_mem hk'))) ?_
    intro p' c' rows' e7
    rw [er, ← add_rows hn] at e7
    subst e7
    have hln : (P1.add l[k]).rows.length = P1.ws.length := by rw [rows_len]; exact e5'
    have e8 : (P1.next + 1) % (P1.add l[k]).rows.length = (P1.add l[k]).next := by rw [hln]; rfl
    have e9 := add_hel hn l[k]
    have e10 := add_hol hn l[k]
    repeat' first | apply step | (apply g_op; · repeat first | exact Evs.nil | (apply Evs.cons; exact rfl)) | (refine Br.mk (fun _ => ?_) (fun _ => ?_) <;> try (exfalso; omega)) | (refine Sd.mk ?_ ?_; · ((repeat' apply And.intro) <;> first | omega | trivial | assumption | (simp; done) | (simp; omega))) | (refine Sx.mk ?_ ?_; · omega) | refine Fa.mk (fun _ => ?_) | refine Im.mk (fun _ => ?_) | apply Lw.go | refine g_cond ?_ | refine g_guard ?_ | refine g_keep ?_ | refine g_pass ?_ | refine g_fin ?_ | (apply g_ap; exact rfl; exact rfl; assumption)
    rw [e8]
    refine lp_next (k + 1, ⟨p', c', a1.ph, a1.ch, a1.pb, a1.cb, a1.pd, a1.cd, a1.pw, a1.cw⟩) (by dsimp only; omega) (by dsimp only; omega) rfl ?_
    dsimp only [rcs]
    rw [e6, e9, e10]
    repeat first | exact Ent.refl _ | (apply Ent.more; · repeat first | exact Ent.keep | exact Ent.here | exact Ent.lend | exact ent_nil | apply Ent.there) | apply Ent.drop
  · have : l.take k = l := List.take_of_length_le (by omega)
    rw [this]
    repeat' first | apply step | (apply g_op; · repeat first | exact Evs.nil | (apply Evs.cons; exact rfl)) | (refine Br.mk (fun _ => ?_) (fun _ => ?_) <;> try (exfalso; omega)) | (refine Sd.mk ?_ ?_; · ((repeat' apply And.intro) <;> first | omega | trivial | assumption | (simp; done) | (simp; omega))) | (refine Sx.mk ?_ ?_; · omega) | refine Fa.mk (fun _ => ?_) | refine Im.mk (fun _ => ?_) | apply Lw.go | refine g_cond ?_ | refine g_guard ?_ | refine g_keep ?_ | refine g_pass ?_ | refine g_fin ?_ | (apply g_ap; exact rfl; exact rfl; assumption)
    exact fin (hR a1)
/-- A worker's job is done, and some of what comes of it is put to its row. -/
def Po.hs (P : Po) (k j : Nat) : Po := { P with who := P.who ++ [(k : Int)], ws := P.ws.set k ⟨(P.ws.getD k default).row ++ (hv (P.ws.getD k default).job).take j, 0, false⟩, did := P.did ++ [(P.ws.getD k default).job] }
theorem hs_rows {k : Nat} (hk : k < P.ws.length) (j : Nat) : (P.hs k j).rows = P.rows.set k (P.ws[k].row ++ (hv P.ws[k].job).take j) := by
  unfold Po.hs Po.rows; simp only [getD_row hk, List.map_set]
theorem hs_hel (k j : Nat) : (P.hs k j).hel = P.hel.set k 0 := by
  unfold Po.hs Po.hel; simp only [List.map_set]
theorem hs_hol (k j : Nat) : (P.hs k j).hol = P.hol.set k false := by
  unfold Po.hs Po.hol; simp only [List.map_set]
theorem hs_step {k : Nat} (hk : k < P.ws.length) (hh : P.ws[k].holds = true) {j : Nat} (hj : (hv P.ws[k].job).length ≤ j) : P.hs k j = P.step k := by
  unfold Po.hs Po.step
  simp only [getD_row hk, hh, if_true, List.take_of_length_le hj]
theorem hv_le (x : Int) : (hv x).length ≤ 2 := by unfold hv; split <;> simp
/-- A job is taken out of a row of one's own. -/
theorem tookr_own {k : Nat} (hk : k < P.ws.length) (h0 : P.ws[k].row ≠ []) : (P.took k).rows = P.rows.set k P.ws[k].row.dropLast ∧ (P.took k).hel = P.hel.set k (P.ws[k].row.getLastD 0) ∧ (P.took k).hol = P.hol.set k true ∧ (P.took k).stolen = P.stolen := by
  unfold Po.took
  simp only [getD_row hk]
  rw [if_pos h0]
  unfold Po.rows Po.hel Po.hol
  simp only [List.map_set, and_self]
theorem tookr_steal {k j f : Nat} (hk : k < P.ws.length) (h0 : P.ws[k].row = []) (hj : firstJ P.ws k = some j) (hf : (k + j) % P.ws.length = f) (hfl : f < P.ws.length) : (P.took k).rows = P.rows.set f P.ws[f].row.tail ∧ (P.took k).hel = P.hel.set k (P.ws[f].row.headD 0) ∧ (P.took k).hol = P.hol.set k true ∧ (P.took k).stolen = P.stolen + 1 := by
  obtain ⟨_, _, h3⟩ := firstJ_spec hj
  rw [hf, rowAt_lt hfl] at h3
  have hne : f ≠ k := by rintro rfl; exact h3 h0
  unfold Po.took
  simp only [getD_row hk]
  rw [if_neg (by simpa using h0), hj]
  simp only [hf, getD_row hfl]
  unfold Po.rows Po.hel Po.hol
  simp only [List.map_set, and_true]
  refine ⟨?_, ?_, ?_⟩
  · rw [set_same (i := k) (by simpa using hk)]
    rw [List.getElem_set_ne hne]
    simpa using h0
  · congr 1
    exact set_same (by simpa using hfl) (by simp)
  · congr 1
    exact set_same (by simpa using hfl) (by simp)
theorem step_took {k : Nat} (hk : k < P.ws.length) (hh : P.ws[k].holds = false) : (P.step k).rows = (P.took k).rows ∧ (P.step k).hel = (P.took k).hel ∧ (P.step k).hol = (P.took k).hol ∧ (P.step k).stolen = (P.took k).stolen ∧ (P.step k).did = P.did ∧ (P.step k).who = P.who ++ [(k : Int)] ∧ (P.step k).next = P.next := by
  unfold Po.step
  simp only [getD_row hk, hh, Bool.false_eq_true, if_false]
  unfold Po.took Po.rows Po.hel Po.hol
  simp only
  split
  · simp
  · split <;> simp
theorem firstJ_before {ws : List Wk} {k j i : Nat} (h : firstJ ws k = some j) (h1 : 1 ≤ i) (h2 : i < j) : rowAt ws ((k + i) % ws.length) = [] := by
  unfold firstJ at h
  have h3 := List.mem_of_find?_eq_some h
  rw [List.mem_range'_1] at h3
  have e : List.range' 1 (ws.length - 1) = List.range' 1 (j - 1) ++ List.range' j (ws.length - j) := by
    have := List.range'_append_1 (s := 1) (m := j - 1) (n := ws.length - j)
    rw [show 1 + (j - 1) = j by omega, show j - 1 + (ws.length - j) = ws.length - 1 by omega] at this
    exact this.symm
  rw [e, List.find?_append] at h
  cases hq : List.find? (fun j => !(rowAt ws ((k + j) % ws.length)).isEmpty) (List.range' 1 (j - 1)) with
  | some j' =>
    rw [hq] at h
    simp at h
    have := List.mem_of_find?_eq_some hq
    rw [List.mem_range'_1] at this
    omega
  | none =>
    rw [List.find?_eq_none] at hq
    have := hq i (by rw [List.mem_range'_1]; omega)
    simpa using this
theorem r10_step_spec {k : Nat} (ok : P.ok) (hk : k < P.ws.length) (hr : rdy P.ws P.ws[k] = true) (hm : 0 < mm P.ws) : Spec prog1 n_r10_step [.agg (List.toArray (rcs pl cl a P s)), .int .i64 (k : Int)] [own (kSl (kInt .i64)) a.pr a.cr P.rows, own (kInt .i64) a.ph a.ch P.hel, own kBool a.pb a.cb P.hol, own (kInt .i64) a.pd a.cd P.did, own (kInt .i64) a.pw a.cw P.who] (fun R => ∀ a', R (.agg (List.toArray (rcs pl cl a' (P.step k) s))) [own (kSl (kInt .i64)) a'.pr a'.cr (P.step k).rows, own (kInt .i64) a'.ph a'.ch (P.step k).hel, own kBool a'.pb a'.cb (P.step k).hol, own (kInt .i64) a'.pd a'.cd (P.step k).did, own (kInt .i64) a'.pw a'.cw (P.step k).who]) := by
  refine spec_code c_r10_step rfl ?_; intro n F R hR; unfold F_r10_step
  have l1 := rows_len (P := P)
  have l2 := hel_len (P := P)
  have l3 := hol_len (P := P)
  have hn := ok.n
  have hw := ok.w
  have hd := ok.d
  have hs := ok.s
  have hrow := row_le hk
  have er : P.rows[k]'(by omega) = P.ws[k].row := List.getElem_map ..
  have eh : P.hel[k]'(by omega) = P.ws[k].job := List.getElem_map ..
  have eb : P.hol[k]'(by omega) = P.ws[k].holds := List.getElem_map ..
  cases hh : P.ws[k].holds
  · rw [hh] at eb
    obtain ⟨t1, t2, t3, t4, t5, t6, t7⟩ := step_took hk hh
    repeat' first | rw [eb] | apply step | (apply g_op; · repeat first | exact Evs.nil | (apply Evs.cons; exact rfl)) | (refine Br.mk (fun _ => ?_) (fun _ => ?_) <;> try (exfalso; omega)) | (refine Sd.mk ?_ ?_; · ((repeat' apply And.intro) <;> first | omega | trivial | assumption | (simp; done) | (simp; omega))) | (refine Sx.mk ?_ ?_; · omega) | refine Fa.mk (fun _ => ?_) | refine Im.mk (fun _ => ?_) | apply Lw.go | refine g_cond ?_ | refine g_guard ?_ | refine g_keep ?_ | refine g_pass ?_ | refine g_fin ?_ | (apply g_ap; exact rfl; exact rfl; assumption)
    · rename_i hp
      have h0 : P.ws[k].row ≠ [] := fun h => by rw [er, h] at hp; simp at hp
      obtain ⟨u1, u2, u3, u4⟩ := tookr_own hk h0
      refine at_callR (r10_take_spec (k := k) (f := k) (rows := P.rows) (held := P.hel) (holds := P.hol) (b := true) (by omega) (by omega) (by omega) (by omega) (by omega) (by omega) (by rw [er]; exact h0) (by rw [er]; omega)) ?_
      intro p0 c0 p' c' q' d' L1 L2 L3 g1 g2 g3
      rw [er] at g1 g2
      rw [cond_true, ← u1, ← t1] at g1
      rw [cond_true, ← u2, ← t2] at g2
      rw [← u3, ← t3] at g3
      rw [u4] at t4
      subst g1; subst g2; subst g3
      repeat' first | apply step | (apply g_op; · repeat first | exact Evs.nil | (apply Evs.cons; exact rfl)) | (refine Br.mk (fun _ => ?_) (fun _ => ?_) <;> try (exfalso; omega)) | (refine Sd.mk ?_ ?_; · ((repeat' apply And.intro) <;> first | omega | trivial | assumption | (simp; done) | (simp; omega))) | (refine Sx.mk ?_ ?_; · omega) | refine Fa.mk (fun _ => ?_) | refine Im.mk (fun _ => ?_) | apply Lw.go | refine g_cond ?_ | refine g_guard ?_ | refine g_keep ?_ | refine g_pass ?_ | refine g_fin ?_ | (apply g_ap; exact rfl; exact rfl; assumption)
      have h := fun pw cw => hR ⟨p0, c0, p', c', q', d', a.pd, a.cd, pw, cw⟩
      dsimp only [rcs] at h
      rw [t4, t5, t6, t7] at h
      exact fin (h _ _)
    · rename_i hp
      have h0 : P.ws[k].row = [] := by
        rw [er] at hp
        exact List.eq_nil_of_length_eq_zero (by omega)
      have hw0 : 0 < wait P.ws := by unfold rdy at hr; rw [hh] at hr; simpa using hr
      obtain ⟨j0, hj0⟩ := firstJ_some hk h0 hw0
      obtain ⟨j1, j2, j3⟩ := firstJ_spec hj0
      rename_i tb rb _ _ _ _ pw cw _ _ _
      refine at_loopS (ι := Nat) (E := fun j => [(1, .int .i64 (k : Int)), (2, .pointer (some ⟨tb, 0, none⟩)), (4, .pointer (some ⟨rb, 0, none⟩)), (8, .int .i64 (j : Int))]) (Δ := fun j => pt tb [.slice pl s.l.length cl, .int .i64 s.cancel, .int .i64 (s.steps : Int), .int .i64 (s.used : Int), .slice a.pr P.rows.length a.cr, .slice a.ph P.hel.length a.ch, .slice a.pb P.hol.length a.cb, .slice a.pd P.did.length a.cd, .int .i64 (P.stolen : Int), .int .i64 (P.next : Int), .slice pw (P.who ++ [(k : Int)]).length cw] 0 :: own (kSl (kInt .i64)) a.pr a.cr P.rows :: own (kInt .i64) a.ph a.ch P.hel :: own kBool a.pb a.cb P.hol :: own (kInt .i64) a.pd a.cd P.did :: own (kInt .i64) pw cw (P.who ++ [(k : Int)]) :: pt rb [.slice none 0 0, .int .i64 0, .int .i64 0, .int .i64 0, .slice none 0 0, .slice none 0 0, .slice none 0 0, .slice none 0 0, .int .i64 0, .int .i64 0, .slice none 0 0] 0 :: F) (P := fun j => (1 ≤ j ∧ j ≤ j0)) (μ := fun j => P.ws.length - j) 1 (by omega) ?_
      rintro j hj
      dsimp only at hj ⊢
      obtain ⟨f, hfe⟩ : ∃ f, (k + j) % P.rows.length = f := ⟨_, rfl⟩
      have hfe' : (k + j) % P.ws.length = f := by rw [← l1]; exact hfe
      have hf : f < P.ws.length := by rw [← hfe']; exact Nat.mod_lt _ (by omega)
      have er2 : P.rows[f]'(by omega) = P.ws[f].row := List.getElem_map ..
      have hrow2 := row_le hf
      have hbef : j < j0 → P.ws[f].row = [] := fun hlt => by
        rw [← rowAt_lt hf, ← hfe']
        exact firstJ_before hj0 hj.1 hlt
      have hat : j = j0 → P.ws[f].row ≠ [] := fun e => by
        subst e
        rw [hfe', rowAt_lt hf] at j3; exact j3
      repeat' first | rw [hfe] | rw [er2] | apply step | (apply g_op; · repeat first | exact Evs.nil | (apply Evs.cons; exact rfl)) | (refine Br.mk (fun _ => ?_) (fun _ => ?_) <;> try (exfalso; omega)) | (refine Sd.mk ?_ ?_; · ((repeat' apply And.intro) <;> first | omega | trivial | assumption | (simp; done) | (simp; omega))) | (refine Sx.mk ?_ ?_; · omega) | refine Fa.mk (fun _ => ?_) | refine Im.mk (fun _ => ?_) | apply Lw.go | refine g_cond ?_ | refine g_guard ?_ | refine g_keep ?_ | refine g_pass ?_ | refine g_fin ?_ | (apply g_ap; exact rfl; exact rfl; assumption)
      · rename_i hp
        have hjj : j = j0 := by
          rcases Nat.lt_or_ge j j0 with q | q
          · rw [hbef q] at hp; simp at hp
          · omega
        subst hjj
        obtain ⟨u1, u2, u3, u4⟩ := tookr_steal hk h0 hj0 hfe' hf
        refine at_callR (r10_take_spec (k := k) (f := f) (rows := P.rows) (held := P.hel) (holds := P.hol) (b := false) (by omega) (by omega) (by omega) (by omega) (by omega) (by omega) (by rw [er2]; exact hat rfl) (by rw [er2]; omega)) ?_
        intro p0 c0 p' c' q' d' L1 L2 L3 g1 g2 g3
        rw [er2] at g1 g2
        rw [cond_false, ← u1, ← t1] at g1
        rw [cond_false, ← u2, ← t2] at g2
        rw [← u3, ← t3] at g3
        rw [u4] at t4
        subst g1; subst g2; subst g3
        repeat' first | apply step | (apply g_op; · repeat first | exact Evs.nil | (apply Evs.cons; exact rfl)) | (refine Br.mk (fun _ => ?_) (fun _ => ?_) <;> try (exfalso; omega)) | (refine Sd.mk ?_ ?_; · ((repeat' apply And.intro) <;> first | omega | trivial | assumption | (simp; done) | (simp; omega))) | (refine Sx.mk ?_ ?_; · omega) | refine Fa.mk (fun _ => ?_) | refine Im.mk (fun _ => ?_) | apply Lw.go | refine g_cond ?_ | refine g_guard ?_ | refine g_keep ?_ | refine g_pass ?_ | refine g_fin ?_ | (apply g_ap; exact rfl; exact rfl; assumption)
        have h := hR ⟨p0, c0, p', c', q', d', a.pd, a.cd, pw, cw⟩
        dsimp only [rcs] at h
        rw [t4, t5, t6, t7] at h
        exact fin h
      · rename_i hp
        have hjj : j ≠ j0 := fun e => by
          have := List.length_pos_iff.2 (hat e)
          omega
        exact lp_next (j + 1) (by omega) (by omega)
  · rw [hh] at eb
    repeat' first | rw [eb] | rw [eh] | apply step | (apply g_op; · repeat first | exact Evs.nil | (apply Evs.cons; exact rfl)) | (refine Br.mk (fun _ => ?_) (fun _ => ?_) <;> try (exfalso; omega)) | (refine Sd.mk ?_ ?_; · ((repeat' apply And.intro) <;> first | omega | trivial | assumption | (simp; done) | (simp; omega))) | (refine Sx.mk ?_ ?_; · omega) | refine Fa.mk (fun _ => ?_) | refine Im.mk (fun _ => ?_) | apply Lw.go | refine g_cond ?_ | refine g_guard ?_ | refine g_keep ?_ | refine g_pass ?_ | refine g_fin ?_ | (apply g_ap; exact rfl; exact rfl; assumption)
    refine at_callR (r10_hold_spec (k := k) (job := 0) (held := P.hel) (holds := P.hol) (by omega) (by omega) (by omega) (by omega) (by omega)) ?_
    intro p' c' q' d' L2 L3 g2 g3
    rw [← hs_hel k 0] at g2
    rw [← hs_hol k 0] at g3
    subst g2; subst g3
    repeat' first | apply step | (apply g_op; · repeat first | exact Evs.nil | (apply Evs.cons; exact rfl)) | (refine Br.mk (fun _ => ?_) (fun _ => ?_) <;> try (exfalso; omega)) | (refine Sd.mk ?_ ?_; · ((repeat' apply And.intro) <;> first | omega | trivial | assumption | (simp; done) | (simp; omega))) | (refine Sx.mk ?_ ?_; · omega) | refine Fa.mk (fun _ => ?_) | refine Im.mk (fun _ => ?_) | apply Lw.go | refine g_cond ?_ | refine g_guard ?_ | refine g_keep ?_ | refine g_pass ?_ | refine g_fin ?_ | (apply g_ap; exact rfl; exact rfl; assumption)
    first | refine at_callS (r10_Of_spec (x := P.ws[k].job) (by assumption)) ?_ | refine at_callR (r10_Of_spec (x := P.ws[k].job) (by assumption)) ?_
    intro po co
    repeat' first | apply step | (apply g_op; · repeat first | exact Evs.nil | (apply Evs.cons; exact rfl)) | (refine Br.mk (fun _ => ?_) (fun _ => ?_) <;> try (exfalso; omega)) | (refine Sd.mk ?_ ?_; · ((repeat' apply And.intro) <;> first | omega | trivial | assumption | (simp; done) | (simp; omega))) | (refine Sx.mk ?_ ?_; · omega) | refine Fa.mk (fun _ => ?_) | refine Im.mk (fun _ => ?_) | apply Lw.go | refine g_cond ?_ | refine g_guard ?_ | refine g_keep ?_ | refine g_pass ?_ | refine g_fin ?_ | (apply g_ap; exact rfl; exact rfl; assumption)
    rename_i tb rb _ _ _ _ pw cw hjb _ _ _ _ pd cd
    have e00 : (P.hs k 0).rows = P.rows := by
      rw [hs_rows hk, List.take_zero, List.append_nil]
      exact set_same (by omega) er
    have hv2 := hv_le P.ws[k].job
    refine at_loopS (ι := Nat × RA) (E := fun x => [(1, .int .i64 (k : Int)), (2, .pointer (some ⟨tb, 0, none⟩)), (4, .pointer (some ⟨rb, 0, none⟩)), (6, .slice po (hv P.ws[k].job).length co), (7, .int .i64 (x.1 : Int))]) (Δ := fun x => pt tb (rcs pl cl x.2 (P.hs k x.1) s) 0 :: own (kSl (kInt .i64)) x.2.pr x.2.cr (P.hs k x.1).rows :: own (kInt .i64) x.2.ph x.2.ch (P.hs k x.1).hel :: own kBool x.2.pb x.2.cb (P.hs k x.1).hol :: own (kInt .i64) x.2.pd x.2.cd (P.hs k x.1).did :: own (kInt .i64) x.2.pw x.2.cw (P.hs k x.1).who :: own (kInt .i64) po co (hv P.ws[k].job) :: pt rb [.slice none 0 0, .int .i64 0, .int .i64 0, .int .i64 0, .slice none 0 0, .slice none 0 0, .slice none 0 0, .slice none 0 0, .int .i64 0, .int .i64 0, .slice none 0 0] 0 :: F) (P := fun x => x.1 ≤ (hv P.ws[k].job).length) (μ := fun x => (hv P.ws[k].job).length - x.1) (0, ⟨a.pr, a.cr, p', c', q', d', pd, cd, pw, cw⟩) (Nat.zero_le _) ?_ (by rfl) (by
        dsimp only [rcs]
        rw [e00]
        simp only [Po.hs, getD_row hk]
        repeat first | exact Ent.refl _ | (apply Ent.more; · repeat first | exact Ent.keep | exact Ent.here | exact Ent.lend | exact ent_nil | apply Ent.there) | apply Ent.drop)
    rintro ⟨j, a1⟩ hj
    dsimp only at hj ⊢
    rcases Nat.lt_or_ge j (hv P.ws[k].job).length with hlt | hge
    · have hrl : (P.hs k j).rows.length = P.ws.length := by rw [hs_rows hk, List.length_set, l1]
      have hrk : (P.hs k j).rows[k]'(by omega) = P.ws[k].row ++ (hv P.ws[k].job).take j := by simp only [hs_rows hk, List.getElem_set_self]
      have hrs : (P.hs k (j + 1)).rows = (P.hs k j).rows.set k (P.ws[k].row ++ (hv P.ws[k].job).take j ++ [(hv P.ws[k].job)[j]]) := by
        rw [hs_rows hk, hs_rows hk, List.set_set, List.take_succ_eq_append_getElem hlt, List.append_assoc]
      have hl : ((hv P.ws[k].job).take j).length ≤ 2 := by rw [List.length_take]; omega
      repeat' first | apply step | (apply g_op; · repeat first | exact Evs.nil | (apply Evs.cons; exact rfl)) | (refine Br.mk (fun _ => ?_) (fun _ => ?_) <;> try (exfalso; omega)) | (refine Sd.mk ?_ ?_; · ((repeat' apply And.intro) <;> first | omega | trivial | assumption | (simp; done) | (simp; omega))) | (refine Sx.mk ?_ ?_; · omega) | refine Fa.mk (fun _ => ?_) | refine Im.mk (fun _ => ?_) | apply Lw.go | refine g_cond ?_ | refine g_guard ?_ | refine g_keep ?_ | refine g_pass ?_ | refine g_fin ?_ | (apply g_ap; exact rfl; exact rfl; assumption)
      refine at_callR (r10_push_spec (k := k) (job := (hv P.ws[k].job)[j]) (rows := (P.hs k j).rows) (by omega) (by omega) (by rw [hrk, List.length_append]; omega) (by assumption)) ?_
      intro p2 c2 L e1
      rw [hrk, ← hrs] at e1
      subst e1
      repeat' first | apply step | (apply g_op; · repeat first | exact Evs.nil | (apply Evs.cons; exact rfl)) | (refine Br.mk (fun _ => ?_) (fun _ => ?_) <;> try (exfalso; omega)) | (refine Sd.mk ?_ ?_; · ((repeat' apply And.intro) <;> first | omega | trivial | assumption | (simp; done) | (simp; omega))) | (refine Sx.mk ?_ ?_; · omega) | refine Fa.mk (fun _ => ?_) | refine Im.mk (fun _ => ?_) | apply Lw.go | refine g_cond ?_ | refine g_guard ?_ | refine g_keep ?_ | refine g_pass ?_ | refine g_fin ?_ | (apply g_ap; exact rfl; exact rfl; assumption)
      refine lp_next (j + 1, ⟨p2, c2, a1.ph, a1.ch, a1.pb, a1.cb, a1.pd, a1.cd, a1.pw, a1.cw⟩) (by dsimp only; omega) (by dsimp only; omega) rfl ?_
      dsimp only [rcs]
      rw [show (P.hs k (j + 1)).hel = (P.hs k j).hel by rw [hs_hel, hs_hel], show (P.hs k (j + 1)).hol = (P.hs k j).hol by rw [hs_hol, hs_hol], show (P.hs k (j + 1)).did = (P.hs k j).did from rfl, show (P.hs k (j + 1)).who = (P.hs k j).who from rfl, show (P.hs k (j + 1)).stolen = (P.hs k j).stolen from rfl, show (P.hs k (j + 1)).next = (P.hs k j).next from rfl]
      repeat first | exact Ent.refl _ | (apply Ent.more; · repeat first | exact Ent.keep | exact Ent.here | exact Ent.lend | exact ent_nil | apply Ent.there) | apply Ent.drop
    · rw [hs_step hk hh hge]
      repeat' first | apply step | (apply g_op; · repeat first | exact Evs.nil | (apply Evs.cons; exact rfl)) | (refine Br.mk (fun _ => ?_) (fun _ => ?_) <;> try (exfalso; omega)) | (refine Sd.mk ?_ ?_; · ((repeat' apply And.intro) <;> first | omega | trivial | assumption | (simp; done) | (simp; omega))) | (refine Sx.mk ?_ ?_; · omega) | refine Fa.mk (fun _ => ?_) | refine Im.mk (fun _ => ?_) | apply Lw.go | refine g_cond ?_ | refine g_guard ?_ | refine g_keep ?_ | refine g_pass ?_ | refine g_fin ?_ | (apply g_ap; exact rfl; exact rfl; assumption)
      exact fin (hR a1)
end
end Go.AMS

