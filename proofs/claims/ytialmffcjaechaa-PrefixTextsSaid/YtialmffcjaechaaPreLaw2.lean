/- Beginnings of one list, and a list with another thing in it. -/
import Derived.Test.YtialmffcjaechaaPreLaw
namespace Go.AM.G.Pre
set_option linter.unusedVariables false
set_option linter.unusedSectionVars false
set_option linter.unusedSimpArgs false
section
variable {α : Type} [DecidableEq α]

theorem commonL_self_take : ∀ {l : List α} {n : Nat}, n ≤ l.length → commonL (l.take n) l = n
  | [], n, h => by simp at h; subst h; rfl
  | x :: l, 0, h => by simp [commonL]
  | x :: l, n + 1, h => by
    simp only [List.take_succ_cons, commonL, if_true]
    rw [commonL_self_take (by simpa using h)]
theorem isL_self_take {l : List α} {n : Nat} (h : n ≤ l.length) : isL (l.take n) l = true := by
  unfold isL; rw [commonL_self_take h]; simp; omega
theorem commonL_set : ∀ {l : List α} {k : Nat} {y : α} (h : k < l.length), y ≠ l[k] → commonL l (l.set k y) = k
  | x :: l, 0, y, h, hy => by
    simp only [List.getElem_cons_zero] at hy
    simp only [List.set_cons_zero, commonL]
    rw [if_neg (fun e => hy e.symm)]
  | x :: l, k + 1, y, h, hy => by
    simp only [List.getElem_cons_succ] at hy
    simp only [List.set_cons_succ, commonL, if_true]
    rw [commonL_set (by simpa using h) hy]
theorem fit_takes {l : List α} {n j : Nat} : fitL (l.take n) (l.take j) = true := by
  rw [fitL_iff]
  rcases Nat.le_total n j with h | h
  · exact .inl (List.take_prefix_take_left h)
  · exact .inr (List.take_prefix_take_left h)
theorem fine_takes {l : List α} : ∀ (ns : List Nat) (b : Nat), b ≤ l.length → (∀ n ∈ ns, n ≤ l.length) → (ns.map (fun n => l.take n)).foldl fineSt (l.take b, true) = (l.take (ns.foldl max b), true)
  | [], b, _, _ => rfl
  | n :: ns, b, hb, hn => by
    have h1 := hn n (by simp)
    have e : fineSt (l.take b, true) (l.take n) = (l.take (max b n), true) := by
      unfold fineSt longer
      rw [fit_takes]
      simp only [List.length_take, Bool.and_self, Prod.mk.injEq, and_true]
      split
      · rw [Nat.max_eq_right (by omega)]
      · rw [Nat.max_eq_left (by omega)]
    rw [List.map_cons, List.foldl_cons, e, List.foldl_cons]
    exact fine_takes ns (max b n) (by omega) (fun x hx => hn x (by simp [hx]))
theorem fineS_takes {l : List α} {ns : List Nat} (hn : ∀ n ∈ ns, n ≤ l.length) : fineS (ns.map (fun n => l.take n)) = (l.take (ns.foldl max 0), true) := by
  have := fine_takes (l := l) ns 0 (Nat.zero_le _) hn
  rwa [List.take_zero] at this
theorem fit_set {l : List α} {k : Nat} {y : α} (h : k < l.length) (hy : y ≠ l[k]) : fitL l (l.set k y) = false := by
  rw [Bool.eq_false_iff]
  intro hf
  rw [fitL_iff] at hf
  have hl : l.length = (l.set k y).length := by simp
  have e : l = l.set k y := by
    rcases hf with hf | hf
    · exact hf.eq_of_length hl
    · exact (hf.eq_of_length hl.symm).symm
  have := congrArg (fun z => z[k]?) e
  simp [h] at this
  exact hy this.symm
theorem bad_set {l : List α} {k : Nat} {y : α} (h : k < l.length) (hy : y ≠ l[k]) : badL [l.take k, l, l.set k y] 0 = some (1, 2) := by
  have h1 : fitL (l.take k) l = true := by rw [fitL_iff]; exact .inl (List.take_prefix _ _)
  have h2 : fitL (l.take k) (l.set k y) = true := by
    rw [fitL_iff]; left
    have : l.take k = (l.set k y).take k := by rw [List.take_set_of_le (Nat.le_refl _)]
    rw [this]; exact List.take_prefix _ _
  simp [badL, apartL, h1, h2, fit_set h hy]
theorem fine_set {l : List α} {k : Nat} {y : α} (h : k < l.length) (hy : y ≠ l[k]) : (fineS [l.take k, l, l.set k y]).2 = false := by
  rw [Bool.eq_false_iff]
  intro hf
  rw [fineS_snd, bad_set h hy] at hf
  cases hf
theorem max_le {l : Nat} : ∀ (ns : List Nat) (b : Nat), b ≤ l → (∀ n ∈ ns, n ≤ l) → ns.foldl max b ≤ l
  | [], b, hb, _ => hb
  | n :: ns, b, hb, hn => max_le ns (max b n) (by have := hn n (by simp); omega) (fun x hx => hn x (by simp [hx]))
end
end Go.AM.G.Pre
