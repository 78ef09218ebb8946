/- Beginnings of lists: the plain law. -/
import Derived.IntWalk
namespace Go.AM.G.Pre
set_option linter.unusedVariables false
set_option linter.unusedSectionVars false
set_option linter.unusedSimpArgs false
section
variable {α : Type} [DecidableEq α]

def commonL : List α → List α → Nat
  | x :: a, y :: b => if x = y then commonL a b + 1 else 0
  | _, _ => 0

theorem commonL_step {a b : List α} {n : Nat} (ha : n < a.length) (hb : n < b.length) : commonL (a.drop n) (b.drop n) = if a[n] = b[n] then commonL (a.drop (n + 1)) (b.drop (n + 1)) + 1 else 0 := by
  rw [List.drop_eq_getElem_cons ha, List.drop_eq_getElem_cons hb]; rfl
theorem commonL_end {a b : List α} {n : Nat} (h : ¬ n < a.length ∨ ¬ n < b.length) : commonL (a.drop n) (b.drop n) = 0 := by
  rcases h with h | h
  · rw [List.drop_eq_nil_of_le (by omega)]; rfl
  · rw [show b.drop n = [] from List.drop_eq_nil_of_le (by omega)]; cases a.drop n <;> rfl


def isL (a b : List α) : Bool := commonL a b == a.length
def fitL (a b : List α) : Bool := isL a b || isL b a


theorem isL_iff : ∀ {a b : List α}, isL a b = true ↔ a.length ≤ b.length ∧ a = b.take a.length
  | [], b => by simp [isL, commonL]
  | x :: a, [] => by simp [isL, commonL]
  | x :: a, y :: b => by
    have ih := isL_iff (a := a) (b := b)
    simp only [isL, commonL, beq_iff_eq] at ih ⊢
    by_cases h : x = y
    · rw [if_pos h]; simp only [List.length_cons, List.take_succ_cons, List.cons.injEq, Nat.add_le_add_iff_right, h, true_and, Nat.add_right_cancel_iff]; exact ih
    · rw [if_neg h]; simp [h]


theorem commonL_le : ∀ {a b : List α}, commonL a b ≤ a.length
  | [], _ => Nat.le_refl _
  | x :: a, [] => Nat.zero_le _
  | x :: a, y :: b => by
    simp only [commonL, List.length_cons]
    split
    · have := commonL_le (a := a) (b := b); omega
    · omega

theorem isL_take : ∀ {a b : List α} {n : Nat}, n ≤ a.length → isL (a.take n) b = decide (n ≤ commonL a b)
  | [], b, n, h => by simp at h; subst h; simp [isL, commonL]
  | x :: a, b, 0, h => by simp [isL, commonL]
  | x :: a, [], n + 1, h => by simp [isL, commonL]
  | x :: a, y :: b, n + 1, h => by
    have ih := isL_take (a := a) (b := b) (n := n) (by simpa using h)
    rw [Bool.eq_iff_iff, decide_eq_true_iff] at ih ⊢
    simp only [isL, List.take_succ_cons, commonL, List.length_cons, beq_iff_eq, decide_eq_true_eq] at ih ⊢
    by_cases hx : x = y
    · rw [if_pos hx, if_pos hx]; omega
    · rw [if_neg hx, if_neg hx]; omega


def apartL (x : List α) : List (List α) → Nat → Option Nat
  | [], _ => none
  | y :: r, j => if fitL x y = true then apartL x r (j + 1) else some j


/-- The first two that do not fit. -/
def badL : List (List α) → Nat → Option (Nat × Nat)
  | [], _ => none
  | x :: r, k => match apartL x r (k + 1) with
    | some j => some (k, j)
    | none => badL r (k + 1)

def longer (b x : List α) : List α := if b.length < x.length then x else b
def bestL (l : List (List α)) : List α := l.foldl longer []

theorem badL_step {l : List (List α)} {n : Nat} (h : n < l.length) : badL (l.drop n) n = match apartL l[n] (l.drop (n + 1)) (n + 1) with
    | some j => some (n, j)
    | none => badL (l.drop (n + 1)) (n + 1) := by
  rw [List.drop_eq_getElem_cons h]; rfl

theorem bestL_step {l : List (List α)} {n : Nat} (h : n < l.length) : bestL (l.take (n + 1)) = longer (bestL (l.take n)) l[n] := by
  unfold bestL; rw [List.take_succ_eq_append_getElem h, List.foldl_append]; rfl


def fineSt (s : List α × Bool) (x : List α) : List α × Bool := (longer s.1 x, s.2 && fitL x s.1)
def fineS (l : List (List α)) : List α × Bool := l.foldl fineSt ([], true)
theorem fineS_step {l : List (List α)} {n : Nat} (h : n < l.length) : fineS (l.take (n + 1)) = fineSt (fineS (l.take n)) l[n] := by
  unfold fineS; rw [List.take_succ_eq_append_getElem h, List.foldl_append]; rfl
theorem longer_cases (b x : List α) : longer b x = b ∨ longer b x = x := by unfold longer; split <;> simp
theorem fineS_small {B : Nat} : ∀ {l : List (List α)}, (∀ x ∈ l, x.length < B) → 0 < B → (fineS l).1.length < B := by
  intro l hl hB
  have key : ∀ (l : List (List α)) (s : List α × Bool), (∀ x ∈ l, x.length < B) → s.1.length < B → (l.foldl fineSt s).1.length < B := by
    intro l
    induction l with
    | nil => intro s _ hs; exact hs
    | cons x l ih =>
      intro s hx hs
      refine ih _ (fun y hy => hx y (List.mem_cons_of_mem _ hy)) ?_
      show (longer s.1 x).length < B
      rcases longer_cases s.1 x with e | e <;> rw [e]
      · exact hs
      · exact hx x (by simp)
  exact key l _ hl hB


theorem fineS_fst (l : List (List α)) : (fineS l).1 = bestL l := by
  have key : ∀ (l : List (List α)) (s : List α × Bool), (l.foldl fineSt s).1 = l.foldl longer s.1 := by
    intro l
    induction l with
    | nil => intro s; rfl
    | cons x l ih => intro s; exact ih _
  exact key l _
theorem isL_prefix {a b : List α} : isL a b = true ↔ a <+: b := by
  rw [isL_iff]
  constructor
  · rintro ⟨h1, h2⟩; rw [h2]; exact List.take_prefix _ _
  · intro h; exact ⟨h.length_le, (List.prefix_iff_eq_take.1 h)⟩
theorem fitL_iff {a b : List α} : fitL a b = true ↔ a <+: b ∨ b <+: a := by
  simp only [fitL, Bool.or_eq_true, isL_prefix]
theorem apartL_none {x : List α} : ∀ {l : List (List α)} {j : Nat}, apartL x l j = none ↔ ∀ y ∈ l, fitL x y = true := by
  intro l
  induction l with
  | nil => intro j; simp [apartL]
  | cons y l ih =>
    intro j
    simp only [apartL, List.mem_cons, forall_eq_or_imp]
    by_cases h : fitL x y = true
    · rw [if_pos h, ih]; simp [h]
    · rw [if_neg h]; simp [h]
theorem badL_none : ∀ {l : List (List α)} {k : Nat}, badL l k = none ↔ l.Pairwise (fun x y => fitL x y = true) := by
  intro l
  induction l with
  | nil => intro k; simp [badL]
  | cons x l ih =>
    intro k
    simp only [badL, List.pairwise_cons]
    cases hq : apartL x l (k + 1) with
    | some j =>
      simp only [reduceCtorEq, false_iff, not_and]
      intro h; rw [← apartL_none (j := k + 1), hq] at h; cases h
    | none => simp only; rw [ih]; simp; exact fun _ => apartL_none.1 hq
theorem fine_false : ∀ (l : List (List α)) (s : List α × Bool), s.2 = false → (l.foldl fineSt s).2 = false := by
  intro l
  induction l with
  | nil => intro s h; exact h
  | cons x l ih => intro s h; exact ih _ (by show (s.2 && _) = false; rw [h]; rfl)
theorem fine_key : ∀ (l D : List (List α)) (b : List α), (∀ y ∈ D, y <+: b) → (b = [] ∨ b ∈ D) →
    ((l.foldl fineSt (b, true)).2 = true ↔ l.Pairwise (fun x y => fitL x y = true) ∧ ∀ x ∈ l, ∀ y ∈ D, fitL y x = true) := by
  intro l
  induction l with
  | nil => intro D b _ _; simp
  | cons x l ih =>
    intro D b hD hb
    have hx : fitL x b = true ↔ ∀ y ∈ D, fitL y x = true := by
      constructor
      · intro h y hy
        rw [fitL_iff] at h ⊢
        rcases h with h | h
        · rcases Nat.le_total y.length x.length with hl | hl
          · exact .inl (List.prefix_of_prefix_length_le (hD y hy) h hl)
          · exact .inr (List.prefix_of_prefix_length_le h (hD y hy) hl)
        · exact .inl ((hD y hy).trans h)
      · intro h
        rcases hb with rfl | hb
        · rw [fitL_iff]; exact .inr List.nil_prefix
        · have := h b hb
          rw [fitL_iff] at this ⊢; exact this.symm
    show ((l.foldl fineSt (longer b x, (true && fitL x b))).2 = true ↔ _)
    rw [Bool.true_and]
    cases hf : fitL x b with
    | false =>
      rw [fine_false _ _ rfl]
      constructor
      · intro h; cases h
      · rintro ⟨_, h⟩
        have := hx.2 (h x (by simp))
        rw [hf] at this; cases this
    | true =>
      have hxD := hx.1 hf
      rw [fitL_iff] at hf
      rw [ih (x :: D) (longer b x) ?_ ?_]
      · simp only [List.pairwise_cons, List.mem_cons, forall_eq_or_imp]
        constructor
        · rintro ⟨h1, h2⟩; exact ⟨⟨fun y hy => (h2 y hy).1, h1⟩, hxD, fun y hy => (h2 y hy).2⟩
        · rintro ⟨⟨h1, h2⟩, _, h3⟩; exact ⟨h2, fun y hy => ⟨h1 y hy, h3 y hy⟩⟩
      · intro y hy
        unfold longer
        split
        · rename_i hlt
          have hbx : b <+: x := by
            rcases hf with h | h
            · have := h.length_le; omega
            · exact h
          rcases List.mem_cons.1 hy with rfl | hy
          · exact List.prefix_refl _
          · exact (hD y hy).trans hbx
        · rename_i hlt
          rcases List.mem_cons.1 hy with rfl | hy
          · rcases hf with h | h
            · exact h
            · have := h.eq_of_length_le (by omega); rw [this]; exact List.prefix_refl _
          · exact hD y hy
      · unfold longer
        split
        · exact .inr (by simp)
        · rcases hb with h | h
          · exact .inl h
          · exact .inr (List.mem_cons_of_mem _ h)
theorem fineS_snd (l : List (List α)) : (fineS l).2 = true ↔ badL l 0 = none := by
  unfold fineS
  rw [fine_key l [] [] (fun y hy => by cases hy) (.inl rfl), badL_none]
  simp

theorem fine_all : ∀ (l D : List (List α)) (b : List α), (∀ y ∈ D, y <+: b) → (b = [] ∨ b ∈ D) → (l.foldl fineSt (b, true)).2 = true →
    (∀ y, y ∈ l ∨ y ∈ D → y <+: (l.foldl fineSt (b, true)).1) ∧ ((l.foldl fineSt (b, true)).1 = [] ∨ (l.foldl fineSt (b, true)).1 ∈ l ∨ (l.foldl fineSt (b, true)).1 ∈ D) := by
  intro l
  induction l with
  | nil => intro D b hD hb _; exact ⟨fun y hy => hD y (by simpa using hy), hb.imp id .inr⟩
  | cons x l ih =>
    intro D b hD hb hf
    have e : (x :: l).foldl fineSt (b, true) = l.foldl fineSt (longer b x, fitL x b) := by simp [List.foldl_cons, fineSt]
    rw [e] at hf ⊢
    cases hq : fitL x b with
    | false => rw [hq, fine_false _ _ rfl] at hf; cases hf
    | true =>
      rw [hq] at hf
      have hfit := fitL_iff.1 hq
      have h1 : ∀ y ∈ x :: D, y <+: longer b x := by
        intro y hy
        unfold longer
        split
        · rename_i hlt
          have hbx : b <+: x := by
            rcases hfit with h | h
            · have := h.length_le; omega
            · exact h
          rcases List.mem_cons.1 hy with rfl | hy
          · exact List.prefix_refl _
          · exact (hD y hy).trans hbx
        · rename_i hlt
          rcases List.mem_cons.1 hy with rfl | hy
          · rcases hfit with h | h
            · exact h
            · have := h.eq_of_length_le (by omega); rw [this]; exact List.prefix_refl _
          · exact hD y hy
      have h2 : longer b x = [] ∨ longer b x ∈ x :: D := by
        unfold longer
        split
        · exact .inr (by simp)
        · exact hb.imp id (List.mem_cons_of_mem _)
      obtain ⟨k1, k2⟩ := ih (x :: D) _ h1 h2 hf
      refine ⟨fun y hy => k1 y ?_, ?_⟩
      · simp only [List.mem_cons] at hy ⊢
        rcases hy with (h | h) | h
        · exact .inr (.inl h)
        · exact .inl h
        · exact .inr (.inr h)
      · simp only [List.mem_cons] at k2 ⊢
        rcases k2 with h | h | h | h
        · exact .inl h
        · exact .inr (.inl (.inr h))
        · exact .inr (.inl (.inl h))
        · exact .inr (.inr h)
theorem fineS_all {l : List (List α)} (hf : (fineS l).2 = true) : (∀ y ∈ l, isL y (fineS l).1 = true) ∧ ((fineS l).1 = [] ∨ (fineS l).1 ∈ l) := by
  obtain ⟨h1, h2⟩ := fine_all l [] [] (fun y hy => by cases hy) (.inl rfl) hf
  exact ⟨fun y hy => isL_prefix.2 (h1 y (.inl hy)), by unfold fineS; simpa using h2⟩
theorem apartL_some {x : List α} : ∀ {l : List (List α)} {n j : Nat}, apartL x l n = some j → ∃ i, j = n + i ∧ ∃ h : i < l.length, fitL x l[i] = false := by
  intro l
  induction l with
  | nil => intro n j h; cases h
  | cons y l ih =>
    intro n j h
    simp only [apartL] at h
    split at h
    · obtain ⟨i, h1, h2, h3⟩ := ih h
      exact ⟨i + 1, by omega, by simpa using h2, by simpa using h3⟩
    · rename_i hne
      cases h
      exact ⟨0, rfl, by simp, by simpa using hne⟩
theorem badL_some : ∀ {l : List (List α)} {n k j : Nat}, badL l n = some (k, j) → ∃ a b, k = n + a ∧ j = n + b ∧ a < b ∧ ∃ (h1 : a < l.length) (h2 : b < l.length), fitL l[a] l[b] = false := by
  intro l
  induction l with
  | nil => intro n k j h; cases h
  | cons x l ih =>
    intro n k j h
    simp only [badL] at h
    split at h
    · rename_i i hi
      cases h
      obtain ⟨a, h1, h2, h3⟩ := apartL_some hi
      exact ⟨0, a + 1, by omega, by omega, by omega, by simp, by simpa using h2, by simpa using h3⟩
    · obtain ⟨a, b, h1, h2, h3, h4, h5, h6⟩ := ih h
      exact ⟨a + 1, b + 1, by omega, by omega, by omega, by simpa using h4, by simpa using h5, by simpa using h6⟩

end
end Go.AM.G.Pre
