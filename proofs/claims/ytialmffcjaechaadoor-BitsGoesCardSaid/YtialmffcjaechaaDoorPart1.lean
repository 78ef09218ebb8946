/- What the functions do, part 1. -/
import Derived.Test.YtialmffcjaechaaDoorCode
import Derived.Test.YtialmffcjaechaaDoorSetLaw
import Derived.Test.YtialmffcjaechaaDoorAmSepZ
namespace Go.AMS
open Go.AM hiding Kt At WP WL Runs RunsY
open Go.AM.G
set_option linter.unusedVariables false
set_option linter.unusedSimpArgs false
set_option linter.unusedSectionVars false
set_option maxRecDepth 100000
set_option maxHeartbeats 1000000
attribute [local irreducible] AtS AtV AtC AtG FinA Spec Post LP G.At G.WP G.WL pt own fro rdl ro hx mp lrec elt sub

open Go.AM.G.Set
section
/-- A script: picks, where all is cancelled, how many steps there were, how many picks were used. -/
structure Scr where
  l : List Int
  cancel : Int
  steps : Nat
  used : Nat
def Scr.one (s : Scr) : Scr := { s with steps := s.steps + 1 }
section
variable {b : Nat} {s : Scr} {m : Bool}
end
end
end Go.AMS

namespace Go.AMS
open Go.AM hiding Kt At WP WL Runs RunsY
open Go.AM.G
set_option linter.unusedVariables false
set_option linter.unusedSimpArgs false
set_option linter.unusedSectionVars false
set_option maxRecDepth 100000
set_option maxHeartbeats 1000000
attribute [local irreducible] AtS AtV AtC AtG FinA Spec Post LP G.At G.WP G.WL pt own fro rdl ro hx mp lrec elt sub

open Go.AM.G.Set
section
theorem r01_Same_spec {p q : Option Addr} {c c' : Nat} {a b : List Int} (ha : a.length ≤ 1000000000000) : Spec prog1 n_r01_Same [.slice p a.length c, .slice q b.length c'] [rdl (kInt .i64) p a, rdl (kInt .i64) q b] (fun R => (a = b → R (.bool true) []) ∧ (a ≠ b → R (.bool false) [])) := by
  refine spec_code c_r01_Same rfl ?_; intro n F R hR; unfold F_r01_Same
  repeat' first | apply step | (apply g_op; · repeat first | exact Evs.nil | (apply Evs.cons; exact rfl)) | (refine Br.mk (fun _ => ?_) (fun _ => ?_) <;> try (exfalso; omega)) | (refine Sd.mk ?_ ?_; · ((repeat' apply And.intro) <;> first | omega | trivial | assumption | (simp; done) | (simp; omega))) | (refine Sx.mk ?_ ?_; · omega) | refine Fa.mk (fun _ => ?_) | refine Im.mk (fun _ => ?_) | apply Lw.go | refine g_cond ?_ | refine g_guard ?_ | refine g_keep ?_ | refine g_pass ?_ | refine g_fin ?_ | (apply g_ap; exact rfl; exact rfl; assumption)
  · exact fin (hR.2 (fun h => by subst h; simp at *))
  refine at_loopS (ι := Nat) (E := fun k => [(0, .slice p a.length c), (1, .slice q b.length c'), (5, .int .i64 (k : Int))]) (Δ := fun _ => rdl (kInt .i64) p a :: rdl (kInt .i64) q b :: F) (P := fun k => k ≤ a.length ∧ a.take k = b.take k) (μ := fun k => a.length - k) 0 ⟨Nat.zero_le _, by simp⟩ ?_
  rintro k ⟨hk, he⟩
  have hlen : a.length = b.length := by omega
  dsimp only
  repeat' first | apply step | (apply g_op; · repeat first | exact Evs.nil | (apply Evs.cons; exact rfl)) | (refine Br.mk (fun _ => ?_) (fun _ => ?_) <;> try (exfalso; omega)) | (refine Sd.mk ?_ ?_; · ((repeat' apply And.intro) <;> first | omega | trivial | assumption | (simp; done) | (simp; omega))) | (refine Sx.mk ?_ ?_; · omega) | refine Fa.mk (fun _ => ?_) | refine Im.mk (fun _ => ?_) | apply Lw.go | refine g_cond ?_ | refine g_guard ?_ | refine g_keep ?_ | refine g_pass ?_ | refine g_fin ?_ | (apply g_ap; exact rfl; exact rfl; assumption)
  · refine fin (hR.2 (fun h => ?_))
    subst h
    simp at *
  · refine lp_next (k + 1) ⟨by omega, ?_⟩ (by omega)
    have : a[k]'(by omega) = b[k]'(by omega) := by simpa using ‹¬ _ ≠ _›
    rw [List.take_succ_eq_append_getElem (by omega), List.take_succ_eq_append_getElem (by omega), he, this]
  · refine fin (hR.1 ?_)
    rw [List.take_of_length_le (by omega), List.take_of_length_le (by omega)] at he
    exact he
end
end Go.AMS

namespace Go.AMS
open Go.AM
set_option linter.unusedVariables false
set_option linter.unusedSimpArgs false

def natOf (f : Nat → Bool) : Nat → Nat
  | 0 => 0
  | n + 1 => 2 ^ n * (f n).toNat + natOf f n
theorem natOf_lt (f : Nat → Bool) : ∀ n, natOf f n < 2 ^ n
  | 0 => by simp [natOf]
  | n + 1 => by
    have := natOf_lt f n
    unfold natOf
    rw [Nat.pow_succ]
    cases f n <;> simp <;> omega
theorem natOf_bit (f : Nat → Bool) (i : Nat) : ∀ n, (natOf f n).testBit i = (decide (i < n) && f i)
  | 0 => by simp [natOf]
  | n + 1 => by
    unfold natOf
    rw [Nat.testBit_two_pow_mul_add _ (natOf_lt f n)]
    split
    · rename_i h; rw [natOf_bit f i n, decide_eq_true h, decide_eq_true (show i < n + 1 by omega)]
    · rename_i h
      by_cases h2 : i = n
      · subst h2; cases hf : f i <;> simp
      · rw [decide_eq_false (by omega)]
        have h3 : i - n = (i - n - 1) + 1 := by omega
        rw [h3]
        cases f n <;> simp [Nat.testBit_succ]
def word (l : List Bool) (j : Nat) : Nat := natOf (fun i => l.getD (64 * j + i) false) 64
theorem word_bit (l : List Bool) (j i : Nat) : (word l j).testBit i = (decide (i < 64) && l.getD (64 * j + i) false) := natOf_bit _ _ _
theorem word_lt (l : List Bool) (j : Nat) : word l j < 18446744073709551616 := natOf_lt _ 64
def words (l : List Bool) : List Int := (List.range ((l.length + 63) / 64)).map fun j => ((word l j : Nat) : Int)
theorem words_len (l : List Bool) : (words l).length = (l.length + 63) / 64 := by unfold words; simp
theorem words_get? (l : List Bool) (j : Nat) : (words l)[j]? = if j < (l.length + 63) / 64 then some ((word l j : Nat) : Int) else none := by
  unfold words
  rw [List.getElem?_map]
  split
  · rename_i h; rw [List.getElem?_range h]; rfl
  · rename_i h; rw [List.getElem?_eq_none (by simp; omega)]; rfl
theorem words_get {l : List Bool} {j : Nat} (h : j < (words l).length) : (words l)[j] = ((word l j : Nat) : Int) := by
  have h1 := words_get? l j
  rw [words_len] at h
  rw [if_pos h, List.getElem?_eq_getElem (by rw [words_len]; exact h)] at h1
  exact Option.some.inj h1
theorem getD_set {l : List Bool} {k i : Nat} {b : Bool} (hk : k < l.length) : (l.set k b).getD i false = if i = k then b else l.getD i false := by
  rw [List.getD_eq_getElem?_getD, List.getElem?_set, List.getD_eq_getElem?_getD]
  by_cases h : k = i
  · subst h; rw [if_pos rfl, if_pos hk, if_pos rfl]; rfl
  · rw [if_neg h, if_neg (fun q : i = k => h q.symm)]
theorem word_set {l : List Bool} {k : Nat} {b : Bool} (hk : k < l.length) {x : Nat} (hx : ∀ i, x.testBit i = (decide (i < 64) && (if i = k % 64 then b else (word l (k / 64)).testBit i))) (j : Nat) : word (l.set k b) j = if j = k / 64 then x else word l j := by
  apply Nat.eq_of_testBit_eq
  intro i
  rw [word_bit, getD_set hk]
  by_cases h3 : i < 64
  · rw [decide_eq_true h3, Bool.true_and]
    by_cases h : j = k / 64
    · rw [if_pos h, hx, decide_eq_true h3, Bool.true_and]
      by_cases h4 : i = k % 64
      · rw [if_pos (by omega), if_pos h4]
      · rw [if_neg (by omega), if_neg h4, word_bit, decide_eq_true h3, Bool.true_and, h]
    · rw [if_neg h, if_neg (by omega), word_bit, decide_eq_true h3, Bool.true_and]
  · rw [decide_eq_false h3, Bool.false_and]
    by_cases h : j = k / 64
    · rw [if_pos h, hx, decide_eq_false h3, Bool.false_and]
    · rw [if_neg h, word_bit, decide_eq_false h3, Bool.false_and]
theorem words_set {l : List Bool} {k : Nat} {b : Bool} (hk : k < l.length) {x : Nat} (hx : ∀ i, x.testBit i = (decide (i < 64) && (if i = k % 64 then b else (word l (k / 64)).testBit i))) : words (l.set k b) = (words l).set (k / 64) ((x : Nat) : Int) := by
  apply List.ext_getElem?
  intro j
  rw [words_get?, List.getElem?_set, words_get?, words_len, List.length_set, word_set hk hx]
  by_cases h : j < (l.length + 63) / 64
  · rw [if_pos h]
    by_cases h2 : j = k / 64
    · rw [if_pos h2, if_pos h2.symm, if_pos (by omega)]
    · rw [if_neg h2, if_neg (fun q => h2 q.symm), if_pos h]
  · rw [if_neg h]
    by_cases h2 : k / 64 = j
    · rw [if_pos h2, if_neg (by omega)]
    · rw [if_neg h2, if_neg h]
theorem words_put {l : List Bool} {k : Nat} (hk : k < l.length) : words (l.set k true) = (words l).set (k / 64) ((word l (k / 64) ||| 2 ^ (k % 64) : Nat) : Int) := by
  refine words_set hk fun i => ?_
  rw [Nat.testBit_or, Nat.testBit_two_pow, word_bit]
  by_cases h : i = k % 64
  · have : k % 64 < 64 := Nat.mod_lt _ (by omega)
    rw [if_pos h, decide_eq_true (show k % 64 = i from h.symm), decide_eq_true (show i < 64 by omega)]; simp
  · rw [if_neg h, decide_eq_false (show ¬ k % 64 = i from fun q => h q.symm)]
    cases decide (i < 64) <;> simp
theorem words_drop {l : List Bool} {k : Nat} (hk : k < l.length) : words (l.set k false) = (words l).set (k / 64) ((word l (k / 64) &&& (18446744073709551615 - 2 ^ (k % 64)) : Nat) : Int) := by
  refine words_set hk fun i => ?_
  have hm : k % 64 < 64 := Nat.mod_lt _ (by omega)
  have hp : 2 ^ (k % 64) < 2 ^ 64 := Nat.pow_lt_pow_right (by omega) hm
  have e : 18446744073709551615 - 2 ^ (k % 64) = 2 ^ 64 - (2 ^ (k % 64) + 1) := by
    have : (2 : Nat) ^ 64 = 18446744073709551616 := by decide
    omega
  rw [Nat.testBit_and, e, Nat.testBit_two_pow_sub_succ hp, Nat.testBit_two_pow, word_bit]
  by_cases h : i = k % 64
  · rw [if_pos h, decide_eq_true (show k % 64 = i from h.symm)]; simp
  · rw [if_neg h, decide_eq_false (show ¬ k % 64 = i from fun q => h q.symm)]
    cases decide (i < 64) <;> simp
theorem pow64_lt (k : Nat) : 2 ^ (k % 64) < 18446744073709551616 := Nat.pow_lt_pow_right (m := k % 64) (n := 64) (by omega) (Nat.mod_lt _ (by omega))
theorem word_shift (l : List Bool) (k i : Nat) : (word l (k / 64) / 2 ^ (k % 64)).testBit i = (decide (k % 64 + i < 64) && l.getD (k + i) false) := by
  rw [Nat.testBit_div_two_pow, word_bit]
  have e : 64 * (k / 64) + (i + k % 64) = k + i := by omega
  rw [e, Nat.add_comm i]
/-- The next one that is there. -/
structure Nx (l : List Bool) (k : Nat) (i : Nat) : Prop where
  ge : k ≤ i
  lt : i < l.length
  is : l.getD i false = true
  no : ∀ j, k ≤ j → j < i → l.getD j false = false
def Nn (l : List Bool) (k : Nat) : Prop := ∀ j, k ≤ j → l.getD j false = false
theorem Nx.eq {l : List Bool} {k i j : Nat} (a : Nx l k i) (b : Nx l k j) : i = j := by
  rcases Nat.lt_trichotomy i j with h | h | h
  · have := b.no i a.ge h; rw [a.is] at this; cases this
  · exact h
  · have := a.no j b.ge h; rw [b.is] at this; cases this
theorem Nx.not {l : List Bool} {k i : Nat} (a : Nx l k i) (b : Nn l k) : False := by have := b i a.ge; rw [a.is] at this; cases this
theorem nx_or (l : List Bool) (k : Nat) : (∃ i, Nx l k i) ∨ Nn l k := by
  suffices h : ∀ n k, l.length - k ≤ n → (∃ i, Nx l k i) ∨ Nn l k from h _ k (Nat.le_refl _)
  intro n
  induction n with
  | zero => intro k hk; exact .inr fun j hj => by rw [List.getD_eq_getElem?_getD, List.getElem?_eq_none (by omega)]; rfl
  | succ n ih =>
    intro k hk
    by_cases hl : k < l.length
    · cases hb : l.getD k false with
      | true => exact .inl ⟨k, Nat.le_refl _, hl, hb, fun j h1 h2 => by omega⟩
      | false =>
        rcases ih (k + 1) (by omega) with ⟨i, hi⟩ | hn
        · refine .inl ⟨i, by have := hi.ge; omega, hi.lt, hi.is, fun j h1 h2 => ?_⟩
          by_cases h3 : j = k
          · rw [h3]; exact hb
          · exact hi.no j (by omega) h2
        · refine .inr fun j hj => ?_
          by_cases h3 : j = k
          · rw [h3]; exact hb
          · exact hn j (by omega)
    · exact .inr fun j hj => by rw [List.getD_eq_getElem?_getD, List.getElem?_eq_none (by omega)]; rfl
/-- As the program says it. -/
def NxZ (l : List Bool) (k : Nat) (x : Int) : Prop := (∃ i : Nat, x = i ∧ Nx l k i) ∨ (x = -1 ∧ Nn l k)
theorem NxZ.eq {l : List Bool} {k : Nat} {x y : Int} (a : NxZ l k x) (b : NxZ l k y) : x = y := by
  rcases a with ⟨i, rfl, h1⟩ | ⟨rfl, h1⟩ <;> rcases b with ⟨j, rfl, h2⟩ | ⟨rfl, h2⟩
  · rw [h1.eq h2]
  · exact (h1.not h2).elim
  · exact (h2.not h1).elim
  · rfl
/-- A word that is not 0: the least bit is the next one. -/
theorem next_some {l : List Bool} {k0 k : Nat} (h0 : k0 ≤ k) (hno : ∀ j, k0 ≤ j → j < k → l.getD j false = false) (hx : word l (k / 64) / 2 ^ (k % 64) ≠ 0) :
    Nx l k0 (k + Go.Lib.ctz 64 (word l (k / 64) / 2 ^ (k % 64))) := by
  have hlt : word l (k / 64) / 2 ^ (k % 64) < 2 ^ 64 := Nat.lt_of_le_of_lt (Nat.div_le_self _ _) (word_lt l _)
  have e : Go.Lib.ctz 64 (word l (k / 64) / 2 ^ (k % 64)) = Go.Lib.ctzFrom 64 (word l (k / 64) / 2 ^ (k % 64)) := by unfold Go.Lib.ctz; rw [if_neg hx]
  rw [e]
  obtain ⟨m, h1, h2⟩ := Go.Lib.ctzFrom_spec 64 _ (Nat.pos_of_ne_zero hx) hlt
  generalize hc : Go.Lib.ctzFrom 64 (word l (k / 64) / 2 ^ (k % 64)) = c at *
  have hb : ∀ i, i < c → l.getD (k + i) false = false ∨ 64 ≤ k % 64 + i := fun i hi => by
    have := word_shift l k i
    rw [h1, Nat.testBit_two_pow_mul] at this
    rw [decide_eq_false (by omega)] at this
    simp only [Bool.false_and] at this
    by_cases q : k % 64 + i < 64
    · rw [decide_eq_true q, Bool.true_and] at this; exact .inl this.symm
    · exact .inr (by omega)
  have hc1 : (decide (k % 64 + c < 64) && l.getD (k + c) false) = true := by
    rw [← word_shift l k c, h1, Nat.testBit_two_pow_mul]
    simp [Nat.testBit_zero]
  rw [Bool.and_eq_true, decide_eq_true_eq] at hc1
  have hlen : k + c < l.length := by
    rcases Nat.lt_or_ge (k + c) l.length with q | q
    · exact q
    · have := hc1.2; rw [List.getD_eq_getElem?_getD, List.getElem?_eq_none q] at this; cases this
  refine ⟨by omega, hlen, hc1.2, fun j g1 g2 => ?_⟩
  by_cases g3 : j < k
  · exact hno j g1 g3
  · have := hb (j - k) (by omega)
    rw [show k + (j - k) = j by omega] at this
    rcases this with q | q
    · exact q
    · omega
theorem next_zero {l : List Bool} {k0 k : Nat} (hno : ∀ j, k0 ≤ j → j < k → l.getD j false = false) (hx : word l (k / 64) / 2 ^ (k % 64) = 0) : ∀ j, k0 ≤ j → j < (k / 64 + 1) * 64 → l.getD j false = false := by
  intro j g1 g2
  by_cases g3 : j < k
  · exact hno j g1 g3
  · have := word_shift l k (j - k)
    rw [hx, Nat.zero_testBit, decide_eq_true (by omega), Bool.true_and, show k + (j - k) = j by omega] at this
    exact this.symm

def clampN (z : Int) : Nat := (max 0 (min z 65536)).toNat
theorem word_rep (m j : Nat) : word (List.replicate m false) j = 0 := by
  apply Nat.eq_of_testBit_eq
  intro i
  rw [word_bit, Nat.zero_testBit]
  have : (List.replicate m false).getD (64 * j + i) false = false := by
    rw [List.getD_eq_getElem?_getD, List.getElem?_replicate]; split <;> rfl
  rw [this, Bool.and_false]
theorem words_rep (m : Nat) : words (List.replicate m false) = List.replicate ((m + 63) / 64) 0 := by
  apply List.ext_getElem?
  intro j
  rw [words_get?, List.length_replicate, List.getElem?_replicate, word_rep]
  rfl
/-- A row with numbers being so. -/
def set1 (l : List Bool) (so : Bool) (x : Int) : List Bool := if 0 ≤ x ∧ x < l.length then l.set x.toNat so else l
def setB (l : List Bool) (r : List Int) (so : Bool) : List Bool := r.foldl (fun l x => set1 l so x) l
theorem set1_len (l : List Bool) (so : Bool) (x : Int) : (set1 l so x).length = l.length := by unfold set1; split <;> simp
theorem setB_len (r : List Int) (so : Bool) : ∀ l : List Bool, (setB l r so).length = l.length := by
  induction r with
  | nil => intro l; rfl
  | cons x r ih => intro l; show (setB (set1 l so x) r so).length = _; rw [ih, set1_len]
theorem setB_snoc {l : List Bool} {so : Bool} {r : List Int} {j : Nat} (h : j < r.length) : setB l (r.take (j + 1)) so = set1 (setB l (r.take j) so) so r[j] := by
  rw [← List.take_append_getElem h]
  unfold setB
  rw [List.foldl_append]; rfl
theorem ext_getD {a b : List Bool} (h : a.length = b.length) (hg : ∀ i, i < a.length → a.getD i false = b.getD i false) : a = b := by
  apply List.ext_getElem h
  intro i h1 h2
  have := hg i h1
  rw [List.getD_eq_getElem?_getD, List.getD_eq_getElem?_getD, List.getElem?_eq_getElem h1, List.getElem?_eq_getElem h2] at this
  exact this
end Go.AMS

namespace Go.AMS
open Go.AM hiding Kt At WP WL Runs RunsY
open Go.AM.G
set_option linter.unusedVariables false
set_option linter.unusedSectionVars false
set_option linter.unusedSimpArgs false
section
variable {prog : AProg} {rr : Option Nat} {e : Env} {Q : Pst} {k : List Kt} {x y : Operand} {n t : Nat} {Γ : List HP} {d bar : Bool} {r : List AI} {p q : Int}
/-- A number of 64 bits. -/
structure B64 (i : Nat) : Prop where
  lt : i < 18446744073709551616
theorem B64.one : B64 1 := ⟨by decide⟩
theorem B64.or {i j : Nat} (a : B64 i) (b : B64 j) : B64 (i ||| j) := ⟨Nat.or_lt_two_pow (n := 64) a.lt b.lt⟩
theorem B64.and {i : Nat} (a : B64 i) (j : Nat) : B64 (i &&& j) := ⟨Nat.lt_of_le_of_lt Nat.and_le_left a.lt⟩
theorem B64.le {i : Nat} (a : B64 i) : ((i : Nat) : Int) ≤ 18446744073709551615 := by have := a.lt; omega
instance (priority := 1080) v_quoNN {i j : Nat} [a : IsN p i] [b : IsN q j] : Step (AtV n prog rr d bar (some t) (.bin .quo x y) [.int .i64 p, .int .i64 q] r k e Γ Q) (Sd (0 < j ∧ i ≤ 9223372036854775807) (AtS n prog rr (.o d r :: k) .norm ((t, .int .i64 ((i / j : Nat) : Int)) :: e) Γ Q)) :=
  ⟨fun w hE => bin1 hE (by
    have h1 := w.c; have h2 := a.eq; subst h2; have h3 := b.eq; subst h3
    have e1 : ((i / j : Nat) : Int) = (i : Int).tdiv (j : Int) := by
      rw [Int.tdiv_eq_ediv_of_nonneg (by omega), Int.natCast_ediv]
    have h3 : i / j ≤ i := Nat.div_le_self _ _
    rw [b_quo, if_neg (by omega), ← e1]
    clear e1
    generalize i / j = z at *
    rw [w64 (by omega) (by omega)]) w.a⟩
theorem v_subNN {i j : Nat} [a : IsN p i] [b : IsN q j] : Step (AtV n prog rr d bar (some t) (.bin .sub x y) [.int .i64 p, .int .i64 q] r k e Γ Q) (Sd (j ≤ i ∧ i ≤ 9223372036854775807) (AtS n prog rr (.o d r :: k) .norm ((t, .int .i64 ((i - j : Nat) : Int)) :: e) Γ Q)) :=
  ⟨fun w hE => bin1 hE (by
    have h1 := w.c; have h2 := a.eq; subst h2; have h3 := b.eq; subst h3
    rw [b_sub, w64 (by omega) (by omega), Int.ofNat_sub h1.1]) w.a⟩
instance v_shl1 {m : Nat} [a : IsN q m] : Step (AtV n prog rr d bar (some t) (.bin .shl x y) [.int .u64 1, .int .i64 q] r k e Γ Q) (Sd (m < 64) (AtS n prog rr (.o d r :: k) .norm ((t, .int .u64 ((2 ^ m : Nat) : Int)) :: e) Γ Q)) :=
  ⟨fun w hE => bin1 hE (by
    have h1 := w.c; have h2 := a.eq; subst h2
    have h3 : 2 ^ m < 2 ^ 64 := Nat.pow_lt_pow_right (by omega) h1
    have h4 : (2 : Nat) ^ 64 = 18446744073709551616 := by decide
    rw [b_shl, if_neg (by omega)]
    simp only [IntKind.bits, Int.toNat_natCast]
    rw [show Nat.min m 64 = m from Nat.min_eq_left (by omega), Int.one_mul, IntKind.wrap_u64]
    have h5 : (2 : Int) ^ m = ((2 ^ m : Nat) : Int) := by simp
    rw [h5]
    have h6 : ((2 ^ m : Nat) : Int) % 18446744073709551616 = ((2 ^ m : Nat) : Int) := by
      rw [h4] at h3
      generalize (2 : Nat) ^ m = z at h3 ⊢
      omega
    rw [h6]) w.a⟩
instance v_shrN {i m : Nat} [b : IsN p i] [a : IsN q m] : Step (AtV n prog rr d bar (some t) (.bin .shr x y) [.int .u64 p, .int .i64 q] r k e Γ Q) (Sd (m < 64) (AtS n prog rr (.o d r :: k) .norm ((t, .int .u64 ((i / 2 ^ m : Nat) : Int)) :: e) Γ Q)) :=
  ⟨fun w hE => bin1 hE (by
    have h1 := w.c; have h2 := a.eq; subst h2; have h3 := b.eq; subst h3
    rw [b_shr, if_neg (by omega)]
    simp only [IntKind.bits, Int.toNat_natCast]
    rw [show Nat.min m 64 = m from Nat.min_eq_left (by omega)]
    have h5 : (2 : Int) ^ m = ((2 ^ m : Nat) : Int) := by simp
    rw [h5, Int.fdiv_eq_ediv_of_nonneg _ (Int.natCast_nonneg _), ← Int.natCast_ediv]) w.a⟩
theorem b_andNot {kk : IntKind} : binV .andNot (.int kk p) (.int kk q) = some (.int kk (kk.wrap (BitVec.ofInt kk.bits p &&& ~~~BitVec.ofInt kk.bits q).toNat)) := by simp [binV, ibin, ibits]
theorem bitsN_or {i j : Nat} : binV .or (.int .u64 (i : Int)) (.int .u64 (j : Int)) = some (.int .u64 (Go.bits .or .u64 (i : Int) (j : Int))) := b_or
theorem bitsN_and {i j : Nat} : binV .and (.int .u64 (i : Int)) (.int .u64 (j : Int)) = some (.int .u64 (Go.bits .and .u64 (i : Int) (j : Int))) := b_and
theorem bitsN_andNot {i j : Nat} : binV .andNot (.int .u64 (i : Int)) (.int .u64 (j : Int)) = some (.int .u64 (Go.bits .andNot .u64 (i : Int) (j : Int))) := b_andNot
instance v_orN {i j : Nat} [a : IsN p i] [b : IsN q j] : Step (AtV n prog rr d bar (some t) (.bin .or x y) [.int .u64 p, .int .u64 q] r k e Γ Q) (Sd (B64 i ∧ B64 j) (AtS n prog rr (.o d r :: k) .norm ((t, .int .u64 ((i ||| j : Nat) : Int)) :: e) Γ Q)) :=
  ⟨fun w hE => bin1 hE (by have h1 := w.c; have h2 := a.eq; subst h2; have h3 := b.eq; subst h3; rw [bitsN_or, u64_or_nat i j h1.1.lt h1.2.lt]) w.a⟩
instance v_andN {i j : Nat} [a : IsN p i] [b : IsN q j] : Step (AtV n prog rr d bar (some t) (.bin .and x y) [.int .u64 p, .int .u64 q] r k e Γ Q) (Sd (B64 i ∧ B64 j) (AtS n prog rr (.o d r :: k) .norm ((t, .int .u64 ((i &&& j : Nat) : Int)) :: e) Γ Q)) :=
  ⟨fun w hE => bin1 hE (by have h1 := w.c; have h2 := a.eq; subst h2; have h3 := b.eq; subst h3; rw [bitsN_and, u64_and_nat i j h1.1.lt h1.2.lt]) w.a⟩
instance v_andNotN {i j : Nat} [a : IsN p i] [b : IsN q j] : Step (AtV n prog rr d bar (some t) (.bin .andNot x y) [.int .u64 p, .int .u64 q] r k e Γ Q) (Sd (B64 i ∧ B64 j) (AtS n prog rr (.o d r :: k) .norm ((t, .int .u64 ((i &&& (18446744073709551615 - j) : Nat) : Int)) :: e) Γ Q)) :=
  ⟨fun w hE => bin1 hE (by have h1 := w.c; have h2 := a.eq; subst h2; have h3 := b.eq; subst h3; rw [bitsN_andNot, u64_andNot_nat i j h1.1.lt h1.2.lt]) w.a⟩
theorem av_lit {op : AOp} {dst : Option Nat} {vs : List Value} {F : List HP} (b : Nat) (cap : Nat) (z : Int) (hz : -9223372036854775808 ≤ z ∧ z ≤ 9223372036854775807) (w : AtV n prog rr d bar dst op vs r k e (fro (kInt .i64) (some ⟨b, 0, none⟩) cap [z] :: F) Q) (hs : Ent Γ (pt b [.int .i64 z] 1 :: F) := by
      repeat first | exact Ent.here | apply Ent.there) : AtV n prog rr d bar dst op vs r k e Γ Q :=
  av_freeze w (hs.trans (pt_own rfl inferInstance hz))
theorem Spec.cons {fn : FuncId} {args : List Value} {W W' : (Value → List HP → Prop) → Prop} (h : Spec prog fn args Γ W) (hw : ∀ R, W' R → W R) : Spec prog fn args Γ W' := fun n F hh R hs w => h n F hh R hs (hw R w)
end
end Go.AMS

namespace Go.AMS
open Go.AM hiding Kt At WP WL Runs RunsY
open Go.AM.G
set_option linter.unusedVariables false
set_option linter.unusedSimpArgs false
theorem tz_spec {i : Nat} (hi : i < 18446744073709551616) : Spec prog1 n_math_bits_TrailingZeros64 [.int .u64 (i : Int)] [] (fun R => R (.int .i64 ((Go.Lib.ctz 64 i : Nat) : Int)) []) := by
  intro n F h R hs hw H hH
  exact ⟨1, _, H, h, by simp only [callV, c_math_bits_TrailingZeros64]; unfold tzO; dsimp only; rw [if_pos ⟨by omega, by omega⟩, Int.toNat_natCast], rfl, hH, .refl h, rfl, [], hw, hs⟩
end Go.AMS

namespace Go.AMS
open Go.AM hiding Kt At WP WL Runs RunsY
open Go.AM.G
set_option linter.unusedVariables false
set_option linter.unusedSimpArgs false
set_option linter.unusedSectionVars false
set_option maxRecDepth 100000
set_option maxHeartbeats 1000000
attribute [local irreducible] AtS AtV AtC AtG FinA Spec Post LP G.At G.WP G.WL pt own fro rdl ro hx mp lrec elt sub

/-- A set in a heap, or none. -/
def bt (q : Option Nat) (l : List Bool) : HP := match q with
  | some b => hx fun (w : Option Addr × Nat) => (l.length ≤ 65536, [pt b [.int .i64 (l.length : Int), .slice w.1 (words l).length w.2] 0, own (kInt .u64) w.1 w.2 (words l)])
  | none => hx fun (w : Unit) => (l = [], [])
/-- Its pointer. -/
abbrev btp (q : Option Nat) : Value := .pointer (q.map fun b => ⟨b, 0, none⟩)
instance low_bt {q : Option Nat} {l : List Bool} : Low (bt q l) := by
  cases q <;> exact low_hx fun _ => inferInstance
section
variable {q : Option Nat} {l : List Bool}
theorem bits_Bits_Room_spec : Spec prog1 n_bits_Bits_Room [btp q] [ro (bt q l)] (fun R => R (.int .i64 (l.length : Int)) []) := by
  refine spec_code c_bits_Bits_Room rfl ?_; intro n F R hR; unfold F_bits_Bits_Room
  cases q with
  | none =>
    refine at_openRP (bt none l) rfl ?_
    rintro _ rfl
    unfold btp
    dsimp only [Option.map_none]
    repeat' first | apply step | (apply g_op; · repeat first | exact Evs.nil | (apply Evs.cons; exact rfl)) | (refine Br.mk (fun _ => ?_) (fun _ => ?_) <;> try (exfalso; omega)) | (refine Sd.mk ?_ ?_; · ((repeat' apply And.intro) <;> first | omega | trivial | assumption | (simp; done) | (simp; omega))) | (refine Sx.mk ?_ ?_; · omega) | refine Fa.mk (fun _ => ?_) | refine Im.mk (fun _ => ?_) | apply Lw.go | refine g_cond ?_ | refine g_guard ?_ | refine g_keep ?_ | refine g_pass ?_ | refine g_fin ?_ | (apply g_ap; exact rfl; exact rfl; assumption)
    exact fin hR
  | some b =>
    refine at_openRP (bt (some b) l) rfl ?_
    rintro ⟨p, c⟩ hl
    unfold btp
    dsimp only [Option.map_some] at hl ⊢
    repeat' first | apply step | (apply g_op; · repeat first | exact Evs.nil | (apply Evs.cons; exact rfl)) | (refine Br.mk (fun _ => ?_) (fun _ => ?_) <;> try (exfalso; omega)) | (refine Sd.mk ?_ ?_; · ((repeat' apply And.intro) <;> first | omega | trivial | assumption | (simp; done) | (simp; omega))) | (refine Sx.mk ?_ ?_; · omega) | refine Fa.mk (fun _ => ?_) | refine Im.mk (fun _ => ?_) | apply Lw.go | refine g_cond ?_ | refine g_guard ?_ | refine g_keep ?_ | refine g_pass ?_ | refine g_fin ?_ | (apply g_ap; exact rfl; exact rfl; assumption)
    exact fin hR
theorem bits_Bits_fits_spec {k : Int} : Spec prog1 n_bits_Bits_fits [btp q, .int .i64 k] [ro (bt q l)] (fun R => (0 ≤ k ∧ k < l.length → R (.bool true) []) ∧ (¬ (0 ≤ k ∧ k < l.length) → R (.bool false) [])) := by
  refine spec_code c_bits_Bits_fits rfl ?_; intro n F R hR; unfold F_bits_Bits_fits
  repeat' first | apply step | (apply g_op; · repeat first | exact Evs.nil | (apply Evs.cons; exact rfl)) | (refine Br.mk (fun _ => ?_) (fun _ => ?_) <;> try (exfalso; omega)) | (refine Sd.mk ?_ ?_; · ((repeat' apply And.intro) <;> first | omega | trivial | assumption | (simp; done) | (simp; omega))) | (refine Sx.mk ?_ ?_; · omega) | refine Fa.mk (fun _ => ?_) | refine Im.mk (fun _ => ?_) | apply Lw.go | refine g_cond ?_ | refine g_guard ?_ | refine g_keep ?_ | refine g_pass ?_ | refine g_fin ?_ | (apply g_ap; exact rfl; exact rfl; assumption)
  · first | refine at_callS (bits_Bits_Room_spec (q := q) (l := l)) ?_ | refine at_callR (bits_Bits_Room_spec (q := q) (l := l)) ?_
    repeat' first | apply step | (apply g_op; · repeat first | exact Evs.nil | (apply Evs.cons; exact rfl)) | (refine Br.mk (fun _ => ?_) (fun _ => ?_) <;> try (exfalso; omega)) | (refine Sd.mk ?_ ?_; · ((repeat' apply And.intro) <;> first | omega | trivial | assumption | (simp; done) | (simp; omega))) | (refine Sx.mk ?_ ?_; · omega) | refine Fa.mk (fun _ => ?_) | refine Im.mk (fun _ => ?_) | apply Lw.go | refine g_cond ?_ | refine g_guard ?_ | refine g_keep ?_ | refine g_pass ?_ | refine g_fin ?_ | (apply g_ap; exact rfl; exact rfl; assumption)
    · exact fin (hR.1 (by omega))
    · exact fin (hR.2 (by omega))
  · exact fin (hR.2 (by omega))
theorem at_btR {n : Nat} {prog : AProg} {rr : Option Nat} {k : List Kt} {x : AX} {e : Env} {Γ F : List HP} {Q : Pst} (q : Option Nat) (l : List Bool) (w : l.length ≤ 65536 → AtS n prog rr k x e Γ Q) (hs : Ent Γ (ro (bt q l) :: F) := by repeat first | exact Ent.refl _ | (apply Ent.more; · repeat first | exact Ent.keep | exact Ent.here | exact Ent.lend | exact ent_nil | apply Ent.there) | apply Ent.drop) : AtS n prog rr k x e Γ Q := by
  by_cases hc : l.length ≤ 65536
  · exact w hc
  · cases q with
    | none => exact at_openRP (bt none l) rfl (fun _ h => absurd (by rw [show l = [] from h]; simp) hc) hs
    | some b => exact at_openRP (bt (some b) l) rfl (fun a h => absurd h hc) hs
theorem at_btO {n : Nat} {prog : AProg} {rr : Option Nat} {k : List Kt} {x : AX} {e : Env} {Γ F : List HP} {Q : Pst} (q : Option Nat) (l : List Bool) (w : l.length ≤ 65536 → AtS n prog rr k x e Γ Q) (hs : Ent Γ (bt q l :: F) := by repeat first | exact Ent.refl _ | (apply Ent.more; · repeat first | exact Ent.keep | exact Ent.here | exact Ent.lend | exact ent_nil | apply Ent.there) | apply Ent.drop) : AtS n prog rr k x e Γ Q := by
  by_cases hc : l.length ≤ 65536
  · exact w hc
  · cases q with
    | none => exact at_openP (bt none l) rfl (fun _ h => absurd (by rw [show l = [] from h]; simp) hc) hs
    | some b => exact at_openP (bt (some b) l) rfl (fun a h => absurd h hc) hs
theorem bits_Bits_Next_spec {k : Int} (hk : k ≤ 9223372036854775807) (hk2 : -9223372036854775808 ≤ k) : Spec prog1 n_bits_Bits_Next [btp q, .int .i64 k] [ro (bt q l)] (fun R => ∀ x, NxZ l k.toNat x → R (.int .i64 x) []) := by
  refine spec_code c_bits_Bits_Next rfl ?_; intro n F R hR; unfold F_bits_Bits_Next
  refine at_btR q l fun hlen => ?_
  obtain ⟨i0, hi0⟩ : ∃ i : Nat, i = k.toNat := ⟨_, rfl⟩
  rw [← hi0] at hR
  repeat' first | apply step | (apply g_op; · repeat first | exact Evs.nil | (apply Evs.cons; exact rfl)) | (refine Br.mk (fun _ => ?_) (fun _ => ?_) <;> try (exfalso; omega)) | (refine Sd.mk ?_ ?_; · ((repeat' apply And.intro) <;> first | omega | trivial | assumption | (simp; done) | (simp; omega))) | (refine Sx.mk ?_ ?_; · omega) | refine Fa.mk (fun _ => ?_) | refine Im.mk (fun _ => ?_) | apply Lw.go | refine g_cond ?_ | refine g_guard ?_ | refine g_keep ?_ | refine g_pass ?_ | refine g_fin ?_ | (apply g_ap; exact rfl; exact rfl; assumption)
  · obtain rfl : k = ((i0 : Nat) : Int) := by omega
    refine at_loopS (ι := Nat) (E := fun j => [(0, btp q), (1, .int .i64 (j : Int))]) (Δ := fun j => ro (bt q l) :: F) (P := fun j => (i0 ≤ j ∧ True) ∧ ∀ i, i0 ≤ i → i < j → l.getD i false = false) (μ := fun j => l.length - j) i0 ⟨⟨by omega, trivial⟩, fun i h1 h2 => by omega⟩ ?_
    rintro j ⟨⟨hji, hj⟩, hno⟩
    dsimp only
    repeat' first | apply step | (apply g_op; · repeat first | exact Evs.nil | (apply Evs.cons; exact rfl)) | (refine Br.mk (fun _ => ?_) (fun _ => ?_) <;> try (exfalso; omega)) | (refine Sd.mk ?_ ?_; · ((repeat' apply And.intro) <;> first | omega | trivial | assumption | (simp; done) | (simp; omega))) | (refine Sx.mk ?_ ?_; · omega) | refine Fa.mk (fun _ => ?_) | refine Im.mk (fun _ => ?_) | apply Lw.go | refine g_cond ?_ | refine g_guard ?_ | refine g_keep ?_ | refine g_pass ?_ | refine g_fin ?_ | (apply g_ap; exact rfl; exact rfl; assumption)
    refine at_callR (bits_Bits_Room_spec (q := q) (l := l)) ?_
    repeat' first | apply step | (apply g_op; · repeat first | exact Evs.nil | (apply Evs.cons; exact rfl)) | (refine Br.mk (fun _ => ?_) (fun _ => ?_) <;> try (exfalso; omega)) | (refine Sd.mk ?_ ?_; · ((repeat' apply And.intro) <;> first | omega | trivial | assumption | (simp; done) | (simp; omega))) | (refine Sx.mk ?_ ?_; · omega) | refine Fa.mk (fun _ => ?_) | refine Im.mk (fun _ => ?_) | apply Lw.go | refine g_cond ?_ | refine g_guard ?_ | refine g_keep ?_ | refine g_pass ?_ | refine g_fin ?_ | (apply g_ap; exact rfl; exact rfl; assumption)
    · have hwl := words_len l
      have hwt := word_lt l (j / 64)
      have hpt : B64 (2 ^ (j % 64)) := ⟨pow64_lt j⟩
      have hmt : j % 64 < 64 := Nat.mod_lt _ (by omega)
      have hdt : word l (j / 64) / 2 ^ (j % 64) < 18446744073709551616 := Nat.lt_of_le_of_lt (Nat.div_le_self _ _) hwt
      cases q with
      | none =>
        first | refine at_openRP (bt none l) rfl ?_ | refine av_openRP (bt none l) rfl ?_
        rintro _ rfl
        exfalso; simp at *; omega
      | some b =>
        first | refine at_openRP (bt (some b) l) rfl ?_ | refine av_openRP (bt (some b) l) rfl ?_
        rintro ⟨p, c⟩ hl
        unfold btp
        dsimp only [Option.map_some] at hl ⊢
        repeat' first | rw [words_get] | apply step | (apply g_op; · repeat first | exact Evs.nil | (apply Evs.cons; exact rfl)) | (refine Br.mk (fun _ => ?_) (fun _ => ?_) <;> try (exfalso; omega)) | (refine Sd.mk ?_ ?_; · ((repeat' apply And.intro) <;> first | omega | trivial | assumption | (simp; done) | (simp; omega))) | (refine Sx.mk ?_ ?_; · omega) | refine Fa.mk (fun _ => ?_) | refine Im.mk (fun _ => ?_) | apply Lw.go | refine g_cond ?_ | refine g_guard ?_ | refine g_keep ?_ | refine g_pass ?_ | refine g_fin ?_ | (apply g_ap; exact rfl; exact rfl; assumption)
        · rename_i hne
          have hx : word l (j / 64) / 2 ^ (j % 64) ≠ 0 := fun q => hne (by rw [q]; rfl)
          have hn := next_some (k0 := i0) (by omega) hno hx
          have := hn.lt
          refine at_callR (tz_spec (i := word l (j / 64) / 2 ^ (j % 64)) hdt) ?_
          repeat' first | apply step | (apply g_op; · repeat first | exact Evs.nil | (apply Evs.cons; exact rfl)) | (refine Br.mk (fun _ => ?_) (fun _ => ?_) <;> try (exfalso; omega)) | (refine Sd.mk ?_ ?_; · ((repeat' apply And.intro) <;> first | omega | trivial | assumption | (simp; done) | (simp; omega))) | (refine Sx.mk ?_ ?_; · omega) | refine Fa.mk (fun _ => ?_) | refine Im.mk (fun _ => ?_) | apply Lw.go | refine g_cond ?_ | refine g_guard ?_ | refine g_keep ?_ | refine g_pass ?_ | refine g_fin ?_ | (apply g_ap; exact rfl; exact rfl; assumption)
          exact fin (hR _ (.inl ⟨_, rfl, hn⟩))
        · rename_i hz
          have hx : word l (j / 64) / 2 ^ (j % 64) = 0 := Int.ofNat.inj (Decidable.not_not.1 hz)
          have hn := next_zero (k0 := i0) hno hx
          repeat' first | apply step | (apply g_op; · repeat first | exact Evs.nil | (apply Evs.cons; exact rfl)) | (refine Br.mk (fun _ => ?_) (fun _ => ?_) <;> try (exfalso; omega)) | (refine Sd.mk ?_ ?_; · ((repeat' apply And.intro) <;> first | omega | trivial | assumption | (simp; done) | (simp; omega))) | (refine Sx.mk ?_ ?_; · omega) | refine Fa.mk (fun _ => ?_) | refine Im.mk (fun _ => ?_) | apply Lw.go | refine g_cond ?_ | refine g_guard ?_ | refine g_keep ?_ | refine g_pass ?_ | refine g_fin ?_ | (apply g_ap; exact rfl; exact rfl; assumption)
          refine lp_next ((j / 64 + 1) * 64) ⟨⟨by omega, trivial⟩, fun i h1 h2 => hn i h1 h2⟩ (by omega)
    · repeat' first | apply step | (apply g_op; · repeat first | exact Evs.nil | (apply Evs.cons; exact rfl)) | (refine Br.mk (fun _ => ?_) (fun _ => ?_) <;> try (exfalso; omega)) | (refine Sd.mk ?_ ?_; · ((repeat' apply And.intro) <;> first | omega | trivial | assumption | (simp; done) | (simp; omega))) | (refine Sx.mk ?_ ?_; · omega) | refine Fa.mk (fun _ => ?_) | refine Im.mk (fun _ => ?_) | apply Lw.go | refine g_cond ?_ | refine g_guard ?_ | refine g_keep ?_ | refine g_pass ?_ | refine g_fin ?_ | (apply g_ap; exact rfl; exact rfl; assumption)
      exact fin (hR _ (.inr ⟨rfl, fun i hi => by
        by_cases h : i < j
        · exact hno i (by omega) h
        · rw [List.getD_eq_getElem?_getD, List.getElem?_eq_none (by omega)]; rfl⟩))
  · have hz : i0 = 0 := by omega
    refine at_loopS (ι := Nat) (E := fun j => [(0, btp q), (1, .int .i64 (j : Int))]) (Δ := fun j => ro (bt q l) :: F) (P := fun j => (i0 ≤ j ∧ True) ∧ ∀ i, i0 ≤ i → i < j → l.getD i false = false) (μ := fun j => l.length - j) 0 ⟨⟨by omega, trivial⟩, fun i h1 h2 => by omega⟩ ?_
    rintro j ⟨⟨hji, hj⟩, hno⟩
    dsimp only
    repeat' first | apply step | (apply g_op; · repeat first | exact Evs.nil | (apply Evs.cons; exact rfl)) | (refine Br.mk (fun _ => ?_) (fun _ => ?_) <;> try (exfalso; omega)) | (refine Sd.mk ?_ ?_; · ((repeat' apply And.intro) <;> first | omega | trivial | assumption | (simp; done) | (simp; omega))) | (refine Sx.mk ?_ ?_; · omega) | refine Fa.mk (fun _ => ?_) | refine Im.mk (fun _ => ?_) | apply Lw.go | refine g_cond ?_ | refine g_guard ?_ | refine g_keep ?_ | refine g_pass ?_ | refine g_fin ?_ | (apply g_ap; exact rfl; exact rfl; assumption)
    refine at_callR (bits_Bits_Room_spec (q := q) (l := l)) ?_
    repeat' first | apply step | (apply g_op; · repeat first | exact Evs.nil | (apply Evs.cons; exact rfl)) | (refine Br.mk (fun _ => ?_) (fun _ => ?_) <;> try (exfalso; omega)) | (refine Sd.mk ?_ ?_; · ((repeat' apply And.intro) <;> first | omega | trivial | assumption | (simp; done) | (simp; omega))) | (refine Sx.mk ?_ ?_; · omega) | refine Fa.mk (fun _ => ?_) | refine Im.mk (fun _ => ?_) | apply Lw.go | refine g_cond ?_ | refine g_guard ?_ | refine g_keep ?_ | refine g_pass ?_ | refine g_fin ?_ | (apply g_ap; exact rfl; exact rfl; assumption)
    · have hwl := words_len l
      have hwt := word_lt l (j / 64)
      have hpt : B64 (2 ^ (j % 64)) := ⟨pow64_lt j⟩
      have hmt : j % 64 < 64 := Nat.mod_lt _ (by omega)
      have hdt : word l (j / 64) / 2 ^ (j % 64) < 18446744073709551616 := Nat.lt_of_le_of_lt (Nat.div_le_self _ _) hwt
      cases q with
      | none =>
        first | refine at_openRP (bt none l) rfl ?_ | refine av_openRP (bt none l) rfl ?_
        rintro _ rfl
        exfalso; simp at *; omega
      | some b =>
        first | refine at_openRP (bt (some b) l) rfl ?_ | refine av_openRP (bt (some b) l) rfl ?_
        rintro ⟨p, c⟩ hl
        unfold btp
        dsimp only [Option.map_some] at hl ⊢
        repeat' first | rw [words_get] | apply step | (apply g_op; · repeat first | exact Evs.nil | (apply Evs.cons; exact rfl)) | (refine Br.mk (fun _ => ?_) (fun _ => ?_) <;> try (exfalso; omega)) | (refine Sd.mk ?_ ?_; · ((repeat' apply And.intro) <;> first | omega | trivial | assumption | (simp; done) | (simp; omega))) | (refine Sx.mk ?_ ?_; · omega) | refine Fa.mk (fun _ => ?_) | refine Im.mk (fun _ => ?_) | apply Lw.go | refine g_cond ?_ | refine g_guard ?_ | refine g_keep ?_ | refine g_pass ?_ | refine g_fin ?_ | (apply g_ap; exact rfl; exact rfl; assumption)
        · rename_i hne
          have hx : word l (j / 64) / 2 ^ (j % 64) ≠ 0 := fun q => hne (by rw [q]; rfl)
          have hn := next_some (k0 := i0) (by omega) hno hx
          have := hn.lt
          refine at_callR (tz_spec (i := word l (j / 64) / 2 ^ (j % 64)) hdt) ?_
          repeat' first | apply step | (apply g_op; · repeat first | exact Evs.nil | (apply Evs.cons; exact rfl)) | (refine Br.mk (fun _ => ?_) (fun _ => ?_) <;> try (exfalso; omega)) | (refine Sd.mk ?_ ?_; · ((repeat' apply And.intro) <;> first | omega | trivial | assumption | (simp; done) | (simp; omega))) | (refine Sx.mk ?_ ?_; · omega) | refine Fa.mk (fun _ => ?_) | refine Im.mk (fun _ => ?_) | apply Lw.go | refine g_cond ?_ | refine g_guard ?_ | refine g_keep ?_ | refine g_pass ?_ | refine g_fin ?_ | (apply g_ap; exact rfl; exact rfl; assumption)
          exact fin (hR _ (.inl ⟨_, rfl, hn⟩))
        · rename_i hz
          have hx : word l (j / 64) / 2 ^ (j % 64) = 0 := Int.ofNat.inj (Decidable.not_not.1 hz)
          have hn := next_zero (k0 := i0) hno hx
          repeat' first | apply step | (apply g_op; · repeat first | exact Evs.nil | (apply Evs.cons; exact rfl)) | (refine Br.mk (fun _ => ?_) (fun _ => ?_) <;> try (exfalso; omega)) | (refine Sd.mk ?_ ?_; · ((repeat' apply And.intro) <;> first | omega | trivial | assumption | (simp; done) | (simp; omega))) | (refine Sx.mk ?_ ?_; · omega) | refine Fa.mk (fun _ => ?_) | refine Im.mk (fun _ => ?_) | apply Lw.go | refine g_cond ?_ | refine g_guard ?_ | refine g_keep ?_ | refine g_pass ?_ | refine g_fin ?_ | (apply g_ap; exact rfl; exact rfl; assumption)
          refine lp_next ((j / 64 + 1) * 64) ⟨⟨by omega, trivial⟩, fun i h1 h2 => hn i h1 h2⟩ (by omega)
    · repeat' first | apply step | (apply g_op; · repeat first | exact Evs.nil | (apply Evs.cons; exact rfl)) | (refine Br.mk (fun _ => ?_) (fun _ => ?_) <;> try (exfalso; omega)) | (refine Sd.mk ?_ ?_; · ((repeat' apply And.intro) <;> first | omega | trivial | assumption | (simp; done) | (simp; omega))) | (refine Sx.mk ?_ ?_; · omega) | refine Fa.mk (fun _ => ?_) | refine Im.mk (fun _ => ?_) | apply Lw.go | refine g_cond ?_ | refine g_guard ?_ | refine g_keep ?_ | refine g_pass ?_ | refine g_fin ?_ | (apply g_ap; exact rfl; exact rfl; assumption)
      exact fin (hR _ (.inr ⟨rfl, fun i hi => by
        by_cases h : i < j
        · exact hno i (by omega) h
        · rw [List.getD_eq_getElem?_getD, List.getElem?_eq_none (by omega)]; rfl⟩))
theorem bits_Bits_Put_spec {p : Option Addr} {c : Nat} {r : List Int} (hr : r.length ≤ 1000000) : Spec prog1 n_bits_Bits_Put [btp q, .slice p r.length c] [bt q l, rdl (kInt .i64) p r] (fun R => R (.tuple #[]) [bt q (setB l r true)]) := by
  refine spec_code c_bits_Bits_Put rfl ?_; intro n F R hR; unfold F_bits_Bits_Put
  refine at_btO q l fun hlen => ?_
  repeat' first | apply step | (apply g_op; · repeat first | exact Evs.nil | (apply Evs.cons; exact rfl)) | (refine Br.mk (fun _ => ?_) (fun _ => ?_) <;> try (exfalso; omega)) | (refine Sd.mk ?_ ?_; · ((repeat' apply And.intro) <;> first | omega | trivial | assumption | (simp; done) | (simp; omega))) | (refine Sx.mk ?_ ?_; · omega) | refine Fa.mk (fun _ => ?_) | refine Im.mk (fun _ => ?_) | apply Lw.go | refine g_cond ?_ | refine g_guard ?_ | refine g_keep ?_ | refine g_pass ?_ | refine g_fin ?_ | (apply g_ap; exact rfl; exact rfl; assumption)
  refine at_loopS (ι := Nat) (E := fun j => [(0, btp q), (6, .slice p r.length c), (7, .int .i64 (r.length : Int)), (8, .int .i64 (j : Int))]) (Δ := fun j => bt q (setB l (r.take j) true) :: rdl (kInt .i64) p r :: F) (P := fun j => j ≤ r.length) (μ := fun j => r.length - j) 0 (by omega) ?_
  rintro j hj
  dsimp only
  repeat' first | apply step | (apply g_op; · repeat first | exact Evs.nil | (apply Evs.cons; exact rfl)) | (refine Br.mk (fun _ => ?_) (fun _ => ?_) <;> try (exfalso; omega)) | (refine Sd.mk ?_ ?_; · ((repeat' apply And.intro) <;> first | omega | trivial | assumption | (simp; done) | (simp; omega))) | (refine Sx.mk ?_ ?_; · omega) | refine Fa.mk (fun _ => ?_) | refine Im.mk (fun _ => ?_) | apply Lw.go | refine g_cond ?_ | refine g_guard ?_ | refine g_keep ?_ | refine g_pass ?_ | refine g_fin ?_ | (apply g_ap; exact rfl; exact rfl; assumption)
  · obtain ⟨l', hl'⟩ : ∃ l', l' = setB l (r.take j) true := ⟨_, rfl⟩
    have hll : l'.length = l.length := by rw [hl', setB_len]
    have hs := setB_snoc (l := l) (so := true) (r := r) (j := j) (by omega)
    rw [← hl'] at hs ⊢
    first | refine at_callS (bits_Bits_fits_spec (q := q) (l := l') (k := r[j])) ?_ | refine at_callR (bits_Bits_fits_spec (q := q) (l := l') (k := r[j])) ?_
    refine ⟨fun hf => ?_, fun hf => ?_⟩
    · obtain ⟨i, hi⟩ := Int.eq_ofNat_of_zero_le hf.1
      have hset : set1 l' true r[j] = l'.set i true := by unfold set1; rw [if_pos hf, hi, Int.toNat_natCast]
      rw [hset] at hs
      rw [hi] at hf ⊢
      have hil : i < l'.length := by omega
      have hwl := words_len l'
      have hwt : B64 (word l' (i / 64)) := ⟨word_lt l' (i / 64)⟩
      have hpt : B64 (2 ^ (i % 64)) := ⟨pow64_lt i⟩
      have hmt : i % 64 < 64 := Nat.mod_lt _ (by omega)
      repeat' first | apply step | (apply g_op; · repeat first | exact Evs.nil | (apply Evs.cons; exact rfl)) | (refine Br.mk (fun _ => ?_) (fun _ => ?_) <;> try (exfalso; omega)) | (refine Sd.mk ?_ ?_; · ((repeat' apply And.intro) <;> first | omega | trivial | assumption | (simp; done) | (simp; omega))) | (refine Sx.mk ?_ ?_; · omega) | refine Fa.mk (fun _ => ?_) | refine Im.mk (fun _ => ?_) | apply Lw.go | refine g_cond ?_ | refine g_guard ?_ | refine g_keep ?_ | refine g_pass ?_ | refine g_fin ?_ | (apply g_ap; exact rfl; exact rfl; assumption)
      cases q with
      | none =>
        first | refine at_openP (bt none l') rfl ?_ | refine av_openP (bt none l') rfl ?_
        intro _ h0
        exfalso; rw [show l' = [] from h0] at hil; simp at hil
      | some b =>
        first | refine at_openP (bt (some b) l') rfl ?_ | refine av_openP (bt (some b) l') rfl ?_
        rintro ⟨p', c'⟩ hl
        unfold btp
        dsimp only [Option.map_some] at hl ⊢
        repeat' first | rw [words_get] | apply step | (apply g_op; · repeat first | exact Evs.nil | (apply Evs.cons; exact rfl)) | (refine Br.mk (fun _ => ?_) (fun _ => ?_) <;> try (exfalso; omega)) | (refine Sd.mk ?_ ?_; · ((repeat' apply And.intro) <;> first | omega | trivial | assumption | (simp; done) | (simp; omega))) | (refine Sx.mk ?_ ?_; · omega) | refine Fa.mk (fun _ => ?_) | refine Im.mk (fun _ => ?_) | apply Lw.go | refine g_cond ?_ | refine g_guard ?_ | refine g_keep ?_ | refine g_pass ?_ | refine g_fin ?_ | (apply g_ap; exact rfl; exact rfl; assumption)
        refine Sd.mk ⟨by omega, Int.natCast_nonneg _, (hwt.or hpt).le⟩ ?_
        repeat' first | apply step | (apply g_op; · repeat first | exact Evs.nil | (apply Evs.cons; exact rfl)) | (refine Br.mk (fun _ => ?_) (fun _ => ?_) <;> try (exfalso; omega)) | (refine Sd.mk ?_ ?_; · ((repeat' apply And.intro) <;> first | omega | trivial | assumption | (simp; done) | (simp; omega))) | (refine Sx.mk ?_ ?_; · omega) | refine Fa.mk (fun _ => ?_) | refine Im.mk (fun _ => ?_) | apply Lw.go | refine g_cond ?_ | refine g_guard ?_ | refine g_keep ?_ | refine g_pass ?_ | refine g_fin ?_ | (apply g_ap; exact rfl; exact rfl; assumption)
        rw [← words_put hil, show (words l').length = (words (l'.set i true)).length by rw [words_len, words_len, List.length_set], show ((l'.length : Nat) : Int) = (((l'.set i true).length : Nat) : Int) by rw [List.length_set]]
        refine at_foldP (bt (some b) (l'.set i true)) rfl (p', c') (by simp; omega) ?_
        rw [← hs]
        refine lp_next (j + 1) (by omega) (by omega)
    · have hset : set1 l' true r[j] = l' := by unfold set1; rw [if_neg hf]
      rw [hset] at hs
      rw [← hs]
      repeat' first | apply step | (apply g_op; · repeat first | exact Evs.nil | (apply Evs.cons; exact rfl)) | (refine Br.mk (fun _ => ?_) (fun _ => ?_) <;> try (exfalso; omega)) | (refine Sd.mk ?_ ?_; · ((repeat' apply And.intro) <;> first | omega | trivial | assumption | (simp; done) | (simp; omega))) | (refine Sx.mk ?_ ?_; · omega) | refine Fa.mk (fun _ => ?_) | refine Im.mk (fun _ => ?_) | apply Lw.go | refine g_cond ?_ | refine g_guard ?_ | refine g_keep ?_ | refine g_pass ?_ | refine g_fin ?_ | (apply g_ap; exact rfl; exact rfl; assumption)
      refine lp_next (j + 1) (by omega) (by omega)
  · have : j = r.length := by omega
    subst this
    rw [List.take_length]
    repeat' first | apply step | (apply g_op; · repeat first | exact Evs.nil | (apply Evs.cons; exact rfl)) | (refine Br.mk (fun _ => ?_) (fun _ => ?_) <;> try (exfalso; omega)) | (refine Sd.mk ?_ ?_; · ((repeat' apply And.intro) <;> first | omega | trivial | assumption | (simp; done) | (simp; omega))) | (refine Sx.mk ?_ ?_; · omega) | refine Fa.mk (fun _ => ?_) | refine Im.mk (fun _ => ?_) | apply Lw.go | refine g_cond ?_ | refine g_guard ?_ | refine g_keep ?_ | refine g_pass ?_ | refine g_fin ?_ | (apply g_ap; exact rfl; exact rfl; assumption)
    exact fin hR
theorem bits_Bits_Drop_spec {p : Option Addr} {c : Nat} {r : List Int} (hr : r.length ≤ 1000000) : Spec prog1 n_bits_Bits_Drop [btp q, .slice p r.length c] [bt q l, rdl (kInt .i64) p r] (fun R => R (.tuple #[]) [bt q (setB l r false)]) := by
  refine spec_code c_bits_Bits_Drop rfl ?_; intro n F R hR; unfold F_bits_Bits_Drop
  refine at_btO q l fun hlen => ?_
  repeat' first | apply step | (apply g_op; · repeat first | exact Evs.nil | (apply Evs.cons; exact rfl)) | (refine Br.mk (fun _ => ?_) (fun _ => ?_) <;> try (exfalso; omega)) | (refine Sd.mk ?_ ?_; · ((repeat' apply And.intro) <;> first | omega | trivial | assumption | (simp; done) | (simp; omega))) | (refine Sx.mk ?_ ?_; · omega) | refine Fa.mk (fun _ => ?_) | refine Im.mk (fun _ => ?_) | apply Lw.go | refine g_cond ?_ | refine g_guard ?_ | refine g_keep ?_ | refine g_pass ?_ | refine g_fin ?_ | (apply g_ap; exact rfl; exact rfl; assumption)
  refine at_loopS (ι := Nat) (E := fun j => [(0, btp q), (6, .slice p r.length c), (7, .int .i64 (r.length : Int)), (8, .int .i64 (j : Int))]) (Δ := fun j => bt q (setB l (r.take j) false) :: rdl (kInt .i64) p r :: F) (P := fun j => j ≤ r.length) (μ := fun j => r.length - j) 0 (by omega) ?_
  rintro j hj
  dsimp only
  repeat' first | apply step | (apply g_op; · repeat first | exact Evs.nil | (apply Evs.cons; exact rfl)) | (refine Br.mk (fun _ => ?_) (fun _ => ?_) <;> try (exfalso; omega)) | (refine Sd.mk ?_ ?_; · ((repeat' apply And.intro) <;> first | omega | trivial | assumption | (simp; done) | (simp; omega))) | (refine Sx.mk ?_ ?_; · omega) | refine Fa.mk (fun _ => ?_) | refine Im.mk (fun _ => ?_) | apply Lw.go | refine g_cond ?_ | refine g_guard ?_ | refine g_keep ?_ | refine g_pass ?_ | refine g_fin ?_ | (apply g_ap; exact rfl; exact rfl; assumption)
  · obtain ⟨l', hl'⟩ : ∃ l', l' = setB l (r.take j) false := ⟨_, rfl⟩
    have hll : l'.length = l.length := by rw [hl', setB_len]
    have hs := setB_snoc (l := l) (so := false) (r := r) (j := j) (by omega)
    rw [← hl'] at hs ⊢
    first | refine at_callS (bits_Bits_fits_spec (q := q) (l := l') (k := r[j])) ?_ | refine at_callR (bits_Bits_fits_spec (q := q) (l := l') (k := r[j])) ?_
    refine ⟨fun hf => ?_, fun hf => ?_⟩
    · obtain ⟨i, hi⟩ := Int.eq_ofNat_of_zero_le hf.1
      have hset : set1 l' false r[j] = l'.set i false := by unfold set1; rw [if_pos hf, hi, Int.toNat_natCast]
      rw [hset] at hs
      rw [hi] at hf ⊢
      have hil : i < l'.length := by omega
      have hwl := words_len l'
      have hwt : B64 (word l' (i / 64)) := ⟨word_lt l' (i / 64)⟩
      have hpt : B64 (2 ^ (i % 64)) := ⟨pow64_lt i⟩
      have hmt : i % 64 < 64 := Nat.mod_lt _ (by omega)
      repeat' first | apply step | (apply g_op; · repeat first | exact Evs.nil | (apply Evs.cons; exact rfl)) | (refine Br.mk (fun _ => ?_) (fun _ => ?_) <;> try (exfalso; omega)) | (refine Sd.mk ?_ ?_; · ((repeat' apply And.intro) <;> first | omega | trivial | assumption | (simp; done) | (simp; omega))) | (refine Sx.mk ?_ ?_; · omega) | refine Fa.mk (fun _ => ?_) | refine Im.mk (fun _ => ?_) | apply Lw.go | refine g_cond ?_ | refine g_guard ?_ | refine g_keep ?_ | refine g_pass ?_ | refine g_fin ?_ | (apply g_ap; exact rfl; exact rfl; assumption)
      cases q with
      | none =>
        first | refine at_openP (bt none l') rfl ?_ | refine av_openP (bt none l') rfl ?_
        intro _ h0
        exfalso; rw [show l' = [] from h0] at hil; simp at hil
      | some b =>
        first | refine at_openP (bt (some b) l') rfl ?_ | refine av_openP (bt (some b) l') rfl ?_
        rintro ⟨p', c'⟩ hl
        unfold btp
        dsimp only [Option.map_some] at hl ⊢
        repeat' first | rw [words_get] | apply step | (apply g_op; · repeat first | exact Evs.nil | (apply Evs.cons; exact rfl)) | (refine Br.mk (fun _ => ?_) (fun _ => ?_) <;> try (exfalso; omega)) | (refine Sd.mk ?_ ?_; · ((repeat' apply And.intro) <;> first | omega | trivial | assumption | (simp; done) | (simp; omega))) | (refine Sx.mk ?_ ?_; · omega) | refine Fa.mk (fun _ => ?_) | refine Im.mk (fun _ => ?_) | apply Lw.go | refine g_cond ?_ | refine g_guard ?_ | refine g_keep ?_ | refine g_pass ?_ | refine g_fin ?_ | (apply g_ap; exact rfl; exact rfl; assumption)
        refine Sd.mk ⟨by omega, Int.natCast_nonneg _, (hwt.and _).le⟩ ?_
        repeat' first | apply step | (apply g_op; · repeat first | exact Evs.nil | (apply Evs.cons; exact rfl)) | (refine Br.mk (fun _ => ?_) (fun _ => ?_) <;> try (exfalso; omega)) | (refine Sd.mk ?_ ?_; · ((repeat' apply And.intro) <;> first | omega | trivial | assumption | (simp; done) | (simp; omega))) | (refine Sx.mk ?_ ?_; · omega) | refine Fa.mk (fun _ => ?_) | refine Im.mk (fun _ => ?_) | apply Lw.go | refine g_cond ?_ | refine g_guard ?_ | refine g_keep ?_ | refine g_pass ?_ | refine g_fin ?_ | (apply g_ap; exact rfl; exact rfl; assumption)
        rw [← words_drop hil, show (words l').length = (words (l'.set i false)).length by rw [words_len, words_len, List.length_set], show ((l'.length : Nat) : Int) = (((l'.set i false).length : Nat) : Int) by rw [List.length_set]]
        refine at_foldP (bt (some b) (l'.set i false)) rfl (p', c') (by simp; omega) ?_
        rw [← hs]
        refine lp_next (j + 1) (by omega) (by omega)
    · have hset : set1 l' false r[j] = l' := by unfold set1; rw [if_neg hf]
      rw [hset] at hs
      rw [← hs]
      repeat' first | apply step | (apply g_op; · repeat first | exact Evs.nil | (apply Evs.cons; exact rfl)) | (refine Br.mk (fun _ => ?_) (fun _ => ?_) <;> try (exfalso; omega)) | (refine Sd.mk ?_ ?_; · ((repeat' apply And.intro) <;> first | omega | trivial | assumption | (simp; done) | (simp; omega))) | (refine Sx.mk ?_ ?_; · omega) | refine Fa.mk (fun _ => ?_) | refine Im.mk (fun _ => ?_) | apply Lw.go | refine g_cond ?_ | refine g_guard ?_ | refine g_keep ?_ | refine g_pass ?_ | refine g_fin ?_ | (apply g_ap; exact rfl; exact rfl; assumption)
      refine lp_next (j + 1) (by omega) (by omega)
  · have : j = r.length := by omega
    subst this
    rw [List.take_length]
    repeat' first | apply step | (apply g_op; · repeat first | exact Evs.nil | (apply Evs.cons; exact rfl)) | (refine Br.mk (fun _ => ?_) (fun _ => ?_) <;> try (exfalso; omega)) | (refine Sd.mk ?_ ?_; · ((repeat' apply And.intro) <;> first | omega | trivial | assumption | (simp; done) | (simp; omega))) | (refine Sx.mk ?_ ?_; · omega) | refine Fa.mk (fun _ => ?_) | refine Im.mk (fun _ => ?_) | apply Lw.go | refine g_cond ?_ | refine g_guard ?_ | refine g_keep ?_ | refine g_pass ?_ | refine g_fin ?_ | (apply g_ap; exact rfl; exact rfl; assumption)
    exact fin hR
section
attribute [local instance 1080] v_subNN
theorem bits_New_spec {z : Int} : Spec prog1 n_bits_New [.int .i64 z] [] (fun R => ∀ b, R (btp (some b)) [bt (some b) (List.replicate (clampN z) false)]) := by
  refine spec_code c_bits_New rfl ?_; intro n F R hR; unfold F_bits_New
  have hf : ∀ (x y : Nat) (m : Nat), clampN z = m → (m + 63) / 64 = (m + 64 - 1) / 64 → m ≤ 65536 → FinG R (.pointer (some ⟨x, 0, none⟩)) F (pt x [.int .i64 (m : Int), .slice (some ⟨y, 0, none⟩) ((m + 64 - 1) / 64) ((m + 64 - 1) / 64)] 0 :: own (kInt .u64) (some ⟨y, 0, none⟩) ((m + 64 - 1) / 64) (List.replicate ((m + 64 - 1) / 64) 0) :: F) := by
    intro x y m h1 h2 h3
    have e := words_rep m
    rw [← h2, ← e, show (m + 63) / 64 = (words (List.replicate m false)).length by rw [words_len, List.length_replicate], show ((m : Nat) : Int) = (((List.replicate m false).length : Nat) : Int) by rw [List.length_replicate]]
    refine fin_foldP (bt (some x) (List.replicate m false)) rfl (_, _) (by simp; omega) ?_
    rw [h1] at hR
    exact fin (hR x)
  by_cases hz1 : 65536 < z
  · have h1 : clampN z = 65536 := by unfold clampN; omega
    repeat' first | apply step | (apply g_op; · repeat first | exact Evs.nil | (apply Evs.cons; exact rfl)) | (refine Br.mk (fun _ => ?_) (fun _ => ?_) <;> try (exfalso; omega)) | (refine Sd.mk ?_ ?_; · ((repeat' apply And.intro) <;> first | omega | trivial | assumption | (simp; done) | (simp; omega))) | (refine Sx.mk ?_ ?_; · omega) | refine Fa.mk (fun _ => ?_) | refine Im.mk (fun _ => ?_) | apply Lw.go | refine g_cond ?_ | refine g_guard ?_ | refine g_keep ?_ | refine g_pass ?_ | refine g_fin ?_ | (apply g_ap; exact rfl; exact rfl; assumption)
    exact hf _ _ 65536 h1 rfl (by omega)
  · by_cases hz2 : 0 < z
    · obtain ⟨m, rfl⟩ := Int.eq_ofNat_of_zero_le (show 0 ≤ z by omega)
      have h1 : clampN (m : Int) = m := by unfold clampN; omega
      repeat' first | apply step | (apply g_op; · repeat first | exact Evs.nil | (apply Evs.cons; exact rfl)) | (refine Br.mk (fun _ => ?_) (fun _ => ?_) <;> try (exfalso; omega)) | (refine Sd.mk ?_ ?_; · ((repeat' apply And.intro) <;> first | omega | trivial | assumption | (simp; done) | (simp; omega))) | (refine Sx.mk ?_ ?_; · omega) | refine Fa.mk (fun _ => ?_) | refine Im.mk (fun _ => ?_) | apply Lw.go | refine g_cond ?_ | refine g_guard ?_ | refine g_keep ?_ | refine g_pass ?_ | refine g_fin ?_ | (apply g_ap; exact rfl; exact rfl; assumption)
      exact hf _ _ m h1 (by omega) (by omega)
    · have h1 : clampN z = 0 := by unfold clampN; omega
      repeat' first | apply step | (apply g_op; · repeat first | exact Evs.nil | (apply Evs.cons; exact rfl)) | (refine Br.mk (fun _ => ?_) (fun _ => ?_) <;> try (exfalso; omega)) | (refine Sd.mk ?_ ?_; · ((repeat' apply And.intro) <;> first | omega | trivial | assumption | (simp; done) | (simp; omega))) | (refine Sx.mk ?_ ?_; · omega) | refine Fa.mk (fun _ => ?_) | refine Im.mk (fun _ => ?_) | apply Lw.go | refine g_cond ?_ | refine g_guard ?_ | refine g_keep ?_ | refine g_pass ?_ | refine g_fin ?_ | (apply g_ap; exact rfl; exact rfl; assumption)
      exact hf _ _ 0 h1 rfl (by omega)
end
theorem bits_Bits_All_spec : Spec prog1 n_bits_Bits_All [btp q] [] (fun R => ∀ x, R (.func (.func n_bits_Bits_All_c1) #[] #[.pointer (some ⟨x, 0, none⟩)]) [pt x [btp q] 0]) := by
  refine spec_code c_bits_Bits_All rfl ?_; intro n F R hR; unfold F_bits_Bits_All
  repeat' first | apply step | (apply g_op; · repeat first | exact Evs.nil | (apply Evs.cons; exact rfl)) | (refine Br.mk (fun _ => ?_) (fun _ => ?_) <;> try (exfalso; omega)) | (refine Sd.mk ?_ ?_; · ((repeat' apply And.intro) <;> first | omega | trivial | assumption | (simp; done) | (simp; omega))) | (refine Sx.mk ?_ ?_; · omega) | refine Fa.mk (fun _ => ?_) | refine Im.mk (fun _ => ?_) | apply Lw.go | refine g_cond ?_ | refine g_guard ?_ | refine g_keep ?_ | refine g_pass ?_ | refine g_fin ?_ | (apply g_ap; exact rfl; exact rfl; assumption)
  exact fin (hR _)
end
end Go.AMS

namespace Go.AMS
open Go.AM hiding Kt At WP WL Runs RunsY
open Go.AM.G
set_option linter.unusedVariables false
set_option linter.unusedSimpArgs false
set_option linter.unusedSectionVars false
set_option maxRecDepth 100000
set_option maxHeartbeats 1000000
attribute [local irreducible] AtS AtV AtC AtG FinA Spec Post LP G.At G.WP G.WL pt own fro rdl ro hx mp lrec elt sub

def firstA (a : Bool) (n k : Nat) : List Bool := List.replicate (min k n) a ++ List.replicate (n - k) false
theorem firstA_len (a : Bool) (n k : Nat) : (firstA a n k).length = n := by unfold firstA; simp; omega
theorem firstA_get (a : Bool) (n k i : Nat) : (firstA a n k).getD i false = (decide (i < n ∧ i < k) && a) := by
  unfold firstA
  rw [List.getD_eq_getElem?_getD, List.getElem?_append, List.length_replicate, List.getElem?_replicate, List.getElem?_replicate]
  by_cases h : i < min k n
  · rw [if_pos h, if_pos h, decide_eq_true (by omega)]; rfl
  · rw [if_neg h, decide_eq_false (by omega)]
    split <;> rfl
theorem firstA_0 (a : Bool) (n : Nat) : firstA a n 0 = List.replicate n false := by unfold firstA; simp
theorem firstA_n (a : Bool) (n : Nat) : firstA a n n = List.replicate n a := by unfold firstA; simp
theorem firstA_s {a : Bool} {n k : Nat} (h : k < n) : (firstA a n k).set k a = firstA a n (k + 1) := by
  refine ext_getD (by rw [List.length_set, firstA_len, firstA_len]) fun i hi => ?_
  rw [List.length_set, firstA_len] at hi
  rw [getD_set (by rw [firstA_len]; exact h), firstA_get, firstA_get]
  by_cases h2 : i = k
  · rw [if_pos h2, decide_eq_true (by omega), Bool.true_and]
  · rw [if_neg h2]
    by_cases h3 : i < k
    · rw [decide_eq_true ⟨hi, h3⟩, decide_eq_true (by omega)]
    · rw [decide_eq_false (by omega), decide_eq_false (by omega)]
section
variable {l m : List Bool}
theorem r06_New_spec {z : Int} {a : Bool} : Spec prog1 n_r06_New [.int .i64 z, .bool a] [] (fun R => ∀ p c, R (.slice p (clampN z) c) [own kBool p c (List.replicate (clampN z) a)]) := by
  refine spec_code c_r06_New rfl ?_; intro n F R hR; unfold F_r06_New
  have hcl : clampN z = (max 0 (min z 65536)).toNat := rfl
  rcases Int.lt_or_le z 0 with h1 | h1
  · rw [show clampN z = 0 by omega] at hR
    repeat' first | apply step | (apply g_op; · repeat first | exact Evs.nil | (apply Evs.cons; exact rfl)) | (refine Br.mk (fun _ => ?_) (fun _ => ?_) <;> try (exfalso; omega)) | (refine Sd.mk ?_ ?_; · ((repeat' apply And.intro) <;> first | omega | trivial | assumption | (simp; done) | (simp; omega))) | (refine Sx.mk ?_ ?_; · omega) | refine Fa.mk (fun _ => ?_) | refine Im.mk (fun _ => ?_) | apply Lw.go | refine g_cond ?_ | refine g_guard ?_ | refine g_keep ?_ | refine g_pass ?_ | refine g_fin ?_ | (apply g_ap; exact rfl; exact rfl; assumption)
    rename_i xb
    rw [show List.replicate 0 false = firstA a 0 0 from rfl]
    refine at_loopS (ι := Nat) (E := fun j => [(0, .int .i64 ((0 : Nat) : Int)), (1, .bool a), (5, .slice (some ⟨xb, 0, none⟩) 0 0), (6, .int .i64 (j : Int))]) (Δ := fun j => own kBool (some ⟨xb, 0, none⟩) 0 (firstA a 0 j) :: F) (P := fun j => j = 0) (μ := fun j => 0) 0 rfl ?_
    rintro j rfl
    dsimp only
    repeat' first | apply step | (apply g_op; · repeat first | exact Evs.nil | (apply Evs.cons; exact rfl)) | (refine Br.mk (fun _ => ?_) (fun _ => ?_) <;> try (exfalso; omega)) | (refine Sd.mk ?_ ?_; · ((repeat' apply And.intro) <;> first | omega | trivial | assumption | (simp; done) | (simp; omega))) | (refine Sx.mk ?_ ?_; · omega) | refine Fa.mk (fun _ => ?_) | refine Im.mk (fun _ => ?_) | apply Lw.go | refine g_cond ?_ | refine g_guard ?_ | refine g_keep ?_ | refine g_pass ?_ | refine g_fin ?_ | (apply g_ap; exact rfl; exact rfl; assumption)
    rw [firstA_n] at *
    exact fin (hR _ _)
  · rcases Int.lt_or_le 65536 z with h2 | h2
    · rw [show clampN z = 65536 by omega] at hR
      repeat' first | apply step | (apply g_op; · repeat first | exact Evs.nil | (apply Evs.cons; exact rfl)) | (refine Br.mk (fun _ => ?_) (fun _ => ?_) <;> try (exfalso; omega)) | (refine Sd.mk ?_ ?_; · ((repeat' apply And.intro) <;> first | omega | trivial | assumption | (simp; done) | (simp; omega))) | (refine Sx.mk ?_ ?_; · omega) | refine Fa.mk (fun _ => ?_) | refine Im.mk (fun _ => ?_) | apply Lw.go | refine g_cond ?_ | refine g_guard ?_ | refine g_keep ?_ | refine g_pass ?_ | refine g_fin ?_ | (apply g_ap; exact rfl; exact rfl; assumption)
      rename_i xb
      rw [show Int.toNat 65536 = 65536 from rfl]
      rw [← firstA_0 a]
      refine at_loopS (ι := Nat) (E := fun j => [(0, .int .i64 ((65536 : Nat) : Int)), (1, .bool a), (5, .slice (some ⟨xb, 0, none⟩) 65536 65536), (6, .int .i64 (j : Int))]) (Δ := fun j => own kBool (some ⟨xb, 0, none⟩) 65536 (firstA a 65536 j) :: F) (P := fun j => j ≤ 65536) (μ := fun j => 65536 - j) 0 (by omega) ?_
      rintro j hj
      dsimp only
      have hfl := firstA_len a 65536 j
      by_cases hjl : j < 65536
      · repeat' first | apply step | (apply g_op; · repeat first | exact Evs.nil | (apply Evs.cons; exact rfl)) | (refine Br.mk (fun _ => ?_) (fun _ => ?_) <;> try (exfalso; omega)) | (refine Sd.mk ?_ ?_; · ((repeat' apply And.intro) <;> first | omega | trivial | assumption | (simp; done) | (simp; omega))) | (refine Sx.mk ?_ ?_; · omega) | refine Fa.mk (fun _ => ?_) | refine Im.mk (fun _ => ?_) | apply Lw.go | refine g_cond ?_ | refine g_guard ?_ | refine g_keep ?_ | refine g_pass ?_ | refine g_fin ?_ | (apply g_ap; exact rfl; exact rfl; assumption)
        rw [firstA_s hjl]
        refine lp_next (j + 1) (by omega) (by omega)
      · repeat' first | apply step | (apply g_op; · repeat first | exact Evs.nil | (apply Evs.cons; exact rfl)) | (refine Br.mk (fun _ => ?_) (fun _ => ?_) <;> try (exfalso; omega)) | (refine Sd.mk ?_ ?_; · ((repeat' apply And.intro) <;> first | omega | trivial | assumption | (simp; done) | (simp; omega))) | (refine Sx.mk ?_ ?_; · omega) | refine Fa.mk (fun _ => ?_) | refine Im.mk (fun _ => ?_) | apply Lw.go | refine g_cond ?_ | refine g_guard ?_ | refine g_keep ?_ | refine g_pass ?_ | refine g_fin ?_ | (apply g_ap; exact rfl; exact rfl; assumption)
        obtain rfl : j = 65536 := by omega
        rw [firstA_n]
        exact fin (hR _ _)
    · obtain ⟨u, rfl⟩ := Int.eq_ofNat_of_zero_le h1; rw [show clampN (u : Int) = u by omega] at hR
      repeat' first | apply step | (apply g_op; · repeat first | exact Evs.nil | (apply Evs.cons; exact rfl)) | (refine Br.mk (fun _ => ?_) (fun _ => ?_) <;> try (exfalso; omega)) | (refine Sd.mk ?_ ?_; · ((repeat' apply And.intro) <;> first | omega | trivial | assumption | (simp; done) | (simp; omega))) | (refine Sx.mk ?_ ?_; · omega) | refine Fa.mk (fun _ => ?_) | refine Im.mk (fun _ => ?_) | apply Lw.go | refine g_cond ?_ | refine g_guard ?_ | refine g_keep ?_ | refine g_pass ?_ | refine g_fin ?_ | (apply g_ap; exact rfl; exact rfl; assumption)
      rename_i xb
      skip
      rw [← firstA_0 a]
      refine at_loopS (ι := Nat) (E := fun j => [(0, .int .i64 ((u : Nat) : Int)), (1, .bool a), (5, .slice (some ⟨xb, 0, none⟩) u u), (6, .int .i64 (j : Int))]) (Δ := fun j => own kBool (some ⟨xb, 0, none⟩) u (firstA a u j) :: F) (P := fun j => j ≤ u) (μ := fun j => u - j) 0 (by omega) ?_
      rintro j hj
      dsimp only
      have hfl := firstA_len a u j
      by_cases hjl : j < u
      · repeat' first | apply step | (apply g_op; · repeat first | exact Evs.nil | (apply Evs.cons; exact rfl)) | (refine Br.mk (fun _ => ?_) (fun _ => ?_) <;> try (exfalso; omega)) | (refine Sd.mk ?_ ?_; · ((repeat' apply And.intro) <;> first | omega | trivial | assumption | (simp; done) | (simp; omega))) | (refine Sx.mk ?_ ?_; · omega) | refine Fa.mk (fun _ => ?_) | refine Im.mk (fun _ => ?_) | apply Lw.go | refine g_cond ?_ | refine g_guard ?_ | refine g_keep ?_ | refine g_pass ?_ | refine g_fin ?_ | (apply g_ap; exact rfl; exact rfl; assumption)
        rw [firstA_s hjl]
        refine lp_next (j + 1) (by omega) (by omega)
      · repeat' first | apply step | (apply g_op; · repeat first | exact Evs.nil | (apply Evs.cons; exact rfl)) | (refine Br.mk (fun _ => ?_) (fun _ => ?_) <;> try (exfalso; omega)) | (refine Sd.mk ?_ ?_; · ((repeat' apply And.intro) <;> first | omega | trivial | assumption | (simp; done) | (simp; omega))) | (refine Sx.mk ?_ ?_; · omega) | refine Fa.mk (fun _ => ?_) | refine Im.mk (fun _ => ?_) | apply Lw.go | refine g_cond ?_ | refine g_guard ?_ | refine g_keep ?_ | refine g_pass ?_ | refine g_fin ?_ | (apply g_ap; exact rfl; exact rfl; assumption)
        obtain rfl : j = u := by omega
        rw [firstA_n]
        exact fin (hR _ _)
theorem r06_Set_spec {p p2 : Option Addr} {c c2 : Nat} {r : List Int} {so : Bool} (hl : l.length ≤ 1000000) (hr : r.length ≤ 1000000) : Spec prog1 n_r06_Set [.slice p l.length c, .slice p2 r.length c2, .bool so] [rdl kBool p l, rdl (kInt .i64) p2 r] (fun R => ∀ p' c', R (.slice p' l.length c') [own kBool p' c' (setB l r so)]) := by
  refine spec_code c_r06_Set rfl ?_; intro n F R hR; unfold F_r06_Set
  repeat' first | apply step | (apply g_op; · repeat first | exact Evs.nil | (apply Evs.cons; exact rfl)) | (refine Br.mk (fun _ => ?_) (fun _ => ?_) <;> try (exfalso; omega)) | (refine Sd.mk ?_ ?_; · ((repeat' apply And.intro) <;> first | omega | trivial | assumption | (simp; done) | (simp; omega))) | (refine Sx.mk ?_ ?_; · omega) | refine Fa.mk (fun _ => ?_) | refine Im.mk (fun _ => ?_) | apply Lw.go | refine g_cond ?_ | refine g_guard ?_ | refine g_keep ?_ | refine g_pass ?_ | refine g_fin ?_ | (apply g_ap; exact rfl; exact rfl; assumption)
  rename_i p' c'
  refine at_loopS (ι := Nat) (E := fun j => [(1, .slice p2 r.length c2), (2, .bool so), (7, .slice p' l.length c'), (8, .int .i64 (j : Int))]) (Δ := fun j => own kBool p' c' (setB l (r.take j) so) :: rdl (kInt .i64) p2 r :: F) (P := fun j => j ≤ r.length) (μ := fun j => r.length - j) 0 (by omega) ?_
  rintro j hj
  dsimp only
  have hsl := setB_len (r.take j) so l
  by_cases hjl : j < r.length
  · have hs := setB_snoc (l := l) (so := so) hjl
    by_cases hf : 0 ≤ r[j] ∧ r[j] < (l.length : Int)
    · obtain ⟨i, hi⟩ := Int.eq_ofNat_of_zero_le hf.1
      have hs1 : set1 (setB l (r.take j) so) so r[j] = (setB l (r.take j) so).set i so := by
        unfold set1; rw [hsl, if_pos hf, hi, Int.toNat_natCast]
      rw [hs1] at hs
      repeat' first | rw [hi] | apply step | (apply g_op; · repeat first | exact Evs.nil | (apply Evs.cons; exact rfl)) | (refine Br.mk (fun _ => ?_) (fun _ => ?_) <;> try (exfalso; omega)) | (refine Sd.mk ?_ ?_; · ((repeat' apply And.intro) <;> first | omega | trivial | assumption | (simp; done) | (simp; omega))) | (refine Sx.mk ?_ ?_; · omega) | refine Fa.mk (fun _ => ?_) | refine Im.mk (fun _ => ?_) | apply Lw.go | refine g_cond ?_ | refine g_guard ?_ | refine g_keep ?_ | refine g_pass ?_ | refine g_fin ?_ | (apply g_ap; exact rfl; exact rfl; assumption)
      rw [← hs]
      refine lp_next (j + 1) (by omega) (by omega)
    · have hs1 : set1 (setB l (r.take j) so) so r[j] = setB l (r.take j) so := by
        unfold set1; rw [hsl, if_neg hf]
      rw [hs1] at hs
      repeat' first | apply step | (apply g_op; · repeat first | exact Evs.nil | (apply Evs.cons; exact rfl)) | (refine Br.mk (fun _ => ?_) (fun _ => ?_) <;> try (exfalso; omega)) | (refine Sd.mk ?_ ?_; · ((repeat' apply And.intro) <;> first | omega | trivial | assumption | (simp; done) | (simp; omega))) | (refine Sx.mk ?_ ?_; · omega) | refine Fa.mk (fun _ => ?_) | refine Im.mk (fun _ => ?_) | apply Lw.go | refine g_cond ?_ | refine g_guard ?_ | refine g_keep ?_ | refine g_pass ?_ | refine g_fin ?_ | (apply g_ap; exact rfl; exact rfl; assumption)
      all_goals
        rw [← hs]
        refine lp_next (j + 1) (by omega) (by omega)
  · obtain rfl : j = r.length := by omega
    rw [List.take_length]
    repeat' first | apply step | (apply g_op; · repeat first | exact Evs.nil | (apply Evs.cons; exact rfl)) | (refine Br.mk (fun _ => ?_) (fun _ => ?_) <;> try (exfalso; omega)) | (refine Sd.mk ?_ ?_; · ((repeat' apply And.intro) <;> first | omega | trivial | assumption | (simp; done) | (simp; omega))) | (refine Sx.mk ?_ ?_; · omega) | refine Fa.mk (fun _ => ?_) | refine Im.mk (fun _ => ?_) | apply Lw.go | refine g_cond ?_ | refine g_guard ?_ | refine g_keep ?_ | refine g_pass ?_ | refine g_fin ?_ | (apply g_ap; exact rfl; exact rfl; assumption)
    exact fin (hR _ _)
theorem r06_Next_spec {p : Option Addr} {c : Nat} {k : Int} (hl : l.length ≤ 1000000) : Spec prog1 n_r06_Next [.slice p l.length c, .int .i64 k] [rdl kBool p l] (fun R => ∀ x, NxZ l k.toNat x → R (.int .i64 x) []) := by
  refine spec_code c_r06_Next rfl ?_; intro n F R hR; unfold F_r06_Next
  repeat' first | apply step | (apply g_op; · repeat first | exact Evs.nil | (apply Evs.cons; exact rfl)) | (refine Br.mk (fun _ => ?_) (fun _ => ?_) <;> try (exfalso; omega)) | (refine Sd.mk ?_ ?_; · ((repeat' apply And.intro) <;> first | omega | trivial | assumption | (simp; done) | (simp; omega))) | (refine Sx.mk ?_ ?_; · omega) | refine Fa.mk (fun _ => ?_) | refine Im.mk (fun _ => ?_) | apply Lw.go | refine g_cond ?_ | refine g_guard ?_ | refine g_keep ?_ | refine g_pass ?_ | refine g_fin ?_ | (apply g_ap; exact rfl; exact rfl; assumption)
  refine at_loopS (ι := Nat) (E := fun j => [(0, .slice p l.length c), (1, .int .i64 k), (5, .int .i64 (j : Int))]) (Δ := fun j => rdl kBool p l :: F) (P := fun j => j ≤ l.length ∧ ∀ i, k.toNat ≤ i → i < j → l.getD i false = false) (μ := fun j => l.length - j) 0 ⟨by omega, fun i h1 h2 => by omega⟩ ?_
  rintro j ⟨hj, hno⟩
  dsimp only
  by_cases hjl : j < l.length
  · have hg : l.getD j false = l[j] := by rw [List.getD_eq_getElem?_getD, List.getElem?_eq_getElem hjl]; rfl
    by_cases hk : k ≤ j
    · cases hb : l[j] with
      | true =>
        repeat' first | rw [hb] | apply step | (apply g_op; · repeat first | exact Evs.nil | (apply Evs.cons; exact rfl)) | (refine Br.mk (fun _ => ?_) (fun _ => ?_) <;> try (exfalso; omega)) | (refine Sd.mk ?_ ?_; · ((repeat' apply And.intro) <;> first | omega | trivial | assumption | (simp; done) | (simp; omega))) | (refine Sx.mk ?_ ?_; · omega) | refine Fa.mk (fun _ => ?_) | refine Im.mk (fun _ => ?_) | apply Lw.go | refine g_cond ?_ | refine g_guard ?_ | refine g_keep ?_ | refine g_pass ?_ | refine g_fin ?_ | (apply g_ap; exact rfl; exact rfl; assumption)
        exact fin (hR _ (.inl ⟨j, rfl, by omega, hjl, by rw [hg, hb], hno⟩))
      | false =>
        repeat' first | rw [hb] | apply step | (apply g_op; · repeat first | exact Evs.nil | (apply Evs.cons; exact rfl)) | (refine Br.mk (fun _ => ?_) (fun _ => ?_) <;> try (exfalso; omega)) | (refine Sd.mk ?_ ?_; · ((repeat' apply And.intro) <;> first | omega | trivial | assumption | (simp; done) | (simp; omega))) | (refine Sx.mk ?_ ?_; · omega) | refine Fa.mk (fun _ => ?_) | refine Im.mk (fun _ => ?_) | apply Lw.go | refine g_cond ?_ | refine g_guard ?_ | refine g_keep ?_ | refine g_pass ?_ | refine g_fin ?_ | (apply g_ap; exact rfl; exact rfl; assumption)
        refine lp_next (j + 1) ⟨by omega, fun i h1 h2 => ?_⟩ (by omega)
        by_cases h3 : i = j
        · rw [h3, hg, hb]
        · exact hno i h1 (by omega)
    · repeat' first | apply step | (apply g_op; · repeat first | exact Evs.nil | (apply Evs.cons; exact rfl)) | (refine Br.mk (fun _ => ?_) (fun _ => ?_) <;> try (exfalso; omega)) | (refine Sd.mk ?_ ?_; · ((repeat' apply And.intro) <;> first | omega | trivial | assumption | (simp; done) | (simp; omega))) | (refine Sx.mk ?_ ?_; · omega) | refine Fa.mk (fun _ => ?_) | refine Im.mk (fun _ => ?_) | apply Lw.go | refine g_cond ?_ | refine g_guard ?_ | refine g_keep ?_ | refine g_pass ?_ | refine g_fin ?_ | (apply g_ap; exact rfl; exact rfl; assumption)
      refine lp_next (j + 1) ⟨by omega, fun i h1 h2 => by omega⟩ (by omega)
  · have : j = l.length := by omega
    subst this
    repeat' first | apply step | (apply g_op; · repeat first | exact Evs.nil | (apply Evs.cons; exact rfl)) | (refine Br.mk (fun _ => ?_) (fun _ => ?_) <;> try (exfalso; omega)) | (refine Sd.mk ?_ ?_; · ((repeat' apply And.intro) <;> first | omega | trivial | assumption | (simp; done) | (simp; omega))) | (refine Sx.mk ?_ ?_; · omega) | refine Fa.mk (fun _ => ?_) | refine Im.mk (fun _ => ?_) | apply Lw.go | refine g_cond ?_ | refine g_guard ?_ | refine g_keep ?_ | refine g_pass ?_ | refine g_fin ?_ | (apply g_ap; exact rfl; exact rfl; assumption)
    exact fin (hR _ (.inr ⟨rfl, fun i hi => by
      by_cases h : i < l.length
      · exact hno i hi h
      · rw [List.getD_eq_getElem?_getD, List.getElem?_eq_none (by omega)]; rfl⟩))
theorem r06_New_L {z : Int} {a : Bool} : Spec prog1 n_r06_New [.int .i64 z, .bool a] [] (fun R => ∀ p c L, L = List.replicate (clampN z) a → R (.slice p L.length c) [own kBool p c L]) :=
  r06_New_spec.cons fun R h p c => by have := h p c _ rfl; rwa [List.length_replicate] at this
theorem r06_Set_L {p p2 : Option Addr} {c c2 : Nat} {r : List Int} {so : Bool} (hl : l.length ≤ 1000000) (hr : r.length ≤ 1000000) : Spec prog1 n_r06_Set [.slice p l.length c, .slice p2 r.length c2, .bool so] [rdl kBool p l, rdl (kInt .i64) p2 r] (fun R => ∀ p' c' L, L = setB l r so → R (.slice p' L.length c') [own kBool p' c' L]) :=
  (r06_Set_spec hl hr).cons fun R h p c => by have := h p c _ rfl; rwa [setB_len] at this
end
end Go.AMS

namespace Go.AMS
open Go.AM hiding Kt At WP WL Runs RunsY
open Go.AM.G
set_option linter.unusedVariables false
set_option linter.unusedSimpArgs false
set_option linter.unusedSectionVars false
set_option maxRecDepth 100000
set_option maxHeartbeats 1000000
attribute [local irreducible] AtS AtV AtC AtG FinA Spec Post LP G.At G.WP G.WL pt own fro rdl ro hx mp lrec elt sub

theorem l06_works_spec : Spec prog1 n_l06_works [] [] (fun R => R (.bool true) []) := closed_spec c_l06_works
end Go.AMS

namespace Go.AMS
open Go.AM hiding Kt At WP WL Runs RunsY
open Go.AM.G
set_option linter.unusedVariables false
set_option linter.unusedSimpArgs false
set_option linter.unusedSectionVars false
set_option maxRecDepth 100000
set_option maxHeartbeats 1000000
attribute [local irreducible] AtS AtV AtC AtG FinA Spec Post LP G.At G.WP G.WL pt own fro rdl ro hx mp lrec elt sub

def Kx (xs : List Nat) (i : Nat) : Nat := if i = 0 then 0 else xs.getD (i - 1) 0 + 1
theorem Kx_s {xs : List Nat} {i : Nat} (h : i < xs.length) : Kx xs (i + 1) = xs[i] + 1 := by
  unfold Kx
  rw [if_neg (by omega), Nat.add_sub_cancel, List.getD_eq_getElem?_getD, List.getElem?_eq_getElem h]; rfl
section
variable {q : Option Nat}
theorem bits_Bits_All_c1_mut {x ly : Nat} {A : Nat → HP} {B D : AX → HP} (L : Nat → List Bool) (xs : List Nat) (hx : ∀ i (hi : i < xs.length), Nx (L i) (Kx xs i) xs[i]) (hend : Nn (L xs.length) (Kx xs xs.length))
    (hy : ∀ i (hi : i < xs.length), YSpec prog1 ly [.int .i64 ((xs[i] : Nat) : Int)] [A i, bt q (L i)] (fun R => R (.bool true) [A (i + 1), bt q (L (i + 1))] ∧ ∀ x, x ≠ .norm → R (.bool false) [B x, D x])) :
    Spec prog1 n_bits_Bits_All_c1 [.func (.yield ly) #[] #[], .pointer (some ⟨x, 0, none⟩)] [A 0, bt q (L 0), pt x [btp q] 0] (fun R => (∀ v, R v [A xs.length, bt q (L xs.length)]) ∧ ∀ x v, x ≠ .norm → R v [B x, D x]) := by
  refine spec_code c_bits_Bits_All_c1 rfl ?_; intro n F R hR; unfold F_bits_Bits_All_c1
  repeat' first | apply step | (apply g_op; · repeat first | exact Evs.nil | (apply Evs.cons; exact rfl)) | (refine Br.mk (fun _ => ?_) (fun _ => ?_) <;> try (exfalso; omega)) | (refine Sd.mk ?_ ?_; · ((repeat' apply And.intro) <;> first | omega | trivial | assumption | (simp; done) | (simp; omega))) | (refine Sx.mk ?_ ?_; · omega) | refine Fa.mk (fun _ => ?_) | refine Im.mk (fun _ => ?_) | apply Lw.go | refine g_cond ?_ | refine g_guard ?_ | refine g_keep ?_ | refine g_pass ?_ | refine g_fin ?_ | (apply g_ap; exact rfl; exact rfl; assumption)
  refine at_callR (bits_Bits_Next_spec (q := q) (l := L 0) (k := 0) (by omega) (by omega)) ?_
  intro z hz
  repeat' first | apply step | (apply g_op; · repeat first | exact Evs.nil | (apply Evs.cons; exact rfl)) | (refine Br.mk (fun _ => ?_) (fun _ => ?_) <;> try (exfalso; omega)) | (refine Sd.mk ?_ ?_; · ((repeat' apply And.intro) <;> first | omega | trivial | assumption | (simp; done) | (simp; omega))) | (refine Sx.mk ?_ ?_; · omega) | refine Fa.mk (fun _ => ?_) | refine Im.mk (fun _ => ?_) | apply Lw.go | refine g_cond ?_ | refine g_guard ?_ | refine g_keep ?_ | refine g_pass ?_ | refine g_fin ?_ | (apply g_ap; exact rfl; exact rfl; assumption)
  refine at_loopS (ι := Nat × Int) (E := fun j => [(0, .func (.yield ly) #[] #[]), (1, .pointer (some ⟨x, 0, none⟩)), (3, .int .i64 j.2)]) (Δ := fun j => A j.1 :: bt q (L j.1) :: pt x [btp q] 0 :: F) (P := fun j => j.1 ≤ xs.length ∧ NxZ (L j.1) (Kx xs j.1) j.2) (μ := fun j => xs.length - j.1) (0, z) ⟨by simp, hz⟩ ?_
  rintro ⟨i, z⟩ ⟨hi, hz⟩
  dsimp only at hi hz ⊢
  refine at_btO q (L i) fun hlen => ?_
  by_cases hlt : i < xs.length
  · have hn := hx i hlt
    obtain rfl : z = ((xs[i] : Nat) : Int) := hz.eq (.inl ⟨_, rfl, hn⟩)
    have hml := hn.lt
    repeat' first | apply step | (apply g_op; · repeat first | exact Evs.nil | (apply Evs.cons; exact rfl)) | (refine Br.mk (fun _ => ?_) (fun _ => ?_) <;> try (exfalso; omega)) | (refine Sd.mk ?_ ?_; · ((repeat' apply And.intro) <;> first | omega | trivial | assumption | (simp; done) | (simp; omega))) | (refine Sx.mk ?_ ?_; · omega) | refine Fa.mk (fun _ => ?_) | refine Im.mk (fun _ => ?_) | apply Lw.go | refine g_cond ?_ | refine g_guard ?_ | refine g_keep ?_ | refine g_pass ?_ | refine g_fin ?_ | (apply g_ap; exact rfl; exact rfl; assumption)
    refine at_callY (hy i hlt) ⟨?_, fun x hx => ?_⟩
    · repeat' first | apply step | (apply g_op; · repeat first | exact Evs.nil | (apply Evs.cons; exact rfl)) | (refine Br.mk (fun _ => ?_) (fun _ => ?_) <;> try (exfalso; omega)) | (refine Sd.mk ?_ ?_; · ((repeat' apply And.intro) <;> first | omega | trivial | assumption | (simp; done) | (simp; omega))) | (refine Sx.mk ?_ ?_; · omega) | refine Fa.mk (fun _ => ?_) | refine Im.mk (fun _ => ?_) | apply Lw.go | refine g_cond ?_ | refine g_guard ?_ | refine g_keep ?_ | refine g_pass ?_ | refine g_fin ?_ | (apply g_ap; exact rfl; exact rfl; assumption)
      refine at_callR (bits_Bits_Next_spec (q := q) (l := L (i + 1)) (k := ((xs[i] + 1 : Nat) : Int)) (by omega) (by omega)) ?_
      intro z' hz'
      rw [Int.toNat_natCast, ← Kx_s hlt] at hz'
      repeat' first | apply step | (apply g_op; · repeat first | exact Evs.nil | (apply Evs.cons; exact rfl)) | (refine Br.mk (fun _ => ?_) (fun _ => ?_) <;> try (exfalso; omega)) | (refine Sd.mk ?_ ?_; · ((repeat' apply And.intro) <;> first | omega | trivial | assumption | (simp; done) | (simp; omega))) | (refine Sx.mk ?_ ?_; · omega) | refine Fa.mk (fun _ => ?_) | refine Im.mk (fun _ => ?_) | apply Lw.go | refine g_cond ?_ | refine g_guard ?_ | refine g_keep ?_ | refine g_pass ?_ | refine g_fin ?_ | (apply g_ap; exact rfl; exact rfl; assumption)
      refine lp_next (i + 1, z') ⟨by dsimp only; omega, hz'⟩ (by dsimp only; omega)
    · repeat' first | apply step | (apply g_op; · repeat first | exact Evs.nil | (apply Evs.cons; exact rfl)) | (refine Br.mk (fun _ => ?_) (fun _ => ?_) <;> try (exfalso; omega)) | (refine Sd.mk ?_ ?_; · ((repeat' apply And.intro) <;> first | omega | trivial | assumption | (simp; done) | (simp; omega))) | (refine Sx.mk ?_ ?_; · omega) | refine Fa.mk (fun _ => ?_) | refine Im.mk (fun _ => ?_) | apply Lw.go | refine g_cond ?_ | refine g_guard ?_ | refine g_keep ?_ | refine g_pass ?_ | refine g_fin ?_ | (apply g_ap; exact rfl; exact rfl; assumption)
      exact fin (hR.2 x _ hx)
  · obtain rfl : i = xs.length := by omega
    obtain rfl : z = -1 := hz.eq (.inr ⟨rfl, hend⟩)
    repeat' first | apply step | (apply g_op; · repeat first | exact Evs.nil | (apply Evs.cons; exact rfl)) | (refine Br.mk (fun _ => ?_) (fun _ => ?_) <;> try (exfalso; omega)) | (refine Sd.mk ?_ ?_; · ((repeat' apply And.intro) <;> first | omega | trivial | assumption | (simp; done) | (simp; omega))) | (refine Sx.mk ?_ ?_; · omega) | refine Fa.mk (fun _ => ?_) | refine Im.mk (fun _ => ?_) | apply Lw.go | refine g_cond ?_ | refine g_guard ?_ | refine g_keep ?_ | refine g_pass ?_ | refine g_fin ?_ | (apply g_ap; exact rfl; exact rfl; assumption)
    exact fin (hR.1 _)
end
/-- A row of what comes next exists, whatever the set turns into. -/
theorem Kx_app {xs : List Nat} {y i : Nat} (h : i ≤ xs.length) : Kx (xs ++ [y]) i = Kx xs i := by
  unfold Kx
  split
  · rfl
  · rw [List.getD_eq_getElem?_getD, List.getD_eq_getElem?_getD, List.getElem?_append_left (by omega)]
structure Seq (L : Nat → List Bool) (xs : List Nat) : Prop where
  nx : ∀ i (hi : i < xs.length), Nx (L i) (Kx xs i) xs[i]
theorem Seq.app {L : Nat → List Bool} {xs : List Nat} {y : Nat} (s : Seq L xs) (h : Nx (L xs.length) (Kx xs xs.length) y) : Seq L (xs ++ [y]) := ⟨fun i hi => by
  rw [List.length_append] at hi
  by_cases h2 : i < xs.length
  · rw [Kx_app (by omega), List.getElem_append_left h2]; exact s.nx i h2
  · have e : i = xs.length := by simp at hi; omega
    subst e
    rw [Kx_app (Nat.le_refl _)]
    simpa using h⟩
theorem seq_ex (L : Nat → List Bool) (n : Nat) (hn : ∀ i, (L i).length ≤ n) : ∃ xs, Seq L xs ∧ Nn (L xs.length) (Kx xs xs.length) := by
  suffices h : ∀ m xs, n - Kx xs xs.length ≤ m → Seq L xs → ∃ xs, Seq L xs ∧ Nn (L xs.length) (Kx xs xs.length) from h _ [] (Nat.le_refl _) ⟨fun i hi => by simp at hi⟩
  intro m
  induction m with
  | zero =>
    intro xs hm hs
    refine ⟨xs, hs, fun j hj => ?_⟩
    have := hn xs.length
    rw [List.getD_eq_getElem?_getD, List.getElem?_eq_none (by omega)]; rfl
  | succ m ih =>
    intro xs hm hs
    rcases nx_or (L xs.length) (Kx xs xs.length) with ⟨y, hy⟩ | h
    · refine ih (xs ++ [y]) ?_ (hs.app hy)
      rw [List.length_append]
      have h1 : Kx (xs ++ [y]) (xs.length + [y].length) = y + 1 := by
        rw [show xs.length + [y].length = xs.length + 1 from rfl, Kx_s (by simp)]; simp
      rw [h1]
      have := hy.ge
      have := hy.lt
      have := hn xs.length
      omega
    · exact ⟨xs, hs, h⟩
theorem Seq.ge {L : Nat → List Bool} {xs : List Nat} (s : Seq L xs) : ∀ i, i ≤ xs.length → i ≤ Kx xs i
  | 0, _ => Nat.zero_le _
  | i + 1, h => by
    have h1 := s.ge i (by omega)
    have h2 := (s.nx i (by omega)).ge
    rw [Kx_s (by omega)]
    omega
theorem Seq.len {L : Nat → List Bool} {xs : List Nat} {n : Nat} (s : Seq L xs) (hn : ∀ i, (L i).length ≤ n) : xs.length ≤ n := by
  rcases Nat.eq_zero_or_pos xs.length with h | h
  · omega
  · have h1 := s.nx (xs.length - 1) (by omega)
    have h2 := s.ge (xs.length - 1) (by omega)
    have := h1.ge
    have := h1.lt
    have := hn (xs.length - 1)
    omega
theorem Seq.kx {L : Nat → List Bool} {xs : List Nat} {n : Nat} (s : Seq L xs) (hn : ∀ i, (L i).length ≤ n) : ∀ i, i ≤ xs.length → Kx xs i ≤ n
  | 0, _ => Nat.zero_le _
  | i + 1, h => by
    have h2 := (s.nx i (by omega)).lt
    have := hn i
    rw [Kx_s (by omega)]
    omega
/-- As far as it is wanted. -/
def goT (a : Int) : List Nat → List Int
  | [] => []
  | x :: r => if (x : Int) = a then [(x : Int)] else (x : Int) :: goT a r
def ints (xs : List Nat) : List Int := xs.map fun x => ((x : Nat) : Int)
theorem goT_no {a : Int} : ∀ {xs : List Nat}, (∀ y ∈ xs, (y : Int) ≠ a) → goT a xs = ints xs
  | [], _ => rfl
  | x :: r, h => by
    unfold goT
    rw [if_neg (h x (by simp)), goT_no (fun y hy => h y (by simp [hy]))]; rfl
theorem goT_at {a : Int} : ∀ {xs : List Nat} {i : Nat} (hi : i < xs.length), (xs[i] : Int) = a → (∀ y ∈ xs.take i, (y : Int) ≠ a) → goT a xs = ints (xs.take (i + 1))
  | x :: r, 0, _, h, _ => by
    unfold goT
    rw [if_pos (by simpa using h)]; rfl
  | x :: r, i + 1, hi, h, h2 => by
    unfold goT
    rw [if_neg (h2 x (by simp)), goT_at (i := i) (by simpa using hi) (by simpa using h) (fun y hy => h2 y (by simp [hy]))]; rfl
theorem ints_snoc {xs : List Nat} {i : Nat} (h : i < xs.length) : ints (xs.take i) ++ [((xs[i] : Nat) : Int)] = ints (xs.take (i + 1)) := by
  unfold ints
  rw [← List.take_append_getElem h, List.map_append]; rfl
theorem ints_len {xs : List Nat} {i : Nat} (h : i ≤ xs.length) : (ints (xs.take i)).length = i := by unfold ints; simp; omega
theorem goT_len (a : Int) : ∀ xs : List Nat, (goT a xs).length ≤ xs.length
  | [] => Nat.le_refl _
  | x :: r => by
    unfold goT
    have := goT_len a r
    split <;> simp <;> omega
def setL2 (S0 S1 : List Bool) (i : Nat) : List Bool := if i ≤ 2 then S0 else S1
theorem l06_BitsGoes_spec {z a0 pu dr : Int} {p : Option Addr} {c : Nat} {l : List Int} (hz : -9223372036854775808 ≤ z ∧ z ≤ 9223372036854775807) (ha : -9223372036854775808 ≤ a0 ∧ a0 ≤ 9223372036854775807) (hp : -9223372036854775808 ≤ pu ∧ pu ≤ 9223372036854775807) (hd : -9223372036854775808 ≤ dr ∧ dr ≤ 9223372036854775807) : Spec prog1 n_l06_BitsGoes [.int .i64 z, .slice p l.length c, .int .i64 a0, .int .i64 pu, .int .i64 dr] [fro (kInt .i64) p c l] (fun R => R (.bool true) []) := by
  refine spec_code c_l06_BitsGoes rfl ?_; intro n F R hR; unfold F_l06_BitsGoes
  by_cases hg : z ≤ 300 ∧ l.length ≤ 300
  rotate_left
  · repeat' first | apply step | (apply g_op; · repeat first | exact Evs.nil | (apply Evs.cons; exact rfl)) | (refine Br.mk (fun _ => ?_) (fun _ => ?_) <;> try (exfalso; omega)) | (refine Sd.mk ?_ ?_; · ((repeat' apply And.intro) <;> first | omega | trivial | assumption | (simp; done) | (simp; omega))) | (refine Sx.mk ?_ ?_; · omega) | refine Fa.mk (fun _ => ?_) | refine Im.mk (fun _ => ?_) | apply Lw.go | refine g_cond ?_ | refine g_guard ?_ | refine g_keep ?_ | refine g_pass ?_ | refine g_fin ?_ | (apply g_ap; exact rfl; exact rfl; assumption)
    all_goals
      first | refine at_callS (l06_works_spec) ?_ | refine at_callR (l06_works_spec) ?_
      repeat' first | apply step | (apply g_op; · repeat first | exact Evs.nil | (apply Evs.cons; exact rfl)) | (refine Br.mk (fun _ => ?_) (fun _ => ?_) <;> try (exfalso; omega)) | (refine Sd.mk ?_ ?_; · ((repeat' apply And.intro) <;> first | omega | trivial | assumption | (simp; done) | (simp; omega))) | (refine Sx.mk ?_ ?_; · omega) | refine Fa.mk (fun _ => ?_) | refine Im.mk (fun _ => ?_) | apply Lw.go | refine g_cond ?_ | refine g_guard ?_ | refine g_keep ?_ | refine g_pass ?_ | refine g_fin ?_ | (apply g_ap; exact rfl; exact rfl; assumption)
      exact fin hR
  obtain ⟨h1, h2⟩ := hg
  have hcl : clampN z ≤ 300 := by unfold clampN; omega
  obtain ⟨S0, hS0⟩ : ∃ S, S = setB (List.replicate (clampN z) false) l true := ⟨_, rfl⟩
  obtain ⟨S1, hS1⟩ : ∃ S, S = setB (setB S0 [pu] true) [dr] false := ⟨_, rfl⟩
  have hS0l : S0.length = clampN z := by rw [hS0, setB_len, List.length_replicate]
  have hS1l : S1.length = clampN z := by rw [hS1, setB_len, setB_len, hS0l]
  obtain ⟨L, hL⟩ : ∃ L, L = setL2 S0 S1 := ⟨_, rfl⟩
  have hLl : ∀ i, (L i).length ≤ 300 := fun i => by rw [hL]; unfold setL2; split <;> omega
  obtain ⟨xs, hseq, hend⟩ := seq_ex L 300 hLl
  have hxl := hseq.len hLl
  have hL0 : L 0 = S0 := by rw [hL]; rfl
  repeat' first | apply step | (apply g_op; · repeat first | exact Evs.nil | (apply Evs.cons; exact rfl)) | (refine Br.mk (fun _ => ?_) (fun _ => ?_) <;> try (exfalso; omega)) | (refine Sd.mk ?_ ?_; · ((repeat' apply And.intro) <;> first | omega | trivial | assumption | (simp; done) | (simp; omega))) | (refine Sx.mk ?_ ?_; · omega) | refine Fa.mk (fun _ => ?_) | refine Im.mk (fun _ => ?_) | apply Lw.go | refine g_cond ?_ | refine g_guard ?_ | refine g_keep ?_ | refine g_pass ?_ | refine g_fin ?_ | (apply g_ap; exact rfl; exact rfl; assumption)
  first | refine at_callS (l06_works_spec) ?_ | refine at_callR (l06_works_spec) ?_
  repeat' first | apply step | (apply g_op; · repeat first | exact Evs.nil | (apply Evs.cons; exact rfl)) | (refine Br.mk (fun _ => ?_) (fun _ => ?_) <;> try (exfalso; omega)) | (refine Sd.mk ?_ ?_; · ((repeat' apply And.intro) <;> first | omega | trivial | assumption | (simp; done) | (simp; omega))) | (refine Sx.mk ?_ ?_; · omega) | refine Fa.mk (fun _ => ?_) | refine Im.mk (fun _ => ?_) | apply Lw.go | refine g_cond ?_ | refine g_guard ?_ | refine g_keep ?_ | refine g_pass ?_ | refine g_fin ?_ | (apply g_ap; exact rfl; exact rfl; assumption)
  first | refine at_callS (bits_New_spec (z := z)) ?_ | refine at_callR (bits_New_spec (z := z)) ?_
  intro b
  repeat' first | apply step | (apply g_op; · repeat first | exact Evs.nil | (apply Evs.cons; exact rfl)) | (refine Br.mk (fun _ => ?_) (fun _ => ?_) <;> try (exfalso; omega)) | (refine Sd.mk ?_ ?_; · ((repeat' apply And.intro) <;> first | omega | trivial | assumption | (simp; done) | (simp; omega))) | (refine Sx.mk ?_ ?_; · omega) | refine Fa.mk (fun _ => ?_) | refine Im.mk (fun _ => ?_) | apply Lw.go | refine g_cond ?_ | refine g_guard ?_ | refine g_keep ?_ | refine g_pass ?_ | refine g_fin ?_ | (apply g_ap; exact rfl; exact rfl; assumption)
  first | refine at_callS (bits_Bits_Put_spec (q := some b) (l := List.replicate (clampN z) false) (r := l) (by omega)) ?_ | refine at_callR (bits_Bits_Put_spec (q := some b) (l := List.replicate (clampN z) false) (r := l) (by omega)) ?_
  rw [← hS0]
  repeat' first | apply step | (apply g_op; · repeat first | exact Evs.nil | (apply Evs.cons; exact rfl)) | (refine Br.mk (fun _ => ?_) (fun _ => ?_) <;> try (exfalso; omega)) | (refine Sd.mk ?_ ?_; · ((repeat' apply And.intro) <;> first | omega | trivial | assumption | (simp; done) | (simp; omega))) | (refine Sx.mk ?_ ?_; · omega) | refine Fa.mk (fun _ => ?_) | refine Im.mk (fun _ => ?_) | apply Lw.go | refine g_cond ?_ | refine g_guard ?_ | refine g_keep ?_ | refine g_pass ?_ | refine g_fin ?_ | (apply g_ap; exact rfl; exact rfl; assumption)
  refine at_callR (r06_New_L (z := z) (a := false)) ?_
  intro q1 d1 L1 hL1
  have hL1l : L1.length = clampN z := by rw [hL1, List.length_replicate]
  repeat' first | apply step | (apply g_op; · repeat first | exact Evs.nil | (apply Evs.cons; exact rfl)) | (refine Br.mk (fun _ => ?_) (fun _ => ?_) <;> try (exfalso; omega)) | (refine Sd.mk ?_ ?_; · ((repeat' apply And.intro) <;> first | omega | trivial | assumption | (simp; done) | (simp; omega))) | (refine Sx.mk ?_ ?_; · omega) | refine Fa.mk (fun _ => ?_) | refine Im.mk (fun _ => ?_) | apply Lw.go | refine g_cond ?_ | refine g_guard ?_ | refine g_keep ?_ | refine g_pass ?_ | refine g_fin ?_ | (apply g_ap; exact rfl; exact rfl; assumption)
  refine at_callR (r06_Set_L (l := L1) (r := l) (so := true) (by omega) (by omega)) ?_
  intro q2 d2 L2 hL2
  obtain rfl : L2 = S0 := by rw [hL2, hL1, hS0]
  repeat' first | apply step | (apply g_op; · repeat first | exact Evs.nil | (apply Evs.cons; exact rfl)) | (refine Br.mk (fun _ => ?_) (fun _ => ?_) <;> try (exfalso; omega)) | (refine Sd.mk ?_ ?_; · ((repeat' apply And.intro) <;> first | omega | trivial | assumption | (simp; done) | (simp; omega))) | (refine Sx.mk ?_ ?_; · omega) | refine Fa.mk (fun _ => ?_) | refine Im.mk (fun _ => ?_) | apply Lw.go | refine g_cond ?_ | refine g_guard ?_ | refine g_keep ?_ | refine g_pass ?_ | refine g_fin ?_ | (apply g_ap; exact rfl; exact rfl; assumption)
  first | refine at_callS (bits_Bits_All_spec (q := some b)) ?_ | refine at_callR (bits_Bits_All_spec (q := some b)) ?_
  intro x
  repeat' first | apply step | (apply g_op; · repeat first | exact Evs.nil | (apply Evs.cons; exact rfl)) | (refine Br.mk (fun _ => ?_) (fun _ => ?_) <;> try (exfalso; omega)) | (refine Sd.mk ?_ ?_; · ((repeat' apply And.intro) <;> first | omega | trivial | assumption | (simp; done) | (simp; omega))) | (refine Sx.mk ?_ ?_; · omega) | refine Fa.mk (fun _ => ?_) | refine Im.mk (fun _ => ?_) | apply Lw.go | refine g_cond ?_ | refine g_guard ?_ | refine g_keep ?_ | refine g_pass ?_ | refine g_fin ?_ | (apply g_ap; exact rfl; exact rfl; assumption)
  rename_i u7 u8 u9 g1 g2 xb xg
  rw [← hL0]
  obtain ⟨I, hI⟩ : ∃ I : Nat → HP, ∀ i, I i = hx fun (w : Option Addr × Nat × List Int) => ((w.2.2 = ints (xs.take i) ∧ ∀ y ∈ xs.take i, ((y : Nat) : Int) ≠ a0), [pt xg [.slice w.1 w.2.2.length w.2.1] 0, own (kInt .i64) w.1 w.2.1 w.2.2, pt xb [btp (some b)] 0, pt u9 [.int .i64 dr] 0, pt u8 [.int .i64 pu] 0, pt u7 [.int .i64 a0] 0]) := ⟨_, fun _ => rfl⟩
  obtain ⟨J0, hJ0⟩ : ∃ J0 : HP, J0 = hx fun (w : Option Addr × Nat × List Int) => (w.2.2 = goT a0 xs, [pt xg [.slice w.1 w.2.2.length w.2.1] 0, own (kInt .i64) w.1 w.2.1 w.2.2, pt xb [btp (some b)] 0, pt u9 [.int .i64 dr] 0, pt u8 [.int .i64 pu] 0, pt u7 [.int .i64 a0] 0]) := ⟨_, rfl⟩
  obtain ⟨D0, hD0⟩ : ∃ D0 : HP, D0 = hx fun (S : List Bool) => (True, [bt (some b) S]) := ⟨_, rfl⟩
  refine at_foldP (I 0) (hI 0) (none, 0, []) ⟨by simp [ints], by simp⟩ ?_
  refine at_rfunS2 (I := I) (C := fun i => bt (some b) (L i)) (J := fun x => match x with | .exit 0 => J0 | _ => noP) (D := fun _ => D0) (Ps := [pt x [btp (some b)] 0]) (Po := []) xs.length (fun i => [.int .i64 ((xs.getD i 0 : Nat) : Int)])
    (fun ly A B h => bits_Bits_All_c1_mut L xs hseq.nx hend (fun i hi => by have := h i hi; rwa [getD_lt hi] at this)) (fun _ _ => rfl) ?_ ?_ ?_
  · intro i hi ly m1 F'
    refine at_openP (I i) (hI i) ?_
    rintro ⟨p', c', l'⟩ ⟨k1, k2⟩
    dsimp only at k1 k2 ⊢
    subst k1
    rw [getD_lt hi]
    have hsn := ints_snoc hi
    have hl0 := ints_len (xs := xs) (i := i) (by omega)
    have hl1 := ints_len (xs := xs) (i := i + 1) (by omega)
    have hxi := (hseq.nx i hi).lt
    have hLi := hLl i
    have hk3 : ((xs[i] : Nat) : Int) ≠ a0 → ∀ y ∈ xs.take (i + 1), ((y : Nat) : Int) ≠ a0 := fun h y hy => by
      rw [← List.take_append_getElem hi] at hy
      rcases List.mem_append.1 hy with g | g
      · exact k2 y g
      · rw [List.mem_singleton.1 g]; exact h
    by_cases hi2 : i = 2
    · have hLn : L (i + 1) = setB (setB (L i) [pu] true) [dr] false := by rw [hL, hi2]; exact hS1
      repeat' first | rw [hsn] | apply step | (apply g_op; · repeat first | exact Evs.nil | (apply Evs.cons; exact rfl)) | (refine Br.mk (fun _ => ?_) (fun _ => ?_) <;> try (exfalso; omega)) | (refine Sd.mk ?_ ?_; · ((repeat' apply And.intro) <;> first | omega | trivial | assumption | (simp; done) | (simp; omega))) | (refine Sx.mk ?_ ?_; · omega) | refine Fa.mk (fun _ => ?_) | refine Im.mk (fun _ => ?_) | apply Lw.go | refine g_cond ?_ | refine g_guard ?_ | refine g_keep ?_ | refine g_pass ?_ | refine g_fin ?_ | (apply g_ap; exact rfl; exact rfl; assumption)
      rename_i xl
      refine av_lit xl 1 pu hp ?_
      first | refine at_callS (bits_Bits_Put_spec (q := some b) (l := L i) (r := [pu]) (by simp)) ?_ | refine at_callR (bits_Bits_Put_spec (q := some b) (l := L i) (r := [pu]) (by simp)) ?_
      repeat' first | apply step | (apply g_op; · repeat first | exact Evs.nil | (apply Evs.cons; exact rfl)) | (refine Br.mk (fun _ => ?_) (fun _ => ?_) <;> try (exfalso; omega)) | (refine Sd.mk ?_ ?_; · ((repeat' apply And.intro) <;> first | omega | trivial | assumption | (simp; done) | (simp; omega))) | (refine Sx.mk ?_ ?_; · omega) | refine Fa.mk (fun _ => ?_) | refine Im.mk (fun _ => ?_) | apply Lw.go | refine g_cond ?_ | refine g_guard ?_ | refine g_keep ?_ | refine g_pass ?_ | refine g_fin ?_ | (apply g_ap; exact rfl; exact rfl; assumption)
      rename_i xm
      refine av_lit xm 1 dr hd ?_
      first | refine at_callS (bits_Bits_Drop_spec (q := some b) (l := setB (L i) [pu] true) (r := [dr]) (by simp)) ?_ | refine at_callR (bits_Bits_Drop_spec (q := some b) (l := setB (L i) [pu] true) (r := [dr]) (by simp)) ?_
      rw [← hLn]
      repeat' first | apply step | (apply g_op; · repeat first | exact Evs.nil | (apply Evs.cons; exact rfl)) | (refine Br.mk (fun _ => ?_) (fun _ => ?_) <;> try (exfalso; omega)) | (refine Sd.mk ?_ ?_; · ((repeat' apply And.intro) <;> first | omega | trivial | assumption | (simp; done) | (simp; omega))) | (refine Sx.mk ?_ ?_; · omega) | refine Fa.mk (fun _ => ?_) | refine Im.mk (fun _ => ?_) | apply Lw.go | refine g_cond ?_ | refine g_guard ?_ | refine g_keep ?_ | refine g_pass ?_ | refine g_fin ?_ | (apply g_ap; exact rfl; exact rfl; assumption)
      · refine at_foldP J0 hJ0 (_, _, ints (xs.take (i + 1))) (goT_at hi (by assumption) k2).symm ?_
        refine at_foldP D0 hD0 (L (i + 1)) trivial ?_
        exact y_exit2
      · refine at_foldP (I (i + 1)) (hI _) (_, _, ints (xs.take (i + 1))) ⟨rfl, hk3 (by assumption)⟩ ?_
        exact y_next2
    · have hLn : L (i + 1) = L i := by rw [hL]; unfold setL2; split <;> split <;> first | rfl | omega
      repeat' first | rw [hsn] | apply step | (apply g_op; · repeat first | exact Evs.nil | (apply Evs.cons; exact rfl)) | (refine Br.mk (fun _ => ?_) (fun _ => ?_) <;> try (exfalso; omega)) | (refine Sd.mk ?_ ?_; · ((repeat' apply And.intro) <;> first | omega | trivial | assumption | (simp; done) | (simp; omega))) | (refine Sx.mk ?_ ?_; · omega) | refine Fa.mk (fun _ => ?_) | refine Im.mk (fun _ => ?_) | apply Lw.go | refine g_cond ?_ | refine g_guard ?_ | refine g_keep ?_ | refine g_pass ?_ | refine g_fin ?_ | (apply g_ap; exact rfl; exact rfl; assumption)
      · refine at_foldP J0 hJ0 (_, _, ints (xs.take (i + 1))) (goT_at hi (by assumption) k2).symm ?_
        refine at_foldP D0 hD0 (L i) trivial ?_
        exact y_exit2
      · rw [← hLn]
        refine at_foldP (I (i + 1)) (hI _) (_, _, ints (xs.take (i + 1))) ⟨rfl, hk3 (by assumption)⟩ ?_
        exact y_next2
  · refine at_openP (I _) (hI _) ?_
    rintro ⟨p', c', G⟩ ⟨k1, k2⟩
    dsimp only at k1 k2 ⊢
    rw [List.take_length] at k1 k2
    obtain rfl : G = goT a0 xs := by rw [k1, goT_no k2]
    repeat' first | apply step | (apply g_op; · repeat first | exact Evs.nil | (apply Evs.cons; exact rfl)) | (refine Br.mk (fun _ => ?_) (fun _ => ?_) <;> try (exfalso; omega)) | (refine Sd.mk ?_ ?_; · ((repeat' apply And.intro) <;> first | omega | trivial | assumption | (simp; done) | (simp; omega))) | (refine Sx.mk ?_ ?_; · omega) | refine Fa.mk (fun _ => ?_) | refine Im.mk (fun _ => ?_) | apply Lw.go | refine g_cond ?_ | refine g_guard ?_ | refine g_keep ?_ | refine g_pass ?_ | refine g_fin ?_ | (apply g_ap; exact rfl; exact rfl; assumption)
    dsimp only [List.nil_append]
    refine at_loopS (ι := Nat × (Option Addr × Nat) × (Option Addr × Nat)) (E := fun j => [(7, .pointer (some ⟨u7, 0, none⟩)), (8, .pointer (some ⟨u8, 0, none⟩)), (9, .pointer (some ⟨u9, 0, none⟩)), (12, .slice j.2.1.1 (L j.1).length j.2.1.2), (14, .pointer (some ⟨xg, 0, none⟩)), (15, .slice j.2.2.1 (ints (xs.take j.1)).length j.2.2.2), (17, .int .i64 (((Kx xs j.1 : Nat) : Int) - 1)), (18, .int .i64 (j.1 : Int))])
      (Δ := fun j => own kBool j.2.1.1 j.2.1.2 (L j.1) :: own (kInt .i64) j.2.2.1 j.2.2.2 (ints (xs.take j.1)) :: pt xg [.slice p' (goT a0 xs).length c'] 0 :: own (kInt .i64) p' c' (goT a0 xs) :: pt u9 [.int .i64 dr] 0 :: pt u8 [.int .i64 pu] 0 :: pt u7 [.int .i64 a0] 0 :: F)
      (P := fun j => j.1 ≤ xs.length ∧ ∀ y ∈ xs.take j.1, ((y : Nat) : Int) ≠ a0) (μ := fun j => xs.length + 1 - j.1) (0, (q2, d2), (none, 0)) ⟨Nat.zero_le _, by simp⟩ ?_
    rintro ⟨j, ⟨qa, da⟩, ⟨qb, db⟩⟩ ⟨hj, hno⟩
    dsimp only at hj hno ⊢
    have hl0 := ints_len (xs := xs) (i := j) hj
    have hLj := hLl j
    have hGl := goT_len a0 xs
    have hkb := hseq.kx hLl j hj
    repeat' first | apply step | (apply g_op; · repeat first | exact Evs.nil | (apply Evs.cons; exact rfl)) | (refine Br.mk (fun _ => ?_) (fun _ => ?_) <;> try (exfalso; omega)) | (refine Sd.mk ?_ ?_; · ((repeat' apply And.intro) <;> first | omega | trivial | assumption | (simp; done) | (simp; omega))) | (refine Sx.mk ?_ ?_; · omega) | refine Fa.mk (fun _ => ?_) | refine Im.mk (fun _ => ?_) | apply Lw.go | refine g_cond ?_ | refine g_guard ?_ | refine g_keep ?_ | refine g_pass ?_ | refine g_fin ?_ | (apply g_ap; exact rfl; exact rfl; assumption)
    rw [show ((Kx xs j : Nat) : Int) - 1 + 1 = ((Kx xs j : Nat) : Int) by omega]
    refine at_callR (r06_Next_spec (l := L j) (k := ((Kx xs j : Nat) : Int)) (by omega)) ?_
    intro y hy
    rw [Int.toNat_natCast] at hy
    by_cases hlt : j < xs.length
    · have hn := hseq.nx j hlt
      obtain rfl : y = ((xs[j] : Nat) : Int) := hy.eq (.inl ⟨_, rfl, hn⟩)
      have hnl := hn.lt
      have hsn := ints_snoc hlt
      have hl1 := ints_len (xs := xs) (i := j + 1) (by omega)
      have hkx : ((xs[j] : Nat) : Int) = ((Kx xs (j + 1) : Nat) : Int) - 1 := by rw [Kx_s hlt]; omega
      have hk3 : ((xs[j] : Nat) : Int) ≠ a0 → ∀ y ∈ xs.take (j + 1), ((y : Nat) : Int) ≠ a0 := fun h y hy => by
        rw [← List.take_append_getElem hlt] at hy
        rcases List.mem_append.1 hy with g | g
        · exact hno y g
        · rw [List.mem_singleton.1 g]; exact h
      by_cases hi2 : j = 2
      · have hLn : L (j + 1) = setB (setB (L j) [pu] true) [dr] false := by rw [hL, hi2]; exact hS1
        repeat' first | rw [hsn] | apply step | (apply g_op; · repeat first | exact Evs.nil | (apply Evs.cons; exact rfl)) | (refine Br.mk (fun _ => ?_) (fun _ => ?_) <;> try (exfalso; omega)) | (refine Sd.mk ?_ ?_; · ((repeat' apply And.intro) <;> first | omega | trivial | assumption | (simp; done) | (simp; omega))) | (refine Sx.mk ?_ ?_; · omega) | refine Fa.mk (fun _ => ?_) | refine Im.mk (fun _ => ?_) | apply Lw.go | refine g_cond ?_ | refine g_guard ?_ | refine g_keep ?_ | refine g_pass ?_ | refine g_fin ?_ | (apply g_ap; exact rfl; exact rfl; assumption)
        rename_i xl
        refine av_lit xl 1 pu hp ?_
        refine at_callR (r06_Set_L (l := L j) (r := [pu]) (so := true) (by omega) (by simp)) ?_
        intro q5 d5 L5 hL5
        have hL5l : L5.length = (L j).length := by rw [hL5, setB_len]
        repeat' first | apply step | (apply g_op; · repeat first | exact Evs.nil | (apply Evs.cons; exact rfl)) | (refine Br.mk (fun _ => ?_) (fun _ => ?_) <;> try (exfalso; omega)) | (refine Sd.mk ?_ ?_; · ((repeat' apply And.intro) <;> first | omega | trivial | assumption | (simp; done) | (simp; omega))) | (refine Sx.mk ?_ ?_; · omega) | refine Fa.mk (fun _ => ?_) | refine Im.mk (fun _ => ?_) | apply Lw.go | refine g_cond ?_ | refine g_guard ?_ | refine g_keep ?_ | refine g_pass ?_ | refine g_fin ?_ | (apply g_ap; exact rfl; exact rfl; assumption)
        rename_i xm
        refine av_lit xm 1 dr hd ?_
        refine at_callR (r06_Set_L (l := L5) (r := [dr]) (so := false) (by omega) (by simp)) ?_
        intro q6 d6 L6 hL6
        obtain rfl : L6 = L (j + 1) := by rw [hL6, hL5, hLn]
        repeat' first | apply step | (apply g_op; · repeat first | exact Evs.nil | (apply Evs.cons; exact rfl)) | (refine Br.mk (fun _ => ?_) (fun _ => ?_) <;> try (exfalso; omega)) | (refine Sd.mk ?_ ?_; · ((repeat' apply And.intro) <;> first | omega | trivial | assumption | (simp; done) | (simp; omega))) | (refine Sx.mk ?_ ?_; · omega) | refine Fa.mk (fun _ => ?_) | refine Im.mk (fun _ => ?_) | apply Lw.go | refine g_cond ?_ | refine g_guard ?_ | refine g_keep ?_ | refine g_pass ?_ | refine g_fin ?_ | (apply g_ap; exact rfl; exact rfl; assumption)
        · have hGW := goT_at hlt (by assumption) hno
          refine at_callR (r01_Same_spec (a := goT a0 xs) (b := ints (xs.take (j + 1))) (by omega)) ?_
          refine ⟨fun _ => ?_, fun h => absurd hGW h⟩
          repeat' first | apply step | (apply g_op; · repeat first | exact Evs.nil | (apply Evs.cons; exact rfl)) | (refine Br.mk (fun _ => ?_) (fun _ => ?_) <;> try (exfalso; omega)) | (refine Sd.mk ?_ ?_; · ((repeat' apply And.intro) <;> first | omega | trivial | assumption | (simp; done) | (simp; omega))) | (refine Sx.mk ?_ ?_; · omega) | refine Fa.mk (fun _ => ?_) | refine Im.mk (fun _ => ?_) | apply Lw.go | refine g_cond ?_ | refine g_guard ?_ | refine g_keep ?_ | refine g_pass ?_ | refine g_fin ?_ | (apply g_ap; exact rfl; exact rfl; assumption)
          exact fin hR
        · rw [hkx]
          refine lp_next (j + 1, (_, _), (_, _)) ⟨by dsimp only; omega, hk3 (by assumption)⟩ (by dsimp only; omega)
      · have hLn : L (j + 1) = L j := by rw [hL]; unfold setL2; split <;> split <;> first | rfl | omega
        repeat' first | rw [hsn] | apply step | (apply g_op; · repeat first | exact Evs.nil | (apply Evs.cons; exact rfl)) | (refine Br.mk (fun _ => ?_) (fun _ => ?_) <;> try (exfalso; omega)) | (refine Sd.mk ?_ ?_; · ((repeat' apply And.intro) <;> first | omega | trivial | assumption | (simp; done) | (simp; omega))) | (refine Sx.mk ?_ ?_; · omega) | refine Fa.mk (fun _ => ?_) | refine Im.mk (fun _ => ?_) | apply Lw.go | refine g_cond ?_ | refine g_guard ?_ | refine g_keep ?_ | refine g_pass ?_ | refine g_fin ?_ | (apply g_ap; exact rfl; exact rfl; assumption)
        · have hGW := goT_at hlt (by assumption) hno
          refine at_callR (r01_Same_spec (a := goT a0 xs) (b := ints (xs.take (j + 1))) (by omega)) ?_
          refine ⟨fun _ => ?_, fun h => absurd hGW h⟩
          repeat' first | apply step | (apply g_op; · repeat first | exact Evs.nil | (apply Evs.cons; exact rfl)) | (refine Br.mk (fun _ => ?_) (fun _ => ?_) <;> try (exfalso; omega)) | (refine Sd.mk ?_ ?_; · ((repeat' apply And.intro) <;> first | omega | trivial | assumption | (simp; done) | (simp; omega))) | (refine Sx.mk ?_ ?_; · omega) | refine Fa.mk (fun _ => ?_) | refine Im.mk (fun _ => ?_) | apply Lw.go | refine g_cond ?_ | refine g_guard ?_ | refine g_keep ?_ | refine g_pass ?_ | refine g_fin ?_ | (apply g_ap; exact rfl; exact rfl; assumption)
          exact fin hR
        · rw [← hLn, hkx]
          refine lp_next (j + 1, (_, _), (_, _)) ⟨by dsimp only; omega, hk3 (by assumption)⟩ (by dsimp only; omega)
    · obtain rfl : j = xs.length := by omega
      obtain rfl : y = -1 := hy.eq (.inr ⟨rfl, hend⟩)
      rw [List.take_length] at hno
      have hGW := goT_no hno
      rw [List.take_length]
      repeat' first | apply step | (apply g_op; · repeat first | exact Evs.nil | (apply Evs.cons; exact rfl)) | (refine Br.mk (fun _ => ?_) (fun _ => ?_) <;> try (exfalso; omega)) | (refine Sd.mk ?_ ?_; · ((repeat' apply And.intro) <;> first | omega | trivial | assumption | (simp; done) | (simp; omega))) | (refine Sx.mk ?_ ?_; · omega) | refine Fa.mk (fun _ => ?_) | refine Im.mk (fun _ => ?_) | apply Lw.go | refine g_cond ?_ | refine g_guard ?_ | refine g_keep ?_ | refine g_pass ?_ | refine g_fin ?_ | (apply g_ap; exact rfl; exact rfl; assumption)
      refine at_callR (r01_Same_spec (a := goT a0 xs) (b := ints xs) (by omega)) ?_
      refine ⟨fun _ => ?_, fun h => absurd hGW h⟩
      repeat' first | apply step | (apply g_op; · repeat first | exact Evs.nil | (apply Evs.cons; exact rfl)) | (refine Br.mk (fun _ => ?_) (fun _ => ?_) <;> try (exfalso; omega)) | (refine Sd.mk ?_ ?_; · ((repeat' apply And.intro) <;> first | omega | trivial | assumption | (simp; done) | (simp; omega))) | (refine Sx.mk ?_ ?_; · omega) | refine Fa.mk (fun _ => ?_) | refine Im.mk (fun _ => ?_) | apply Lw.go | refine g_cond ?_ | refine g_guard ?_ | refine g_keep ?_ | refine g_pass ?_ | refine g_fin ?_ | (apply g_ap; exact rfl; exact rfl; assumption)
      exact fin hR
  · intro x hx
    match x, hx with
    | .norm, hx => exact absurd rfl hx
    | .ret, _ => exact at_no
    | .exit (k + 1), _ => exact at_no
    | .exit 0, _ =>
    refine at_openP J0 hJ0 ?_
    rintro ⟨p', c', G⟩ rfl
    dsimp only
    repeat' first | apply step | (apply g_op; · repeat first | exact Evs.nil | (apply Evs.cons; exact rfl)) | (refine Br.mk (fun _ => ?_) (fun _ => ?_) <;> try (exfalso; omega)) | (refine Sd.mk ?_ ?_; · ((repeat' apply And.intro) <;> first | omega | trivial | assumption | (simp; done) | (simp; omega))) | (refine Sx.mk ?_ ?_; · omega) | refine Fa.mk (fun _ => ?_) | refine Im.mk (fun _ => ?_) | apply Lw.go | refine g_cond ?_ | refine g_guard ?_ | refine g_keep ?_ | refine g_pass ?_ | refine g_fin ?_ | (apply g_ap; exact rfl; exact rfl; assumption)
    dsimp only [List.nil_append]
    refine at_loopS (ι := Nat × (Option Addr × Nat) × (Option Addr × Nat)) (E := fun j => [(7, .pointer (some ⟨u7, 0, none⟩)), (8, .pointer (some ⟨u8, 0, none⟩)), (9, .pointer (some ⟨u9, 0, none⟩)), (12, .slice j.2.1.1 (L j.1).length j.2.1.2), (14, .pointer (some ⟨xg, 0, none⟩)), (15, .slice j.2.2.1 (ints (xs.take j.1)).length j.2.2.2), (17, .int .i64 (((Kx xs j.1 : Nat) : Int) - 1)), (18, .int .i64 (j.1 : Int))])
      (Δ := fun j => own kBool j.2.1.1 j.2.1.2 (L j.1) :: own (kInt .i64) j.2.2.1 j.2.2.2 (ints (xs.take j.1)) :: pt xg [.slice p' (goT a0 xs).length c'] 0 :: own (kInt .i64) p' c' (goT a0 xs) :: pt u9 [.int .i64 dr] 0 :: pt u8 [.int .i64 pu] 0 :: pt u7 [.int .i64 a0] 0 :: F)
      (P := fun j => j.1 ≤ xs.length ∧ ∀ y ∈ xs.take j.1, ((y : Nat) : Int) ≠ a0) (μ := fun j => xs.length + 1 - j.1) (0, (q2, d2), (none, 0)) ⟨Nat.zero_le _, by simp⟩ ?_
    rintro ⟨j, ⟨qa, da⟩, ⟨qb, db⟩⟩ ⟨hj, hno⟩
    dsimp only at hj hno ⊢
    have hl0 := ints_len (xs := xs) (i := j) hj
    have hLj := hLl j
    have hGl := goT_len a0 xs
    have hkb := hseq.kx hLl j hj
    repeat' first | apply step | (apply g_op; · repeat first | exact Evs.nil | (apply Evs.cons; exact rfl)) | (refine Br.mk (fun _ => ?_) (fun _ => ?_) <;> try (exfalso; omega)) | (refine Sd.mk ?_ ?_; · ((repeat' apply And.intro) <;> first | omega | trivial | assumption | (simp; done) | (simp; omega))) | (refine Sx.mk ?_ ?_; · omega) | refine Fa.mk (fun _ => ?_) | refine Im.mk (fun _ => ?_) | apply Lw.go | refine g_cond ?_ | refine g_guard ?_ | refine g_keep ?_ | refine g_pass ?_ | refine g_fin ?_ | (apply g_ap; exact rfl; exact rfl; assumption)
    rw [show ((Kx xs j : Nat) : Int) - 1 + 1 = ((Kx xs j : Nat) : Int) by omega]
    refine at_callR (r06_Next_spec (l := L j) (k := ((Kx xs j : Nat) : Int)) (by omega)) ?_
    intro y hy
    rw [Int.toNat_natCast] at hy
    by_cases hlt : j < xs.length
    · have hn := hseq.nx j hlt
      obtain rfl : y = ((xs[j] : Nat) : Int) := hy.eq (.inl ⟨_, rfl, hn⟩)
      have hnl := hn.lt
      have hsn := ints_snoc hlt
      have hl1 := ints_len (xs := xs) (i := j + 1) (by omega)
      have hkx : ((xs[j] : Nat) : Int) = ((Kx xs (j + 1) : Nat) : Int) - 1 := by rw [Kx_s hlt]; omega
      have hk3 : ((xs[j] : Nat) : Int) ≠ a0 → ∀ y ∈ xs.take (j + 1), ((y : Nat) : Int) ≠ a0 := fun h y hy => by
        rw [← List.take_append_getElem hlt] at hy
        rcases List.mem_append.1 hy with g | g
        · exact hno y g
        · rw [List.mem_singleton.1 g]; exact h
      by_cases hi2 : j = 2
      · have hLn : L (j + 1) = setB (setB (L j) [pu] true) [dr] false := by rw [hL, hi2]; exact hS1
        repeat' first | rw [hsn] | apply step | (apply g_op; · repeat first | exact Evs.nil | (apply Evs.cons; exact rfl)) | (refine Br.mk (fun _ => ?_) (fun _ => ?_) <;> try (exfalso; omega)) | (refine Sd.mk ?_ ?_; · ((repeat' apply And.intro) <;> first | omega | trivial | assumption | (simp; done) | (simp; omega))) | (refine Sx.mk ?_ ?_; · omega) | refine Fa.mk (fun _ => ?_) | refine Im.mk (fun _ => ?_) | apply Lw.go | refine g_cond ?_ | refine g_guard ?_ | refine g_keep ?_ | refine g_pass ?_ | refine g_fin ?_ | (apply g_ap; exact rfl; exact rfl; assumption)
        rename_i xl
        refine av_lit xl 1 pu hp ?_
        refine at_callR (r06_Set_L (l := L j) (r := [pu]) (so := true) (by omega) (by simp)) ?_
        intro q5 d5 L5 hL5
        have hL5l : L5.length = (L j).length := by rw [hL5, setB_len]
        repeat' first | apply step | (apply g_op; · repeat first | exact Evs.nil | (apply Evs.cons; exact rfl)) | (refine Br.mk (fun _ => ?_) (fun _ => ?_) <;> try (exfalso; omega)) | (refine Sd.mk ?_ ?_; · ((repeat' apply And.intro) <;> first | omega | trivial | assumption | (simp; done) | (simp; omega))) | (refine Sx.mk ?_ ?_; · omega) | refine Fa.mk (fun _ => ?_) | refine Im.mk (fun _ => ?_) | apply Lw.go | refine g_cond ?_ | refine g_guard ?_ | refine g_keep ?_ | refine g_pass ?_ | refine g_fin ?_ | (apply g_ap; exact rfl; exact rfl; assumption)
        rename_i xm
        refine av_lit xm 1 dr hd ?_
        refine at_callR (r06_Set_L (l := L5) (r := [dr]) (so := false) (by omega) (by simp)) ?_
        intro q6 d6 L6 hL6
        obtain rfl : L6 = L (j + 1) := by rw [hL6, hL5, hLn]
        repeat' first | apply step | (apply g_op; · repeat first | exact Evs.nil | (apply Evs.cons; exact rfl)) | (refine Br.mk (fun _ => ?_) (fun _ => ?_) <;> try (exfalso; omega)) | (refine Sd.mk ?_ ?_; · ((repeat' apply And.intro) <;> first | omega | trivial | assumption | (simp; done) | (simp; omega))) | (refine Sx.mk ?_ ?_; · omega) | refine Fa.mk (fun _ => ?_) | refine Im.mk (fun _ => ?_) | apply Lw.go | refine g_cond ?_ | refine g_guard ?_ | refine g_keep ?_ | refine g_pass ?_ | refine g_fin ?_ | (apply g_ap; exact rfl; exact rfl; assumption)
        · have hGW := goT_at hlt (by assumption) hno
          refine at_callR (r01_Same_spec (a := goT a0 xs) (b := ints (xs.take (j + 1))) (by omega)) ?_
          refine ⟨fun _ => ?_, fun h => absurd hGW h⟩
          repeat' first | apply step | (apply g_op; · repeat first | exact Evs.nil | (apply Evs.cons; exact rfl)) | (refine Br.mk (fun _ => ?_) (fun _ => ?_) <;> try (exfalso; omega)) | (refine Sd.mk ?_ ?_; · ((repeat' apply And.intro) <;> first | omega | trivial | assumption | (simp; done) | (simp; omega))) | (refine Sx.mk ?_ ?_; · omega) | refine Fa.mk (fun _ => ?_) | refine Im.mk (fun _ => ?_) | apply Lw.go | refine g_cond ?_ | refine g_guard ?_ | refine g_keep ?_ | refine g_pass ?_ | refine g_fin ?_ | (apply g_ap; exact rfl; exact rfl; assumption)
          exact fin hR
        · rw [hkx]
          refine lp_next (j + 1, (_, _), (_, _)) ⟨by dsimp only; omega, hk3 (by assumption)⟩ (by dsimp only; omega)
      · have hLn : L (j + 1) = L j := by rw [hL]; unfold setL2; split <;> split <;> first | rfl | omega
        repeat' first | rw [hsn] | apply step | (apply g_op; · repeat first | exact Evs.nil | (apply Evs.cons; exact rfl)) | (refine Br.mk (fun _ => ?_) (fun _ => ?_) <;> try (exfalso; omega)) | (refine Sd.mk ?_ ?_; · ((repeat' apply And.intro) <;> first | omega | trivial | assumption | (simp; done) | (simp; omega))) | (refine Sx.mk ?_ ?_; · omega) | refine Fa.mk (fun _ => ?_) | refine Im.mk (fun _ => ?_) | apply Lw.go | refine g_cond ?_ | refine g_guard ?_ | refine g_keep ?_ | refine g_pass ?_ | refine g_fin ?_ | (apply g_ap; exact rfl; exact rfl; assumption)
        · have hGW := goT_at hlt (by assumption) hno
          refine at_callR (r01_Same_spec (a := goT a0 xs) (b := ints (xs.take (j + 1))) (by omega)) ?_
          refine ⟨fun _ => ?_, fun h => absurd hGW h⟩
          repeat' first | apply step | (apply g_op; · repeat first | exact Evs.nil | (apply Evs.cons; exact rfl)) | (refine Br.mk (fun _ => ?_) (fun _ => ?_) <;> try (exfalso; omega)) | (refine Sd.mk ?_ ?_; · ((repeat' apply And.intro) <;> first | omega | trivial | assumption | (simp; done) | (simp; omega))) | (refine Sx.mk ?_ ?_; · omega) | refine Fa.mk (fun _ => ?_) | refine Im.mk (fun _ => ?_) | apply Lw.go | refine g_cond ?_ | refine g_guard ?_ | refine g_keep ?_ | refine g_pass ?_ | refine g_fin ?_ | (apply g_ap; exact rfl; exact rfl; assumption)
          exact fin hR
        · rw [← hLn, hkx]
          refine lp_next (j + 1, (_, _), (_, _)) ⟨by dsimp only; omega, hk3 (by assumption)⟩ (by dsimp only; omega)
    · obtain rfl : j = xs.length := by omega
      obtain rfl : y = -1 := hy.eq (.inr ⟨rfl, hend⟩)
      rw [List.take_length] at hno
      have hGW := goT_no hno
      rw [List.take_length]
      repeat' first | apply step | (apply g_op; · repeat first | exact Evs.nil | (apply Evs.cons; exact rfl)) | (refine Br.mk (fun _ => ?_) (fun _ => ?_) <;> try (exfalso; omega)) | (refine Sd.mk ?_ ?_; · ((repeat' apply And.intro) <;> first | omega | trivial | assumption | (simp; done) | (simp; omega))) | (refine Sx.mk ?_ ?_; · omega) | refine Fa.mk (fun _ => ?_) | refine Im.mk (fun _ => ?_) | apply Lw.go | refine g_cond ?_ | refine g_guard ?_ | refine g_keep ?_ | refine g_pass ?_ | refine g_fin ?_ | (apply g_ap; exact rfl; exact rfl; assumption)
      refine at_callR (r01_Same_spec (a := goT a0 xs) (b := ints xs) (by omega)) ?_
      refine ⟨fun _ => ?_, fun h => absurd hGW h⟩
      repeat' first | apply step | (apply g_op; · repeat first | exact Evs.nil | (apply Evs.cons; exact rfl)) | (refine Br.mk (fun _ => ?_) (fun _ => ?_) <;> try (exfalso; omega)) | (refine Sd.mk ?_ ?_; · ((repeat' apply And.intro) <;> first | omega | trivial | assumption | (simp; done) | (simp; omega))) | (refine Sx.mk ?_ ?_; · omega) | refine Fa.mk (fun _ => ?_) | refine Im.mk (fun _ => ?_) | apply Lw.go | refine g_cond ?_ | refine g_guard ?_ | refine g_keep ?_ | refine g_pass ?_ | refine g_fin ?_ | (apply g_ap; exact rfl; exact rfl; assumption)
      exact fin hR
end Go.AMS

