/- What the functions do, part 1. -/
import Derived.Test.YtialmffcjaechaaDoorCode
import Derived.Test.YtialmffcjaechaaDoorSetLaw
namespace Go.AMS
open Go.AM hiding Kt At WP WL Runs RunsY
open Go.AM.G
set_option linter.unusedVariables false
set_option linter.unusedSimpArgs false
set_option linter.unusedSectionVars false
set_option maxRecDepth 100000
set_option maxHeartbeats 1000000
attribute [local irreducible] AtS AtV AtC AtG FinA Spec Post LP G.At G.WP G.WL pt own fro rdl ro hx mp lrec elt sub

open Go.AM.G.Set
section
/-- A script: picks, where all is cancelled, how many steps there were, how many picks were used. -/
structure Scr where
  l : List Int
  cancel : Int
  steps : Nat
  used : Nat
def Scr.one (s : Scr) : Scr := { s with steps := s.steps + 1 }
structure Scr.ok (s : Scr) : Prop where
  hc : -9223372036854775808 ≤ s.cancel ∧ s.cancel ≤ 9223372036854775807
  hs : s.steps ≤ 1000000000000
  hu : s.used ≤ 1000000000000
  hl : s.l.length ≤ 1000000000
section
variable {b : Nat} {s : Scr} {m : Bool}
end
end
end Go.AMS

namespace Go.AMS
open Go.AM hiding Kt At WP WL Runs RunsY
open Go.AM.G
set_option linter.unusedVariables false
set_option linter.unusedSimpArgs false
set_option linter.unusedSectionVars false
set_option maxRecDepth 100000
set_option maxHeartbeats 1000000
attribute [local irreducible] AtS AtV AtC AtG FinA Spec Post LP G.At G.WP G.WL pt own fro rdl ro hx mp lrec elt sub

open Go.AM.G.Set
section
theorem r01_Same_spec {p q : Option Addr} {c c' : Nat} {a b : List Int} (ha : a.length ≤ 1000000000000) : Spec prog1 n_r01_Same [.slice p a.length c, .slice q b.length c'] [rdl (kInt .i64) p a, rdl (kInt .i64) q b] (fun R => (a = b → R (.bool true) []) ∧ (a ≠ b → R (.bool false) [])) := by
  refine spec_code c_r01_Same rfl ?_; intro n F R hR; unfold F_r01_Same
  repeat' first | apply step | (apply g_op; · repeat first | exact Evs.nil | (apply Evs.cons; exact rfl)) | (refine Br.mk (fun _ => ?_) (fun _ => ?_) <;> try (exfalso; omega)) | (refine Sd.mk ?_ ?_; · ((repeat' apply And.intro) <;> first | omega | trivial | assumption | (simp; done) | (simp; omega))) | (refine Sx.mk ?_ ?_; · omega) | refine Fa.mk (fun _ => ?_) | refine Im.mk (fun _ => ?_) | apply Lw.go | refine g_cond ?_ | refine g_guard ?_ | refine g_keep ?_ | refine g_pass ?_ | refine g_fin ?_ | (apply g_ap; exact rfl; exact rfl; assumption)
  · exact fin (hR.2 (fun h => by subst h; simp at *))
  refine at_loopS (ι := Nat) (E := fun k => [(0, .slice p a.length c), (1, .slice q b.length c'), (5, .int .i64 (k : Int))]) (Δ := fun _ => rdl (kInt .i64) p a :: rdl (kInt .i64) q b :: F) (P := fun k => k ≤ a.length ∧ a.take k = b.take k) (μ := fun k => a.length - k) 0 ⟨Nat.zero_le _, by simp⟩ ?_
  rintro k ⟨hk, he⟩
  have hlen : a.length = b.length := by omega
  dsimp only
  repeat' first | apply step | (apply g_op; · repeat first | exact Evs.nil | (apply Evs.cons; exact rfl)) | (refine Br.mk (fun _ => ?_) (fun _ => ?_) <;> try (exfalso; omega)) | (refine Sd.mk ?_ ?_; · ((repeat' apply And.intro) <;> first | omega | trivial | assumption | (simp; done) | (simp; omega))) | (refine Sx.mk ?_ ?_; · omega) | refine Fa.mk (fun _ => ?_) | refine Im.mk (fun _ => ?_) | apply Lw.go | refine g_cond ?_ | refine g_guard ?_ | refine g_keep ?_ | refine g_pass ?_ | refine g_fin ?_ | (apply g_ap; exact rfl; exact rfl; assumption)
  · refine fin (hR.2 (fun h => ?_))
    subst h
    simp at *
  · refine lp_next (k + 1) ⟨by omega, ?_⟩ (by omega)
    have : a[k]'(by omega) = b[k]'(by omega) := by simpa using ‹¬ _ ≠ _›
    rw [List.take_succ_eq_append_getElem (by omega), List.take_succ_eq_append_getElem (by omega), he, this]
  · refine fin (hR.1 ?_)
    rw [List.take_of_length_le (by omega), List.take_of_length_le (by omega)] at he
    exact he
end
end Go.AMS

namespace Go.AMS
open Go.AM
set_option linter.unusedVariables false
set_option linter.unusedSimpArgs false

def natOf (f : Nat → Bool) : Nat → Nat
  | 0 => 0
  | n + 1 => 2 ^ n * (f n).toNat + natOf f n
theorem natOf_lt (f : Nat → Bool) : ∀ n, natOf f n < 2 ^ n
  | 0 => by simp [natOf]
  | n + 1 => by
    have := natOf_lt f n
    unfold natOf
    rw [Nat.pow_succ]
    cases f n <;> simp <;> omega
theorem natOf_bit (f : Nat → Bool) (i : Nat) : ∀ n, (natOf f n).testBit i = (decide (i < n) && f i)
  | 0 => by simp [natOf]
  | n + 1 => by
    unfold natOf
    rw [Nat.testBit_two_pow_mul_add _ (natOf_lt f n)]
    split
    · rename_i h; rw [natOf_bit f i n, decide_eq_true h, decide_eq_true (show i < n + 1 by omega)]
    · rename_i h
      by_cases h2 : i = n
      · subst h2; cases hf : f i <;> simp
      · rw [decide_eq_false (by omega)]
        have h3 : i - n = (i - n - 1) + 1 := by omega
        rw [h3]
        cases f n <;> simp [Nat.testBit_succ]
def word (l : List Bool) (j : Nat) : Nat := natOf (fun i => l.getD (64 * j + i) false) 64
theorem word_bit (l : List Bool) (j i : Nat) : (word l j).testBit i = (decide (i < 64) && l.getD (64 * j + i) false) := natOf_bit _ _ _
theorem word_lt (l : List Bool) (j : Nat) : word l j < 18446744073709551616 := natOf_lt _ 64
def words (l : List Bool) : List Int := (List.range ((l.length + 63) / 64)).map fun j => ((word l j : Nat) : Int)
theorem words_len (l : List Bool) : (words l).length = (l.length + 63) / 64 := by unfold words; simp
theorem words_get? (l : List Bool) (j : Nat) : (words l)[j]? = if j < (l.length + 63) / 64 then some ((word l j : Nat) : Int) else none := by
  unfold words
  rw [List.getElem?_map]
  split
  · rename_i h; rw [List.getElem?_range h]; rfl
  · rename_i h; rw [List.getElem?_eq_none (by simp; omega)]; rfl
theorem words_get {l : List Bool} {j : Nat} (h : j < (words l).length) : (words l)[j] = ((word l j : Nat) : Int) := by
  have h1 := words_get? l j
  rw [words_len] at h
  rw [if_pos h, List.getElem?_eq_getElem (by rw [words_len]; exact h)] at h1
  exact Option.some.inj h1
theorem getD_set {l : List Bool} {k i : Nat} {b : Bool} (hk : k < l.length) : (l.set k b).getD i false = if i = k then b else l.getD i false := by
  rw [List.getD_eq_getElem?_getD, List.getElem?_set, List.getD_eq_getElem?_getD]
  by_cases h : k = i
  · subst h; rw [if_pos rfl, if_pos hk, if_pos rfl]; rfl
  · rw [if_neg h, if_neg (fun q : i = k => h q.symm)]
theorem word_set {l : List Bool} {k : Nat} {b : Bool} (hk : k < l.length) {x : Nat} (hx : ∀ i, x.testBit i = (decide (i < 64) && (if i = k % 64 then b else (word l (k / 64)).testBit i))) (j : Nat) : word (l.set k b) j = if j = k / 64 then x else word l j := by
  apply Nat.eq_of_testBit_eq
  intro i
  rw [word_bit, getD_set hk]
  by_cases h3 : i < 64
  · rw [decide_eq_true h3, Bool.true_and]
    by_cases h : j = k / 64
    · rw [if_pos h, hx, decide_eq_true h3, Bool.true_and]
      by_cases h4 : i = k % 64
      · rw [if_pos (by omega), if_pos h4]
      · rw [if_neg (by omega), if_neg h4, word_bit, decide_eq_true h3, Bool.true_and, h]
    · rw [if_neg h, if_neg (by omega), word_bit, decide_eq_true h3, Bool.true_and]
  · rw [decide_eq_false h3, Bool.false_and]
    by_cases h : j = k / 64
    · rw [if_pos h, hx, decide_eq_false h3, Bool.false_and]
    · rw [if_neg h, word_bit, decide_eq_false h3, Bool.false_and]
theorem words_set {l : List Bool} {k : Nat} {b : Bool} (hk : k < l.length) {x : Nat} (hx : ∀ i, x.testBit i = (decide (i < 64) && (if i = k % 64 then b else (word l (k / 64)).testBit i))) : words (l.set k b) = (words l).set (k / 64) ((x : Nat) : Int) := by
  apply List.ext_getElem?
  intro j
  rw [words_get?, List.getElem?_set, words_get?, words_len, List.length_set, word_set hk hx]
  by_cases h : j < (l.length + 63) / 64
  · rw [if_pos h]
    by_cases h2 : j = k / 64
    · rw [if_pos h2, if_pos h2.symm, if_pos (by omega)]
    · rw [if_neg h2, if_neg (fun q => h2 q.symm), if_pos h]
  · rw [if_neg h]
    by_cases h2 : k / 64 = j
    · rw [if_pos h2, if_neg (by omega)]
    · rw [if_neg h2, if_neg h]
theorem words_put {l : List Bool} {k : Nat} (hk : k < l.length) : words (l.set k true) = (words l).set (k / 64) ((word l (k / 64) ||| 2 ^ (k % 64) : Nat) : Int) := by
  refine words_set hk fun i => ?_
  rw [Nat.testBit_or, Nat.testBit_two_pow, word_bit]
  by_cases h : i = k % 64
  · have : k % 64 < 64 := Nat.mod_lt _ (by omega)
    rw [if_pos h, decide_eq_true (show k % 64 = i from h.symm), decide_eq_true (show i < 64 by omega)]; simp
  · rw [if_neg h, decide_eq_false (show ¬ k % 64 = i from fun q => h q.symm)]
    cases decide (i < 64) <;> simp
theorem words_drop {l : List Bool} {k : Nat} (hk : k < l.length) : words (l.set k false) = (words l).set (k / 64) ((word l (k / 64) &&& (18446744073709551615 - 2 ^ (k % 64)) : Nat) : Int) := by
  refine words_set hk fun i => ?_
  have hm : k % 64 < 64 := Nat.mod_lt _ (by omega)
  have hp : 2 ^ (k % 64) < 2 ^ 64 := Nat.pow_lt_pow_right (by omega) hm
  have e : 18446744073709551615 - 2 ^ (k % 64) = 2 ^ 64 - (2 ^ (k % 64) + 1) := by
    have : (2 : Nat) ^ 64 = 18446744073709551616 := by decide
    omega
  rw [Nat.testBit_and, e, Nat.testBit_two_pow_sub_succ hp, Nat.testBit_two_pow, word_bit]
  by_cases h : i = k % 64
  · rw [if_pos h, decide_eq_true (show k % 64 = i from h.symm)]; simp
  · rw [if_neg h, decide_eq_false (show ¬ k % 64 = i from fun q => h q.symm)]
    cases decide (i < 64) <;> simp
theorem pow64_lt (k : Nat) : 2 ^ (k % 64) < 18446744073709551616 := Nat.pow_lt_pow_right (m := k % 64) (n := 64) (by omega) (Nat.mod_lt _ (by omega))
theorem word_shift (l : List Bool) (k i : Nat) : (word l (k / 64) / 2 ^ (k % 64)).testBit i = (decide (k % 64 + i < 64) && l.getD (k + i) false) := by
  rw [Nat.testBit_div_two_pow, word_bit]
  have e : 64 * (k / 64) + (i + k % 64) = k + i := by omega
  rw [e, Nat.add_comm i]
theorem has_bit (l : List Bool) (k : Nat) : (word l (k / 64) / 2 ^ (k % 64)) % 2 = 1 ↔ l.getD k false = true := by
  have h := word_shift l k 0
  have hm : k % 64 < 64 := Nat.mod_lt _ (by omega)
  rw [Nat.testBit_zero, Nat.add_zero, Nat.add_zero, decide_eq_true hm, Bool.true_and] at h
  rw [← h]; simp

/-- The next one that is there. -/
structure Nx (l : List Bool) (k : Nat) (i : Nat) : Prop where
  ge : k ≤ i
  lt : i < l.length
  is : l.getD i false = true
  no : ∀ j, k ≤ j → j < i → l.getD j false = false
def Nn (l : List Bool) (k : Nat) : Prop := ∀ j, k ≤ j → l.getD j false = false
theorem Nx.eq {l : List Bool} {k i j : Nat} (a : Nx l k i) (b : Nx l k j) : i = j := by
  rcases Nat.lt_trichotomy i j with h | h | h
  · have := b.no i a.ge h; rw [a.is] at this; cases this
  · exact h
  · have := a.no j b.ge h; rw [b.is] at this; cases this
theorem Nx.not {l : List Bool} {k i : Nat} (a : Nx l k i) (b : Nn l k) : False := by have := b i a.ge; rw [a.is] at this; cases this
/-- As the program says it. -/
def NxZ (l : List Bool) (k : Nat) (x : Int) : Prop := (∃ i : Nat, x = i ∧ Nx l k i) ∨ (x = -1 ∧ Nn l k)
theorem NxZ.eq {l : List Bool} {k : Nat} {x y : Int} (a : NxZ l k x) (b : NxZ l k y) : x = y := by
  rcases a with ⟨i, rfl, h1⟩ | ⟨rfl, h1⟩ <;> rcases b with ⟨j, rfl, h2⟩ | ⟨rfl, h2⟩
  · rw [h1.eq h2]
  · exact (h1.not h2).elim
  · exact (h2.not h1).elim
  · rfl
/-- A word that is not 0: the least bit is the next one. -/
theorem next_some {l : List Bool} {k0 k : Nat} (h0 : k0 ≤ k) (hno : ∀ j, k0 ≤ j → j < k → l.getD j false = false) (hx : word l (k / 64) / 2 ^ (k % 64) ≠ 0) :
    Nx l k0 (k + Go.Lib.ctz 64 (word l (k / 64) / 2 ^ (k % 64))) := by
  have hlt : word l (k / 64) / 2 ^ (k % 64) < 2 ^ 64 := Nat.lt_of_le_of_lt (Nat.div_le_self _ _) (word_lt l _)
  have e : Go.Lib.ctz 64 (word l (k / 64) / 2 ^ (k % 64)) = Go.Lib.ctzFrom 64 (word l (k / 64) / 2 ^ (k % 64)) := by unfold Go.Lib.ctz; rw [if_neg hx]
  rw [e]
  obtain ⟨m, h1, h2⟩ := Go.Lib.ctzFrom_spec 64 _ (Nat.pos_of_ne_zero hx) hlt
  generalize hc : Go.Lib.ctzFrom 64 (word l (k / 64) / 2 ^ (k % 64)) = c at *
  have hb : ∀ i, i < c → l.getD (k + i) false = false ∨ 64 ≤ k % 64 + i := fun i hi => by
    have := word_shift l k i
    rw [h1, Nat.testBit_two_pow_mul] at this
    rw [decide_eq_false (by omega)] at this
    simp only [Bool.false_and] at this
    by_cases q : k % 64 + i < 64
    · rw [decide_eq_true q, Bool.true_and] at this; exact .inl this.symm
    · exact .inr (by omega)
  have hc1 : (decide (k % 64 + c < 64) && l.getD (k + c) false) = true := by
    rw [← word_shift l k c, h1, Nat.testBit_two_pow_mul]
    simp [Nat.testBit_zero]
  rw [Bool.and_eq_true, decide_eq_true_eq] at hc1
  have hlen : k + c < l.length := by
    rcases Nat.lt_or_ge (k + c) l.length with q | q
    · exact q
    · have := hc1.2; rw [List.getD_eq_getElem?_getD, List.getElem?_eq_none q] at this; cases this
  refine ⟨by omega, hlen, hc1.2, fun j g1 g2 => ?_⟩
  by_cases g3 : j < k
  · exact hno j g1 g3
  · have := hb (j - k) (by omega)
    rw [show k + (j - k) = j by omega] at this
    rcases this with q | q
    · exact q
    · omega
theorem next_zero {l : List Bool} {k0 k : Nat} (hno : ∀ j, k0 ≤ j → j < k → l.getD j false = false) (hx : word l (k / 64) / 2 ^ (k % 64) = 0) : ∀ j, k0 ≤ j → j < (k / 64 + 1) * 64 → l.getD j false = false := by
  intro j g1 g2
  by_cases g3 : j < k
  · exact hno j g1 g3
  · have := word_shift l k (j - k)
    rw [hx, Nat.zero_testBit, decide_eq_true (by omega), Bool.true_and, show k + (j - k) = j by omega] at this
    exact this.symm

/-- What is there, from a number on. -/
def elF (l : List Bool) (k : Nat) : List Int := ((List.range l.length).filter fun i => decide (k ≤ i) && l.getD i false).map fun i => ((i : Nat) : Int)
def elB (l : List Bool) : List Int := elF l 0
theorem elF_none {l : List Bool} {k : Nat} (h : Nn l k) : elF l k = [] := by
  unfold elF
  rw [List.filter_eq_nil_iff.2]
  · rfl
  · intro i hi hq
    simp only [Bool.and_eq_true, decide_eq_true_eq] at hq
    rw [h i hq.1] at hq; simp at hq
theorem elF_some {l : List Bool} {k i : Nat} (h : Nx l k i) : elF l k = (i : Int) :: elF l (i + 1) := by
  unfold elF
  have e : List.range l.length = List.range i ++ i :: (List.range (l.length - i - 1)).map (fun x => i + 1 + x) := by
    have h1 : l.length = i + (1 + (l.length - i - 1)) := by have := h.lt; omega
    rw [h1, List.range_add, List.range_add]
    simp [Function.comp_def, Nat.add_assoc]
  rw [e]
  have e1 : (List.range i).filter (fun j => decide (k ≤ j) && l.getD j false) = [] := List.filter_eq_nil_iff.2 (fun j hj hq => by
    simp only [List.mem_range] at hj
    simp only [Bool.and_eq_true, decide_eq_true_eq] at hq
    rw [h.no j hq.1 hj] at hq; simp at hq)
  have e2 : (List.range i).filter (fun j => decide (i + 1 ≤ j) && l.getD j false) = [] := List.filter_eq_nil_iff.2 (fun j hj hq => by
    simp only [List.mem_range] at hj
    simp only [Bool.and_eq_true, decide_eq_true_eq] at hq
    omega)
  have e3 : (decide (k ≤ i) && l.getD i false) = true := by rw [decide_eq_true h.ge, h.is]; rfl
  have e4 : (decide (i + 1 ≤ i) && l.getD i false) = false := by rw [decide_eq_false (by omega)]; rfl
  rw [List.filter_append, List.filter_append, e1, e2, List.filter_cons, List.filter_cons, e3, e4, if_pos rfl, if_neg (by simp)]
  simp only [List.nil_append, List.map_cons, List.cons.injEq, true_and]
  congr 1
  apply List.filter_congr
  intro j hj
  obtain ⟨x, hx, rfl⟩ := List.mem_map.1 hj
  rw [decide_eq_true (show k ≤ i + 1 + x by have := h.ge; omega), decide_eq_true (show i + 1 ≤ i + 1 + x by omega)]
theorem elF_mem {l : List Bool} {k : Nat} {x : Int} : x ∈ elF l k ↔ ∃ i : Nat, x = i ∧ k ≤ i ∧ i < l.length ∧ l.getD i false = true := by
  unfold elF
  rw [List.mem_map]
  constructor
  · rintro ⟨i, hi, rfl⟩
    rw [List.mem_filter, List.mem_range, Bool.and_eq_true, decide_eq_true_eq] at hi
    exact ⟨i, rfl, hi.2.1, hi.1, hi.2.2⟩
  · rintro ⟨i, rfl, h1, h2, h3⟩
    exact ⟨i, List.mem_filter.2 ⟨List.mem_range.2 h2, by rw [decide_eq_true h1, h3]; rfl⟩, rfl⟩
theorem elF_len (l : List Bool) (k : Nat) : (elF l k).length ≤ l.length := by
  unfold elF
  rw [List.length_map]
  exact Nat.le_trans (List.length_filter_le _ _) (by simp)
def clampN (z : Int) : Nat := (max 0 (min z 65536)).toNat
theorem word_rep (m j : Nat) : word (List.replicate m false) j = 0 := by
  apply Nat.eq_of_testBit_eq
  intro i
  rw [word_bit, Nat.zero_testBit]
  have : (List.replicate m false).getD (64 * j + i) false = false := by
    rw [List.getD_eq_getElem?_getD, List.getElem?_replicate]; split <;> rfl
  rw [this, Bool.and_false]
theorem words_rep (m : Nat) : words (List.replicate m false) = List.replicate ((m + 63) / 64) 0 := by
  apply List.ext_getElem?
  intro j
  rw [words_get?, List.length_replicate, List.getElem?_replicate, word_rep]
  rfl
/-- A row with numbers being so. -/
def set1 (l : List Bool) (so : Bool) (x : Int) : List Bool := if 0 ≤ x ∧ x < l.length then l.set x.toNat so else l
def setB (l : List Bool) (r : List Int) (so : Bool) : List Bool := r.foldl (fun l x => set1 l so x) l
theorem set1_len (l : List Bool) (so : Bool) (x : Int) : (set1 l so x).length = l.length := by unfold set1; split <;> simp
theorem setB_len (r : List Int) (so : Bool) : ∀ l : List Bool, (setB l r so).length = l.length := by
  induction r with
  | nil => intro l; rfl
  | cons x r ih => intro l; show (setB (set1 l so x) r so).length = _; rw [ih, set1_len]
theorem setB_snoc {l : List Bool} {so : Bool} {r : List Int} {j : Nat} (h : j < r.length) : setB l (r.take (j + 1)) so = set1 (setB l (r.take j) so) so r[j] := by
  rw [← List.take_append_getElem h]
  unfold setB
  rw [List.foldl_append]; rfl
theorem set1_get (l : List Bool) (so : Bool) (x : Int) (i : Nat) : (set1 l so x).getD i false = if (i : Int) = x ∧ i < l.length then so else l.getD i false := by
  unfold set1
  split
  · rename_i h
    rw [getD_set (by omega)]
    by_cases h2 : i = x.toNat
    · rw [if_pos h2, if_pos ⟨by omega, by omega⟩]
    · rw [if_neg h2, if_neg (by omega)]
  · rename_i h
    rw [if_neg (by omega)]
theorem setB_get (r : List Int) (so : Bool) (i : Nat) : ∀ l : List Bool, (setB l r so).getD i false = if (i : Int) ∈ r ∧ i < l.length then so else l.getD i false := by
  induction r with
  | nil => intro l; simp [setB]
  | cons x r ih =>
    intro l
    show (setB (set1 l so x) r so).getD i false = _
    rw [ih, set1_get, set1_len]
    by_cases h1 : (i : Int) ∈ r
    · by_cases h2 : i < l.length
      · rw [if_pos ⟨h1, h2⟩, if_pos ⟨List.mem_cons_of_mem _ h1, h2⟩]
      · rw [if_neg (by omega), if_neg (by omega), if_neg (by omega)]
    · rw [if_neg (by simp [h1])]
      by_cases h2 : (i : Int) = x ∧ i < l.length
      · rw [if_pos h2, if_pos ⟨by rw [h2.1]; exact List.mem_cons_self .., h2.2⟩]
      · rw [if_neg h2, if_neg (fun q => by
          rcases List.mem_cons.1 q.1 with g | g
          · exact h2 ⟨g, q.2⟩
          · exact h1 g)]
theorem ext_getD {a b : List Bool} (h : a.length = b.length) (hg : ∀ i, i < a.length → a.getD i false = b.getD i false) : a = b := by
  apply List.ext_getElem h
  intro i h1 h2
  have := hg i h1
  rw [List.getD_eq_getElem?_getD, List.getD_eq_getElem?_getD, List.getElem?_eq_getElem h1, List.getElem?_eq_getElem h2] at this
  exact this
theorem elB_mem {l : List Bool} {i : Nat} : (i : Int) ∈ elB l ↔ l.getD i false = true := by
  unfold elB
  rw [elF_mem]
  constructor
  · rintro ⟨j, h, _, _, h2⟩; rw [show i = j by omega]; exact h2
  · intro h
    refine ⟨i, rfl, Nat.zero_le _, ?_, h⟩
    rcases Nat.lt_or_ge i l.length with q | q
    · exact q
    · rw [List.getD_eq_getElem?_getD, List.getElem?_eq_none q] at h; cases h
theorem elB_nat {l : List Bool} {x : Int} (h : x ∈ elB l) : ∃ i : Nat, x = i ∧ i < l.length ∧ l.getD i false = true := by
  obtain ⟨i, h1, _, h2, h3⟩ := elF_mem.1 h; exact ⟨i, h1, h2, h3⟩
theorem elB_len (l : List Bool) : (elB l).length ≤ l.length := elF_len l 0
theorem getD_lt_of {l : List Bool} {i : Nat} (h : l.getD i false = true) : i < l.length := by
  rcases Nat.lt_or_ge i l.length with q | q
  · exact q
  · rw [List.getD_eq_getElem?_getD, List.getElem?_eq_none q] at h; cases h
end Go.AMS

namespace Go.AMS
open Go.AM hiding Kt At WP WL Runs RunsY
open Go.AM.G
set_option linter.unusedVariables false
set_option linter.unusedSectionVars false
set_option linter.unusedSimpArgs false
section
variable {prog : AProg} {rr : Option Nat} {e : Env} {Q : Pst} {k : List Kt} {x y : Operand} {n t : Nat} {Γ : List HP} {d bar : Bool} {r : List AI} {p q : Int}
/-- A number of 64 bits. -/
structure B64 (i : Nat) : Prop where
  lt : i < 18446744073709551616
theorem B64.one : B64 1 := ⟨by decide⟩
theorem B64.or {i j : Nat} (a : B64 i) (b : B64 j) : B64 (i ||| j) := ⟨Nat.or_lt_two_pow (n := 64) a.lt b.lt⟩
theorem B64.and {i : Nat} (a : B64 i) (j : Nat) : B64 (i &&& j) := ⟨Nat.lt_of_le_of_lt Nat.and_le_left a.lt⟩
theorem B64.le {i : Nat} (a : B64 i) : ((i : Nat) : Int) ≤ 18446744073709551615 := by have := a.lt; omega
instance (priority := 1080) v_quoNN {i j : Nat} [a : IsN p i] [b : IsN q j] : Step (AtV n prog rr d bar (some t) (.bin .quo x y) [.int .i64 p, .int .i64 q] r k e Γ Q) (Sd (0 < j ∧ i ≤ 9223372036854775807) (AtS n prog rr (.o d r :: k) .norm ((t, .int .i64 ((i / j : Nat) : Int)) :: e) Γ Q)) :=
  ⟨fun w hE => bin1 hE (by
    have h1 := w.c; have h2 := a.eq; subst h2; have h3 := b.eq; subst h3
    have e1 : ((i / j : Nat) : Int) = (i : Int).tdiv (j : Int) := by
      rw [Int.tdiv_eq_ediv_of_nonneg (by omega), Int.natCast_ediv]
    have h3 : i / j ≤ i := Nat.div_le_self _ _
    rw [b_quo, if_neg (by omega), ← e1]
    clear e1
    generalize i / j = z at *
    rw [w64 (by omega) (by omega)]) w.a⟩
theorem v_subNN {i j : Nat} [a : IsN p i] [b : IsN q j] : Step (AtV n prog rr d bar (some t) (.bin .sub x y) [.int .i64 p, .int .i64 q] r k e Γ Q) (Sd (j ≤ i ∧ i ≤ 9223372036854775807) (AtS n prog rr (.o d r :: k) .norm ((t, .int .i64 ((i - j : Nat) : Int)) :: e) Γ Q)) :=
  ⟨fun w hE => bin1 hE (by
    have h1 := w.c; have h2 := a.eq; subst h2; have h3 := b.eq; subst h3
    rw [b_sub, w64 (by omega) (by omega), Int.ofNat_sub h1.1]) w.a⟩
theorem v_subW : Step (AtV n prog rr d bar (some t) (.bin .sub x y) [.int .i64 p, .int .i64 q] r k e Γ Q) (AtS n prog rr (.o d r :: k) .norm ((t, .int .i64 (IntKind.i64.wrap (p - q))) :: e) Γ Q) :=
  ⟨fun w hE => bin1 hE b_sub w⟩
theorem wrap_in {z : Int} (h1 : -9223372036854775808 ≤ z) (h2 : z ≤ 9223372036854775807) : IntKind.i64.wrap z = z := w64 h1 h2
theorem wrap_lo {z : Int} (h1 : z < -9223372036854775808) (h2 : -9223372036854775900 ≤ z) : IntKind.i64.wrap z = z + 18446744073709551616 := by
  simp [IntKind.wrap, IntKind.bits, IntKind.signed]; omega
instance v_shl1 {m : Nat} [a : IsN q m] : Step (AtV n prog rr d bar (some t) (.bin .shl x y) [.int .u64 1, .int .i64 q] r k e Γ Q) (Sd (m < 64) (AtS n prog rr (.o d r :: k) .norm ((t, .int .u64 ((2 ^ m : Nat) : Int)) :: e) Γ Q)) :=
  ⟨fun w hE => bin1 hE (by
    have h1 := w.c; have h2 := a.eq; subst h2
    have h3 : 2 ^ m < 2 ^ 64 := Nat.pow_lt_pow_right (by omega) h1
    have h4 : (2 : Nat) ^ 64 = 18446744073709551616 := by decide
    rw [b_shl, if_neg (by omega)]
    simp only [IntKind.bits, Int.toNat_natCast]
    rw [show Nat.min m 64 = m from Nat.min_eq_left (by omega), Int.one_mul, IntKind.wrap_u64]
    have h5 : (2 : Int) ^ m = ((2 ^ m : Nat) : Int) := by simp
    rw [h5]
    have h6 : ((2 ^ m : Nat) : Int) % 18446744073709551616 = ((2 ^ m : Nat) : Int) := by
      rw [h4] at h3
      generalize (2 : Nat) ^ m = z at h3 ⊢
      omega
    rw [h6]) w.a⟩
instance v_shrN {i m : Nat} [b : IsN p i] [a : IsN q m] : Step (AtV n prog rr d bar (some t) (.bin .shr x y) [.int .u64 p, .int .i64 q] r k e Γ Q) (Sd (m < 64) (AtS n prog rr (.o d r :: k) .norm ((t, .int .u64 ((i / 2 ^ m : Nat) : Int)) :: e) Γ Q)) :=
  ⟨fun w hE => bin1 hE (by
    have h1 := w.c; have h2 := a.eq; subst h2; have h3 := b.eq; subst h3
    rw [b_shr, if_neg (by omega)]
    simp only [IntKind.bits, Int.toNat_natCast]
    rw [show Nat.min m 64 = m from Nat.min_eq_left (by omega)]
    have h5 : (2 : Int) ^ m = ((2 ^ m : Nat) : Int) := by simp
    rw [h5, Int.fdiv_eq_ediv_of_nonneg _ (Int.natCast_nonneg _), ← Int.natCast_ediv]) w.a⟩
theorem b_andNot {kk : IntKind} : binV .andNot (.int kk p) (.int kk q) = some (.int kk (kk.wrap (BitVec.ofInt kk.bits p &&& ~~~BitVec.ofInt kk.bits q).toNat)) := by simp [binV, ibin, ibits]
theorem bitsN_or {i j : Nat} : binV .or (.int .u64 (i : Int)) (.int .u64 (j : Int)) = some (.int .u64 (Go.bits .or .u64 (i : Int) (j : Int))) := b_or
theorem bitsN_and {i j : Nat} : binV .and (.int .u64 (i : Int)) (.int .u64 (j : Int)) = some (.int .u64 (Go.bits .and .u64 (i : Int) (j : Int))) := b_and
theorem bitsN_andNot {i j : Nat} : binV .andNot (.int .u64 (i : Int)) (.int .u64 (j : Int)) = some (.int .u64 (Go.bits .andNot .u64 (i : Int) (j : Int))) := b_andNot
instance v_orN {i j : Nat} [a : IsN p i] [b : IsN q j] : Step (AtV n prog rr d bar (some t) (.bin .or x y) [.int .u64 p, .int .u64 q] r k e Γ Q) (Sd (B64 i ∧ B64 j) (AtS n prog rr (.o d r :: k) .norm ((t, .int .u64 ((i ||| j : Nat) : Int)) :: e) Γ Q)) :=
  ⟨fun w hE => bin1 hE (by have h1 := w.c; have h2 := a.eq; subst h2; have h3 := b.eq; subst h3; rw [bitsN_or, u64_or_nat i j h1.1.lt h1.2.lt]) w.a⟩
instance v_andN {i j : Nat} [a : IsN p i] [b : IsN q j] : Step (AtV n prog rr d bar (some t) (.bin .and x y) [.int .u64 p, .int .u64 q] r k e Γ Q) (Sd (B64 i ∧ B64 j) (AtS n prog rr (.o d r :: k) .norm ((t, .int .u64 ((i &&& j : Nat) : Int)) :: e) Γ Q)) :=
  ⟨fun w hE => bin1 hE (by have h1 := w.c; have h2 := a.eq; subst h2; have h3 := b.eq; subst h3; rw [bitsN_and, u64_and_nat i j h1.1.lt h1.2.lt]) w.a⟩
instance v_andNotN {i j : Nat} [a : IsN p i] [b : IsN q j] : Step (AtV n prog rr d bar (some t) (.bin .andNot x y) [.int .u64 p, .int .u64 q] r k e Γ Q) (Sd (B64 i ∧ B64 j) (AtS n prog rr (.o d r :: k) .norm ((t, .int .u64 ((i &&& (18446744073709551615 - j) : Nat) : Int)) :: e) Γ Q)) :=
  ⟨fun w hE => bin1 hE (by have h1 := w.c; have h2 := a.eq; subst h2; have h3 := b.eq; subst h3; rw [bitsN_andNot, u64_andNot_nat i j h1.1.lt h1.2.lt]) w.a⟩
theorem av_lit {op : AOp} {dst : Option Nat} {vs : List Value} {F : List HP} (b : Nat) (cap : Nat) (z : Int) (hz : -9223372036854775808 ≤ z ∧ z ≤ 9223372036854775807) (w : AtV n prog rr d bar dst op vs r k e (fro (kInt .i64) (some ⟨b, 0, none⟩) cap [z] :: F) Q) (hs : Ent Γ (pt b [.int .i64 z] 1 :: F) := by
      repeat first | exact Ent.here | apply Ent.there) : AtV n prog rr d bar dst op vs r k e Γ Q :=
  av_freeze w (hs.trans (pt_own rfl inferInstance hz))
theorem Spec.cons {fn : FuncId} {args : List Value} {W W' : (Value → List HP → Prop) → Prop} (h : Spec prog fn args Γ W) (hw : ∀ R, W' R → W R) : Spec prog fn args Γ W' := fun n F hh R hs w => h n F hh R hs (hw R w)
end
end Go.AMS

namespace Go.AMS
open Go.AM hiding Kt At WP WL Runs RunsY
open Go.AM.G
set_option linter.unusedVariables false
set_option linter.unusedSimpArgs false
theorem tz_spec {i : Nat} (hi : i < 18446744073709551616) : Spec prog1 n_math_bits_TrailingZeros64 [.int .u64 (i : Int)] [] (fun R => R (.int .i64 ((Go.Lib.ctz 64 i : Nat) : Int)) []) := by
  intro n F h R hs hw H hH
  exact ⟨1, _, H, h, by simp only [callV, c_math_bits_TrailingZeros64]; unfold tzO; dsimp only; rw [if_pos ⟨by omega, by omega⟩, Int.toNat_natCast], rfl, hH, .refl h, rfl, [], hw, hs⟩
end Go.AMS

namespace Go.AMS
open Go.AM hiding Kt At WP WL Runs RunsY
open Go.AM.G
set_option linter.unusedVariables false
set_option linter.unusedSimpArgs false
set_option linter.unusedSectionVars false
set_option maxRecDepth 100000
set_option maxHeartbeats 1000000
attribute [local irreducible] AtS AtV AtC AtG FinA Spec Post LP G.At G.WP G.WL pt own fro rdl ro hx mp lrec elt sub

/-- A set in a heap, or none. -/
def bt (q : Option Nat) (l : List Bool) : HP := match q with
  | some b => hx fun (w : Option Addr × Nat) => (l.length ≤ 65536, [pt b [.int .i64 (l.length : Int), .slice w.1 (words l).length w.2] 0, own (kInt .u64) w.1 w.2 (words l)])
  | none => hx fun (w : Unit) => (l = [], [])
/-- Its pointer. -/
abbrev btp (q : Option Nat) : Value := .pointer (q.map fun b => ⟨b, 0, none⟩)
instance low_bt {q : Option Nat} {l : List Bool} : Low (bt q l) := by
  cases q <;> exact low_hx fun _ => inferInstance
section
variable {q : Option Nat} {l : List Bool}
theorem bits_Bits_Room_spec : Spec prog1 n_bits_Bits_Room [btp q] [ro (bt q l)] (fun R => R (.int .i64 (l.length : Int)) []) := by
  refine spec_code c_bits_Bits_Room rfl ?_; intro n F R hR; unfold F_bits_Bits_Room
  cases q with
  | none =>
    refine at_openRP (bt none l) rfl ?_
    rintro _ rfl
    unfold btp
    dsimp only [Option.map_none]
    repeat' first | apply step | (apply g_op; · repeat first | exact Evs.nil | (apply Evs.cons; exact rfl)) | (refine Br.mk (fun _ => ?_) (fun _ => ?_) <;> try (exfalso; omega)) | (refine Sd.mk ?_ ?_; · ((repeat' apply And.intro) <;> first | omega | trivial | assumption | (simp; done) | (simp; omega))) | (refine Sx.mk ?_ ?_; · omega) | refine Fa.mk (fun _ => ?_) | refine Im.mk (fun _ => ?_) | apply Lw.go | refine g_cond ?_ | refine g_guard ?_ | refine g_keep ?_ | refine g_pass ?_ | refine g_fin ?_ | (apply g_ap; exact rfl; exact rfl; assumption)
    exact fin hR
  | some b =>
    refine at_openRP (bt (some b) l) rfl ?_
    rintro ⟨p, c⟩ hl
    unfold btp
    dsimp only [Option.map_some] at hl ⊢
    repeat' first | apply step | (apply g_op; · repeat first | exact Evs.nil | (apply Evs.cons; exact rfl)) | (refine Br.mk (fun _ => ?_) (fun _ => ?_) <;> try (exfalso; omega)) | (refine Sd.mk ?_ ?_; · ((repeat' apply And.intro) <;> first | omega | trivial | assumption | (simp; done) | (simp; omega))) | (refine Sx.mk ?_ ?_; · omega) | refine Fa.mk (fun _ => ?_) | refine Im.mk (fun _ => ?_) | apply Lw.go | refine g_cond ?_ | refine g_guard ?_ | refine g_keep ?_ | refine g_pass ?_ | refine g_fin ?_ | (apply g_ap; exact rfl; exact rfl; assumption)
    exact fin hR
theorem bits_Bits_fits_spec {k : Int} : Spec prog1 n_bits_Bits_fits [btp q, .int .i64 k] [ro (bt q l)] (fun R => (0 ≤ k ∧ k < l.length → R (.bool true) []) ∧ (¬ (0 ≤ k ∧ k < l.length) → R (.bool false) [])) := by
  refine spec_code c_bits_Bits_fits rfl ?_; intro n F R hR; unfold F_bits_Bits_fits
  repeat' first | apply step | (apply g_op; · repeat first | exact Evs.nil | (apply Evs.cons; exact rfl)) | (refine Br.mk (fun _ => ?_) (fun _ => ?_) <;> try (exfalso; omega)) | (refine Sd.mk ?_ ?_; · ((repeat' apply And.intro) <;> first | omega | trivial | assumption | (simp; done) | (simp; omega))) | (refine Sx.mk ?_ ?_; · omega) | refine Fa.mk (fun _ => ?_) | refine Im.mk (fun _ => ?_) | apply Lw.go | refine g_cond ?_ | refine g_guard ?_ | refine g_keep ?_ | refine g_pass ?_ | refine g_fin ?_ | (apply g_ap; exact rfl; exact rfl; assumption)
  · first | refine at_callS (bits_Bits_Room_spec (q := q) (l := l)) ?_ | refine at_callR (bits_Bits_Room_spec (q := q) (l := l)) ?_
    repeat' first | apply step | (apply g_op; · repeat first | exact Evs.nil | (apply Evs.cons; exact rfl)) | (refine Br.mk (fun _ => ?_) (fun _ => ?_) <;> try (exfalso; omega)) | (refine Sd.mk ?_ ?_; · ((repeat' apply And.intro) <;> first | omega | trivial | assumption | (simp; done) | (simp; omega))) | (refine Sx.mk ?_ ?_; · omega) | refine Fa.mk (fun _ => ?_) | refine Im.mk (fun _ => ?_) | apply Lw.go | refine g_cond ?_ | refine g_guard ?_ | refine g_keep ?_ | refine g_pass ?_ | refine g_fin ?_ | (apply g_ap; exact rfl; exact rfl; assumption)
    · exact fin (hR.1 (by omega))
    · exact fin (hR.2 (by omega))
  · exact fin (hR.2 (by omega))
theorem bits_Bits_Has_spec {k : Int} : Spec prog1 n_bits_Bits_Has [btp q, .int .i64 k] [ro (bt q l)] (fun R => (0 ≤ k ∧ l.getD k.toNat false = true → R (.bool true) []) ∧ (¬ (0 ≤ k ∧ l.getD k.toNat false = true) → R (.bool false) [])) := by
  refine spec_code c_bits_Bits_Has rfl ?_; intro n F R hR; unfold F_bits_Bits_Has
  repeat' first | apply step | (apply g_op; · repeat first | exact Evs.nil | (apply Evs.cons; exact rfl)) | (refine Br.mk (fun _ => ?_) (fun _ => ?_) <;> try (exfalso; omega)) | (refine Sd.mk ?_ ?_; · ((repeat' apply And.intro) <;> first | omega | trivial | assumption | (simp; done) | (simp; omega))) | (refine Sx.mk ?_ ?_; · omega) | refine Fa.mk (fun _ => ?_) | refine Im.mk (fun _ => ?_) | apply Lw.go | refine g_cond ?_ | refine g_guard ?_ | refine g_keep ?_ | refine g_pass ?_ | refine g_fin ?_ | (apply g_ap; exact rfl; exact rfl; assumption)
  refine at_callR (bits_Bits_fits_spec (q := q) (l := l) (k := k)) ?_
  refine ⟨fun hf => ?_, fun hf => ?_⟩
  · obtain ⟨i, rfl⟩ := Int.eq_ofNat_of_zero_le hf.1
    rw [Int.toNat_natCast] at hR
    have hb := has_bit l i
    have hwl := words_len l
    have hwt := word_lt l (i / 64)
    have hb1 := B64.one
    have hpt : B64 (2 ^ (i % 64)) := ⟨pow64_lt i⟩
    have hmt : i % 64 < 64 := Nat.mod_lt _ (by omega)
    have hdt : B64 (word l (i / 64) / 2 ^ (i % 64)) := ⟨Nat.lt_of_le_of_lt (Nat.div_le_self _ _) hwt⟩
    repeat' first | apply step | (apply g_op; · repeat first | exact Evs.nil | (apply Evs.cons; exact rfl)) | (refine Br.mk (fun _ => ?_) (fun _ => ?_) <;> try (exfalso; omega)) | (refine Sd.mk ?_ ?_; · ((repeat' apply And.intro) <;> first | omega | trivial | assumption | (simp; done) | (simp; omega))) | (refine Sx.mk ?_ ?_; · omega) | refine Fa.mk (fun _ => ?_) | refine Im.mk (fun _ => ?_) | apply Lw.go | refine g_cond ?_ | refine g_guard ?_ | refine g_keep ?_ | refine g_pass ?_ | refine g_fin ?_ | (apply g_ap; exact rfl; exact rfl; assumption)
    cases q with
    | none =>
      first | refine at_openRP (bt none l) rfl ?_ | refine av_openRP (bt none l) rfl ?_
      rintro _ rfl
      have := hf.2
      simp at this
      omega
    | some b =>
      first | refine at_openRP (bt (some b) l) rfl ?_ | refine av_openRP (bt (some b) l) rfl ?_
      rintro ⟨p, c⟩ hl
      unfold btp
      dsimp only [Option.map_some] at hl ⊢
      repeat' first | rw [words_get] | apply step | (apply g_op; · repeat first | exact Evs.nil | (apply Evs.cons; exact rfl)) | (refine Br.mk (fun _ => ?_) (fun _ => ?_) <;> try (exfalso; omega)) | (refine Sd.mk ?_ ?_; · ((repeat' apply And.intro) <;> first | omega | trivial | assumption | (simp; done) | (simp; omega))) | (refine Sx.mk ?_ ?_; · omega) | refine Fa.mk (fun _ => ?_) | refine Im.mk (fun _ => ?_) | apply Lw.go | refine g_cond ?_ | refine g_guard ?_ | refine g_keep ?_ | refine g_pass ?_ | refine g_fin ?_ | (apply g_ap; exact rfl; exact rfl; assumption)
      all_goals rename_i hq; rw [nat_mask1] at hq
      · exact fin (hR.1 ⟨by omega, hb.1 (by omega)⟩)
      · exact fin (hR.2 (fun h => by have := hb.2 h.2; omega))
  · have hn : ¬ (0 ≤ k ∧ l.getD k.toNat false = true) := fun h => by
      by_cases h2 : k.toNat < l.length
      · omega
      · have h3 := h.2; rw [List.getD_eq_getElem?_getD, List.getElem?_eq_none (by omega)] at h3; cases h3
    repeat' first | apply step | (apply g_op; · repeat first | exact Evs.nil | (apply Evs.cons; exact rfl)) | (refine Br.mk (fun _ => ?_) (fun _ => ?_) <;> try (exfalso; omega)) | (refine Sd.mk ?_ ?_; · ((repeat' apply And.intro) <;> first | omega | trivial | assumption | (simp; done) | (simp; omega))) | (refine Sx.mk ?_ ?_; · omega) | refine Fa.mk (fun _ => ?_) | refine Im.mk (fun _ => ?_) | apply Lw.go | refine g_cond ?_ | refine g_guard ?_ | refine g_keep ?_ | refine g_pass ?_ | refine g_fin ?_ | (apply g_ap; exact rfl; exact rfl; assumption)
    exact fin (hR.2 hn)
theorem at_btR {n : Nat} {prog : AProg} {rr : Option Nat} {k : List Kt} {x : AX} {e : Env} {Γ F : List HP} {Q : Pst} (q : Option Nat) (l : List Bool) (w : l.length ≤ 65536 → AtS n prog rr k x e Γ Q) (hs : Ent Γ (ro (bt q l) :: F) := by repeat first | exact Ent.refl _ | (apply Ent.more; · repeat first | exact Ent.keep | exact Ent.here | exact Ent.lend | exact ent_nil | apply Ent.there) | apply Ent.drop) : AtS n prog rr k x e Γ Q := by
  by_cases hc : l.length ≤ 65536
  · exact w hc
  · cases q with
    | none => exact at_openRP (bt none l) rfl (fun _ h => absurd (by rw [show l = [] from h]; simp) hc) hs
    | some b => exact at_openRP (bt (some b) l) rfl (fun a h => absurd h hc) hs
theorem at_btO {n : Nat} {prog : AProg} {rr : Option Nat} {k : List Kt} {x : AX} {e : Env} {Γ F : List HP} {Q : Pst} (q : Option Nat) (l : List Bool) (w : l.length ≤ 65536 → AtS n prog rr k x e Γ Q) (hs : Ent Γ (bt q l :: F) := by repeat first | exact Ent.refl _ | (apply Ent.more; · repeat first | exact Ent.keep | exact Ent.here | exact Ent.lend | exact ent_nil | apply Ent.there) | apply Ent.drop) : AtS n prog rr k x e Γ Q := by
  by_cases hc : l.length ≤ 65536
  · exact w hc
  · cases q with
    | none => exact at_openP (bt none l) rfl (fun _ h => absurd (by rw [show l = [] from h]; simp) hc) hs
    | some b => exact at_openP (bt (some b) l) rfl (fun a h => absurd h hc) hs
theorem bits_Bits_Next_spec {k : Int} (hk : k ≤ 9223372036854775807) (hk2 : -9223372036854775808 ≤ k) : Spec prog1 n_bits_Bits_Next [btp q, .int .i64 k] [ro (bt q l)] (fun R => ∀ x, NxZ l k.toNat x → R (.int .i64 x) []) := by
  refine spec_code c_bits_Bits_Next rfl ?_; intro n F R hR; unfold F_bits_Bits_Next
  refine at_btR q l fun hlen => ?_
  obtain ⟨i0, hi0⟩ : ∃ i : Nat, i = k.toNat := ⟨_, rfl⟩
  rw [← hi0] at hR
  repeat' first | apply step | (apply g_op; · repeat first | exact Evs.nil | (apply Evs.cons; exact rfl)) | (refine Br.mk (fun _ => ?_) (fun _ => ?_) <;> try (exfalso; omega)) | (refine Sd.mk ?_ ?_; · ((repeat' apply And.intro) <;> first | omega | trivial | assumption | (simp; done) | (simp; omega))) | (refine Sx.mk ?_ ?_; · omega) | refine Fa.mk (fun _ => ?_) | refine Im.mk (fun _ => ?_) | apply Lw.go | refine g_cond ?_ | refine g_guard ?_ | refine g_keep ?_ | refine g_pass ?_ | refine g_fin ?_ | (apply g_ap; exact rfl; exact rfl; assumption)
  · obtain rfl : k = ((i0 : Nat) : Int) := by omega
    refine at_loopS (ι := Nat) (E := fun j => [(0, btp q), (1, .int .i64 (j : Int))]) (Δ := fun j => ro (bt q l) :: F) (P := fun j => (i0 ≤ j ∧ True) ∧ ∀ i, i0 ≤ i → i < j → l.getD i false = false) (μ := fun j => l.length - j) i0 ⟨⟨by omega, trivial⟩, fun i h1 h2 => by omega⟩ ?_
    rintro j ⟨⟨hji, hj⟩, hno⟩
    dsimp only
    repeat' first | apply step | (apply g_op; · repeat first | exact Evs.nil | (apply Evs.cons; exact rfl)) | (refine Br.mk (fun _ => ?_) (fun _ => ?_) <;> try (exfalso; omega)) | (refine Sd.mk ?_ ?_; · ((repeat' apply And.intro) <;> first | omega | trivial | assumption | (simp; done) | (simp; omega))) | (refine Sx.mk ?_ ?_; · omega) | refine Fa.mk (fun _ => ?_) | refine Im.mk (fun _ => ?_) | apply Lw.go | refine g_cond ?_ | refine g_guard ?_ | refine g_keep ?_ | refine g_pass ?_ | refine g_fin ?_ | (apply g_ap; exact rfl; exact rfl; assumption)
    refine at_callR (bits_Bits_Room_spec (q := q) (l := l)) ?_
    repeat' first | apply step | (apply g_op; · repeat first | exact Evs.nil | (apply Evs.cons; exact rfl)) | (refine Br.mk (fun _ => ?_) (fun _ => ?_) <;> try (exfalso; omega)) | (refine Sd.mk ?_ ?_; · ((repeat' apply And.intro) <;> first | omega | trivial | assumption | (simp; done) | (simp; omega))) | (refine Sx.mk ?_ ?_; · omega) | refine Fa.mk (fun _ => ?_) | refine Im.mk (fun _ => ?_) | apply Lw.go | refine g_cond ?_ | refine g_guard ?_ | refine g_keep ?_ | refine g_pass ?_ | refine g_fin ?_ | (apply g_ap; exact rfl; exact rfl; assumption)
    · have hwl := words_len l
      have hwt := word_lt l (j / 64)
      have hpt : B64 (2 ^ (j % 64)) := ⟨pow64_lt j⟩
      have hmt : j % 64 < 64 := Nat.mod_lt _ (by omega)
      have hdt : word l (j / 64) / 2 ^ (j % 64) < 18446744073709551616 := Nat.lt_of_le_of_lt (Nat.div_le_self _ _) hwt
      cases q with
      | none =>
        first | refine at_openRP (bt none l) rfl ?_ | refine av_openRP (bt none l) rfl ?_
        rintro _ rfl
        exfalso; simp at *; omega
      | some b =>
        first | refine at_openRP (bt (some b) l) rfl ?_ | refine av_openRP (bt (some b) l) rfl ?_
        rintro ⟨p, c⟩ hl
        unfold btp
        dsimp only [Option.map_some] at hl ⊢
        repeat' first | rw [words_get] | apply step | (apply g_op; · repeat first | exact Evs.nil | (apply Evs.cons; exact rfl)) | (refine Br.mk (fun _ => ?_) (fun _ => ?_) <;> try (exfalso; omega)) | (refine Sd.mk ?_ ?_; · ((repeat' apply And.intro) <;> first | omega | trivial | assumption | (simp; done) | (simp; omega))) | (refine Sx.mk ?_ ?_; · omega) | refine Fa.mk (fun _ => ?_) | refine Im.mk (fun _ => ?_) | apply Lw.go | refine g_cond ?_ | refine g_guard ?_ | refine g_keep ?_ | refine g_pass ?_ | refine g_fin ?_ | (apply g_ap; exact rfl; exact rfl; assumption)
        · rename_i hne
          have hx : word l (j / 64) / 2 ^ (j % 64) ≠ 0 := fun q => hne (by rw [q]; rfl)
          have hn := next_some (k0 := i0) (by omega) hno hx
          have := hn.lt
          refine at_callR (tz_spec (i := word l (j / 64) / 2 ^ (j % 64)) hdt) ?_
          repeat' first | apply step | (apply g_op; · repeat first | exact Evs.nil | (apply Evs.cons; exact rfl)) | (refine Br.mk (fun _ => ?_) (fun _ => ?_) <;> try (exfalso; omega)) | (refine Sd.mk ?_ ?_; · ((repeat' apply And.intro) <;> first | omega | trivial | assumption | (simp; done) | (simp; omega))) | (refine Sx.mk ?_ ?_; · omega) | refine Fa.mk (fun _ => ?_) | refine Im.mk (fun _ => ?_) | apply Lw.go | refine g_cond ?_ | refine g_guard ?_ | refine g_keep ?_ | refine g_pass ?_ | refine g_fin ?_ | (apply g_ap; exact rfl; exact rfl; assumption)
          exact fin (hR _ (.inl ⟨_, rfl, hn⟩))
        · rename_i hz
          have hx : word l (j / 64) / 2 ^ (j % 64) = 0 := Int.ofNat.inj (Decidable.not_not.1 hz)
          have hn := next_zero (k0 := i0) hno hx
          repeat' first | apply step | (apply g_op; · repeat first | exact Evs.nil | (apply Evs.cons; exact rfl)) | (refine Br.mk (fun _ => ?_) (fun _ => ?_) <;> try (exfalso; omega)) | (refine Sd.mk ?_ ?_; · ((repeat' apply And.intro) <;> first | omega | trivial | assumption | (simp; done) | (simp; omega))) | (refine Sx.mk ?_ ?_; · omega) | refine Fa.mk (fun _ => ?_) | refine Im.mk (fun _ => ?_) | apply Lw.go | refine g_cond ?_ | refine g_guard ?_ | refine g_keep ?_ | refine g_pass ?_ | refine g_fin ?_ | (apply g_ap; exact rfl; exact rfl; assumption)
          refine lp_next ((j / 64 + 1) * 64) ⟨⟨by omega, trivial⟩, fun i h1 h2 => hn i h1 h2⟩ (by omega)
    · repeat' first | apply step | (apply g_op; · repeat first | exact Evs.nil | (apply Evs.cons; exact rfl)) | (refine Br.mk (fun _ => ?_) (fun _ => ?_) <;> try (exfalso; omega)) | (refine Sd.mk ?_ ?_; · ((repeat' apply And.intro) <;> first | omega | trivial | assumption | (simp; done) | (simp; omega))) | (refine Sx.mk ?_ ?_; · omega) | refine Fa.mk (fun _ => ?_) | refine Im.mk (fun _ => ?_) | apply Lw.go | refine g_cond ?_ | refine g_guard ?_ | refine g_keep ?_ | refine g_pass ?_ | refine g_fin ?_ | (apply g_ap; exact rfl; exact rfl; assumption)
      exact fin (hR _ (.inr ⟨rfl, fun i hi => by
        by_cases h : i < j
        · exact hno i (by omega) h
        · rw [List.getD_eq_getElem?_getD, List.getElem?_eq_none (by omega)]; rfl⟩))
  · have hz : i0 = 0 := by omega
    refine at_loopS (ι := Nat) (E := fun j => [(0, btp q), (1, .int .i64 (j : Int))]) (Δ := fun j => ro (bt q l) :: F) (P := fun j => (i0 ≤ j ∧ True) ∧ ∀ i, i0 ≤ i → i < j → l.getD i false = false) (μ := fun j => l.length - j) 0 ⟨⟨by omega, trivial⟩, fun i h1 h2 => by omega⟩ ?_
    rintro j ⟨⟨hji, hj⟩, hno⟩
    dsimp only
    repeat' first | apply step | (apply g_op; · repeat first | exact Evs.nil | (apply Evs.cons; exact rfl)) | (refine Br.mk (fun _ => ?_) (fun _ => ?_) <;> try (exfalso; omega)) | (refine Sd.mk ?_ ?_; · ((repeat' apply And.intro) <;> first | omega | trivial | assumption | (simp; done) | (simp; omega))) | (refine Sx.mk ?_ ?_; · omega) | refine Fa.mk (fun _ => ?_) | refine Im.mk (fun _ => ?_) | apply Lw.go | refine g_cond ?_ | refine g_guard ?_ | refine g_keep ?_ | refine g_pass ?_ | refine g_fin ?_ | (apply g_ap; exact rfl; exact rfl; assumption)
    refine at_callR (bits_Bits_Room_spec (q := q) (l := l)) ?_
    repeat' first | apply step | (apply g_op; · repeat first | exact Evs.nil | (apply Evs.cons; exact rfl)) | (refine Br.mk (fun _ => ?_) (fun _ => ?_) <;> try (exfalso; omega)) | (refine Sd.mk ?_ ?_; · ((repeat' apply And.intro) <;> first | omega | trivial | assumption | (simp; done) | (simp; omega))) | (refine Sx.mk ?_ ?_; · omega) | refine Fa.mk (fun _ => ?_) | refine Im.mk (fun _ => ?_) | apply Lw.go | refine g_cond ?_ | refine g_guard ?_ | refine g_keep ?_ | refine g_pass ?_ | refine g_fin ?_ | (apply g_ap; exact rfl; exact rfl; assumption)
    · have hwl := words_len l
      have hwt := word_lt l (j / 64)
      have hpt : B64 (2 ^ (j % 64)) := ⟨pow64_lt j⟩
      have hmt : j % 64 < 64 := Nat.mod_lt _ (by omega)
      have hdt : word l (j / 64) / 2 ^ (j % 64) < 18446744073709551616 := Nat.lt_of_le_of_lt (Nat.div_le_self _ _) hwt
      cases q with
      | none =>
        first | refine at_openRP (bt none l) rfl ?_ | refine av_openRP (bt none l) rfl ?_
        rintro _ rfl
        exfalso; simp at *; omega
      | some b =>
        first | refine at_openRP (bt (some b) l) rfl ?_ | refine av_openRP (bt (some b) l) rfl ?_
        rintro ⟨p, c⟩ hl
        unfold btp
        dsimp only [Option.map_some] at hl ⊢
        repeat' first | rw [words_get] | apply step | (apply g_op; · repeat first | exact Evs.nil | (apply Evs.cons; exact rfl)) | (refine Br.mk (fun _ => ?_) (fun _ => ?_) <;> try (exfalso; omega)) | (refine Sd.mk ?_ ?_; · ((repeat' apply And.intro) <;> first | omega | trivial | assumption | (simp; done) | (simp; omega))) | (refine Sx.mk ?_ ?_; · omega) | refine Fa.mk (fun _ => ?_) | refine Im.mk (fun _ => ?_) | apply Lw.go | refine g_cond ?_ | refine g_guard ?_ | refine g_keep ?_ | refine g_pass ?_ | refine g_fin ?_ | (apply g_ap; exact rfl; exact rfl; assumption)
        · rename_i hne
          have hx : word l (j / 64) / 2 ^ (j % 64) ≠ 0 := fun q => hne (by rw [q]; rfl)
          have hn := next_some (k0 := i0) (by omega) hno hx
          have := hn.lt
          refine at_callR (tz_spec (i := word l (j / 64) / 2 ^ (j % 64)) hdt) ?_
          repeat' first | apply step | (apply g_op; · repeat first | exact Evs.nil | (apply Evs.cons; exact rfl)) | (refine Br.mk (fun _ => ?_) (fun _ => ?_) <;> try (exfalso; omega)) | (refine Sd.mk ?_ ?_; · ((repeat' apply And.intro) <;> first | omega | trivial | assumption | (simp; done) | (simp; omega))) | (refine Sx.mk ?_ ?_; · omega) | refine Fa.mk (fun _ => ?_) | refine Im.mk (fun _ => ?_) | apply Lw.go | refine g_cond ?_ | refine g_guard ?_ | refine g_keep ?_ | refine g_pass ?_ | refine g_fin ?_ | (apply g_ap; exact rfl; exact rfl; assumption)
          exact fin (hR _ (.inl ⟨_, rfl, hn⟩))
        · rename_i hz
          have hx : word l (j / 64) / 2 ^ (j % 64) = 0 := Int.ofNat.inj (Decidable.not_not.1 hz)
          have hn := next_zero (k0 := i0) hno hx
          repeat' first | apply step | (apply g_op; · repeat first | exact Evs.nil | (apply Evs.cons; exact rfl)) | (refine Br.mk (fun _ => ?_) (fun _ => ?_) <;> try (exfalso; omega)) | (refine Sd.mk ?_ ?_; · ((repeat' apply And.intro) <;> first | omega | trivial | assumption | (simp; done) | (simp; omega))) | (refine Sx.mk ?_ ?_; · omega) | refine Fa.mk (fun _ => ?_) | refine Im.mk (fun _ => ?_) | apply Lw.go | refine g_cond ?_ | refine g_guard ?_ | refine g_keep ?_ | refine g_pass ?_ | refine g_fin ?_ | (apply g_ap; exact rfl; exact rfl; assumption)
          refine lp_next ((j / 64 + 1) * 64) ⟨⟨by omega, trivial⟩, fun i h1 h2 => hn i h1 h2⟩ (by omega)
    · repeat' first | apply step | (apply g_op; · repeat first | exact Evs.nil | (apply Evs.cons; exact rfl)) | (refine Br.mk (fun _ => ?_) (fun _ => ?_) <;> try (exfalso; omega)) | (refine Sd.mk ?_ ?_; · ((repeat' apply And.intro) <;> first | omega | trivial | assumption | (simp; done) | (simp; omega))) | (refine Sx.mk ?_ ?_; · omega) | refine Fa.mk (fun _ => ?_) | refine Im.mk (fun _ => ?_) | apply Lw.go | refine g_cond ?_ | refine g_guard ?_ | refine g_keep ?_ | refine g_pass ?_ | refine g_fin ?_ | (apply g_ap; exact rfl; exact rfl; assumption)
      exact fin (hR _ (.inr ⟨rfl, fun i hi => by
        by_cases h : i < j
        · exact hno i (by omega) h
        · rw [List.getD_eq_getElem?_getD, List.getElem?_eq_none (by omega)]; rfl⟩))
theorem bits_Bits_Put_spec {p : Option Addr} {c : Nat} {r : List Int} (hr : r.length ≤ 1000000) : Spec prog1 n_bits_Bits_Put [btp q, .slice p r.length c] [bt q l, rdl (kInt .i64) p r] (fun R => R (.tuple #[]) [bt q (setB l r true)]) := by
  refine spec_code c_bits_Bits_Put rfl ?_; intro n F R hR; unfold F_bits_Bits_Put
  refine at_btO q l fun hlen => ?_
  repeat' first | apply step | (apply g_op; · repeat first | exact Evs.nil | (apply Evs.cons; exact rfl)) | (refine Br.mk (fun _ => ?_) (fun _ => ?_) <;> try (exfalso; omega)) | (refine Sd.mk ?_ ?_; · ((repeat' apply And.intro) <;> first | omega | trivial | assumption | (simp; done) | (simp; omega))) | (refine Sx.mk ?_ ?_; · omega) | refine Fa.mk (fun _ => ?_) | refine Im.mk (fun _ => ?_) | apply Lw.go | refine g_cond ?_ | refine g_guard ?_ | refine g_keep ?_ | refine g_pass ?_ | refine g_fin ?_ | (apply g_ap; exact rfl; exact rfl; assumption)
  refine at_loopS (ι := Nat) (E := fun j => [(0, btp q), (6, .slice p r.length c), (7, .int .i64 (r.length : Int)), (8, .int .i64 (j : Int))]) (Δ := fun j => bt q (setB l (r.take j) true) :: rdl (kInt .i64) p r :: F) (P := fun j => j ≤ r.length) (μ := fun j => r.length - j) 0 (by omega) ?_
  rintro j hj
  dsimp only
  repeat' first | apply step | (apply g_op; · repeat first | exact Evs.nil | (apply Evs.cons; exact rfl)) | (refine Br.mk (fun _ => ?_) (fun _ => ?_) <;> try (exfalso; omega)) | (refine Sd.mk ?_ ?_; · ((repeat' apply And.intro) <;> first | omega | trivial | assumption | (simp; done) | (simp; omega))) | (refine Sx.mk ?_ ?_; · omega) | refine Fa.mk (fun _ => ?_) | refine Im.mk (fun _ => ?_) | apply Lw.go | refine g_cond ?_ | refine g_guard ?_ | refine g_keep ?_ | refine g_pass ?_ | refine g_fin ?_ | (apply g_ap; exact rfl; exact rfl; assumption)
  · obtain ⟨l', hl'⟩ : ∃ l', l' = setB l (r.take j) true := ⟨_, rfl⟩
    have hll : l'.length = l.length := by rw [hl', setB_len]
    have hs := setB_snoc (l := l) (so := true) (r := r) (j := j) (by omega)
    rw [← hl'] at hs ⊢
    first | refine at_callS (bits_Bits_fits_spec (q := q) (l := l') (k := r[j])) ?_ | refine at_callR (bits_Bits_fits_spec (q := q) (l := l') (k := r[j])) ?_
    refine ⟨fun hf => ?_, fun hf => ?_⟩
    · obtain ⟨i, hi⟩ := Int.eq_ofNat_of_zero_le hf.1
      have hset : set1 l' true r[j] = l'.set i true := by unfold set1; rw [if_pos hf, hi, Int.toNat_natCast]
      rw [hset] at hs
      rw [hi] at hf ⊢
      have hil : i < l'.length := by omega
      have hwl := words_len l'
      have hwt : B64 (word l' (i / 64)) := ⟨word_lt l' (i / 64)⟩
      have hpt : B64 (2 ^ (i % 64)) := ⟨pow64_lt i⟩
      have hmt : i % 64 < 64 := Nat.mod_lt _ (by omega)
      repeat' first | apply step | (apply g_op; · repeat first | exact Evs.nil | (apply Evs.cons; exact rfl)) | (refine Br.mk (fun _ => ?_) (fun _ => ?_) <;> try (exfalso; omega)) | (refine Sd.mk ?_ ?_; · ((repeat' apply And.intro) <;> first | omega | trivial | assumption | (simp; done) | (simp; omega))) | (refine Sx.mk ?_ ?_; · omega) | refine Fa.mk (fun _ => ?_) | refine Im.mk (fun _ => ?_) | apply Lw.go | refine g_cond ?_ | refine g_guard ?_ | refine g_keep ?_ | refine g_pass ?_ | refine g_fin ?_ | (apply g_ap; exact rfl; exact rfl; assumption)
      cases q with
      | none =>
        first | refine at_openP (bt none l') rfl ?_ | refine av_openP (bt none l') rfl ?_
        intro _ h0
        exfalso; rw [show l' = [] from h0] at hil; simp at hil
      | some b =>
        first | refine at_openP (bt (some b) l') rfl ?_ | refine av_openP (bt (some b) l') rfl ?_
        rintro ⟨p', c'⟩ hl
        unfold btp
        dsimp only [Option.map_some] at hl ⊢
        repeat' first | rw [words_get] | apply step | (apply g_op; · repeat first | exact Evs.nil | (apply Evs.cons; exact rfl)) | (refine Br.mk (fun _ => ?_) (fun _ => ?_) <;> try (exfalso; omega)) | (refine Sd.mk ?_ ?_; · ((repeat' apply And.intro) <;> first | omega | trivial | assumption | (simp; done) | (simp; omega))) | (refine Sx.mk ?_ ?_; · omega) | refine Fa.mk (fun _ => ?_) | refine Im.mk (fun _ => ?_) | apply Lw.go | refine g_cond ?_ | refine g_guard ?_ | refine g_keep ?_ | refine g_pass ?_ | refine g_fin ?_ | (apply g_ap; exact rfl; exact rfl; assumption)
        refine Sd.mk ⟨by omega, Int.natCast_nonneg _, (hwt.or hpt).le⟩ ?_
        repeat' first | apply step | (apply g_op; · repeat first | exact Evs.nil | (apply Evs.cons; exact rfl)) | (refine Br.mk (fun _ => ?_) (fun _ => ?_) <;> try (exfalso; omega)) | (refine Sd.mk ?_ ?_; · ((repeat' apply And.intro) <;> first | omega | trivial | assumption | (simp; done) | (simp; omega))) | (refine Sx.mk ?_ ?_; · omega) | refine Fa.mk (fun _ => ?_) | refine Im.mk (fun _ => ?_) | apply Lw.go | refine g_cond ?_ | refine g_guard ?_ | refine g_keep ?_ | refine g_pass ?_ | refine g_fin ?_ | (apply g_ap; exact rfl; exact rfl; assumption)
        rw [← words_put hil, show (words l').length = (words (l'.set i true)).length by rw [words_len, words_len, List.length_set], show ((l'.length : Nat) : Int) = (((l'.set i true).length : Nat) : Int) by rw [List.length_set]]
        refine at_foldP (bt (some b) (l'.set i true)) rfl (p', c') (by simp; omega) ?_
        rw [← hs]
        refine lp_next (j + 1) (by omega) (by omega)
    · have hset : set1 l' true r[j] = l' := by unfold set1; rw [if_neg hf]
      rw [hset] at hs
      rw [← hs]
      repeat' first | apply step | (apply g_op; · repeat first | exact Evs.nil | (apply Evs.cons; exact rfl)) | (refine Br.mk (fun _ => ?_) (fun _ => ?_) <;> try (exfalso; omega)) | (refine Sd.mk ?_ ?_; · ((repeat' apply And.intro) <;> first | omega | trivial | assumption | (simp; done) | (simp; omega))) | (refine Sx.mk ?_ ?_; · omega) | refine Fa.mk (fun _ => ?_) | refine Im.mk (fun _ => ?_) | apply Lw.go | refine g_cond ?_ | refine g_guard ?_ | refine g_keep ?_ | refine g_pass ?_ | refine g_fin ?_ | (apply g_ap; exact rfl; exact rfl; assumption)
      refine lp_next (j + 1) (by omega) (by omega)
  · have : j = r.length := by omega
    subst this
    rw [List.take_length]
    repeat' first | apply step | (apply g_op; · repeat first | exact Evs.nil | (apply Evs.cons; exact rfl)) | (refine Br.mk (fun _ => ?_) (fun _ => ?_) <;> try (exfalso; omega)) | (refine Sd.mk ?_ ?_; · ((repeat' apply And.intro) <;> first | omega | trivial | assumption | (simp; done) | (simp; omega))) | (refine Sx.mk ?_ ?_; · omega) | refine Fa.mk (fun _ => ?_) | refine Im.mk (fun _ => ?_) | apply Lw.go | refine g_cond ?_ | refine g_guard ?_ | refine g_keep ?_ | refine g_pass ?_ | refine g_fin ?_ | (apply g_ap; exact rfl; exact rfl; assumption)
    exact fin hR
theorem bits_Bits_Drop_spec {p : Option Addr} {c : Nat} {r : List Int} (hr : r.length ≤ 1000000) : Spec prog1 n_bits_Bits_Drop [btp q, .slice p r.length c] [bt q l, rdl (kInt .i64) p r] (fun R => R (.tuple #[]) [bt q (setB l r false)]) := by
  refine spec_code c_bits_Bits_Drop rfl ?_; intro n F R hR; unfold F_bits_Bits_Drop
  refine at_btO q l fun hlen => ?_
  repeat' first | apply step | (apply g_op; · repeat first | exact Evs.nil | (apply Evs.cons; exact rfl)) | (refine Br.mk (fun _ => ?_) (fun _ => ?_) <;> try (exfalso; omega)) | (refine Sd.mk ?_ ?_; · ((repeat' apply And.intro) <;> first | omega | trivial | assumption | (simp; done) | (simp; omega))) | (refine Sx.mk ?_ ?_; · omega) | refine Fa.mk (fun _ => ?_) | refine Im.mk (fun _ => ?_) | apply Lw.go | refine g_cond ?_ | refine g_guard ?_ | refine g_keep ?_ | refine g_pass ?_ | refine g_fin ?_ | (apply g_ap; exact rfl; exact rfl; assumption)
  refine at_loopS (ι := Nat) (E := fun j => [(0, btp q), (6, .slice p r.length c), (7, .int .i64 (r.length : Int)), (8, .int .i64 (j : Int))]) (Δ := fun j => bt q (setB l (r.take j) false) :: rdl (kInt .i64) p r :: F) (P := fun j => j ≤ r.length) (μ := fun j => r.length - j) 0 (by omega) ?_
  rintro j hj
  dsimp only
  repeat' first | apply step | (apply g_op; · repeat first | exact Evs.nil | (apply Evs.cons; exact rfl)) | (refine Br.mk (fun _ => ?_) (fun _ => ?_) <;> try (exfalso; omega)) | (refine Sd.mk ?_ ?_; · ((repeat' apply And.intro) <;> first | omega | trivial | assumption | (simp; done) | (simp; omega))) | (refine Sx.mk ?_ ?_; · omega) | refine Fa.mk (fun _ => ?_) | refine Im.mk (fun _ => ?_) | apply Lw.go | refine g_cond ?_ | refine g_guard ?_ | refine g_keep ?_ | refine g_pass ?_ | refine g_fin ?_ | (apply g_ap; exact rfl; exact rfl; assumption)
  · obtain ⟨l', hl'⟩ : ∃ l', l' = setB l (r.take j) false := ⟨_, rfl⟩
    have hll : l'.length = l.length := by rw [hl', setB_len]
    have hs := setB_snoc (l := l) (so := false) (r := r) (j := j) (by omega)
    rw [← hl'] at hs ⊢
    first | refine at_callS (bits_Bits_fits_spec (q := q) (l := l') (k := r[j])) ?_ | refine at_callR (bits_Bits_fits_spec (q := q) (l := l') (k := r[j])) ?_
    refine ⟨fun hf => ?_, fun hf => ?_⟩
    · obtain ⟨i, hi⟩ := Int.eq_ofNat_of_zero_le hf.1
      have hset : set1 l' false r[j] = l'.set i false := by unfold set1; rw [if_pos hf, hi, Int.toNat_natCast]
      rw [hset] at hs
      rw [hi] at hf ⊢
      have hil : i < l'.length := by omega
      have hwl := words_len l'
      have hwt : B64 (word l' (i / 64)) := ⟨word_lt l' (i / 64)⟩
      have hpt : B64 (2 ^ (i % 64)) := ⟨pow64_lt i⟩
      have hmt : i % 64 < 64 := Nat.mod_lt _ (by omega)
      repeat' first | apply step | (apply g_op; · repeat first | exact Evs.nil | (apply Evs.cons; exact rfl)) | (refine Br.mk (fun _ => ?_) (fun _ => ?_) <;> try (exfalso; omega)) | (refine Sd.mk ?_ ?_; · ((repeat' apply And.intro) <;> first | omega | trivial | assumption | (simp; done) | (simp; omega))) | (refine Sx.mk ?_ ?_; · omega) | refine Fa.mk (fun _ => ?_) | refine Im.mk (fun _ => ?_) | apply Lw.go | refine g_cond ?_ | refine g_guard ?_ | refine g_keep ?_ | refine g_pass ?_ | refine g_fin ?_ | (apply g_ap; exact rfl; exact rfl; assumption)
      cases q with
      | none =>
        first | refine at_openP (bt none l') rfl ?_ | refine av_openP (bt none l') rfl ?_
        intro _ h0
        exfalso; rw [show l' = [] from h0] at hil; simp at hil
      | some b =>
        first | refine at_openP (bt (some b) l') rfl ?_ | refine av_openP (bt (some b) l') rfl ?_
        rintro ⟨p', c'⟩ hl
        unfold btp
        dsimp only [Option.map_some] at hl ⊢
        repeat' first | rw [words_get] | apply step | (apply g_op; · repeat first | exact Evs.nil | (apply Evs.cons; exact rfl)) | (refine Br.mk (fun _ => ?_) (fun _ => ?_) <;> try (exfalso; omega)) | (refine Sd.mk ?_ ?_; · ((repeat' apply And.intro) <;> first | omega | trivial | assumption | (simp; done) | (simp; omega))) | (refine Sx.mk ?_ ?_; · omega) | refine Fa.mk (fun _ => ?_) | refine Im.mk (fun _ => ?_) | apply Lw.go | refine g_cond ?_ | refine g_guard ?_ | refine g_keep ?_ | refine g_pass ?_ | refine g_fin ?_ | (apply g_ap; exact rfl; exact rfl; assumption)
        refine Sd.mk ⟨by omega, Int.natCast_nonneg _, (hwt.and _).le⟩ ?_
        repeat' first | apply step | (apply g_op; · repeat first | exact Evs.nil | (apply Evs.cons; exact rfl)) | (refine Br.mk (fun _ => ?_) (fun _ => ?_) <;> try (exfalso; omega)) | (refine Sd.mk ?_ ?_; · ((repeat' apply And.intro) <;> first | omega | trivial | assumption | (simp; done) | (simp; omega))) | (refine Sx.mk ?_ ?_; · omega) | refine Fa.mk (fun _ => ?_) | refine Im.mk (fun _ => ?_) | apply Lw.go | refine g_cond ?_ | refine g_guard ?_ | refine g_keep ?_ | refine g_pass ?_ | refine g_fin ?_ | (apply g_ap; exact rfl; exact rfl; assumption)
        rw [← words_drop hil, show (words l').length = (words (l'.set i false)).length by rw [words_len, words_len, List.length_set], show ((l'.length : Nat) : Int) = (((l'.set i false).length : Nat) : Int) by rw [List.length_set]]
        refine at_foldP (bt (some b) (l'.set i false)) rfl (p', c') (by simp; omega) ?_
        rw [← hs]
        refine lp_next (j + 1) (by omega) (by omega)
    · have hset : set1 l' false r[j] = l' := by unfold set1; rw [if_neg hf]
      rw [hset] at hs
      rw [← hs]
      repeat' first | apply step | (apply g_op; · repeat first | exact Evs.nil | (apply Evs.cons; exact rfl)) | (refine Br.mk (fun _ => ?_) (fun _ => ?_) <;> try (exfalso; omega)) | (refine Sd.mk ?_ ?_; · ((repeat' apply And.intro) <;> first | omega | trivial | assumption | (simp; done) | (simp; omega))) | (refine Sx.mk ?_ ?_; · omega) | refine Fa.mk (fun _ => ?_) | refine Im.mk (fun _ => ?_) | apply Lw.go | refine g_cond ?_ | refine g_guard ?_ | refine g_keep ?_ | refine g_pass ?_ | refine g_fin ?_ | (apply g_ap; exact rfl; exact rfl; assumption)
      refine lp_next (j + 1) (by omega) (by omega)
  · have : j = r.length := by omega
    subst this
    rw [List.take_length]
    repeat' first | apply step | (apply g_op; · repeat first | exact Evs.nil | (apply Evs.cons; exact rfl)) | (refine Br.mk (fun _ => ?_) (fun _ => ?_) <;> try (exfalso; omega)) | (refine Sd.mk ?_ ?_; · ((repeat' apply And.intro) <;> first | omega | trivial | assumption | (simp; done) | (simp; omega))) | (refine Sx.mk ?_ ?_; · omega) | refine Fa.mk (fun _ => ?_) | refine Im.mk (fun _ => ?_) | apply Lw.go | refine g_cond ?_ | refine g_guard ?_ | refine g_keep ?_ | refine g_pass ?_ | refine g_fin ?_ | (apply g_ap; exact rfl; exact rfl; assumption)
    exact fin hR
section
attribute [local instance 1080] v_subNN
theorem bits_New_spec {z : Int} : Spec prog1 n_bits_New [.int .i64 z] [] (fun R => ∀ b, R (btp (some b)) [bt (some b) (List.replicate (clampN z) false)]) := by
  refine spec_code c_bits_New rfl ?_; intro n F R hR; unfold F_bits_New
  have hf : ∀ (x y : Nat) (m : Nat), clampN z = m → (m + 63) / 64 = (m + 64 - 1) / 64 → m ≤ 65536 → FinG R (.pointer (some ⟨x, 0, none⟩)) F (pt x [.int .i64 (m : Int), .slice (some ⟨y, 0, none⟩) ((m + 64 - 1) / 64) ((m + 64 - 1) / 64)] 0 :: own (kInt .u64) (some ⟨y, 0, none⟩) ((m + 64 - 1) / 64) (List.replicate ((m + 64 - 1) / 64) 0) :: F) := by
    intro x y m h1 h2 h3
    have e := words_rep m
    rw [← h2, ← e, show (m + 63) / 64 = (words (List.replicate m false)).length by rw [words_len, List.length_replicate], show ((m : Nat) : Int) = (((List.replicate m false).length : Nat) : Int) by rw [List.length_replicate]]
    refine fin_foldP (bt (some x) (List.replicate m false)) rfl (_, _) (by simp; omega) ?_
    rw [h1] at hR
    exact fin (hR x)
  by_cases hz1 : 65536 < z
  · have h1 : clampN z = 65536 := by unfold clampN; omega
    repeat' first | apply step | (apply g_op; · repeat first | exact Evs.nil | (apply Evs.cons; exact rfl)) | (refine Br.mk (fun _ => ?_) (fun _ => ?_) <;> try (exfalso; omega)) | (refine Sd.mk ?_ ?_; · ((repeat' apply And.intro) <;> first | omega | trivial | assumption | (simp; done) | (simp; omega))) | (refine Sx.mk ?_ ?_; · omega) | refine Fa.mk (fun _ => ?_) | refine Im.mk (fun _ => ?_) | apply Lw.go | refine g_cond ?_ | refine g_guard ?_ | refine g_keep ?_ | refine g_pass ?_ | refine g_fin ?_ | (apply g_ap; exact rfl; exact rfl; assumption)
    exact hf _ _ 65536 h1 rfl (by omega)
  · by_cases hz2 : 0 < z
    · obtain ⟨m, rfl⟩ := Int.eq_ofNat_of_zero_le (show 0 ≤ z by omega)
      have h1 : clampN (m : Int) = m := by unfold clampN; omega
      repeat' first | apply step | (apply g_op; · repeat first | exact Evs.nil | (apply Evs.cons; exact rfl)) | (refine Br.mk (fun _ => ?_) (fun _ => ?_) <;> try (exfalso; omega)) | (refine Sd.mk ?_ ?_; · ((repeat' apply And.intro) <;> first | omega | trivial | assumption | (simp; done) | (simp; omega))) | (refine Sx.mk ?_ ?_; · omega) | refine Fa.mk (fun _ => ?_) | refine Im.mk (fun _ => ?_) | apply Lw.go | refine g_cond ?_ | refine g_guard ?_ | refine g_keep ?_ | refine g_pass ?_ | refine g_fin ?_ | (apply g_ap; exact rfl; exact rfl; assumption)
      exact hf _ _ m h1 (by omega) (by omega)
    · have h1 : clampN z = 0 := by unfold clampN; omega
      repeat' first | apply step | (apply g_op; · repeat first | exact Evs.nil | (apply Evs.cons; exact rfl)) | (refine Br.mk (fun _ => ?_) (fun _ => ?_) <;> try (exfalso; omega)) | (refine Sd.mk ?_ ?_; · ((repeat' apply And.intro) <;> first | omega | trivial | assumption | (simp; done) | (simp; omega))) | (refine Sx.mk ?_ ?_; · omega) | refine Fa.mk (fun _ => ?_) | refine Im.mk (fun _ => ?_) | apply Lw.go | refine g_cond ?_ | refine g_guard ?_ | refine g_keep ?_ | refine g_pass ?_ | refine g_fin ?_ | (apply g_ap; exact rfl; exact rfl; assumption)
      exact hf _ _ 0 h1 rfl (by omega)
end
theorem bits_Bits_All_spec : Spec prog1 n_bits_Bits_All [btp q] [] (fun R => ∀ x, R (.func (.func n_bits_Bits_All_c1) #[] #[.pointer (some ⟨x, 0, none⟩)]) [pt x [btp q] 0]) := by
  refine spec_code c_bits_Bits_All rfl ?_; intro n F R hR; unfold F_bits_Bits_All
  repeat' first | apply step | (apply g_op; · repeat first | exact Evs.nil | (apply Evs.cons; exact rfl)) | (refine Br.mk (fun _ => ?_) (fun _ => ?_) <;> try (exfalso; omega)) | (refine Sd.mk ?_ ?_; · ((repeat' apply And.intro) <;> first | omega | trivial | assumption | (simp; done) | (simp; omega))) | (refine Sx.mk ?_ ?_; · omega) | refine Fa.mk (fun _ => ?_) | refine Im.mk (fun _ => ?_) | apply Lw.go | refine g_cond ?_ | refine g_guard ?_ | refine g_keep ?_ | refine g_pass ?_ | refine g_fin ?_ | (apply g_ap; exact rfl; exact rfl; assumption)
  exact fin (hR _)
theorem bits_Bits_All_c1_spec {x ly : Nat} {A : Nat → HP} {B : AX → HP} (hy : ∀ i (hi : i < (elB l).length), YSpec prog1 ly [.int .i64 (elB l)[i]] [A i] (fun R => R (.bool true) [A (i + 1)] ∧ ∀ x, x ≠ .norm → R (.bool false) [B x])) :
    Spec prog1 n_bits_Bits_All_c1 [.func (.yield ly) #[] #[], .pointer (some ⟨x, 0, none⟩)] [A 0, pt x [btp q] 0, ro (bt q l)] (fun R => (∀ v, R v [A (elB l).length]) ∧ ∀ x v, x ≠ .norm → R v [B x]) := by
  refine spec_code c_bits_Bits_All_c1 rfl ?_; intro n F R hR; unfold F_bits_Bits_All_c1
  refine at_btR q l fun hlen => ?_
  repeat' first | apply step | (apply g_op; · repeat first | exact Evs.nil | (apply Evs.cons; exact rfl)) | (refine Br.mk (fun _ => ?_) (fun _ => ?_) <;> try (exfalso; omega)) | (refine Sd.mk ?_ ?_; · ((repeat' apply And.intro) <;> first | omega | trivial | assumption | (simp; done) | (simp; omega))) | (refine Sx.mk ?_ ?_; · omega) | refine Fa.mk (fun _ => ?_) | refine Im.mk (fun _ => ?_) | apply Lw.go | refine g_cond ?_ | refine g_guard ?_ | refine g_keep ?_ | refine g_pass ?_ | refine g_fin ?_ | (apply g_ap; exact rfl; exact rfl; assumption)
  refine at_callR (bits_Bits_Next_spec (q := q) (l := l) (k := 0) (by omega) (by omega)) ?_
  intro z hz
  repeat' first | apply step | (apply g_op; · repeat first | exact Evs.nil | (apply Evs.cons; exact rfl)) | (refine Br.mk (fun _ => ?_) (fun _ => ?_) <;> try (exfalso; omega)) | (refine Sd.mk ?_ ?_; · ((repeat' apply And.intro) <;> first | omega | trivial | assumption | (simp; done) | (simp; omega))) | (refine Sx.mk ?_ ?_; · omega) | refine Fa.mk (fun _ => ?_) | refine Im.mk (fun _ => ?_) | apply Lw.go | refine g_cond ?_ | refine g_guard ?_ | refine g_keep ?_ | refine g_pass ?_ | refine g_fin ?_ | (apply g_ap; exact rfl; exact rfl; assumption)
  refine at_loopS (ι := Nat × Nat × Int) (E := fun j => [(0, .func (.yield ly) #[] #[]), (1, .pointer (some ⟨x, 0, none⟩)), (3, .int .i64 j.2.2)]) (Δ := fun j => A j.1 :: pt x [btp q] 0 :: ro (bt q l) :: F) (P := fun j => j.1 ≤ (elB l).length ∧ j.2.1 ≤ 65536 ∧ NxZ l j.2.1 j.2.2 ∧ (elB l).drop j.1 = elF l j.2.1) (μ := fun j => (elB l).length - j.1) (0, 0, z) ⟨by simp, by simp, hz, rfl⟩ ?_
  rintro ⟨i, k, z⟩ ⟨hi, hk, hz, hd⟩
  dsimp only at hi hk hz hd ⊢
  rcases hz with ⟨m, rfl, hm⟩ | ⟨rfl, hn⟩
  · have h1 := elF_some hm
    have hml := hm.lt
    have hlt : i < (elB l).length := by
      rcases Nat.lt_or_ge i (elB l).length with q | q
      · exact q
      · rw [List.drop_eq_nil_of_le q, h1] at hd; cases hd
    rw [List.drop_eq_getElem_cons hlt, h1] at hd
    obtain ⟨h2, h3⟩ := List.cons.inj hd
    have hyi := hy i hlt
    rw [h2] at hyi
    repeat' first | apply step | (apply g_op; · repeat first | exact Evs.nil | (apply Evs.cons; exact rfl)) | (refine Br.mk (fun _ => ?_) (fun _ => ?_) <;> try (exfalso; omega)) | (refine Sd.mk ?_ ?_; · ((repeat' apply And.intro) <;> first | omega | trivial | assumption | (simp; done) | (simp; omega))) | (refine Sx.mk ?_ ?_; · omega) | refine Fa.mk (fun _ => ?_) | refine Im.mk (fun _ => ?_) | apply Lw.go | refine g_cond ?_ | refine g_guard ?_ | refine g_keep ?_ | refine g_pass ?_ | refine g_fin ?_ | (apply g_ap; exact rfl; exact rfl; assumption)
    refine at_callY hyi ⟨?_, fun x hx => ?_⟩
    · repeat' first | apply step | (apply g_op; · repeat first | exact Evs.nil | (apply Evs.cons; exact rfl)) | (refine Br.mk (fun _ => ?_) (fun _ => ?_) <;> try (exfalso; omega)) | (refine Sd.mk ?_ ?_; · ((repeat' apply And.intro) <;> first | omega | trivial | assumption | (simp; done) | (simp; omega))) | (refine Sx.mk ?_ ?_; · omega) | refine Fa.mk (fun _ => ?_) | refine Im.mk (fun _ => ?_) | apply Lw.go | refine g_cond ?_ | refine g_guard ?_ | refine g_keep ?_ | refine g_pass ?_ | refine g_fin ?_ | (apply g_ap; exact rfl; exact rfl; assumption)
      refine at_callR (bits_Bits_Next_spec (q := q) (l := l) (k := ((m + 1 : Nat) : Int)) (by omega) (by omega)) ?_
      intro z' hz'
      rw [Int.toNat_natCast] at hz'
      repeat' first | apply step | (apply g_op; · repeat first | exact Evs.nil | (apply Evs.cons; exact rfl)) | (refine Br.mk (fun _ => ?_) (fun _ => ?_) <;> try (exfalso; omega)) | (refine Sd.mk ?_ ?_; · ((repeat' apply And.intro) <;> first | omega | trivial | assumption | (simp; done) | (simp; omega))) | (refine Sx.mk ?_ ?_; · omega) | refine Fa.mk (fun _ => ?_) | refine Im.mk (fun _ => ?_) | apply Lw.go | refine g_cond ?_ | refine g_guard ?_ | refine g_keep ?_ | refine g_pass ?_ | refine g_fin ?_ | (apply g_ap; exact rfl; exact rfl; assumption)
      refine lp_next (i + 1, m + 1, z') ⟨by omega, by dsimp only; omega, hz', h3⟩ (by dsimp only; omega)
    · repeat' first | apply step | (apply g_op; · repeat first | exact Evs.nil | (apply Evs.cons; exact rfl)) | (refine Br.mk (fun _ => ?_) (fun _ => ?_) <;> try (exfalso; omega)) | (refine Sd.mk ?_ ?_; · ((repeat' apply And.intro) <;> first | omega | trivial | assumption | (simp; done) | (simp; omega))) | (refine Sx.mk ?_ ?_; · omega) | refine Fa.mk (fun _ => ?_) | refine Im.mk (fun _ => ?_) | apply Lw.go | refine g_cond ?_ | refine g_guard ?_ | refine g_keep ?_ | refine g_pass ?_ | refine g_fin ?_ | (apply g_ap; exact rfl; exact rfl; assumption)
      exact fin (hR.2 x _ hx)
  · have h1 := elF_none hn
    have hie : i = (elB l).length := by
      rcases Nat.lt_or_ge i (elB l).length with q | q
      · rw [List.drop_eq_getElem_cons q, h1] at hd; cases hd
      · omega
    subst hie
    repeat' first | apply step | (apply g_op; · repeat first | exact Evs.nil | (apply Evs.cons; exact rfl)) | (refine Br.mk (fun _ => ?_) (fun _ => ?_) <;> try (exfalso; omega)) | (refine Sd.mk ?_ ?_; · ((repeat' apply And.intro) <;> first | omega | trivial | assumption | (simp; done) | (simp; omega))) | (refine Sx.mk ?_ ?_; · omega) | refine Fa.mk (fun _ => ?_) | refine Im.mk (fun _ => ?_) | apply Lw.go | refine g_cond ?_ | refine g_guard ?_ | refine g_keep ?_ | refine g_pass ?_ | refine g_fin ?_ | (apply g_ap; exact rfl; exact rfl; assumption)
    exact fin (hR.1 _)
theorem bits_Bits_All_c1_own {x ly : Nat} {A : Nat → HP} {B : AX → HP} (hy : ∀ i (hi : i < (elB l).length), YSpec prog1 ly [.int .i64 (elB l)[i]] [A i] (fun R => R (.bool true) [A (i + 1)] ∧ ∀ x, x ≠ .norm → R (.bool false) [B x])) :
    Spec prog1 n_bits_Bits_All_c1 [.func (.yield ly) #[] #[], .pointer (some ⟨x, 0, none⟩)] [A 0, pt x [btp q] 0, bt q l] (fun R => (∀ v, R v [A (elB l).length, bt q l]) ∧ ∀ x v, x ≠ .norm → R v [B x, bt q l]) := by
  refine spec_code c_bits_Bits_All_c1 rfl ?_; intro n F R hR; unfold F_bits_Bits_All_c1
  refine at_btO q l fun hlen => ?_
  repeat' first | apply step | (apply g_op; · repeat first | exact Evs.nil | (apply Evs.cons; exact rfl)) | (refine Br.mk (fun _ => ?_) (fun _ => ?_) <;> try (exfalso; omega)) | (refine Sd.mk ?_ ?_; · ((repeat' apply And.intro) <;> first | omega | trivial | assumption | (simp; done) | (simp; omega))) | (refine Sx.mk ?_ ?_; · omega) | refine Fa.mk (fun _ => ?_) | refine Im.mk (fun _ => ?_) | apply Lw.go | refine g_cond ?_ | refine g_guard ?_ | refine g_keep ?_ | refine g_pass ?_ | refine g_fin ?_ | (apply g_ap; exact rfl; exact rfl; assumption)
  refine at_callR (bits_Bits_Next_spec (q := q) (l := l) (k := 0) (by omega) (by omega)) ?_
  intro z hz
  repeat' first | apply step | (apply g_op; · repeat first | exact Evs.nil | (apply Evs.cons; exact rfl)) | (refine Br.mk (fun _ => ?_) (fun _ => ?_) <;> try (exfalso; omega)) | (refine Sd.mk ?_ ?_; · ((repeat' apply And.intro) <;> first | omega | trivial | assumption | (simp; done) | (simp; omega))) | (refine Sx.mk ?_ ?_; · omega) | refine Fa.mk (fun _ => ?_) | refine Im.mk (fun _ => ?_) | apply Lw.go | refine g_cond ?_ | refine g_guard ?_ | refine g_keep ?_ | refine g_pass ?_ | refine g_fin ?_ | (apply g_ap; exact rfl; exact rfl; assumption)
  refine at_loopS (ι := Nat × Nat × Int) (E := fun j => [(0, .func (.yield ly) #[] #[]), (1, .pointer (some ⟨x, 0, none⟩)), (3, .int .i64 j.2.2)]) (Δ := fun j => A j.1 :: pt x [btp q] 0 :: bt q l :: F) (P := fun j => j.1 ≤ (elB l).length ∧ j.2.1 ≤ 65536 ∧ NxZ l j.2.1 j.2.2 ∧ (elB l).drop j.1 = elF l j.2.1) (μ := fun j => (elB l).length - j.1) (0, 0, z) ⟨by simp, by simp, hz, rfl⟩ ?_
  rintro ⟨i, k, z⟩ ⟨hi, hk, hz, hd⟩
  dsimp only at hi hk hz hd ⊢
  rcases hz with ⟨m, rfl, hm⟩ | ⟨rfl, hn⟩
  · have h1 := elF_some hm
    have hml := hm.lt
    have hlt : i < (elB l).length := by
      rcases Nat.lt_or_ge i (elB l).length with q | q
      · exact q
      · rw [List.drop_eq_nil_of_le q, h1] at hd; cases hd
    rw [List.drop_eq_getElem_cons hlt, h1] at hd
    obtain ⟨h2, h3⟩ := List.cons.inj hd
    have hyi := hy i hlt
    rw [h2] at hyi
    repeat' first | apply step | (apply g_op; · repeat first | exact Evs.nil | (apply Evs.cons; exact rfl)) | (refine Br.mk (fun _ => ?_) (fun _ => ?_) <;> try (exfalso; omega)) | (refine Sd.mk ?_ ?_; · ((repeat' apply And.intro) <;> first | omega | trivial | assumption | (simp; done) | (simp; omega))) | (refine Sx.mk ?_ ?_; · omega) | refine Fa.mk (fun _ => ?_) | refine Im.mk (fun _ => ?_) | apply Lw.go | refine g_cond ?_ | refine g_guard ?_ | refine g_keep ?_ | refine g_pass ?_ | refine g_fin ?_ | (apply g_ap; exact rfl; exact rfl; assumption)
    refine at_callY hyi ⟨?_, fun x hx => ?_⟩
    · repeat' first | apply step | (apply g_op; · repeat first | exact Evs.nil | (apply Evs.cons; exact rfl)) | (refine Br.mk (fun _ => ?_) (fun _ => ?_) <;> try (exfalso; omega)) | (refine Sd.mk ?_ ?_; · ((repeat' apply And.intro) <;> first | omega | trivial | assumption | (simp; done) | (simp; omega))) | (refine Sx.mk ?_ ?_; · omega) | refine Fa.mk (fun _ => ?_) | refine Im.mk (fun _ => ?_) | apply Lw.go | refine g_cond ?_ | refine g_guard ?_ | refine g_keep ?_ | refine g_pass ?_ | refine g_fin ?_ | (apply g_ap; exact rfl; exact rfl; assumption)
      refine at_callR (bits_Bits_Next_spec (q := q) (l := l) (k := ((m + 1 : Nat) : Int)) (by omega) (by omega)) ?_
      intro z' hz'
      rw [Int.toNat_natCast] at hz'
      repeat' first | apply step | (apply g_op; · repeat first | exact Evs.nil | (apply Evs.cons; exact rfl)) | (refine Br.mk (fun _ => ?_) (fun _ => ?_) <;> try (exfalso; omega)) | (refine Sd.mk ?_ ?_; · ((repeat' apply And.intro) <;> first | omega | trivial | assumption | (simp; done) | (simp; omega))) | (refine Sx.mk ?_ ?_; · omega) | refine Fa.mk (fun _ => ?_) | refine Im.mk (fun _ => ?_) | apply Lw.go | refine g_cond ?_ | refine g_guard ?_ | refine g_keep ?_ | refine g_pass ?_ | refine g_fin ?_ | (apply g_ap; exact rfl; exact rfl; assumption)
      refine lp_next (i + 1, m + 1, z') ⟨by omega, by dsimp only; omega, hz', h3⟩ (by dsimp only; omega)
    · repeat' first | apply step | (apply g_op; · repeat first | exact Evs.nil | (apply Evs.cons; exact rfl)) | (refine Br.mk (fun _ => ?_) (fun _ => ?_) <;> try (exfalso; omega)) | (refine Sd.mk ?_ ?_; · ((repeat' apply And.intro) <;> first | omega | trivial | assumption | (simp; done) | (simp; omega))) | (refine Sx.mk ?_ ?_; · omega) | refine Fa.mk (fun _ => ?_) | refine Im.mk (fun _ => ?_) | apply Lw.go | refine g_cond ?_ | refine g_guard ?_ | refine g_keep ?_ | refine g_pass ?_ | refine g_fin ?_ | (apply g_ap; exact rfl; exact rfl; assumption)
      exact fin (hR.2 x _ hx)
  · have h1 := elF_none hn
    have hie : i = (elB l).length := by
      rcases Nat.lt_or_ge i (elB l).length with q | q
      · rw [List.drop_eq_getElem_cons q, h1] at hd; cases hd
      · omega
    subst hie
    repeat' first | apply step | (apply g_op; · repeat first | exact Evs.nil | (apply Evs.cons; exact rfl)) | (refine Br.mk (fun _ => ?_) (fun _ => ?_) <;> try (exfalso; omega)) | (refine Sd.mk ?_ ?_; · ((repeat' apply And.intro) <;> first | omega | trivial | assumption | (simp; done) | (simp; omega))) | (refine Sx.mk ?_ ?_; · omega) | refine Fa.mk (fun _ => ?_) | refine Im.mk (fun _ => ?_) | apply Lw.go | refine g_cond ?_ | refine g_guard ?_ | refine g_keep ?_ | refine g_pass ?_ | refine g_fin ?_ | (apply g_ap; exact rfl; exact rfl; assumption)
    exact fin (hR.1 _)
end
end Go.AMS

namespace Go.AMS
open Go.AM hiding Kt At WP WL Runs RunsY
open Go.AM.G
set_option linter.unusedVariables false
set_option linter.unusedSimpArgs false
set_option linter.unusedSectionVars false
set_option maxRecDepth 100000
set_option maxHeartbeats 1000000
attribute [local irreducible] AtS AtV AtC AtG FinA Spec Post LP G.At G.WP G.WL pt own fro rdl ro hx mp lrec elt sub

section
variable {q o : Option Nat} {l m : List Bool}
theorem bits_Bits_Count_spec : Spec prog1 n_bits_Bits_Count [btp q] [ro (bt q l)] (fun R => R (.int .i64 ((elB l).length : Int)) []) := by
  refine spec_code c_bits_Bits_Count rfl ?_; intro n F R hR; unfold F_bits_Bits_Count
  refine at_btR q l fun hlen => ?_
  have hel := elB_len l
  repeat' first | apply step | (apply g_op; · repeat first | exact Evs.nil | (apply Evs.cons; exact rfl)) | (refine Br.mk (fun _ => ?_) (fun _ => ?_) <;> try (exfalso; omega)) | (refine Sd.mk ?_ ?_; · ((repeat' apply And.intro) <;> first | omega | trivial | assumption | (simp; done) | (simp; omega))) | (refine Sx.mk ?_ ?_; · omega) | refine Fa.mk (fun _ => ?_) | refine Im.mk (fun _ => ?_) | apply Lw.go | refine g_cond ?_ | refine g_guard ?_ | refine g_keep ?_ | refine g_pass ?_ | refine g_fin ?_ | (apply g_ap; exact rfl; exact rfl; assumption)
  rename_i xo
  first | refine at_callS (bits_Bits_All_spec (q := q)) ?_ | refine at_callR (bits_Bits_All_spec (q := q)) ?_
  intro x
  repeat' first | apply step | (apply g_op; · repeat first | exact Evs.nil | (apply Evs.cons; exact rfl)) | (refine Br.mk (fun _ => ?_) (fun _ => ?_) <;> try (exfalso; omega)) | (refine Sd.mk ?_ ?_; · ((repeat' apply And.intro) <;> first | omega | trivial | assumption | (simp; done) | (simp; omega))) | (refine Sx.mk ?_ ?_; · omega) | refine Fa.mk (fun _ => ?_) | refine Im.mk (fun _ => ?_) | apply Lw.go | refine g_cond ?_ | refine g_guard ?_ | refine g_keep ?_ | refine g_pass ?_ | refine g_fin ?_ | (apply g_ap; exact rfl; exact rfl; assumption)
  obtain ⟨I, hI⟩ : ∃ I : Nat → HP, ∀ i, I i = hx fun (w : Unit) => (True, [pt xo [.int .i64 (i : Int)] 0]) := ⟨_, fun _ => rfl⟩
  refine at_foldP (I 0) (hI 0) () trivial ?_
  refine at_rfunS (I := I) (J := fun _ => noP) (Po := []) (elB l).length (fun i => [.int .i64 ((elB l).getD i 0)])
    (fun ly A B h => bits_Bits_All_c1_spec (fun i hi => by have := h i hi; rwa [getD_lt hi] at this)) (fun _ _ => rfl) ?_ ?_ (fun _ _ => at_no)
  · intro i hi ly m F'
    refine at_openP (I i) (hI i) ?_
    rintro _ _
    dsimp only
    repeat' first | apply step | (apply g_op; · repeat first | exact Evs.nil | (apply Evs.cons; exact rfl)) | (refine Br.mk (fun _ => ?_) (fun _ => ?_) <;> try (exfalso; omega)) | (refine Sd.mk ?_ ?_; · ((repeat' apply And.intro) <;> first | omega | trivial | assumption | (simp; done) | (simp; omega))) | (refine Sx.mk ?_ ?_; · omega) | refine Fa.mk (fun _ => ?_) | refine Im.mk (fun _ => ?_) | apply Lw.go | refine g_cond ?_ | refine g_guard ?_ | refine g_keep ?_ | refine g_pass ?_ | refine g_fin ?_ | (apply g_ap; exact rfl; exact rfl; assumption)
    refine at_foldP (I (i + 1)) (hI _) () trivial ?_
    exact y_next
  · refine at_openP (I _) (hI _) ?_
    rintro _ _
    dsimp only
    repeat' first | apply step | (apply g_op; · repeat first | exact Evs.nil | (apply Evs.cons; exact rfl)) | (refine Br.mk (fun _ => ?_) (fun _ => ?_) <;> try (exfalso; omega)) | (refine Sd.mk ?_ ?_; · ((repeat' apply And.intro) <;> first | omega | trivial | assumption | (simp; done) | (simp; omega))) | (refine Sx.mk ?_ ?_; · omega) | refine Fa.mk (fun _ => ?_) | refine Im.mk (fun _ => ?_) | apply Lw.go | refine g_cond ?_ | refine g_guard ?_ | refine g_keep ?_ | refine g_pass ?_ | refine g_fin ?_ | (apply g_ap; exact rfl; exact rfl; assumption)
    exact fin hR
theorem bits_Bits_List_spec : Spec prog1 n_bits_Bits_List [btp q] [ro (bt q l)] (fun R => ∀ p' c', R (.slice p' (elB l).length c') [own (kInt .i64) p' c' (elB l)]) := by
  refine spec_code c_bits_Bits_List rfl ?_; intro n F R hR; unfold F_bits_Bits_List
  refine at_btR q l fun hlen => ?_
  have hel := elB_len l
  repeat' first | apply step | (apply g_op; · repeat first | exact Evs.nil | (apply Evs.cons; exact rfl)) | (refine Br.mk (fun _ => ?_) (fun _ => ?_) <;> try (exfalso; omega)) | (refine Sd.mk ?_ ?_; · ((repeat' apply And.intro) <;> first | omega | trivial | assumption | (simp; done) | (simp; omega))) | (refine Sx.mk ?_ ?_; · omega) | refine Fa.mk (fun _ => ?_) | refine Im.mk (fun _ => ?_) | apply Lw.go | refine g_cond ?_ | refine g_guard ?_ | refine g_keep ?_ | refine g_pass ?_ | refine g_fin ?_ | (apply g_ap; exact rfl; exact rfl; assumption)
  rename_i xo
  first | refine at_callS (bits_Bits_All_spec (q := q)) ?_ | refine at_callR (bits_Bits_All_spec (q := q)) ?_
  intro x
  repeat' first | apply step | (apply g_op; · repeat first | exact Evs.nil | (apply Evs.cons; exact rfl)) | (refine Br.mk (fun _ => ?_) (fun _ => ?_) <;> try (exfalso; omega)) | (refine Sd.mk ?_ ?_; · ((repeat' apply And.intro) <;> first | omega | trivial | assumption | (simp; done) | (simp; omega))) | (refine Sx.mk ?_ ?_; · omega) | refine Fa.mk (fun _ => ?_) | refine Im.mk (fun _ => ?_) | apply Lw.go | refine g_cond ?_ | refine g_guard ?_ | refine g_keep ?_ | refine g_pass ?_ | refine g_fin ?_ | (apply g_ap; exact rfl; exact rfl; assumption)
  obtain ⟨I, hI⟩ : ∃ I : Nat → HP, ∀ i, I i = hx fun (w : Option Addr × Nat × List Int) => (w.2.2 = (elB l).take i, [pt xo [.slice w.1 w.2.2.length w.2.1] 0, own (kInt .i64) w.1 w.2.1 w.2.2]) := ⟨_, fun _ => rfl⟩
  refine at_foldP (I 0) (hI 0) (none, 0, []) (by simp) ?_
  refine at_rfunS (I := I) (J := fun _ => noP) (Po := []) (elB l).length (fun i => [.int .i64 ((elB l).getD i 0)])
    (fun ly A B h => bits_Bits_All_c1_spec (fun i hi => by have := h i hi; rwa [getD_lt hi] at this)) (fun _ _ => rfl) ?_ ?_ (fun _ _ => at_no)
  · intro i hi ly m F'
    refine at_openP (I i) (hI i) ?_
    rintro ⟨p', c', l'⟩ h
    dsimp only at h ⊢
    subst h
    rw [getD_lt hi]
    obtain ⟨y, hy, hy2, _⟩ := elB_nat (List.getElem_mem hi)
    repeat' first | apply step | (apply g_op; · repeat first | exact Evs.nil | (apply Evs.cons; exact rfl)) | (refine Br.mk (fun _ => ?_) (fun _ => ?_) <;> try (exfalso; omega)) | (refine Sd.mk ?_ ?_; · ((repeat' apply And.intro) <;> first | omega | trivial | assumption | (simp; done) | (simp; omega))) | (refine Sx.mk ?_ ?_; · omega) | refine Fa.mk (fun _ => ?_) | refine Im.mk (fun _ => ?_) | apply Lw.go | refine g_cond ?_ | refine g_guard ?_ | refine g_keep ?_ | refine g_pass ?_ | refine g_fin ?_ | (apply g_ap; exact rfl; exact rfl; assumption)
    refine at_foldP (I (i + 1)) (hI _) (_, _, (elB l).take i ++ [(elB l)[i]]) (take_snoc hi) ?_
    exact y_next
  · refine at_openP (I _) (hI _) ?_
    rintro ⟨p', c', l'⟩ h
    dsimp only at h ⊢
    rw [List.take_length] at h
    subst h
    repeat' first | apply step | (apply g_op; · repeat first | exact Evs.nil | (apply Evs.cons; exact rfl)) | (refine Br.mk (fun _ => ?_) (fun _ => ?_) <;> try (exfalso; omega)) | (refine Sd.mk ?_ ?_; · ((repeat' apply And.intro) <;> first | omega | trivial | assumption | (simp; done) | (simp; omega))) | (refine Sx.mk ?_ ?_; · omega) | refine Fa.mk (fun _ => ?_) | refine Im.mk (fun _ => ?_) | apply Lw.go | refine g_cond ?_ | refine g_guard ?_ | refine g_keep ?_ | refine g_pass ?_ | refine g_fin ?_ | (apply g_ap; exact rfl; exact rfl; assumption)
    exact fin (hR _ _)
theorem bits_Bits_Or_own : Spec prog1 n_bits_Bits_Or [btp q, btp o] [bt q l, bt o m] (fun R => R (.tuple #[]) [bt q (setB l (elB m) true), bt o m]) := by
  refine spec_code c_bits_Bits_Or rfl ?_; intro n F R hR; unfold F_bits_Bits_Or
  refine at_btO o m fun hlen => ?_
  have hel := elB_len m
  repeat' first | apply step | (apply g_op; · repeat first | exact Evs.nil | (apply Evs.cons; exact rfl)) | (refine Br.mk (fun _ => ?_) (fun _ => ?_) <;> try (exfalso; omega)) | (refine Sd.mk ?_ ?_; · ((repeat' apply And.intro) <;> first | omega | trivial | assumption | (simp; done) | (simp; omega))) | (refine Sx.mk ?_ ?_; · omega) | refine Fa.mk (fun _ => ?_) | refine Im.mk (fun _ => ?_) | apply Lw.go | refine g_cond ?_ | refine g_guard ?_ | refine g_keep ?_ | refine g_pass ?_ | refine g_fin ?_ | (apply g_ap; exact rfl; exact rfl; assumption)
  rename_i xo
  first | refine at_callS (bits_Bits_All_spec (q := o)) ?_ | refine at_callR (bits_Bits_All_spec (q := o)) ?_
  intro x
  repeat' first | apply step | (apply g_op; · repeat first | exact Evs.nil | (apply Evs.cons; exact rfl)) | (refine Br.mk (fun _ => ?_) (fun _ => ?_) <;> try (exfalso; omega)) | (refine Sd.mk ?_ ?_; · ((repeat' apply And.intro) <;> first | omega | trivial | assumption | (simp; done) | (simp; omega))) | (refine Sx.mk ?_ ?_; · omega) | refine Fa.mk (fun _ => ?_) | refine Im.mk (fun _ => ?_) | apply Lw.go | refine g_cond ?_ | refine g_guard ?_ | refine g_keep ?_ | refine g_pass ?_ | refine g_fin ?_ | (apply g_ap; exact rfl; exact rfl; assumption)
  obtain ⟨I, hI⟩ : ∃ I : Nat → HP, ∀ i, I i = hx fun (w : Unit) => (True, [pt xo [btp q] 0, bt q (setB l ((elB m).take i) true)]) := ⟨_, fun _ => rfl⟩
  refine at_foldP (I 0) (hI 0) () trivial ?_
  refine at_rfunS (I := I) (J := fun _ => noP) (Po := [bt o m]) (elB m).length (fun i => [.int .i64 ((elB m).getD i 0)])
    (fun ly A B h => bits_Bits_All_c1_own (fun i hi => by have := h i hi; rwa [getD_lt hi] at this)) (fun _ _ => rfl) ?_ ?_ (fun _ _ => at_no)
  · intro i hi ly m1 F'
    refine at_openP (I i) (hI i) ?_
    rintro _ _
    dsimp only
    rw [getD_lt hi]
    obtain ⟨y, hy, hy2, _⟩ := elB_nat (List.getElem_mem hi)
    repeat' first | apply step | (apply g_op; · repeat first | exact Evs.nil | (apply Evs.cons; exact rfl)) | (refine Br.mk (fun _ => ?_) (fun _ => ?_) <;> try (exfalso; omega)) | (refine Sd.mk ?_ ?_; · ((repeat' apply And.intro) <;> first | omega | trivial | assumption | (simp; done) | (simp; omega))) | (refine Sx.mk ?_ ?_; · omega) | refine Fa.mk (fun _ => ?_) | refine Im.mk (fun _ => ?_) | apply Lw.go | refine g_cond ?_ | refine g_guard ?_ | refine g_keep ?_ | refine g_pass ?_ | refine g_fin ?_ | (apply g_ap; exact rfl; exact rfl; assumption)
    rename_i xb
    refine av_lit xb 1 (elB m)[i] (by omega) ?_
    first | refine at_callS (bits_Bits_Put_spec (q := q) (l := setB l ((elB m).take i) true) (r := [(elB m)[i]]) (by simp)) ?_ | refine at_callR (bits_Bits_Put_spec (q := q) (l := setB l ((elB m).take i) true) (r := [(elB m)[i]]) (by simp)) ?_
    rw [show setB (setB l ((elB m).take i) true) [(elB m)[i]] true = setB l ((elB m).take (i + 1)) true from (setB_snoc hi).symm]
    repeat' first | apply step | (apply g_op; · repeat first | exact Evs.nil | (apply Evs.cons; exact rfl)) | (refine Br.mk (fun _ => ?_) (fun _ => ?_) <;> try (exfalso; omega)) | (refine Sd.mk ?_ ?_; · ((repeat' apply And.intro) <;> first | omega | trivial | assumption | (simp; done) | (simp; omega))) | (refine Sx.mk ?_ ?_; · omega) | refine Fa.mk (fun _ => ?_) | refine Im.mk (fun _ => ?_) | apply Lw.go | refine g_cond ?_ | refine g_guard ?_ | refine g_keep ?_ | refine g_pass ?_ | refine g_fin ?_ | (apply g_ap; exact rfl; exact rfl; assumption)
    refine at_foldP (I (i + 1)) (hI _) () trivial ?_
    exact y_next
  · refine at_openP (I _) (hI _) ?_
    rintro _ _
    dsimp only
    rw [List.take_length]
    repeat' first | apply step | (apply g_op; · repeat first | exact Evs.nil | (apply Evs.cons; exact rfl)) | (refine Br.mk (fun _ => ?_) (fun _ => ?_) <;> try (exfalso; omega)) | (refine Sd.mk ?_ ?_; · ((repeat' apply And.intro) <;> first | omega | trivial | assumption | (simp; done) | (simp; omega))) | (refine Sx.mk ?_ ?_; · omega) | refine Fa.mk (fun _ => ?_) | refine Im.mk (fun _ => ?_) | apply Lw.go | refine g_cond ?_ | refine g_guard ?_ | refine g_keep ?_ | refine g_pass ?_ | refine g_fin ?_ | (apply g_ap; exact rfl; exact rfl; assumption)
    exact fin hR
theorem bits_Bits_Minus_own : Spec prog1 n_bits_Bits_Minus [btp q, btp o] [bt q l, bt o m] (fun R => R (.tuple #[]) [bt q (setB l (elB m) false), bt o m]) := by
  refine spec_code c_bits_Bits_Minus rfl ?_; intro n F R hR; unfold F_bits_Bits_Minus
  refine at_btO o m fun hlen => ?_
  have hel := elB_len m
  repeat' first | apply step | (apply g_op; · repeat first | exact Evs.nil | (apply Evs.cons; exact rfl)) | (refine Br.mk (fun _ => ?_) (fun _ => ?_) <;> try (exfalso; omega)) | (refine Sd.mk ?_ ?_; · ((repeat' apply And.intro) <;> first | omega | trivial | assumption | (simp; done) | (simp; omega))) | (refine Sx.mk ?_ ?_; · omega) | refine Fa.mk (fun _ => ?_) | refine Im.mk (fun _ => ?_) | apply Lw.go | refine g_cond ?_ | refine g_guard ?_ | refine g_keep ?_ | refine g_pass ?_ | refine g_fin ?_ | (apply g_ap; exact rfl; exact rfl; assumption)
  refine at_callR (bits_Bits_List_spec (q := o) (l := m)) ?_
  intro p' c'
  repeat' first | apply step | (apply g_op; · repeat first | exact Evs.nil | (apply Evs.cons; exact rfl)) | (refine Br.mk (fun _ => ?_) (fun _ => ?_) <;> try (exfalso; omega)) | (refine Sd.mk ?_ ?_; · ((repeat' apply And.intro) <;> first | omega | trivial | assumption | (simp; done) | (simp; omega))) | (refine Sx.mk ?_ ?_; · omega) | refine Fa.mk (fun _ => ?_) | refine Im.mk (fun _ => ?_) | apply Lw.go | refine g_cond ?_ | refine g_guard ?_ | refine g_keep ?_ | refine g_pass ?_ | refine g_fin ?_ | (apply g_ap; exact rfl; exact rfl; assumption)
  refine av_freeze (K := kInt .i64) (p := p') (c := c') (l := elB m) ?_
  first | refine at_callS (bits_Bits_Drop_spec (q := q) (l := l) (r := elB m) (by omega)) ?_ | refine at_callR (bits_Bits_Drop_spec (q := q) (l := l) (r := elB m) (by omega)) ?_
  repeat' first | apply step | (apply g_op; · repeat first | exact Evs.nil | (apply Evs.cons; exact rfl)) | (refine Br.mk (fun _ => ?_) (fun _ => ?_) <;> try (exfalso; omega)) | (refine Sd.mk ?_ ?_; · ((repeat' apply And.intro) <;> first | omega | trivial | assumption | (simp; done) | (simp; omega))) | (refine Sx.mk ?_ ?_; · omega) | refine Fa.mk (fun _ => ?_) | refine Im.mk (fun _ => ?_) | apply Lw.go | refine g_cond ?_ | refine g_guard ?_ | refine g_keep ?_ | refine g_pass ?_ | refine g_fin ?_ | (apply g_ap; exact rfl; exact rfl; assumption)
  exact fin hR
end
end Go.AMS

namespace Go.AMS
open Go.AM hiding Kt At WP WL Runs RunsY
open Go.AM.G
set_option linter.unusedVariables false
set_option linter.unusedSimpArgs false
set_option linter.unusedSectionVars false
set_option maxRecDepth 100000
set_option maxHeartbeats 1000000
attribute [local irreducible] AtS AtV AtC AtG FinA Spec Post LP G.At G.WP G.WL pt own fro rdl ro hx mp lrec elt sub

/-- With what is in another one. -/
def andF (m : List Bool) (x : Int) : Bool := !(m.getD x.toNat false)
def andB (l m : List Bool) : List Bool := setB l ((elB l).filter (andF m)) false
theorem setB_app (l : List Bool) (a b : List Int) (so : Bool) : setB l (a ++ b) so = setB (setB l a so) b so := by unfold setB; rw [List.foldl_append]
/-- The first ones. -/
def firstB (n k : Nat) : List Bool := List.replicate (min k n) true ++ List.replicate (n - k) false
theorem firstB_len (n k : Nat) : (firstB n k).length = n := by unfold firstB; simp; omega
theorem firstB_get (n k i : Nat) : (firstB n k).getD i false = decide (i < n ∧ i < k) := by
  unfold firstB
  rw [List.getD_eq_getElem?_getD, List.getElem?_append, List.length_replicate, List.getElem?_replicate, List.getElem?_replicate]
  by_cases h : i < min k n
  · rw [if_pos h, if_pos h, decide_eq_true (by omega)]; rfl
  · rw [if_neg h, decide_eq_false (by omega)]
    split <;> rfl
theorem firstB_0 (n : Nat) : firstB n 0 = List.replicate n false := by unfold firstB; simp
theorem firstB_n (n : Nat) : firstB n n = List.replicate n true := by unfold firstB; simp
theorem firstB_s {n k : Nat} (h : k < n) : setB (firstB n k) [(k : Int)] true = firstB n (k + 1) := by
  refine ext_getD (by rw [setB_len, firstB_len, firstB_len]) fun i hi => ?_
  rw [setB_len, firstB_len] at hi
  rw [setB_get, firstB_get, firstB_get, firstB_len]
  by_cases h2 : i = k
  · rw [if_pos ⟨by rw [h2]; exact List.mem_singleton.2 rfl, hi⟩, decide_eq_true (by omega)]
  · rw [if_neg (fun q => h2 (by have := List.mem_singleton.1 q.1; omega))]
    by_cases h3 : i < k
    · rw [decide_eq_true ⟨hi, h3⟩, decide_eq_true (by omega)]
    · rw [decide_eq_false (by omega), decide_eq_false (by omega)]
section
variable {q o : Option Nat} {l m : List Bool}
theorem bits_Bits_And_own : Spec prog1 n_bits_Bits_And [btp q, btp o] [bt q l, bt o m] (fun R => R (.tuple #[]) [bt q (andB l m), bt o m]) := by
  refine spec_code c_bits_Bits_And rfl ?_; intro n F R hR; unfold F_bits_Bits_And
  refine at_btO q l fun hlen => ?_
  refine at_btO o m fun hlem => ?_
  have hel := elB_len l
  repeat' first | apply step | (apply g_op; · repeat first | exact Evs.nil | (apply Evs.cons; exact rfl)) | (refine Br.mk (fun _ => ?_) (fun _ => ?_) <;> try (exfalso; omega)) | (refine Sd.mk ?_ ?_; · ((repeat' apply And.intro) <;> first | omega | trivial | assumption | (simp; done) | (simp; omega))) | (refine Sx.mk ?_ ?_; · omega) | refine Fa.mk (fun _ => ?_) | refine Im.mk (fun _ => ?_) | apply Lw.go | refine g_cond ?_ | refine g_guard ?_ | refine g_keep ?_ | refine g_pass ?_ | refine g_fin ?_ | (apply g_ap; exact rfl; exact rfl; assumption)
  refine at_callR (bits_Bits_List_spec (q := q) (l := l)) ?_
  intro p' c'
  repeat' first | apply step | (apply g_op; · repeat first | exact Evs.nil | (apply Evs.cons; exact rfl)) | (refine Br.mk (fun _ => ?_) (fun _ => ?_) <;> try (exfalso; omega)) | (refine Sd.mk ?_ ?_; · ((repeat' apply And.intro) <;> first | omega | trivial | assumption | (simp; done) | (simp; omega))) | (refine Sx.mk ?_ ?_; · omega) | refine Fa.mk (fun _ => ?_) | refine Im.mk (fun _ => ?_) | apply Lw.go | refine g_cond ?_ | refine g_guard ?_ | refine g_keep ?_ | refine g_pass ?_ | refine g_fin ?_ | (apply g_ap; exact rfl; exact rfl; assumption)
  refine at_loopS (ι := Nat) (E := fun j => [(0, btp q), (1, btp o), (7, .slice p' (elB l).length c'), (8, .int .i64 ((elB l).length : Int)), (9, .int .i64 (j : Int))]) (Δ := fun j => bt q (setB l (((elB l).take j).filter (andF m)) false) :: bt o m :: own (kInt .i64) p' c' (elB l) :: F) (P := fun j => j ≤ (elB l).length) (μ := fun j => (elB l).length - j) 0 (by omega) ?_
  rintro j hj
  dsimp only
  repeat' first | apply step | (apply g_op; · repeat first | exact Evs.nil | (apply Evs.cons; exact rfl)) | (refine Br.mk (fun _ => ?_) (fun _ => ?_) <;> try (exfalso; omega)) | (refine Sd.mk ?_ ?_; · ((repeat' apply And.intro) <;> first | omega | trivial | assumption | (simp; done) | (simp; omega))) | (refine Sx.mk ?_ ?_; · omega) | refine Fa.mk (fun _ => ?_) | refine Im.mk (fun _ => ?_) | apply Lw.go | refine g_cond ?_ | refine g_guard ?_ | refine g_keep ?_ | refine g_pass ?_ | refine g_fin ?_ | (apply g_ap; exact rfl; exact rfl; assumption)
  · have hlt : j < (elB l).length := by omega
    obtain ⟨y, hy, hy2, _⟩ := elB_nat (List.getElem_mem hlt)
    have htk : ((elB l).take (j + 1)).filter (andF m) = ((elB l).take j).filter (andF m) ++ [(elB l)[j]].filter (andF m) := by
      rw [← List.take_append_getElem hlt, List.filter_append]
    have hsg := setB_app l (((elB l).take j).filter (andF m)) ([(elB l)[j]].filter (andF m)) false
    rw [← htk] at hsg
    refine at_callR (bits_Bits_Has_spec (q := o) (l := m) (k := (elB l)[j])) ?_
    refine ⟨fun hf => ?_, fun hf => ?_⟩
    · have h1 : [(elB l)[j]].filter (andF m) = [] := by
        rw [List.filter_cons, if_neg (by unfold andF; rw [hf.2]; simp)]; rfl
      rw [h1] at hsg
      rw [show setB l (((elB l).take j).filter (andF m)) false = setB l (((elB l).take (j + 1)).filter (andF m)) false from hsg.symm]
      repeat' first | apply step | (apply g_op; · repeat first | exact Evs.nil | (apply Evs.cons; exact rfl)) | (refine Br.mk (fun _ => ?_) (fun _ => ?_) <;> try (exfalso; omega)) | (refine Sd.mk ?_ ?_; · ((repeat' apply And.intro) <;> first | omega | trivial | assumption | (simp; done) | (simp; omega))) | (refine Sx.mk ?_ ?_; · omega) | refine Fa.mk (fun _ => ?_) | refine Im.mk (fun _ => ?_) | apply Lw.go | refine g_cond ?_ | refine g_guard ?_ | refine g_keep ?_ | refine g_pass ?_ | refine g_fin ?_ | (apply g_ap; exact rfl; exact rfl; assumption)
      refine lp_next (j + 1) (by omega) (by omega)
    · have hff : m.getD (elB l)[j].toNat false = false := by
        cases hb : m.getD (elB l)[j].toNat false with
        | false => rfl
        | true => exact absurd ⟨by omega, hb⟩ hf
      have h1 : [(elB l)[j]].filter (andF m) = [(elB l)[j]] := by
        rw [List.filter_cons, if_pos (by unfold andF; rw [hff]; rfl)]; rfl
      rw [h1] at hsg
      repeat' first | apply step | (apply g_op; · repeat first | exact Evs.nil | (apply Evs.cons; exact rfl)) | (refine Br.mk (fun _ => ?_) (fun _ => ?_) <;> try (exfalso; omega)) | (refine Sd.mk ?_ ?_; · ((repeat' apply And.intro) <;> first | omega | trivial | assumption | (simp; done) | (simp; omega))) | (refine Sx.mk ?_ ?_; · omega) | refine Fa.mk (fun _ => ?_) | refine Im.mk (fun _ => ?_) | apply Lw.go | refine g_cond ?_ | refine g_guard ?_ | refine g_keep ?_ | refine g_pass ?_ | refine g_fin ?_ | (apply g_ap; exact rfl; exact rfl; assumption)
      rename_i xb
      refine av_lit xb 1 (elB l)[j] (by omega) ?_
      first | refine at_callS (bits_Bits_Drop_spec (q := q) (l := setB l (((elB l).take j).filter (andF m)) false) (r := [(elB l)[j]]) (by simp)) ?_ | refine at_callR (bits_Bits_Drop_spec (q := q) (l := setB l (((elB l).take j).filter (andF m)) false) (r := [(elB l)[j]]) (by simp)) ?_
      rw [← hsg]
      repeat' first | apply step | (apply g_op; · repeat first | exact Evs.nil | (apply Evs.cons; exact rfl)) | (refine Br.mk (fun _ => ?_) (fun _ => ?_) <;> try (exfalso; omega)) | (refine Sd.mk ?_ ?_; · ((repeat' apply And.intro) <;> first | omega | trivial | assumption | (simp; done) | (simp; omega))) | (refine Sx.mk ?_ ?_; · omega) | refine Fa.mk (fun _ => ?_) | refine Im.mk (fun _ => ?_) | apply Lw.go | refine g_cond ?_ | refine g_guard ?_ | refine g_keep ?_ | refine g_pass ?_ | refine g_fin ?_ | (apply g_ap; exact rfl; exact rfl; assumption)
      refine lp_next (j + 1) (by omega) (by omega)
  · have : j = (elB l).length := by omega
    subst this
    rw [List.take_length]
    repeat' first | apply step | (apply g_op; · repeat first | exact Evs.nil | (apply Evs.cons; exact rfl)) | (refine Br.mk (fun _ => ?_) (fun _ => ?_) <;> try (exfalso; omega)) | (refine Sd.mk ?_ ?_; · ((repeat' apply And.intro) <;> first | omega | trivial | assumption | (simp; done) | (simp; omega))) | (refine Sx.mk ?_ ?_; · omega) | refine Fa.mk (fun _ => ?_) | refine Im.mk (fun _ => ?_) | apply Lw.go | refine g_cond ?_ | refine g_guard ?_ | refine g_keep ?_ | refine g_pass ?_ | refine g_fin ?_ | (apply g_ap; exact rfl; exact rfl; assumption)
    exact fin hR
theorem bits_Full_spec {z : Int} : Spec prog1 n_bits_Full [.int .i64 z] [] (fun R => ∀ b, R (btp (some b)) [bt (some b) (List.replicate (clampN z) true)]) := by
  refine spec_code c_bits_Full rfl ?_; intro n F R hR; unfold F_bits_Full
  obtain ⟨u, hu⟩ : ∃ u, u = clampN z := ⟨_, rfl⟩
  have hle : u ≤ 65536 := by rw [hu]; unfold clampN; omega
  repeat' first | apply step | (apply g_op; · repeat first | exact Evs.nil | (apply Evs.cons; exact rfl)) | (refine Br.mk (fun _ => ?_) (fun _ => ?_) <;> try (exfalso; omega)) | (refine Sd.mk ?_ ?_; · ((repeat' apply And.intro) <;> first | omega | trivial | assumption | (simp; done) | (simp; omega))) | (refine Sx.mk ?_ ?_; · omega) | refine Fa.mk (fun _ => ?_) | refine Im.mk (fun _ => ?_) | apply Lw.go | refine g_cond ?_ | refine g_guard ?_ | refine g_keep ?_ | refine g_pass ?_ | refine g_fin ?_ | (apply g_ap; exact rfl; exact rfl; assumption)
  first | refine at_callS (bits_New_spec (z := z)) ?_ | refine at_callR (bits_New_spec (z := z)) ?_
  intro b
  rw [← hu, ← firstB_0]
  rw [← hu, ← firstB_n] at hR
  rw [show btp (some b) = .pointer (some ⟨b, 0, none⟩) from rfl]
  refine at_openP (bt (some b) (firstB u 0)) rfl ?_
  rintro ⟨p, c⟩ hl
  dsimp only at hl ⊢
  repeat' first | apply step | (apply g_op; · repeat first | exact Evs.nil | (apply Evs.cons; exact rfl)) | (refine Br.mk (fun _ => ?_) (fun _ => ?_) <;> try (exfalso; omega)) | (refine Sd.mk ?_ ?_; · ((repeat' apply And.intro) <;> first | omega | trivial | assumption | (simp; done) | (simp; omega))) | (refine Sx.mk ?_ ?_; · omega) | refine Fa.mk (fun _ => ?_) | refine Im.mk (fun _ => ?_) | apply Lw.go | refine g_cond ?_ | refine g_guard ?_ | refine g_keep ?_ | refine g_pass ?_ | refine g_fin ?_ | (apply g_ap; exact rfl; exact rfl; assumption)
  refine at_foldP (bt (some b) (firstB u 0)) rfl (p, c) hl ?_
  refine at_loopS (ι := Nat) (E := fun j => [(3, .pointer (some ⟨b, 0, none⟩)), (10, .int .i64 (u : Int)), (11, .int .i64 (j : Int))]) (Δ := fun j => bt (some b) (firstB u j) :: F) (P := fun j => j ≤ u) (μ := fun j => u - j) 0 (by omega) ?_ (by rw [firstB_len]; rfl)
  intro j hj
  repeat' first | apply step | (apply g_op; · repeat first | exact Evs.nil | (apply Evs.cons; exact rfl)) | (refine Br.mk (fun _ => ?_) (fun _ => ?_) <;> try (exfalso; omega)) | (refine Sd.mk ?_ ?_; · ((repeat' apply And.intro) <;> first | omega | trivial | assumption | (simp; done) | (simp; omega))) | (refine Sx.mk ?_ ?_; · omega) | refine Fa.mk (fun _ => ?_) | refine Im.mk (fun _ => ?_) | apply Lw.go | refine g_cond ?_ | refine g_guard ?_ | refine g_keep ?_ | refine g_pass ?_ | refine g_fin ?_ | (apply g_ap; exact rfl; exact rfl; assumption)
  · rename_i xb
    refine av_lit xb 1 (j : Int) (by omega) ?_
    first | refine at_callS (bits_Bits_Put_spec (q := some b) (l := firstB u j) (r := [(j : Int)]) (by simp)) ?_ | refine at_callR (bits_Bits_Put_spec (q := some b) (l := firstB u j) (r := [(j : Int)]) (by simp)) ?_
    rw [firstB_s (by omega)]
    repeat' first | apply step | (apply g_op; · repeat first | exact Evs.nil | (apply Evs.cons; exact rfl)) | (refine Br.mk (fun _ => ?_) (fun _ => ?_) <;> try (exfalso; omega)) | (refine Sd.mk ?_ ?_; · ((repeat' apply And.intro) <;> first | omega | trivial | assumption | (simp; done) | (simp; omega))) | (refine Sx.mk ?_ ?_; · omega) | refine Fa.mk (fun _ => ?_) | refine Im.mk (fun _ => ?_) | apply Lw.go | refine g_cond ?_ | refine g_guard ?_ | refine g_keep ?_ | refine g_pass ?_ | refine g_fin ?_ | (apply g_ap; exact rfl; exact rfl; assumption)
    refine lp_next (j + 1) (by omega) (by omega)
  · have : j = u := by omega
    subst this
    repeat' first | apply step | (apply g_op; · repeat first | exact Evs.nil | (apply Evs.cons; exact rfl)) | (refine Br.mk (fun _ => ?_) (fun _ => ?_) <;> try (exfalso; omega)) | (refine Sd.mk ?_ ?_; · ((repeat' apply And.intro) <;> first | omega | trivial | assumption | (simp; done) | (simp; omega))) | (refine Sx.mk ?_ ?_; · omega) | refine Fa.mk (fun _ => ?_) | refine Im.mk (fun _ => ?_) | apply Lw.go | refine g_cond ?_ | refine g_guard ?_ | refine g_keep ?_ | refine g_pass ?_ | refine g_fin ?_ | (apply g_ap; exact rfl; exact rfl; assumption)
    exact fin (hR _)
theorem r06_Has_spec {p : Option Addr} {c : Nat} {k : Int} (hl : l.length ≤ 1000000) : Spec prog1 n_r06_Has [.slice p l.length c, .int .i64 k] [rdl kBool p l] (fun R => (0 ≤ k ∧ l.getD k.toNat false = true → R (.bool true) []) ∧ (¬ (0 ≤ k ∧ l.getD k.toNat false = true) → R (.bool false) [])) := by
  refine spec_code c_r06_Has rfl ?_; intro n F R hR; unfold F_r06_Has
  by_cases h : 0 ≤ k ∧ k < l.length
  · obtain ⟨i, rfl⟩ := Int.eq_ofNat_of_zero_le h.1
    rw [Int.toNat_natCast] at hR
    have hi : i < l.length := by omega
    repeat' first | apply step | (apply g_op; · repeat first | exact Evs.nil | (apply Evs.cons; exact rfl)) | (refine Br.mk (fun _ => ?_) (fun _ => ?_) <;> try (exfalso; omega)) | (refine Sd.mk ?_ ?_; · ((repeat' apply And.intro) <;> first | omega | trivial | assumption | (simp; done) | (simp; omega))) | (refine Sx.mk ?_ ?_; · omega) | refine Fa.mk (fun _ => ?_) | refine Im.mk (fun _ => ?_) | apply Lw.go | refine g_cond ?_ | refine g_guard ?_ | refine g_keep ?_ | refine g_pass ?_ | refine g_fin ?_ | (apply g_ap; exact rfl; exact rfl; assumption)
    rw [List.getD_eq_getElem?_getD, List.getElem?_eq_getElem hi] at hR
    cases hb : l[i] with
    | true => rw [hb] at hR; exact fin (hR.1 ⟨h.1, rfl⟩)
    | false => rw [hb] at hR; exact fin (hR.2 (fun q => by cases q.2))
  · have hn : ¬ (0 ≤ k ∧ l.getD k.toNat false = true) := fun q => by have := getD_lt_of q.2; omega
    repeat' first | apply step | (apply g_op; · repeat first | exact Evs.nil | (apply Evs.cons; exact rfl)) | (refine Br.mk (fun _ => ?_) (fun _ => ?_) <;> try (exfalso; omega)) | (refine Sd.mk ?_ ?_; · ((repeat' apply And.intro) <;> first | omega | trivial | assumption | (simp; done) | (simp; omega))) | (refine Sx.mk ?_ ?_; · omega) | refine Fa.mk (fun _ => ?_) | refine Im.mk (fun _ => ?_) | apply Lw.go | refine g_cond ?_ | refine g_guard ?_ | refine g_keep ?_ | refine g_pass ?_ | refine g_fin ?_ | (apply g_ap; exact rfl; exact rfl; assumption)
    all_goals exact fin (hR.2 hn)
end
end Go.AMS

namespace Go.AMS
open Go.AM hiding Kt At WP WL Runs RunsY
open Go.AM.G
set_option linter.unusedVariables false
set_option linter.unusedSimpArgs false
set_option linter.unusedSectionVars false
set_option maxRecDepth 100000
set_option maxHeartbeats 1000000
attribute [local irreducible] AtS AtV AtC AtG FinA Spec Post LP G.At G.WP G.WL pt own fro rdl ro hx mp lrec elt sub

def firstA (a : Bool) (n k : Nat) : List Bool := List.replicate (min k n) a ++ List.replicate (n - k) false
theorem firstA_len (a : Bool) (n k : Nat) : (firstA a n k).length = n := by unfold firstA; simp; omega
theorem firstA_get (a : Bool) (n k i : Nat) : (firstA a n k).getD i false = (decide (i < n ∧ i < k) && a) := by
  unfold firstA
  rw [List.getD_eq_getElem?_getD, List.getElem?_append, List.length_replicate, List.getElem?_replicate, List.getElem?_replicate]
  by_cases h : i < min k n
  · rw [if_pos h, if_pos h, decide_eq_true (by omega)]; rfl
  · rw [if_neg h, decide_eq_false (by omega)]
    split <;> rfl
theorem firstA_0 (a : Bool) (n : Nat) : firstA a n 0 = List.replicate n false := by unfold firstA; simp
theorem firstA_n (a : Bool) (n : Nat) : firstA a n n = List.replicate n a := by unfold firstA; simp
theorem firstA_s {a : Bool} {n k : Nat} (h : k < n) : (firstA a n k).set k a = firstA a n (k + 1) := by
  refine ext_getD (by rw [List.length_set, firstA_len, firstA_len]) fun i hi => ?_
  rw [List.length_set, firstA_len] at hi
  rw [getD_set (by rw [firstA_len]; exact h), firstA_get, firstA_get]
  by_cases h2 : i = k
  · rw [if_pos h2, decide_eq_true (by omega), Bool.true_and]
  · rw [if_neg h2]
    by_cases h3 : i < k
    · rw [decide_eq_true ⟨hi, h3⟩, decide_eq_true (by omega)]
    · rw [decide_eq_false (by omega), decide_eq_false (by omega)]
/-- What is there among the first ones. -/
def elP (l : List Bool) (j : Nat) : List Int := ((List.range j).filter fun i => l.getD i false).map fun i => ((i : Nat) : Int)
theorem elP_all (l : List Bool) : elP l l.length = elB l := by
  unfold elP elB elF
  simp
theorem elP_s (l : List Bool) (j : Nat) : elP l (j + 1) = elP l j ++ if l.getD j false then [(j : Int)] else [] := by
  unfold elP
  rw [List.range_succ, List.filter_append, List.map_append, List.filter_cons]
  split <;> rfl
theorem elP_len (l : List Bool) (j : Nat) : (elP l j).length ≤ j := by
  unfold elP; rw [List.length_map]; exact Nat.le_trans (List.length_filter_le _ _) (by simp)
/-- A row made with another one. -/
def wF (how : Int) (a b : Bool) : Bool := if how = 0 then a || b else if how = 1 then a && b else if how = 2 then a && !b else a
def withB (a b : List Bool) (how : Int) (j : Nat) : List Bool := (List.range a.length).map fun i => if i < j then wF how (a.getD i false) (b.getD i false) else a.getD i false
theorem withB_len (a b : List Bool) (how : Int) (j : Nat) : (withB a b how j).length = a.length := by unfold withB; simp
theorem withB_get {a b : List Bool} {how : Int} {j i : Nat} (hi : i < a.length) : (withB a b how j).getD i false = if i < j then wF how (a.getD i false) (b.getD i false) else a.getD i false := by
  unfold withB
  rw [List.getD_eq_getElem?_getD, List.getElem?_map, List.getElem?_range hi]; rfl
theorem withB_0 (a b : List Bool) (how : Int) : withB a b how 0 = a := ext_getD (withB_len ..) fun i hi => by
  rw [withB_len] at hi
  rw [withB_get hi, if_neg (by omega)]
theorem withB_s {a b : List Bool} {how : Int} {j : Nat} (h : j < a.length) : withB a b how (j + 1) = (withB a b how j).set j (wF how (a.getD j false) (b.getD j false)) := by
  refine ext_getD (by rw [List.length_set, withB_len, withB_len]) fun i hi => ?_
  rw [withB_len] at hi
  rw [getD_set (by rw [withB_len]; exact h), withB_get hi, withB_get hi]
  by_cases h2 : i = j
  · rw [if_pos (by omega), if_pos h2, h2]
  · rw [if_neg h2]
    by_cases h3 : i < j
    · rw [if_pos (by omega), if_pos h3]
    · rw [if_neg (by omega), if_neg h3]
section
variable {l m : List Bool}
theorem r06_New_spec {z : Int} {a : Bool} : Spec prog1 n_r06_New [.int .i64 z, .bool a] [] (fun R => ∀ p c, R (.slice p (clampN z) c) [own kBool p c (List.replicate (clampN z) a)]) := by
  refine spec_code c_r06_New rfl ?_; intro n F R hR; unfold F_r06_New
  have hcl : clampN z = (max 0 (min z 65536)).toNat := rfl
  rcases Int.lt_or_le z 0 with h1 | h1
  · rw [show clampN z = 0 by omega] at hR
    repeat' first | apply step | (apply g_op; · repeat first | exact Evs.nil | (apply Evs.cons; exact rfl)) | (refine Br.mk (fun _ => ?_) (fun _ => ?_) <;> try (exfalso; omega)) | (refine Sd.mk ?_ ?_; · ((repeat' apply And.intro) <;> first | omega | trivial | assumption | (simp; done) | (simp; omega))) | (refine Sx.mk ?_ ?_; · omega) | refine Fa.mk (fun _ => ?_) | refine Im.mk (fun _ => ?_) | apply Lw.go | refine g_cond ?_ | refine g_guard ?_ | refine g_keep ?_ | refine g_pass ?_ | refine g_fin ?_ | (apply g_ap; exact rfl; exact rfl; assumption)
    rename_i xb
    rw [show List.replicate 0 false = firstA a 0 0 from rfl]
    refine at_loopS (ι := Nat) (E := fun j => [(0, .int .i64 ((0 : Nat) : Int)), (1, .bool a), (5, .slice (some ⟨xb, 0, none⟩) 0 0), (6, .int .i64 (j : Int))]) (Δ := fun j => own kBool (some ⟨xb, 0, none⟩) 0 (firstA a 0 j) :: F) (P := fun j => j = 0) (μ := fun j => 0) 0 rfl ?_
    rintro j rfl
    dsimp only
    repeat' first | apply step | (apply g_op; · repeat first | exact Evs.nil | (apply Evs.cons; exact rfl)) | (refine Br.mk (fun _ => ?_) (fun _ => ?_) <;> try (exfalso; omega)) | (refine Sd.mk ?_ ?_; · ((repeat' apply And.intro) <;> first | omega | trivial | assumption | (simp; done) | (simp; omega))) | (refine Sx.mk ?_ ?_; · omega) | refine Fa.mk (fun _ => ?_) | refine Im.mk (fun _ => ?_) | apply Lw.go | refine g_cond ?_ | refine g_guard ?_ | refine g_keep ?_ | refine g_pass ?_ | refine g_fin ?_ | (apply g_ap; exact rfl; exact rfl; assumption)
    rw [firstA_n] at *
    exact fin (hR _ _)
  · rcases Int.lt_or_le 65536 z with h2 | h2
    · rw [show clampN z = 65536 by omega] at hR
      repeat' first | apply step | (apply g_op; · repeat first | exact Evs.nil | (apply Evs.cons; exact rfl)) | (refine Br.mk (fun _ => ?_) (fun _ => ?_) <;> try (exfalso; omega)) | (refine Sd.mk ?_ ?_; · ((repeat' apply And.intro) <;> first | omega | trivial | assumption | (simp; done) | (simp; omega))) | (refine Sx.mk ?_ ?_; · omega) | refine Fa.mk (fun _ => ?_) | refine Im.mk (fun _ => ?_) | apply Lw.go | refine g_cond ?_ | refine g_guard ?_ | refine g_keep ?_ | refine g_pass ?_ | refine g_fin ?_ | (apply g_ap; exact rfl; exact rfl; assumption)
      rename_i xb
      rw [show Int.toNat 65536 = 65536 from rfl]
      rw [← firstA_0 a]
      refine at_loopS (ι := Nat) (E := fun j => [(0, .int .i64 ((65536 : Nat) : Int)), (1, .bool a), (5, .slice (some ⟨xb, 0, none⟩) 65536 65536), (6, .int .i64 (j : Int))]) (Δ := fun j => own kBool (some ⟨xb, 0, none⟩) 65536 (firstA a 65536 j) :: F) (P := fun j => j ≤ 65536) (μ := fun j => 65536 - j) 0 (by omega) ?_
      rintro j hj
      dsimp only
      have hfl := firstA_len a 65536 j
      by_cases hjl : j < 65536
      · repeat' first | apply step | (apply g_op; · repeat first | exact Evs.nil | (apply Evs.cons; exact rfl)) | (refine Br.mk (fun _ => ?_) (fun _ => ?_) <;> try (exfalso; omega)) | (refine Sd.mk ?_ ?_; · ((repeat' apply And.intro) <;> first | omega | trivial | assumption | (simp; done) | (simp; omega))) | (refine Sx.mk ?_ ?_; · omega) | refine Fa.mk (fun _ => ?_) | refine Im.mk (fun _ => ?_) | apply Lw.go | refine g_cond ?_ | refine g_guard ?_ | refine g_keep ?_ | refine g_pass ?_ | refine g_fin ?_ | (apply g_ap; exact rfl; exact rfl; assumption)
        rw [firstA_s hjl]
        refine lp_next (j + 1) (by omega) (by omega)
      · repeat' first | apply step | (apply g_op; · repeat first | exact Evs.nil | (apply Evs.cons; exact rfl)) | (refine Br.mk (fun _ => ?_) (fun _ => ?_) <;> try (exfalso; omega)) | (refine Sd.mk ?_ ?_; · ((repeat' apply And.intro) <;> first | omega | trivial | assumption | (simp; done) | (simp; omega))) | (refine Sx.mk ?_ ?_; · omega) | refine Fa.mk (fun _ => ?_) | refine Im.mk (fun _ => ?_) | apply Lw.go | refine g_cond ?_ | refine g_guard ?_ | refine g_keep ?_ | refine g_pass ?_ | refine g_fin ?_ | (apply g_ap; exact rfl; exact rfl; assumption)
        obtain rfl : j = 65536 := by omega
        rw [firstA_n]
        exact fin (hR _ _)
    · obtain ⟨u, rfl⟩ := Int.eq_ofNat_of_zero_le h1; rw [show clampN (u : Int) = u by omega] at hR
      repeat' first | apply step | (apply g_op; · repeat first | exact Evs.nil | (apply Evs.cons; exact rfl)) | (refine Br.mk (fun _ => ?_) (fun _ => ?_) <;> try (exfalso; omega)) | (refine Sd.mk ?_ ?_; · ((repeat' apply And.intro) <;> first | omega | trivial | assumption | (simp; done) | (simp; omega))) | (refine Sx.mk ?_ ?_; · omega) | refine Fa.mk (fun _ => ?_) | refine Im.mk (fun _ => ?_) | apply Lw.go | refine g_cond ?_ | refine g_guard ?_ | refine g_keep ?_ | refine g_pass ?_ | refine g_fin ?_ | (apply g_ap; exact rfl; exact rfl; assumption)
      rename_i xb
      skip
      rw [← firstA_0 a]
      refine at_loopS (ι := Nat) (E := fun j => [(0, .int .i64 ((u : Nat) : Int)), (1, .bool a), (5, .slice (some ⟨xb, 0, none⟩) u u), (6, .int .i64 (j : Int))]) (Δ := fun j => own kBool (some ⟨xb, 0, none⟩) u (firstA a u j) :: F) (P := fun j => j ≤ u) (μ := fun j => u - j) 0 (by omega) ?_
      rintro j hj
      dsimp only
      have hfl := firstA_len a u j
      by_cases hjl : j < u
      · repeat' first | apply step | (apply g_op; · repeat first | exact Evs.nil | (apply Evs.cons; exact rfl)) | (refine Br.mk (fun _ => ?_) (fun _ => ?_) <;> try (exfalso; omega)) | (refine Sd.mk ?_ ?_; · ((repeat' apply And.intro) <;> first | omega | trivial | assumption | (simp; done) | (simp; omega))) | (refine Sx.mk ?_ ?_; · omega) | refine Fa.mk (fun _ => ?_) | refine Im.mk (fun _ => ?_) | apply Lw.go | refine g_cond ?_ | refine g_guard ?_ | refine g_keep ?_ | refine g_pass ?_ | refine g_fin ?_ | (apply g_ap; exact rfl; exact rfl; assumption)
        rw [firstA_s hjl]
        refine lp_next (j + 1) (by omega) (by omega)
      · repeat' first | apply step | (apply g_op; · repeat first | exact Evs.nil | (apply Evs.cons; exact rfl)) | (refine Br.mk (fun _ => ?_) (fun _ => ?_) <;> try (exfalso; omega)) | (refine Sd.mk ?_ ?_; · ((repeat' apply And.intro) <;> first | omega | trivial | assumption | (simp; done) | (simp; omega))) | (refine Sx.mk ?_ ?_; · omega) | refine Fa.mk (fun _ => ?_) | refine Im.mk (fun _ => ?_) | apply Lw.go | refine g_cond ?_ | refine g_guard ?_ | refine g_keep ?_ | refine g_pass ?_ | refine g_fin ?_ | (apply g_ap; exact rfl; exact rfl; assumption)
        obtain rfl : j = u := by omega
        rw [firstA_n]
        exact fin (hR _ _)
theorem r06_Set_spec {p p2 : Option Addr} {c c2 : Nat} {r : List Int} {so : Bool} (hl : l.length ≤ 1000000) (hr : r.length ≤ 1000000) : Spec prog1 n_r06_Set [.slice p l.length c, .slice p2 r.length c2, .bool so] [rdl kBool p l, rdl (kInt .i64) p2 r] (fun R => ∀ p' c', R (.slice p' l.length c') [own kBool p' c' (setB l r so)]) := by
  refine spec_code c_r06_Set rfl ?_; intro n F R hR; unfold F_r06_Set
  repeat' first | apply step | (apply g_op; · repeat first | exact Evs.nil | (apply Evs.cons; exact rfl)) | (refine Br.mk (fun _ => ?_) (fun _ => ?_) <;> try (exfalso; omega)) | (refine Sd.mk ?_ ?_; · ((repeat' apply And.intro) <;> first | omega | trivial | assumption | (simp; done) | (simp; omega))) | (refine Sx.mk ?_ ?_; · omega) | refine Fa.mk (fun _ => ?_) | refine Im.mk (fun _ => ?_) | apply Lw.go | refine g_cond ?_ | refine g_guard ?_ | refine g_keep ?_ | refine g_pass ?_ | refine g_fin ?_ | (apply g_ap; exact rfl; exact rfl; assumption)
  rename_i p' c'
  refine at_loopS (ι := Nat) (E := fun j => [(1, .slice p2 r.length c2), (2, .bool so), (7, .slice p' l.length c'), (8, .int .i64 (j : Int))]) (Δ := fun j => own kBool p' c' (setB l (r.take j) so) :: rdl (kInt .i64) p2 r :: F) (P := fun j => j ≤ r.length) (μ := fun j => r.length - j) 0 (by omega) ?_
  rintro j hj
  dsimp only
  have hsl := setB_len (r.take j) so l
  by_cases hjl : j < r.length
  · have hs := setB_snoc (l := l) (so := so) hjl
    by_cases hf : 0 ≤ r[j] ∧ r[j] < (l.length : Int)
    · obtain ⟨i, hi⟩ := Int.eq_ofNat_of_zero_le hf.1
      have hs1 : set1 (setB l (r.take j) so) so r[j] = (setB l (r.take j) so).set i so := by
        unfold set1; rw [hsl, if_pos hf, hi, Int.toNat_natCast]
      rw [hs1] at hs
      repeat' first | rw [hi] | apply step | (apply g_op; · repeat first | exact Evs.nil | (apply Evs.cons; exact rfl)) | (refine Br.mk (fun _ => ?_) (fun _ => ?_) <;> try (exfalso; omega)) | (refine Sd.mk ?_ ?_; · ((repeat' apply And.intro) <;> first | omega | trivial | assumption | (simp; done) | (simp; omega))) | (refine Sx.mk ?_ ?_; · omega) | refine Fa.mk (fun _ => ?_) | refine Im.mk (fun _ => ?_) | apply Lw.go | refine g_cond ?_ | refine g_guard ?_ | refine g_keep ?_ | refine g_pass ?_ | refine g_fin ?_ | (apply g_ap; exact rfl; exact rfl; assumption)
      rw [← hs]
      refine lp_next (j + 1) (by omega) (by omega)
    · have hs1 : set1 (setB l (r.take j) so) so r[j] = setB l (r.take j) so := by
        unfold set1; rw [hsl, if_neg hf]
      rw [hs1] at hs
      repeat' first | apply step | (apply g_op; · repeat first | exact Evs.nil | (apply Evs.cons; exact rfl)) | (refine Br.mk (fun _ => ?_) (fun _ => ?_) <;> try (exfalso; omega)) | (refine Sd.mk ?_ ?_; · ((repeat' apply And.intro) <;> first | omega | trivial | assumption | (simp; done) | (simp; omega))) | (refine Sx.mk ?_ ?_; · omega) | refine Fa.mk (fun _ => ?_) | refine Im.mk (fun _ => ?_) | apply Lw.go | refine g_cond ?_ | refine g_guard ?_ | refine g_keep ?_ | refine g_pass ?_ | refine g_fin ?_ | (apply g_ap; exact rfl; exact rfl; assumption)
      all_goals
        rw [← hs]
        refine lp_next (j + 1) (by omega) (by omega)
  · obtain rfl : j = r.length := by omega
    rw [List.take_length]
    repeat' first | apply step | (apply g_op; · repeat first | exact Evs.nil | (apply Evs.cons; exact rfl)) | (refine Br.mk (fun _ => ?_) (fun _ => ?_) <;> try (exfalso; omega)) | (refine Sd.mk ?_ ?_; · ((repeat' apply And.intro) <;> first | omega | trivial | assumption | (simp; done) | (simp; omega))) | (refine Sx.mk ?_ ?_; · omega) | refine Fa.mk (fun _ => ?_) | refine Im.mk (fun _ => ?_) | apply Lw.go | refine g_cond ?_ | refine g_guard ?_ | refine g_keep ?_ | refine g_pass ?_ | refine g_fin ?_ | (apply g_ap; exact rfl; exact rfl; assumption)
    exact fin (hR _ _)
theorem r06_List_spec {p : Option Addr} {c : Nat} (hl : l.length ≤ 1000000) : Spec prog1 n_r06_List [.slice p l.length c] [rdl kBool p l] (fun R => ∀ p' c', R (.slice p' (elB l).length c') [own (kInt .i64) p' c' (elB l)]) := by
  refine spec_code c_r06_List rfl ?_; intro n F R hR; unfold F_r06_List
  repeat' first | apply step | (apply g_op; · repeat first | exact Evs.nil | (apply Evs.cons; exact rfl)) | (refine Br.mk (fun _ => ?_) (fun _ => ?_) <;> try (exfalso; omega)) | (refine Sd.mk ?_ ?_; · ((repeat' apply And.intro) <;> first | omega | trivial | assumption | (simp; done) | (simp; omega))) | (refine Sx.mk ?_ ?_; · omega) | refine Fa.mk (fun _ => ?_) | refine Im.mk (fun _ => ?_) | apply Lw.go | refine g_cond ?_ | refine g_guard ?_ | refine g_keep ?_ | refine g_pass ?_ | refine g_fin ?_ | (apply g_ap; exact rfl; exact rfl; assumption)
  refine at_loopS (ι := Nat × Option Addr × Nat) (E := fun j => [(0, .slice p l.length c), (3, .slice j.2.1 (elP l j.1).length j.2.2), (4, .int .i64 (j.1 : Int))]) (Δ := fun j => own (kInt .i64) j.2.1 j.2.2 (elP l j.1) :: rdl kBool p l :: F) (P := fun j => j.1 ≤ l.length) (μ := fun j => l.length - j.1) (0, none, 0) (by simp) ?_
  rintro ⟨j, p', c'⟩ hj
  dsimp only at hj ⊢
  have hpl := elP_len l j
  have hs := elP_s l j
  by_cases hjl : j < l.length
  · rw [List.getD_eq_getElem?_getD, List.getElem?_eq_getElem hjl, Option.getD_some] at hs
    cases hb : l[j] with
    | true =>
      rw [hb, if_pos rfl] at hs
      repeat' first | rw [hb] | apply step | (apply g_op; · repeat first | exact Evs.nil | (apply Evs.cons; exact rfl)) | (refine Br.mk (fun _ => ?_) (fun _ => ?_) <;> try (exfalso; omega)) | (refine Sd.mk ?_ ?_; · ((repeat' apply And.intro) <;> first | omega | trivial | assumption | (simp; done) | (simp; omega))) | (refine Sx.mk ?_ ?_; · omega) | refine Fa.mk (fun _ => ?_) | refine Im.mk (fun _ => ?_) | apply Lw.go | refine g_cond ?_ | refine g_guard ?_ | refine g_keep ?_ | refine g_pass ?_ | refine g_fin ?_ | (apply g_ap; exact rfl; exact rfl; assumption)
      rw [← hs]
      refine lp_next (j + 1, _, _) (by dsimp only; omega) (by dsimp only; omega)
    | false =>
      rw [hb, if_neg (by simp), List.append_nil] at hs
      repeat' first | rw [hb] | apply step | (apply g_op; · repeat first | exact Evs.nil | (apply Evs.cons; exact rfl)) | (refine Br.mk (fun _ => ?_) (fun _ => ?_) <;> try (exfalso; omega)) | (refine Sd.mk ?_ ?_; · ((repeat' apply And.intro) <;> first | omega | trivial | assumption | (simp; done) | (simp; omega))) | (refine Sx.mk ?_ ?_; · omega) | refine Fa.mk (fun _ => ?_) | refine Im.mk (fun _ => ?_) | apply Lw.go | refine g_cond ?_ | refine g_guard ?_ | refine g_keep ?_ | refine g_pass ?_ | refine g_fin ?_ | (apply g_ap; exact rfl; exact rfl; assumption)
      rw [← hs]
      refine lp_next (j + 1, _, _) (by dsimp only; omega) (by dsimp only; omega)
  · have : j = l.length := by omega
    subst this
    rw [elP_all]
    repeat' first | apply step | (apply g_op; · repeat first | exact Evs.nil | (apply Evs.cons; exact rfl)) | (refine Br.mk (fun _ => ?_) (fun _ => ?_) <;> try (exfalso; omega)) | (refine Sd.mk ?_ ?_; · ((repeat' apply And.intro) <;> first | omega | trivial | assumption | (simp; done) | (simp; omega))) | (refine Sx.mk ?_ ?_; · omega) | refine Fa.mk (fun _ => ?_) | refine Im.mk (fun _ => ?_) | apply Lw.go | refine g_cond ?_ | refine g_guard ?_ | refine g_keep ?_ | refine g_pass ?_ | refine g_fin ?_ | (apply g_ap; exact rfl; exact rfl; assumption)
    exact fin (hR _ _)
theorem r06_Next_spec {p : Option Addr} {c : Nat} {k : Int} (hl : l.length ≤ 1000000) : Spec prog1 n_r06_Next [.slice p l.length c, .int .i64 k] [rdl kBool p l] (fun R => ∀ x, NxZ l k.toNat x → R (.int .i64 x) []) := by
  refine spec_code c_r06_Next rfl ?_; intro n F R hR; unfold F_r06_Next
  repeat' first | apply step | (apply g_op; · repeat first | exact Evs.nil | (apply Evs.cons; exact rfl)) | (refine Br.mk (fun _ => ?_) (fun _ => ?_) <;> try (exfalso; omega)) | (refine Sd.mk ?_ ?_; · ((repeat' apply And.intro) <;> first | omega | trivial | assumption | (simp; done) | (simp; omega))) | (refine Sx.mk ?_ ?_; · omega) | refine Fa.mk (fun _ => ?_) | refine Im.mk (fun _ => ?_) | apply Lw.go | refine g_cond ?_ | refine g_guard ?_ | refine g_keep ?_ | refine g_pass ?_ | refine g_fin ?_ | (apply g_ap; exact rfl; exact rfl; assumption)
  refine at_loopS (ι := Nat) (E := fun j => [(0, .slice p l.length c), (1, .int .i64 k), (5, .int .i64 (j : Int))]) (Δ := fun j => rdl kBool p l :: F) (P := fun j => j ≤ l.length ∧ ∀ i, k.toNat ≤ i → i < j → l.getD i false = false) (μ := fun j => l.length - j) 0 ⟨by omega, fun i h1 h2 => by omega⟩ ?_
  rintro j ⟨hj, hno⟩
  dsimp only
  by_cases hjl : j < l.length
  · have hg : l.getD j false = l[j] := by rw [List.getD_eq_getElem?_getD, List.getElem?_eq_getElem hjl]; rfl
    by_cases hk : k ≤ j
    · cases hb : l[j] with
      | true =>
        repeat' first | rw [hb] | apply step | (apply g_op; · repeat first | exact Evs.nil | (apply Evs.cons; exact rfl)) | (refine Br.mk (fun _ => ?_) (fun _ => ?_) <;> try (exfalso; omega)) | (refine Sd.mk ?_ ?_; · ((repeat' apply And.intro) <;> first | omega | trivial | assumption | (simp; done) | (simp; omega))) | (refine Sx.mk ?_ ?_; · omega) | refine Fa.mk (fun _ => ?_) | refine Im.mk (fun _ => ?_) | apply Lw.go | refine g_cond ?_ | refine g_guard ?_ | refine g_keep ?_ | refine g_pass ?_ | refine g_fin ?_ | (apply g_ap; exact rfl; exact rfl; assumption)
        exact fin (hR _ (.inl ⟨j, rfl, by omega, hjl, by rw [hg, hb], hno⟩))
      | false =>
        repeat' first | rw [hb] | apply step | (apply g_op; · repeat first | exact Evs.nil | (apply Evs.cons; exact rfl)) | (refine Br.mk (fun _ => ?_) (fun _ => ?_) <;> try (exfalso; omega)) | (refine Sd.mk ?_ ?_; · ((repeat' apply And.intro) <;> first | omega | trivial | assumption | (simp; done) | (simp; omega))) | (refine Sx.mk ?_ ?_; · omega) | refine Fa.mk (fun _ => ?_) | refine Im.mk (fun _ => ?_) | apply Lw.go | refine g_cond ?_ | refine g_guard ?_ | refine g_keep ?_ | refine g_pass ?_ | refine g_fin ?_ | (apply g_ap; exact rfl; exact rfl; assumption)
        refine lp_next (j + 1) ⟨by omega, fun i h1 h2 => ?_⟩ (by omega)
        by_cases h3 : i = j
        · rw [h3, hg, hb]
        · exact hno i h1 (by omega)
    · repeat' first | apply step | (apply g_op; · repeat first | exact Evs.nil | (apply Evs.cons; exact rfl)) | (refine Br.mk (fun _ => ?_) (fun _ => ?_) <;> try (exfalso; omega)) | (refine Sd.mk ?_ ?_; · ((repeat' apply And.intro) <;> first | omega | trivial | assumption | (simp; done) | (simp; omega))) | (refine Sx.mk ?_ ?_; · omega) | refine Fa.mk (fun _ => ?_) | refine Im.mk (fun _ => ?_) | apply Lw.go | refine g_cond ?_ | refine g_guard ?_ | refine g_keep ?_ | refine g_pass ?_ | refine g_fin ?_ | (apply g_ap; exact rfl; exact rfl; assumption)
      refine lp_next (j + 1) ⟨by omega, fun i h1 h2 => by omega⟩ (by omega)
  · have : j = l.length := by omega
    subst this
    repeat' first | apply step | (apply g_op; · repeat first | exact Evs.nil | (apply Evs.cons; exact rfl)) | (refine Br.mk (fun _ => ?_) (fun _ => ?_) <;> try (exfalso; omega)) | (refine Sd.mk ?_ ?_; · ((repeat' apply And.intro) <;> first | omega | trivial | assumption | (simp; done) | (simp; omega))) | (refine Sx.mk ?_ ?_; · omega) | refine Fa.mk (fun _ => ?_) | refine Im.mk (fun _ => ?_) | apply Lw.go | refine g_cond ?_ | refine g_guard ?_ | refine g_keep ?_ | refine g_pass ?_ | refine g_fin ?_ | (apply g_ap; exact rfl; exact rfl; assumption)
    exact fin (hR _ (.inr ⟨rfl, fun i hi => by
      by_cases h : i < l.length
      · exact hno i hi h
      · rw [List.getD_eq_getElem?_getD, List.getElem?_eq_none (by omega)]; rfl⟩))
theorem r06_New_L {z : Int} {a : Bool} : Spec prog1 n_r06_New [.int .i64 z, .bool a] [] (fun R => ∀ p c L, L = List.replicate (clampN z) a → R (.slice p L.length c) [own kBool p c L]) :=
  r06_New_spec.cons fun R h p c => by have := h p c _ rfl; rwa [List.length_replicate] at this
theorem r06_Set_L {p p2 : Option Addr} {c c2 : Nat} {r : List Int} {so : Bool} (hl : l.length ≤ 1000000) (hr : r.length ≤ 1000000) : Spec prog1 n_r06_Set [.slice p l.length c, .slice p2 r.length c2, .bool so] [rdl kBool p l, rdl (kInt .i64) p2 r] (fun R => ∀ p' c' L, L = setB l r so → R (.slice p' L.length c') [own kBool p' c' L]) :=
  (r06_Set_spec hl hr).cons fun R h p c => by have := h p c _ rfl; rwa [setB_len] at this
end
end Go.AMS

namespace Go.AMS
open Go.AM hiding Kt At WP WL Runs RunsY
open Go.AM.G
set_option linter.unusedVariables false
set_option linter.unusedSimpArgs false
set_option linter.unusedSectionVars false
set_option maxRecDepth 100000
set_option maxHeartbeats 1000000
attribute [local irreducible] AtS AtV AtC AtG FinA Spec Post LP G.At G.WP G.WL pt own fro rdl ro hx mp lrec elt sub

theorem l06_works_spec : Spec prog1 n_l06_works [] [] (fun R => R (.bool true) []) := closed_spec c_l06_works
end Go.AMS

namespace Go.AMS
open Go.AM hiding Kt At WP WL Runs RunsY
open Go.AM.G
set_option linter.unusedVariables false
set_option linter.unusedSimpArgs false
set_option linter.unusedSectionVars false
set_option maxRecDepth 100000
set_option maxHeartbeats 1000000
attribute [local irreducible] AtS AtV AtC AtG FinA Spec Post LP G.At G.WP G.WL pt own fro rdl ro hx mp lrec elt sub

theorem clampN_le (z : Int) : clampN z ≤ 65536 := by unfold clampN; omega
end Go.AMS

namespace Go.AMS
open Go.AM hiding Kt At WP WL Runs RunsY
open Go.AM.G
set_option linter.unusedVariables false
set_option linter.unusedSimpArgs false
set_option linter.unusedSectionVars false
set_option maxRecDepth 100000
set_option maxHeartbeats 1000000
attribute [local irreducible] AtS AtV AtC AtG FinA Spec Post LP G.At G.WP G.WL pt own fro rdl ro hx mp lrec elt sub

structure Act where
  dn : Int
  ns : List Int
  room : Int
def kAct : Kind Act := ⟨3, by decide, fun m cs a => ∃ v0 v1 v2, cs = [v0, v1, v2] ∧ (kInt .i64).rd m [v0] a.dn ∧ (kSl (kInt .i64)).rd m [v1] a.ns ∧ (kInt .i64).rd m [v2] a.room,
  fun s ⟨v0, v1, v2, hc, h0, h1, h2⟩ => ⟨v0, v1, v2, hc, (kInt .i64).mono s h0, (kSl (kInt .i64)).mono s h1, (kInt .i64).mono s h2⟩, fun ⟨v0, v1, v2, hc, h0, h1, h2⟩ => by rw [hc]; rfl,
  fun ⟨v0, v1, v2, hc, h0, h1, h2⟩ => by
    have e0 := (kInt .i64).ok h0
    have e1 := (kSl (kInt .i64)).ok h1
    have e2 := (kInt .i64).ok h2
    simp only [List.all_cons, List.all_nil, Bool.and_true] at e0 e1 e2
    rw [hc]; simp only [List.all_cons, List.all_nil, Bool.and_true, e0, e1, e2]⟩
instance esz_Act : Esz kAct 3 := ⟨rfl⟩
instance cel_Act : Cel kAct ((Option Addr × Nat)) (fun a x => [.int .i64 a.dn, .slice x.1 a.ns.length x.2, .int .i64 a.room]) (fun a x => [fro (kInt .i64) x.1 x.2 a.ns]) (fun a => (-9223372036854775808 ≤ a.dn ∧ a.dn ≤ 9223372036854775807) ∧ a.ns.length ≤ 140737488351232 ∧ (-9223372036854775808 ≤ a.room ∧ a.room ≤ 9223372036854775807) ∧ True) := ⟨fun ⟨v0, v1, v2, hc, h0, h1, h2⟩ => by
  obtain ⟨q0, b0⟩ := h0; cases q0
  obtain ⟨w1, q1, s1, b1⟩ := h1; cases q1; obtain ⟨p1, c1, rfl⟩ := s1.form
  obtain ⟨q2, b2⟩ := h2; cases q2
  exact ⟨(p1, c1), hc, ⟨b0, b1, b2, trivial⟩, sat_fro0 s1 (sat_nil0)⟩⟩
instance ofc_Act {Γ : List HP} {v0 v1 v2 : Value} {a0 : Int} {φ0 : Prop} {a1 : List Int} {φ1 : Prop} {a2 : Int} {φ2 : Prop} [o0 : OfC Γ (kInt .i64) [v0] a0 φ0] [o1 : OfC Γ (kSl (kInt .i64)) [v1] a1 φ1] [o2 : OfC Γ (kInt .i64) [v2] a2 φ2] : OfC Γ kAct [v0, v1, v2] ⟨a0, a1, a2⟩ (φ0 ∧ φ1 ∧ φ2) := ⟨fun h _ _ hs => ⟨v0, v1, v2, rfl, o0.rd h.1 hs, o1.rd h.2.1 hs, o2.rd h.2.2 hs⟩⟩
instance fld_Act_dn : Fld kAct 0 (kInt .i64) (fun a => a.dn) := ⟨fun ⟨v0, v1, v2, hc, h0, h1, h2⟩ => by subst hc; exact h0, by decide⟩
instance fld_Act_ns : Fld kAct 1 (kSl (kInt .i64)) (fun a => a.ns) := ⟨fun ⟨v0, v1, v2, hc, h0, h1, h2⟩ => by subst hc; exact h1, by decide⟩
instance fld_Act_room : Fld kAct 2 (kInt .i64) (fun a => a.room) := ⟨fun ⟨v0, v1, v2, hc, h0, h1, h2⟩ => by subst hc; exact h2, by decide⟩
instance ktz_Act : KTz kAct := ⟨fun hf ⟨v0, v1, v2, hc, h0, h1, h2⟩ => ⟨v0, v1, v2, hc, (inferInstance : KTz (kInt .i64)).tz hf h0, (inferInstance : KTz (kSl (kInt .i64))).tz hf h1, (inferInstance : KTz (kInt .i64)).tz hf h2⟩⟩
theorem with_or (X o : List Bool) : withB X o 0 X.length = setB X (elB o) true := ext_getD (by rw [withB_len, setB_len]) fun i hi => by
  rw [withB_len] at hi
  rw [withB_get hi, if_pos hi, setB_get]
  have hm := elB_mem (l := o) (i := i)
  generalize o.getD i false = u at *
  generalize X.getD i false = v at *
  unfold wF
  cases u <;> cases v <;> simp [hi, hm]
theorem with_minus (X o : List Bool) : withB X o 2 X.length = setB X (elB o) false := ext_getD (by rw [withB_len, setB_len]) fun i hi => by
  rw [withB_len] at hi
  rw [withB_get hi, if_pos hi, setB_get]
  have hm := elB_mem (l := o) (i := i)
  generalize o.getD i false = u at *
  generalize X.getD i false = v at *
  unfold wF
  cases u <;> cases v <;> simp [hi, hm]
theorem with_and (X o : List Bool) : withB X o 1 X.length = andB X o := ext_getD (by unfold andB; rw [withB_len, setB_len]) fun i hi => by
  rw [withB_len] at hi
  unfold andB
  rw [withB_get hi, if_pos hi, setB_get]
  have hm : (i : Int) ∈ (elB X).filter (andF o) ↔ X.getD i false = true ∧ (!(o.getD i false)) = true := by
    rw [List.mem_filter, elB_mem]; unfold andF; rw [Int.toNat_natCast]
  generalize o.getD i false = u at *
  generalize X.getD i false = v at *
  unfold wF
  cases u <;> cases v <;> simp [hi, hm]
theorem with_else {X o : List Bool} {how : Int} {n : Nat} (h : how ≠ 0 ∧ how ≠ 1 ∧ how ≠ 2) : withB X o how n = X := ext_getD (by rw [withB_len]) fun i hi => by
  rw [withB_len] at hi
  rw [withB_get hi]
  unfold wF
  rw [if_neg h.1, if_neg h.2.1, if_neg h.2.2]
  split <;> rfl
section
variable {l m : List Bool}
theorem r06_With_spec {p p2 : Option Addr} {c c2 : Nat} {how : Int} (hl : l.length ≤ 1000000) (hm : m.length ≤ 1000000) : Spec prog1 n_r06_With [.slice p l.length c, .slice p2 m.length c2, .int .i64 how] [rdl kBool p l, rdl kBool p2 m] (fun R => ∀ p' c' L, L = withB l m how l.length → R (.slice p' L.length c') [own kBool p' c' L]) := by
  refine spec_code c_r06_With rfl ?_; intro n F R hR; unfold F_r06_With
  repeat' first | apply step | (apply g_op; · repeat first | exact Evs.nil | (apply Evs.cons; exact rfl)) | (refine Br.mk (fun _ => ?_) (fun _ => ?_) <;> try (exfalso; omega)) | (refine Sd.mk ?_ ?_; · ((repeat' apply And.intro) <;> first | omega | trivial | assumption | (simp; done) | (simp; omega))) | (refine Sx.mk ?_ ?_; · omega) | refine Fa.mk (fun _ => ?_) | refine Im.mk (fun _ => ?_) | apply Lw.go | refine g_cond ?_ | refine g_guard ?_ | refine g_keep ?_ | refine g_pass ?_ | refine g_fin ?_ | (apply g_ap; exact rfl; exact rfl; assumption)
  rename_i p' c'
  rw [show own kBool p' c' l = own kBool p' c' (withB l m how 0) by rw [withB_0]]
  refine at_loopS (ι := Nat) (E := fun j => [(1, .slice p2 m.length c2), (2, .int .i64 how), (7, .slice p' l.length c'), (8, .int .i64 (j : Int))]) (Δ := fun j => own kBool p' c' (withB l m how j) :: rdl kBool p2 m :: F) (P := fun j => j ≤ l.length) (μ := fun j => l.length - j) 0 (by omega) ?_
  rintro j hj
  dsimp only
  have hwl := withB_len l m how j
  by_cases hjl : j < l.length
  · have he : ∀ h : j < (withB l m how j).length, (withB l m how j)[j] = l.getD j false := fun h => by
      have h2 := withB_get (a := l) (b := m) (how := how) (j := j) (i := j) hjl
      rw [List.getD_eq_getElem?_getD, List.getElem?_eq_getElem h, if_neg (by omega)] at h2
      exact h2
    have hs := withB_s (a := l) (b := m) (how := how) hjl
    obtain ⟨u, hu⟩ : ∃ u, l.getD j false = u := ⟨_, rfl⟩
    rw [hu] at he hs
    have hcase : (how = 0 ∨ how = 1 ∨ how = 2) ∨ (how ≠ 0 ∧ how ≠ 1 ∧ how ≠ 2) := by omega
    rcases hcase with (rfl | rfl | rfl) | hne
    · cases u with
      | false =>
        repeat' first | rw [he] | apply step | (apply g_op; · repeat first | exact Evs.nil | (apply Evs.cons; exact rfl)) | (refine Br.mk (fun _ => ?_) (fun _ => ?_) <;> try (exfalso; omega)) | (refine Sd.mk ?_ ?_; · ((repeat' apply And.intro) <;> first | omega | trivial | assumption | (simp; done) | (simp; omega))) | (refine Sx.mk ?_ ?_; · omega) | refine Fa.mk (fun _ => ?_) | refine Im.mk (fun _ => ?_) | apply Lw.go | refine g_cond ?_ | refine g_guard ?_ | refine g_keep ?_ | refine g_pass ?_ | refine g_fin ?_ | (apply g_ap; exact rfl; exact rfl; assumption)
        refine at_callR (r06_Has_spec (l := m) (k := (j : Int)) (by omega)) ?_
        rw [Int.toNat_natCast]
        refine ⟨fun h => ?_, fun h => ?_⟩
        · rw [h.2, show wF 0 false true = true from rfl] at hs
          repeat' first | apply step | (apply g_op; · repeat first | exact Evs.nil | (apply Evs.cons; exact rfl)) | (refine Br.mk (fun _ => ?_) (fun _ => ?_) <;> try (exfalso; omega)) | (refine Sd.mk ?_ ?_; · ((repeat' apply And.intro) <;> first | omega | trivial | assumption | (simp; done) | (simp; omega))) | (refine Sx.mk ?_ ?_; · omega) | refine Fa.mk (fun _ => ?_) | refine Im.mk (fun _ => ?_) | apply Lw.go | refine g_cond ?_ | refine g_guard ?_ | refine g_keep ?_ | refine g_pass ?_ | refine g_fin ?_ | (apply g_ap; exact rfl; exact rfl; assumption)
          rw [← hs]
          refine lp_next (j + 1) (by omega) (by omega)
        · have hv : m.getD j false = false := by
            cases hv : m.getD j false with
            | false => rfl
            | true => exact absurd ⟨by omega, hv⟩ h
          rw [hv, show wF 0 false false = false from rfl] at hs
          repeat' first | apply step | (apply g_op; · repeat first | exact Evs.nil | (apply Evs.cons; exact rfl)) | (refine Br.mk (fun _ => ?_) (fun _ => ?_) <;> try (exfalso; omega)) | (refine Sd.mk ?_ ?_; · ((repeat' apply And.intro) <;> first | omega | trivial | assumption | (simp; done) | (simp; omega))) | (refine Sx.mk ?_ ?_; · omega) | refine Fa.mk (fun _ => ?_) | refine Im.mk (fun _ => ?_) | apply Lw.go | refine g_cond ?_ | refine g_guard ?_ | refine g_keep ?_ | refine g_pass ?_ | refine g_fin ?_ | (apply g_ap; exact rfl; exact rfl; assumption)
          rw [← hs]
          refine lp_next (j + 1) (by omega) (by omega)
      | true =>
        repeat' first | rw [he] | apply step | (apply g_op; · repeat first | exact Evs.nil | (apply Evs.cons; exact rfl)) | (refine Br.mk (fun _ => ?_) (fun _ => ?_) <;> try (exfalso; omega)) | (refine Sd.mk ?_ ?_; · ((repeat' apply And.intro) <;> first | omega | trivial | assumption | (simp; done) | (simp; omega))) | (refine Sx.mk ?_ ?_; · omega) | refine Fa.mk (fun _ => ?_) | refine Im.mk (fun _ => ?_) | apply Lw.go | refine g_cond ?_ | refine g_guard ?_ | refine g_keep ?_ | refine g_pass ?_ | refine g_fin ?_ | (apply g_ap; exact rfl; exact rfl; assumption)
        rw [show wF 0 true (m.getD j false) = true by unfold wF; simp] at hs
        rw [← hs]
        refine lp_next (j + 1) (by omega) (by omega)
    · cases u with
      | false =>
        repeat' first | rw [he] | apply step | (apply g_op; · repeat first | exact Evs.nil | (apply Evs.cons; exact rfl)) | (refine Br.mk (fun _ => ?_) (fun _ => ?_) <;> try (exfalso; omega)) | (refine Sd.mk ?_ ?_; · ((repeat' apply And.intro) <;> first | omega | trivial | assumption | (simp; done) | (simp; omega))) | (refine Sx.mk ?_ ?_; · omega) | refine Fa.mk (fun _ => ?_) | refine Im.mk (fun _ => ?_) | apply Lw.go | refine g_cond ?_ | refine g_guard ?_ | refine g_keep ?_ | refine g_pass ?_ | refine g_fin ?_ | (apply g_ap; exact rfl; exact rfl; assumption)
        rw [show wF 1 false (m.getD j false) = false by unfold wF; simp] at hs
        rw [← hs]
        refine lp_next (j + 1) (by omega) (by omega)
      | true =>
        repeat' first | rw [he] | apply step | (apply g_op; · repeat first | exact Evs.nil | (apply Evs.cons; exact rfl)) | (refine Br.mk (fun _ => ?_) (fun _ => ?_) <;> try (exfalso; omega)) | (refine Sd.mk ?_ ?_; · ((repeat' apply And.intro) <;> first | omega | trivial | assumption | (simp; done) | (simp; omega))) | (refine Sx.mk ?_ ?_; · omega) | refine Fa.mk (fun _ => ?_) | refine Im.mk (fun _ => ?_) | apply Lw.go | refine g_cond ?_ | refine g_guard ?_ | refine g_keep ?_ | refine g_pass ?_ | refine g_fin ?_ | (apply g_ap; exact rfl; exact rfl; assumption)
        refine at_callR (r06_Has_spec (l := m) (k := (j : Int)) (by omega)) ?_
        rw [Int.toNat_natCast]
        refine ⟨fun h => ?_, fun h => ?_⟩
        · rw [h.2, show wF 1 true true = true from rfl] at hs
          repeat' first | apply step | (apply g_op; · repeat first | exact Evs.nil | (apply Evs.cons; exact rfl)) | (refine Br.mk (fun _ => ?_) (fun _ => ?_) <;> try (exfalso; omega)) | (refine Sd.mk ?_ ?_; · ((repeat' apply And.intro) <;> first | omega | trivial | assumption | (simp; done) | (simp; omega))) | (refine Sx.mk ?_ ?_; · omega) | refine Fa.mk (fun _ => ?_) | refine Im.mk (fun _ => ?_) | apply Lw.go | refine g_cond ?_ | refine g_guard ?_ | refine g_keep ?_ | refine g_pass ?_ | refine g_fin ?_ | (apply g_ap; exact rfl; exact rfl; assumption)
          rw [← hs]
          refine lp_next (j + 1) (by omega) (by omega)
        · have hv : m.getD j false = false := by
            cases hv : m.getD j false with
            | false => rfl
            | true => exact absurd ⟨by omega, hv⟩ h
          rw [hv, show wF 1 true false = false from rfl] at hs
          repeat' first | apply step | (apply g_op; · repeat first | exact Evs.nil | (apply Evs.cons; exact rfl)) | (refine Br.mk (fun _ => ?_) (fun _ => ?_) <;> try (exfalso; omega)) | (refine Sd.mk ?_ ?_; · ((repeat' apply And.intro) <;> first | omega | trivial | assumption | (simp; done) | (simp; omega))) | (refine Sx.mk ?_ ?_; · omega) | refine Fa.mk (fun _ => ?_) | refine Im.mk (fun _ => ?_) | apply Lw.go | refine g_cond ?_ | refine g_guard ?_ | refine g_keep ?_ | refine g_pass ?_ | refine g_fin ?_ | (apply g_ap; exact rfl; exact rfl; assumption)
          rw [← hs]
          refine lp_next (j + 1) (by omega) (by omega)
    · cases u with
      | false =>
        repeat' first | rw [he] | apply step | (apply g_op; · repeat first | exact Evs.nil | (apply Evs.cons; exact rfl)) | (refine Br.mk (fun _ => ?_) (fun _ => ?_) <;> try (exfalso; omega)) | (refine Sd.mk ?_ ?_; · ((repeat' apply And.intro) <;> first | omega | trivial | assumption | (simp; done) | (simp; omega))) | (refine Sx.mk ?_ ?_; · omega) | refine Fa.mk (fun _ => ?_) | refine Im.mk (fun _ => ?_) | apply Lw.go | refine g_cond ?_ | refine g_guard ?_ | refine g_keep ?_ | refine g_pass ?_ | refine g_fin ?_ | (apply g_ap; exact rfl; exact rfl; assumption)
        rw [show wF 2 false (m.getD j false) = false by unfold wF; simp] at hs
        rw [← hs]
        refine lp_next (j + 1) (by omega) (by omega)
      | true =>
        repeat' first | rw [he] | apply step | (apply g_op; · repeat first | exact Evs.nil | (apply Evs.cons; exact rfl)) | (refine Br.mk (fun _ => ?_) (fun _ => ?_) <;> try (exfalso; omega)) | (refine Sd.mk ?_ ?_; · ((repeat' apply And.intro) <;> first | omega | trivial | assumption | (simp; done) | (simp; omega))) | (refine Sx.mk ?_ ?_; · omega) | refine Fa.mk (fun _ => ?_) | refine Im.mk (fun _ => ?_) | apply Lw.go | refine g_cond ?_ | refine g_guard ?_ | refine g_keep ?_ | refine g_pass ?_ | refine g_fin ?_ | (apply g_ap; exact rfl; exact rfl; assumption)
        refine at_callR (r06_Has_spec (l := m) (k := (j : Int)) (by omega)) ?_
        rw [Int.toNat_natCast]
        refine ⟨fun h => ?_, fun h => ?_⟩
        · rw [h.2, show wF 2 true true = false from rfl] at hs
          repeat' first | apply step | (apply g_op; · repeat first | exact Evs.nil | (apply Evs.cons; exact rfl)) | (refine Br.mk (fun _ => ?_) (fun _ => ?_) <;> try (exfalso; omega)) | (refine Sd.mk ?_ ?_; · ((repeat' apply And.intro) <;> first | omega | trivial | assumption | (simp; done) | (simp; omega))) | (refine Sx.mk ?_ ?_; · omega) | refine Fa.mk (fun _ => ?_) | refine Im.mk (fun _ => ?_) | apply Lw.go | refine g_cond ?_ | refine g_guard ?_ | refine g_keep ?_ | refine g_pass ?_ | refine g_fin ?_ | (apply g_ap; exact rfl; exact rfl; assumption)
          rw [← hs]
          refine lp_next (j + 1) (by omega) (by omega)
        · have hv : m.getD j false = false := by
            cases hv : m.getD j false with
            | false => rfl
            | true => exact absurd ⟨by omega, hv⟩ h
          rw [hv, show wF 2 true false = true from rfl] at hs
          repeat' first | apply step | (apply g_op; · repeat first | exact Evs.nil | (apply Evs.cons; exact rfl)) | (refine Br.mk (fun _ => ?_) (fun _ => ?_) <;> try (exfalso; omega)) | (refine Sd.mk ?_ ?_; · ((repeat' apply And.intro) <;> first | omega | trivial | assumption | (simp; done) | (simp; omega))) | (refine Sx.mk ?_ ?_; · omega) | refine Fa.mk (fun _ => ?_) | refine Im.mk (fun _ => ?_) | apply Lw.go | refine g_cond ?_ | refine g_guard ?_ | refine g_keep ?_ | refine g_pass ?_ | refine g_fin ?_ | (apply g_ap; exact rfl; exact rfl; assumption)
          rw [← hs]
          refine lp_next (j + 1) (by omega) (by omega)
    · rw [with_else hne] at he hs ⊢
      repeat' first | apply step | (apply g_op; · repeat first | exact Evs.nil | (apply Evs.cons; exact rfl)) | (refine Br.mk (fun _ => ?_) (fun _ => ?_) <;> try (exfalso; omega)) | (refine Sd.mk ?_ ?_; · ((repeat' apply And.intro) <;> first | omega | trivial | assumption | (simp; done) | (simp; omega))) | (refine Sx.mk ?_ ?_; · omega) | refine Fa.mk (fun _ => ?_) | refine Im.mk (fun _ => ?_) | apply Lw.go | refine g_cond ?_ | refine g_guard ?_ | refine g_keep ?_ | refine g_pass ?_ | refine g_fin ?_ | (apply g_ap; exact rfl; exact rfl; assumption)
      rw [show own kBool p' c' l = own kBool p' c' (withB l m how (j + 1)) by rw [with_else hne]]
      refine lp_next (j + 1) (by omega) (by omega)
  · obtain rfl : j = l.length := by omega
    repeat' first | apply step | (apply g_op; · repeat first | exact Evs.nil | (apply Evs.cons; exact rfl)) | (refine Br.mk (fun _ => ?_) (fun _ => ?_) <;> try (exfalso; omega)) | (refine Sd.mk ?_ ?_; · ((repeat' apply And.intro) <;> first | omega | trivial | assumption | (simp; done) | (simp; omega))) | (refine Sx.mk ?_ ?_; · omega) | refine Fa.mk (fun _ => ?_) | refine Im.mk (fun _ => ?_) | apply Lw.go | refine g_cond ?_ | refine g_guard ?_ | refine g_keep ?_ | refine g_pass ?_ | refine g_fin ?_ | (apply g_ap; exact rfl; exact rfl; assumption)
    have := hR p' c' _ rfl
    rw [hwl] at this
    exact fin this
/-- What an act makes. -/
def otherB (a : Act) : List Bool := setB (List.replicate (clampN a.room) false) a.ns true
def actB (X : List Bool) (a : Act) : List Bool := if a.dn = 0 then setB X a.ns true else if a.dn = 1 then setB X a.ns false else if a.dn = 2 then setB X (elB (otherB a)) true else if a.dn = 3 then andB X (otherB a) else if a.dn = 4 then setB X (elB (otherB a)) false else X
theorem actB_len (X : List Bool) (a : Act) : (actB X a).length = X.length := by
  unfold actB andB
  split
  · rw [setB_len]
  split
  · rw [setB_len]
  split
  · rw [setB_len]
  split
  · rw [setB_len]
  split
  · rw [setB_len]
  · rfl
section
attribute [local instance 2000] v_subW
theorem l06_do_spec {b : Nat} {X : List Bool} {a : Act} {p q : Option Addr} {c cq : Nat} (hn : a.ns.length ≤ 40) (hX : X.length ≤ 65536) (hd : -9223372036854775808 ≤ a.dn ∧ a.dn ≤ 9223372036854775807) (hrm : -9223372036854775808 ≤ a.room ∧ a.room ≤ 9223372036854775807) :
    Spec prog1 n_l06_do [btp (some b), .slice p X.length c, .agg #[.int .i64 a.dn, .slice q a.ns.length cq, .int .i64 a.room]] [bt (some b) X, own kBool p c X, fro (kInt .i64) q cq a.ns] (fun R => ∀ p' c' L, L = actB X a → R (.slice p' L.length c') [bt (some b) L, own kBool p' c' L]) := by
  refine spec_code c_l06_do rfl ?_; intro n F R hR; unfold F_l06_do
  have hnl : a.ns.length ≤ 1000000 := by omega
  obtain ⟨U, hU⟩ : ∃ U, U = otherB a := ⟨_, rfl⟩
  have hUl : U.length = clampN a.room := by rw [hU]; unfold otherB; rw [setB_len, List.length_replicate]
  have hcl := clampN_le a.room
  repeat' first | apply step | (apply g_op; · repeat first | exact Evs.nil | (apply Evs.cons; exact rfl)) | (refine Br.mk (fun _ => ?_) (fun _ => ?_) <;> try (exfalso; omega)) | (refine Sd.mk ?_ ?_; · ((repeat' apply And.intro) <;> first | omega | trivial | assumption | (simp; done) | (simp; omega))) | (refine Sx.mk ?_ ?_; · omega) | refine Fa.mk (fun _ => ?_) | refine Im.mk (fun _ => ?_) | apply Lw.go | refine g_cond ?_ | refine g_guard ?_ | refine g_keep ?_ | refine g_pass ?_ | refine g_fin ?_ | (apply g_ap; exact rfl; exact rfl; assumption)
  first | refine at_callS (bits_New_spec (z := a.room)) ?_ | refine at_callR (bits_New_spec (z := a.room)) ?_
  intro b1
  repeat' first | apply step | (apply g_op; · repeat first | exact Evs.nil | (apply Evs.cons; exact rfl)) | (refine Br.mk (fun _ => ?_) (fun _ => ?_) <;> try (exfalso; omega)) | (refine Sd.mk ?_ ?_; · ((repeat' apply And.intro) <;> first | omega | trivial | assumption | (simp; done) | (simp; omega))) | (refine Sx.mk ?_ ?_; · omega) | refine Fa.mk (fun _ => ?_) | refine Im.mk (fun _ => ?_) | apply Lw.go | refine g_cond ?_ | refine g_guard ?_ | refine g_keep ?_ | refine g_pass ?_ | refine g_fin ?_ | (apply g_ap; exact rfl; exact rfl; assumption)
  first | refine at_callS (bits_Bits_Put_spec (q := some b1) (l := List.replicate (clampN a.room) false) (r := a.ns) (by omega)) ?_ | refine at_callR (bits_Bits_Put_spec (q := some b1) (l := List.replicate (clampN a.room) false) (r := a.ns) (by omega)) ?_
  rw [show setB (List.replicate (clampN a.room) false) a.ns true = U from hU.symm]
  repeat' first | apply step | (apply g_op; · repeat first | exact Evs.nil | (apply Evs.cons; exact rfl)) | (refine Br.mk (fun _ => ?_) (fun _ => ?_) <;> try (exfalso; omega)) | (refine Sd.mk ?_ ?_; · ((repeat' apply And.intro) <;> first | omega | trivial | assumption | (simp; done) | (simp; omega))) | (refine Sx.mk ?_ ?_; · omega) | refine Fa.mk (fun _ => ?_) | refine Im.mk (fun _ => ?_) | apply Lw.go | refine g_cond ?_ | refine g_guard ?_ | refine g_keep ?_ | refine g_pass ?_ | refine g_fin ?_ | (apply g_ap; exact rfl; exact rfl; assumption)
  refine at_callR (r06_New_L (z := a.room) (a := false)) ?_
  intro q1 d1 L1 hL1
  have hL1l : L1.length = clampN a.room := by rw [hL1, List.length_replicate]
  repeat' first | apply step | (apply g_op; · repeat first | exact Evs.nil | (apply Evs.cons; exact rfl)) | (refine Br.mk (fun _ => ?_) (fun _ => ?_) <;> try (exfalso; omega)) | (refine Sd.mk ?_ ?_; · ((repeat' apply And.intro) <;> first | omega | trivial | assumption | (simp; done) | (simp; omega))) | (refine Sx.mk ?_ ?_; · omega) | refine Fa.mk (fun _ => ?_) | refine Im.mk (fun _ => ?_) | apply Lw.go | refine g_cond ?_ | refine g_guard ?_ | refine g_keep ?_ | refine g_pass ?_ | refine g_fin ?_ | (apply g_ap; exact rfl; exact rfl; assumption)
  refine at_callR (r06_Set_L (l := L1) (r := a.ns) (so := true) (by omega) (by omega)) ?_
  intro q2 d2 L2 hL2
  obtain rfl : L2 = U := by rw [hL2, hL1, hU]; rfl
  repeat' first | apply step | (apply g_op; · repeat first | exact Evs.nil | (apply Evs.cons; exact rfl)) | (refine Br.mk (fun _ => ?_) (fun _ => ?_) <;> try (exfalso; omega)) | (refine Sd.mk ?_ ?_; · ((repeat' apply And.intro) <;> first | omega | trivial | assumption | (simp; done) | (simp; omega))) | (refine Sx.mk ?_ ?_; · omega) | refine Fa.mk (fun _ => ?_) | refine Im.mk (fun _ => ?_) | apply Lw.go | refine g_cond ?_ | refine g_guard ?_ | refine g_keep ?_ | refine g_pass ?_ | refine g_fin ?_ | (apply g_ap; exact rfl; exact rfl; assumption)
  · have hdn : a.dn = 0 := by assumption
    first | refine at_callS (bits_Bits_Put_spec (q := some b) (l := X) (r := a.ns) (by omega)) ?_ | refine at_callR (bits_Bits_Put_spec (q := some b) (l := X) (r := a.ns) (by omega)) ?_
    repeat' first | apply step | (apply g_op; · repeat first | exact Evs.nil | (apply Evs.cons; exact rfl)) | (refine Br.mk (fun _ => ?_) (fun _ => ?_) <;> try (exfalso; omega)) | (refine Sd.mk ?_ ?_; · ((repeat' apply And.intro) <;> first | omega | trivial | assumption | (simp; done) | (simp; omega))) | (refine Sx.mk ?_ ?_; · omega) | refine Fa.mk (fun _ => ?_) | refine Im.mk (fun _ => ?_) | apply Lw.go | refine g_cond ?_ | refine g_guard ?_ | refine g_keep ?_ | refine g_pass ?_ | refine g_fin ?_ | (apply g_ap; exact rfl; exact rfl; assumption)
    refine at_callR (r06_Set_L (l := X) (r := a.ns) (so := true) (by omega) (by omega)) ?_
    intro p' c' L hL
    rw [← hL]
    repeat' first | apply step | (apply g_op; · repeat first | exact Evs.nil | (apply Evs.cons; exact rfl)) | (refine Br.mk (fun _ => ?_) (fun _ => ?_) <;> try (exfalso; omega)) | (refine Sd.mk ?_ ?_; · ((repeat' apply And.intro) <;> first | omega | trivial | assumption | (simp; done) | (simp; omega))) | (refine Sx.mk ?_ ?_; · omega) | refine Fa.mk (fun _ => ?_) | refine Im.mk (fun _ => ?_) | apply Lw.go | refine g_cond ?_ | refine g_guard ?_ | refine g_keep ?_ | refine g_pass ?_ | refine g_fin ?_ | (apply g_ap; exact rfl; exact rfl; assumption)
    exact fin (hR _ _ L (by rw [hL]; unfold actB; simp [hdn]))
  · have hdn : a.dn = 1 := by assumption
    first | refine at_callS (bits_Bits_Drop_spec (q := some b) (l := X) (r := a.ns) (by omega)) ?_ | refine at_callR (bits_Bits_Drop_spec (q := some b) (l := X) (r := a.ns) (by omega)) ?_
    repeat' first | apply step | (apply g_op; · repeat first | exact Evs.nil | (apply Evs.cons; exact rfl)) | (refine Br.mk (fun _ => ?_) (fun _ => ?_) <;> try (exfalso; omega)) | (refine Sd.mk ?_ ?_; · ((repeat' apply And.intro) <;> first | omega | trivial | assumption | (simp; done) | (simp; omega))) | (refine Sx.mk ?_ ?_; · omega) | refine Fa.mk (fun _ => ?_) | refine Im.mk (fun _ => ?_) | apply Lw.go | refine g_cond ?_ | refine g_guard ?_ | refine g_keep ?_ | refine g_pass ?_ | refine g_fin ?_ | (apply g_ap; exact rfl; exact rfl; assumption)
    refine at_callR (r06_Set_L (l := X) (r := a.ns) (so := false) (by omega) (by omega)) ?_
    intro p' c' L hL
    rw [← hL]
    repeat' first | apply step | (apply g_op; · repeat first | exact Evs.nil | (apply Evs.cons; exact rfl)) | (refine Br.mk (fun _ => ?_) (fun _ => ?_) <;> try (exfalso; omega)) | (refine Sd.mk ?_ ?_; · ((repeat' apply And.intro) <;> first | omega | trivial | assumption | (simp; done) | (simp; omega))) | (refine Sx.mk ?_ ?_; · omega) | refine Fa.mk (fun _ => ?_) | refine Im.mk (fun _ => ?_) | apply Lw.go | refine g_cond ?_ | refine g_guard ?_ | refine g_keep ?_ | refine g_pass ?_ | refine g_fin ?_ | (apply g_ap; exact rfl; exact rfl; assumption)
    exact fin (hR _ _ L (by rw [hL]; unfold actB; simp [hdn]))
  · have hdn : a.dn = 2 := by assumption
    first | refine at_callS (bits_Bits_Or_own (q := some b) (o := some b1) (l := X) (m := L2)) ?_ | refine at_callR (bits_Bits_Or_own (q := some b) (o := some b1) (l := X) (m := L2)) ?_
    repeat' first | apply step | (apply g_op; · repeat first | exact Evs.nil | (apply Evs.cons; exact rfl)) | (refine Br.mk (fun _ => ?_) (fun _ => ?_) <;> try (exfalso; omega)) | (refine Sd.mk ?_ ?_; · ((repeat' apply And.intro) <;> first | omega | trivial | assumption | (simp; done) | (simp; omega))) | (refine Sx.mk ?_ ?_; · omega) | refine Fa.mk (fun _ => ?_) | refine Im.mk (fun _ => ?_) | apply Lw.go | refine g_cond ?_ | refine g_guard ?_ | refine g_keep ?_ | refine g_pass ?_ | refine g_fin ?_ | (apply g_ap; exact rfl; exact rfl; assumption)
    refine at_callR (r06_With_spec (l := X) (m := L2) (how := IntKind.i64.wrap (a.dn - 2)) (by omega) (by omega)) ?_
    intro p' c' L hL
    rw [wrap_in (by omega) (by omega), show a.dn - 2 = 0 by omega, with_or] at hL
    rw [← hL]
    repeat' first | apply step | (apply g_op; · repeat first | exact Evs.nil | (apply Evs.cons; exact rfl)) | (refine Br.mk (fun _ => ?_) (fun _ => ?_) <;> try (exfalso; omega)) | (refine Sd.mk ?_ ?_; · ((repeat' apply And.intro) <;> first | omega | trivial | assumption | (simp; done) | (simp; omega))) | (refine Sx.mk ?_ ?_; · omega) | refine Fa.mk (fun _ => ?_) | refine Im.mk (fun _ => ?_) | apply Lw.go | refine g_cond ?_ | refine g_guard ?_ | refine g_keep ?_ | refine g_pass ?_ | refine g_fin ?_ | (apply g_ap; exact rfl; exact rfl; assumption)
    exact fin (hR _ _ L (by rw [hL]; unfold actB; simp [hdn, hU]))
  · have hdn : a.dn = 3 := by assumption
    first | refine at_callS (bits_Bits_And_own (q := some b) (o := some b1) (l := X) (m := L2)) ?_ | refine at_callR (bits_Bits_And_own (q := some b) (o := some b1) (l := X) (m := L2)) ?_
    repeat' first | apply step | (apply g_op; · repeat first | exact Evs.nil | (apply Evs.cons; exact rfl)) | (refine Br.mk (fun _ => ?_) (fun _ => ?_) <;> try (exfalso; omega)) | (refine Sd.mk ?_ ?_; · ((repeat' apply And.intro) <;> first | omega | trivial | assumption | (simp; done) | (simp; omega))) | (refine Sx.mk ?_ ?_; · omega) | refine Fa.mk (fun _ => ?_) | refine Im.mk (fun _ => ?_) | apply Lw.go | refine g_cond ?_ | refine g_guard ?_ | refine g_keep ?_ | refine g_pass ?_ | refine g_fin ?_ | (apply g_ap; exact rfl; exact rfl; assumption)
    refine at_callR (r06_With_spec (l := X) (m := L2) (how := IntKind.i64.wrap (a.dn - 2)) (by omega) (by omega)) ?_
    intro p' c' L hL
    rw [wrap_in (by omega) (by omega), show a.dn - 2 = 1 by omega, with_and] at hL
    rw [← hL]
    repeat' first | apply step | (apply g_op; · repeat first | exact Evs.nil | (apply Evs.cons; exact rfl)) | (refine Br.mk (fun _ => ?_) (fun _ => ?_) <;> try (exfalso; omega)) | (refine Sd.mk ?_ ?_; · ((repeat' apply And.intro) <;> first | omega | trivial | assumption | (simp; done) | (simp; omega))) | (refine Sx.mk ?_ ?_; · omega) | refine Fa.mk (fun _ => ?_) | refine Im.mk (fun _ => ?_) | apply Lw.go | refine g_cond ?_ | refine g_guard ?_ | refine g_keep ?_ | refine g_pass ?_ | refine g_fin ?_ | (apply g_ap; exact rfl; exact rfl; assumption)
    exact fin (hR _ _ L (by rw [hL]; unfold actB; simp [hdn, hU]))
  · have hdn : a.dn = 4 := by assumption
    first | refine at_callS (bits_Bits_Minus_own (q := some b) (o := some b1) (l := X) (m := L2)) ?_ | refine at_callR (bits_Bits_Minus_own (q := some b) (o := some b1) (l := X) (m := L2)) ?_
    repeat' first | apply step | (apply g_op; · repeat first | exact Evs.nil | (apply Evs.cons; exact rfl)) | (refine Br.mk (fun _ => ?_) (fun _ => ?_) <;> try (exfalso; omega)) | (refine Sd.mk ?_ ?_; · ((repeat' apply And.intro) <;> first | omega | trivial | assumption | (simp; done) | (simp; omega))) | (refine Sx.mk ?_ ?_; · omega) | refine Fa.mk (fun _ => ?_) | refine Im.mk (fun _ => ?_) | apply Lw.go | refine g_cond ?_ | refine g_guard ?_ | refine g_keep ?_ | refine g_pass ?_ | refine g_fin ?_ | (apply g_ap; exact rfl; exact rfl; assumption)
    refine at_callR (r06_With_spec (l := X) (m := L2) (how := IntKind.i64.wrap (a.dn - 2)) (by omega) (by omega)) ?_
    intro p' c' L hL
    rw [wrap_in (by omega) (by omega), show a.dn - 2 = 2 by omega, with_minus] at hL
    rw [← hL]
    repeat' first | apply step | (apply g_op; · repeat first | exact Evs.nil | (apply Evs.cons; exact rfl)) | (refine Br.mk (fun _ => ?_) (fun _ => ?_) <;> try (exfalso; omega)) | (refine Sd.mk ?_ ?_; · ((repeat' apply And.intro) <;> first | omega | trivial | assumption | (simp; done) | (simp; omega))) | (refine Sx.mk ?_ ?_; · omega) | refine Fa.mk (fun _ => ?_) | refine Im.mk (fun _ => ?_) | apply Lw.go | refine g_cond ?_ | refine g_guard ?_ | refine g_keep ?_ | refine g_pass ?_ | refine g_fin ?_ | (apply g_ap; exact rfl; exact rfl; assumption)
    exact fin (hR _ _ L (by rw [hL]; unfold actB; simp [hdn, hU]))
  · have hw : IntKind.i64.wrap (a.dn - 2) ≠ 0 ∧ IntKind.i64.wrap (a.dn - 2) ≠ 1 ∧ IntKind.i64.wrap (a.dn - 2) ≠ 2 := by
      rcases Int.lt_or_le (a.dn - 2) (-9223372036854775808) with h | h
      · rw [wrap_lo h (by omega)]; omega
      · rw [wrap_in h (by omega)]; omega
    refine at_callR (r06_With_spec (l := X) (m := L2) (how := IntKind.i64.wrap (a.dn - 2)) (by omega) (by omega)) ?_
    intro p' c' L hL
    rw [with_else hw] at hL
    rw [← hL]
    repeat' first | apply step | (apply g_op; · repeat first | exact Evs.nil | (apply Evs.cons; exact rfl)) | (refine Br.mk (fun _ => ?_) (fun _ => ?_) <;> try (exfalso; omega)) | (refine Sd.mk ?_ ?_; · ((repeat' apply And.intro) <;> first | omega | trivial | assumption | (simp; done) | (simp; omega))) | (refine Sx.mk ?_ ?_; · omega) | refine Fa.mk (fun _ => ?_) | refine Im.mk (fun _ => ?_) | apply Lw.go | refine g_cond ?_ | refine g_guard ?_ | refine g_keep ?_ | refine g_pass ?_ | refine g_fin ?_ | (apply g_ap; exact rfl; exact rfl; assumption)
    exact fin (hR _ _ L (by rw [hL]; unfold actB; repeat (rw [if_neg (by omega)])))
end
end
end Go.AMS

namespace Go.AMS
open Go.AM hiding Kt At WP WL Runs RunsY
open Go.AM.G
set_option linter.unusedVariables false
set_option linter.unusedSimpArgs false
set_option linter.unusedSectionVars false
set_option maxRecDepth 100000
set_option maxHeartbeats 1000000
attribute [local irreducible] AtS AtV AtC AtG FinA Spec Post LP G.At G.WP G.WL pt own fro rdl ro hx mp lrec elt sub

theorem l06_BitsPlays_spec {z k : Int} {full : Bool} {p : Option Addr} {c : Nat} {acts : List Act} (hz : -9223372036854775808 ≤ z ∧ z ≤ 9223372036854775807) (hk : -9223372036854775808 ≤ k ∧ k ≤ 9223372036854775807) : Spec prog1 n_l06_BitsPlays [.int .i64 z, .bool full, .slice p acts.length c, .int .i64 k] [fro kAct p c acts] (fun R => R (.bool true) []) := by
  refine spec_code c_l06_BitsPlays rfl ?_; intro n F R hR; unfold F_l06_BitsPlays
  by_cases hg : z ≤ 300 ∧ acts.length ≤ 40
  rotate_left
  · repeat' first | apply step | (apply g_op; · repeat first | exact Evs.nil | (apply Evs.cons; exact rfl)) | (refine Br.mk (fun _ => ?_) (fun _ => ?_) <;> try (exfalso; omega)) | (refine Sd.mk ?_ ?_; · ((repeat' apply And.intro) <;> first | omega | trivial | assumption | (simp; done) | (simp; omega))) | (refine Sx.mk ?_ ?_; · omega) | refine Fa.mk (fun _ => ?_) | refine Im.mk (fun _ => ?_) | apply Lw.go | refine g_cond ?_ | refine g_guard ?_ | refine g_keep ?_ | refine g_pass ?_ | refine g_fin ?_ | (apply g_ap; exact rfl; exact rfl; assumption)
    all_goals
      first | refine at_callS (l06_works_spec) ?_ | refine at_callR (l06_works_spec) ?_
      repeat' first | apply step | (apply g_op; · repeat first | exact Evs.nil | (apply Evs.cons; exact rfl)) | (refine Br.mk (fun _ => ?_) (fun _ => ?_) <;> try (exfalso; omega)) | (refine Sd.mk ?_ ?_; · ((repeat' apply And.intro) <;> first | omega | trivial | assumption | (simp; done) | (simp; omega))) | (refine Sx.mk ?_ ?_; · omega) | refine Fa.mk (fun _ => ?_) | refine Im.mk (fun _ => ?_) | apply Lw.go | refine g_cond ?_ | refine g_guard ?_ | refine g_keep ?_ | refine g_pass ?_ | refine g_fin ?_ | (apply g_ap; exact rfl; exact rfl; assumption)
      exact fin hR
  obtain ⟨h1, h2⟩ := hg
  have hcl := clampN_le z
  repeat' first | apply step | (apply g_op; · repeat first | exact Evs.nil | (apply Evs.cons; exact rfl)) | (refine Br.mk (fun _ => ?_) (fun _ => ?_) <;> try (exfalso; omega)) | (refine Sd.mk ?_ ?_; · ((repeat' apply And.intro) <;> first | omega | trivial | assumption | (simp; done) | (simp; omega))) | (refine Sx.mk ?_ ?_; · omega) | refine Fa.mk (fun _ => ?_) | refine Im.mk (fun _ => ?_) | apply Lw.go | refine g_cond ?_ | refine g_guard ?_ | refine g_keep ?_ | refine g_pass ?_ | refine g_fin ?_ | (apply g_ap; exact rfl; exact rfl; assumption)
  first | refine at_callS (bits_New_spec (z := z)) ?_ | refine at_callR (bits_New_spec (z := z)) ?_
  intro b0
  cases full with
  | false =>
    repeat' first | apply step | (apply g_op; · repeat first | exact Evs.nil | (apply Evs.cons; exact rfl)) | (refine Br.mk (fun _ => ?_) (fun _ => ?_) <;> try (exfalso; omega)) | (refine Sd.mk ?_ ?_; · ((repeat' apply And.intro) <;> first | omega | trivial | assumption | (simp; done) | (simp; omega))) | (refine Sx.mk ?_ ?_; · omega) | refine Fa.mk (fun _ => ?_) | refine Im.mk (fun _ => ?_) | apply Lw.go | refine g_cond ?_ | refine g_guard ?_ | refine g_keep ?_ | refine g_pass ?_ | refine g_fin ?_ | (apply g_ap; exact rfl; exact rfl; assumption)
    refine at_callR (r06_New_L (z := z) (a := false)) ?_
    intro q0 d0 X0 hX0
    have hX0l : X0.length = clampN z := by rw [hX0, List.length_replicate]
    rw [← hX0]
    repeat' first | apply step | (apply g_op; · repeat first | exact Evs.nil | (apply Evs.cons; exact rfl)) | (refine Br.mk (fun _ => ?_) (fun _ => ?_) <;> try (exfalso; omega)) | (refine Sd.mk ?_ ?_; · ((repeat' apply And.intro) <;> first | omega | trivial | assumption | (simp; done) | (simp; omega))) | (refine Sx.mk ?_ ?_; · omega) | refine Fa.mk (fun _ => ?_) | refine Im.mk (fun _ => ?_) | apply Lw.go | refine g_cond ?_ | refine g_guard ?_ | refine g_keep ?_ | refine g_pass ?_ | refine g_fin ?_ | (apply g_ap; exact rfl; exact rfl; assumption)
    refine at_loopS (ι := Nat × Option Addr × Nat × List Bool) (E := fun j => [(2, .slice p acts.length c), (3, .int .i64 k), (9, btp (some b0)), (10, .slice j.2.1 j.2.2.2.length j.2.2.1), (11, .int .i64 (j.1 : Int))]) (Δ := fun j => bt (some b0) j.2.2.2 :: own kBool j.2.1 j.2.2.1 j.2.2.2 :: fro kAct p c acts :: F) (P := fun j => j.1 ≤ acts.length ∧ j.2.2.2.length ≤ 65536) (μ := fun j => acts.length - j.1) (0, q0, d0, X0) ⟨by simp, by dsimp only; omega⟩ ?_
    rintro ⟨j, q, d, X⟩ ⟨hj, hX⟩
    dsimp only at hj hX ⊢
    have hXe := elB_len X
    by_cases hjl : j < acts.length
    · by_cases hgu : acts[j].ns.length ≤ 40 ∧ acts[j].room ≤ 300 ∧ acts[j].dn ≤ 4
      rotate_left
      · repeat' first | apply step | (apply g_op; · repeat first | exact Evs.nil | (apply Evs.cons; exact rfl)) | (refine Br.mk (fun _ => ?_) (fun _ => ?_) <;> try (exfalso; omega)) | (refine Sd.mk ?_ ?_; · ((repeat' apply And.intro) <;> first | omega | trivial | assumption | (simp; done) | (simp; omega))) | (refine Sx.mk ?_ ?_; · omega) | refine Fa.mk (fun _ => ?_) | refine Im.mk (fun _ => ?_) | apply Lw.go | refine g_cond ?_ | refine g_guard ?_ | refine g_keep ?_ | refine g_pass ?_ | refine g_fin ?_ | (apply g_ap; exact rfl; exact rfl; assumption)
        all_goals
          first | refine at_callS (l06_works_spec) ?_ | refine at_callR (l06_works_spec) ?_
          repeat' first | apply step | (apply g_op; · repeat first | exact Evs.nil | (apply Evs.cons; exact rfl)) | (refine Br.mk (fun _ => ?_) (fun _ => ?_) <;> try (exfalso; omega)) | (refine Sd.mk ?_ ?_; · ((repeat' apply And.intro) <;> first | omega | trivial | assumption | (simp; done) | (simp; omega))) | (refine Sx.mk ?_ ?_; · omega) | refine Fa.mk (fun _ => ?_) | refine Im.mk (fun _ => ?_) | apply Lw.go | refine g_cond ?_ | refine g_guard ?_ | refine g_keep ?_ | refine g_pass ?_ | refine g_fin ?_ | (apply g_ap; exact rfl; exact rfl; assumption)
          exact fin hR
      obtain ⟨g1, g2, g3⟩ := hgu
      repeat' first | apply step | (apply g_op; · repeat first | exact Evs.nil | (apply Evs.cons; exact rfl)) | (refine Br.mk (fun _ => ?_) (fun _ => ?_) <;> try (exfalso; omega)) | (refine Sd.mk ?_ ?_; · ((repeat' apply And.intro) <;> first | omega | trivial | assumption | (simp; done) | (simp; omega))) | (refine Sx.mk ?_ ?_; · omega) | refine Fa.mk (fun _ => ?_) | refine Im.mk (fun _ => ?_) | apply Lw.go | refine g_cond ?_ | refine g_guard ?_ | refine g_keep ?_ | refine g_pass ?_ | refine g_fin ?_ | (apply g_ap; exact rfl; exact rfl; assumption)
      first | refine at_callS (l06_do_spec (b := b0) (X := X) (a := acts[j]) (by omega) hX (by omega) (by omega)) ?_ | refine at_callR (l06_do_spec (b := b0) (X := X) (a := acts[j]) (by omega) hX (by omega) (by omega)) ?_
      intro p' c' L hL
      have hLl : L.length = X.length := by rw [hL, actB_len]
      have hLe := elB_len L
      repeat' first | apply step | (apply g_op; · repeat first | exact Evs.nil | (apply Evs.cons; exact rfl)) | (refine Br.mk (fun _ => ?_) (fun _ => ?_) <;> try (exfalso; omega)) | (refine Sd.mk ?_ ?_; · ((repeat' apply And.intro) <;> first | omega | trivial | assumption | (simp; done) | (simp; omega))) | (refine Sx.mk ?_ ?_; · omega) | refine Fa.mk (fun _ => ?_) | refine Im.mk (fun _ => ?_) | apply Lw.go | refine g_cond ?_ | refine g_guard ?_ | refine g_keep ?_ | refine g_pass ?_ | refine g_fin ?_ | (apply g_ap; exact rfl; exact rfl; assumption)
      refine at_callR (bits_Bits_Room_spec (q := some b0) (l := L)) ?_
      repeat' first | apply step | (apply g_op; · repeat first | exact Evs.nil | (apply Evs.cons; exact rfl)) | (refine Br.mk (fun _ => ?_) (fun _ => ?_) <;> try (exfalso; omega)) | (refine Sd.mk ?_ ?_; · ((repeat' apply And.intro) <;> first | omega | trivial | assumption | (simp; done) | (simp; omega))) | (refine Sx.mk ?_ ?_; · omega) | refine Fa.mk (fun _ => ?_) | refine Im.mk (fun _ => ?_) | apply Lw.go | refine g_cond ?_ | refine g_guard ?_ | refine g_keep ?_ | refine g_pass ?_ | refine g_fin ?_ | (apply g_ap; exact rfl; exact rfl; assumption)
      refine at_callR (bits_Bits_List_spec (q := some b0) (l := L)) ?_
      intro q5 d5
      repeat' first | apply step | (apply g_op; · repeat first | exact Evs.nil | (apply Evs.cons; exact rfl)) | (refine Br.mk (fun _ => ?_) (fun _ => ?_) <;> try (exfalso; omega)) | (refine Sd.mk ?_ ?_; · ((repeat' apply And.intro) <;> first | omega | trivial | assumption | (simp; done) | (simp; omega))) | (refine Sx.mk ?_ ?_; · omega) | refine Fa.mk (fun _ => ?_) | refine Im.mk (fun _ => ?_) | apply Lw.go | refine g_cond ?_ | refine g_guard ?_ | refine g_keep ?_ | refine g_pass ?_ | refine g_fin ?_ | (apply g_ap; exact rfl; exact rfl; assumption)
      refine at_callR (r06_List_spec (l := L) (by omega)) ?_
      intro q6 d6
      repeat' first | apply step | (apply g_op; · repeat first | exact Evs.nil | (apply Evs.cons; exact rfl)) | (refine Br.mk (fun _ => ?_) (fun _ => ?_) <;> try (exfalso; omega)) | (refine Sd.mk ?_ ?_; · ((repeat' apply And.intro) <;> first | omega | trivial | assumption | (simp; done) | (simp; omega))) | (refine Sx.mk ?_ ?_; · omega) | refine Fa.mk (fun _ => ?_) | refine Im.mk (fun _ => ?_) | apply Lw.go | refine g_cond ?_ | refine g_guard ?_ | refine g_keep ?_ | refine g_pass ?_ | refine g_fin ?_ | (apply g_ap; exact rfl; exact rfl; assumption)
      refine at_callR (r01_Same_spec (a := elB L) (b := elB L) (by omega)) ?_
      refine ⟨fun _ => ?_, fun h => absurd rfl h⟩
      repeat' first | apply step | (apply g_op; · repeat first | exact Evs.nil | (apply Evs.cons; exact rfl)) | (refine Br.mk (fun _ => ?_) (fun _ => ?_) <;> try (exfalso; omega)) | (refine Sd.mk ?_ ?_; · ((repeat' apply And.intro) <;> first | omega | trivial | assumption | (simp; done) | (simp; omega))) | (refine Sx.mk ?_ ?_; · omega) | refine Fa.mk (fun _ => ?_) | refine Im.mk (fun _ => ?_) | apply Lw.go | refine g_cond ?_ | refine g_guard ?_ | refine g_keep ?_ | refine g_pass ?_ | refine g_fin ?_ | (apply g_ap; exact rfl; exact rfl; assumption)
      refine at_callR (bits_Bits_Count_spec (q := some b0) (l := L)) ?_
      repeat' first | apply step | (apply g_op; · repeat first | exact Evs.nil | (apply Evs.cons; exact rfl)) | (refine Br.mk (fun _ => ?_) (fun _ => ?_) <;> try (exfalso; omega)) | (refine Sd.mk ?_ ?_; · ((repeat' apply And.intro) <;> first | omega | trivial | assumption | (simp; done) | (simp; omega))) | (refine Sx.mk ?_ ?_; · omega) | refine Fa.mk (fun _ => ?_) | refine Im.mk (fun _ => ?_) | apply Lw.go | refine g_cond ?_ | refine g_guard ?_ | refine g_keep ?_ | refine g_pass ?_ | refine g_fin ?_ | (apply g_ap; exact rfl; exact rfl; assumption)
      refine at_callR (r06_List_spec (l := L) (by omega)) ?_
      intro q7 d7
      repeat' first | apply step | (apply g_op; · repeat first | exact Evs.nil | (apply Evs.cons; exact rfl)) | (refine Br.mk (fun _ => ?_) (fun _ => ?_) <;> try (exfalso; omega)) | (refine Sd.mk ?_ ?_; · ((repeat' apply And.intro) <;> first | omega | trivial | assumption | (simp; done) | (simp; omega))) | (refine Sx.mk ?_ ?_; · omega) | refine Fa.mk (fun _ => ?_) | refine Im.mk (fun _ => ?_) | apply Lw.go | refine g_cond ?_ | refine g_guard ?_ | refine g_keep ?_ | refine g_pass ?_ | refine g_fin ?_ | (apply g_ap; exact rfl; exact rfl; assumption)
      by_cases hh : 0 ≤ k ∧ L.getD k.toNat false = true
      · refine at_callR (bits_Bits_Has_spec (q := some b0) (l := L) (k := k)) ?_
        refine ⟨fun _ => ?_, fun h => absurd hh h⟩
        repeat' first | apply step | (apply g_op; · repeat first | exact Evs.nil | (apply Evs.cons; exact rfl)) | (refine Br.mk (fun _ => ?_) (fun _ => ?_) <;> try (exfalso; omega)) | (refine Sd.mk ?_ ?_; · ((repeat' apply And.intro) <;> first | omega | trivial | assumption | (simp; done) | (simp; omega))) | (refine Sx.mk ?_ ?_; · omega) | refine Fa.mk (fun _ => ?_) | refine Im.mk (fun _ => ?_) | apply Lw.go | refine g_cond ?_ | refine g_guard ?_ | refine g_keep ?_ | refine g_pass ?_ | refine g_fin ?_ | (apply g_ap; exact rfl; exact rfl; assumption)
        refine at_callR (r06_Has_spec (l := L) (k := k) (by omega)) ?_
        refine ⟨fun _ => ?_, fun h => absurd hh h⟩
        repeat' first | apply step | (apply g_op; · repeat first | exact Evs.nil | (apply Evs.cons; exact rfl)) | (refine Br.mk (fun _ => ?_) (fun _ => ?_) <;> try (exfalso; omega)) | (refine Sd.mk ?_ ?_; · ((repeat' apply And.intro) <;> first | omega | trivial | assumption | (simp; done) | (simp; omega))) | (refine Sx.mk ?_ ?_; · omega) | refine Fa.mk (fun _ => ?_) | refine Im.mk (fun _ => ?_) | apply Lw.go | refine g_cond ?_ | refine g_guard ?_ | refine g_keep ?_ | refine g_pass ?_ | refine g_fin ?_ | (apply g_ap; exact rfl; exact rfl; assumption)
        · rename_i hbad
          exact absurd rfl hbad
        refine at_callR (bits_Bits_Next_spec (q := some b0) (l := L) (k := k) hk.2 hk.1) ?_
        intro x hx
        repeat' first | apply step | (apply g_op; · repeat first | exact Evs.nil | (apply Evs.cons; exact rfl)) | (refine Br.mk (fun _ => ?_) (fun _ => ?_) <;> try (exfalso; omega)) | (refine Sd.mk ?_ ?_; · ((repeat' apply And.intro) <;> first | omega | trivial | assumption | (simp; done) | (simp; omega))) | (refine Sx.mk ?_ ?_; · omega) | refine Fa.mk (fun _ => ?_) | refine Im.mk (fun _ => ?_) | apply Lw.go | refine g_cond ?_ | refine g_guard ?_ | refine g_keep ?_ | refine g_pass ?_ | refine g_fin ?_ | (apply g_ap; exact rfl; exact rfl; assumption)
        refine at_callR (r06_Next_spec (l := L) (k := k) (by omega)) ?_
        intro y hy
        obtain rfl : x = y := hx.eq hy
        repeat' first | apply step | (apply g_op; · repeat first | exact Evs.nil | (apply Evs.cons; exact rfl)) | (refine Br.mk (fun _ => ?_) (fun _ => ?_) <;> try (exfalso; omega)) | (refine Sd.mk ?_ ?_; · ((repeat' apply And.intro) <;> first | omega | trivial | assumption | (simp; done) | (simp; omega))) | (refine Sx.mk ?_ ?_; · omega) | refine Fa.mk (fun _ => ?_) | refine Im.mk (fun _ => ?_) | apply Lw.go | refine g_cond ?_ | refine g_guard ?_ | refine g_keep ?_ | refine g_pass ?_ | refine g_fin ?_ | (apply g_ap; exact rfl; exact rfl; assumption)
        refine lp_next (j + 1, p', c', L) ⟨by dsimp only; omega, by dsimp only; omega⟩ (by dsimp only; omega)
      · refine at_callR (bits_Bits_Has_spec (q := some b0) (l := L) (k := k)) ?_
        refine ⟨fun h => absurd h hh, fun _ => ?_⟩
        repeat' first | apply step | (apply g_op; · repeat first | exact Evs.nil | (apply Evs.cons; exact rfl)) | (refine Br.mk (fun _ => ?_) (fun _ => ?_) <;> try (exfalso; omega)) | (refine Sd.mk ?_ ?_; · ((repeat' apply And.intro) <;> first | omega | trivial | assumption | (simp; done) | (simp; omega))) | (refine Sx.mk ?_ ?_; · omega) | refine Fa.mk (fun _ => ?_) | refine Im.mk (fun _ => ?_) | apply Lw.go | refine g_cond ?_ | refine g_guard ?_ | refine g_keep ?_ | refine g_pass ?_ | refine g_fin ?_ | (apply g_ap; exact rfl; exact rfl; assumption)
        refine at_callR (r06_Has_spec (l := L) (k := k) (by omega)) ?_
        refine ⟨fun h => absurd h hh, fun _ => ?_⟩
        repeat' first | apply step | (apply g_op; · repeat first | exact Evs.nil | (apply Evs.cons; exact rfl)) | (refine Br.mk (fun _ => ?_) (fun _ => ?_) <;> try (exfalso; omega)) | (refine Sd.mk ?_ ?_; · ((repeat' apply And.intro) <;> first | omega | trivial | assumption | (simp; done) | (simp; omega))) | (refine Sx.mk ?_ ?_; · omega) | refine Fa.mk (fun _ => ?_) | refine Im.mk (fun _ => ?_) | apply Lw.go | refine g_cond ?_ | refine g_guard ?_ | refine g_keep ?_ | refine g_pass ?_ | refine g_fin ?_ | (apply g_ap; exact rfl; exact rfl; assumption)
        · rename_i hbad
          exact absurd rfl hbad
        refine at_callR (bits_Bits_Next_spec (q := some b0) (l := L) (k := k) hk.2 hk.1) ?_
        intro x hx
        repeat' first | apply step | (apply g_op; · repeat first | exact Evs.nil | (apply Evs.cons; exact rfl)) | (refine Br.mk (fun _ => ?_) (fun _ => ?_) <;> try (exfalso; omega)) | (refine Sd.mk ?_ ?_; · ((repeat' apply And.intro) <;> first | omega | trivial | assumption | (simp; done) | (simp; omega))) | (refine Sx.mk ?_ ?_; · omega) | refine Fa.mk (fun _ => ?_) | refine Im.mk (fun _ => ?_) | apply Lw.go | refine g_cond ?_ | refine g_guard ?_ | refine g_keep ?_ | refine g_pass ?_ | refine g_fin ?_ | (apply g_ap; exact rfl; exact rfl; assumption)
        refine at_callR (r06_Next_spec (l := L) (k := k) (by omega)) ?_
        intro y hy
        obtain rfl : x = y := hx.eq hy
        repeat' first | apply step | (apply g_op; · repeat first | exact Evs.nil | (apply Evs.cons; exact rfl)) | (refine Br.mk (fun _ => ?_) (fun _ => ?_) <;> try (exfalso; omega)) | (refine Sd.mk ?_ ?_; · ((repeat' apply And.intro) <;> first | omega | trivial | assumption | (simp; done) | (simp; omega))) | (refine Sx.mk ?_ ?_; · omega) | refine Fa.mk (fun _ => ?_) | refine Im.mk (fun _ => ?_) | apply Lw.go | refine g_cond ?_ | refine g_guard ?_ | refine g_keep ?_ | refine g_pass ?_ | refine g_fin ?_ | (apply g_ap; exact rfl; exact rfl; assumption)
        refine lp_next (j + 1, p', c', L) ⟨by dsimp only; omega, by dsimp only; omega⟩ (by dsimp only; omega)
    · repeat' first | apply step | (apply g_op; · repeat first | exact Evs.nil | (apply Evs.cons; exact rfl)) | (refine Br.mk (fun _ => ?_) (fun _ => ?_) <;> try (exfalso; omega)) | (refine Sd.mk ?_ ?_; · ((repeat' apply And.intro) <;> first | omega | trivial | assumption | (simp; done) | (simp; omega))) | (refine Sx.mk ?_ ?_; · omega) | refine Fa.mk (fun _ => ?_) | refine Im.mk (fun _ => ?_) | apply Lw.go | refine g_cond ?_ | refine g_guard ?_ | refine g_keep ?_ | refine g_pass ?_ | refine g_fin ?_ | (apply g_ap; exact rfl; exact rfl; assumption)
      refine at_callR (bits_Bits_List_spec (q := some b0) (l := X)) ?_
      intro q5 d5
      repeat' first | apply step | (apply g_op; · repeat first | exact Evs.nil | (apply Evs.cons; exact rfl)) | (refine Br.mk (fun _ => ?_) (fun _ => ?_) <;> try (exfalso; omega)) | (refine Sd.mk ?_ ?_; · ((repeat' apply And.intro) <;> first | omega | trivial | assumption | (simp; done) | (simp; omega))) | (refine Sx.mk ?_ ?_; · omega) | refine Fa.mk (fun _ => ?_) | refine Im.mk (fun _ => ?_) | apply Lw.go | refine g_cond ?_ | refine g_guard ?_ | refine g_keep ?_ | refine g_pass ?_ | refine g_fin ?_ | (apply g_ap; exact rfl; exact rfl; assumption)
      refine at_callR (r06_List_spec (l := X) (by omega)) ?_
      intro q6 d6
      repeat' first | apply step | (apply g_op; · repeat first | exact Evs.nil | (apply Evs.cons; exact rfl)) | (refine Br.mk (fun _ => ?_) (fun _ => ?_) <;> try (exfalso; omega)) | (refine Sd.mk ?_ ?_; · ((repeat' apply And.intro) <;> first | omega | trivial | assumption | (simp; done) | (simp; omega))) | (refine Sx.mk ?_ ?_; · omega) | refine Fa.mk (fun _ => ?_) | refine Im.mk (fun _ => ?_) | apply Lw.go | refine g_cond ?_ | refine g_guard ?_ | refine g_keep ?_ | refine g_pass ?_ | refine g_fin ?_ | (apply g_ap; exact rfl; exact rfl; assumption)
      refine at_callR (r01_Same_spec (a := elB X) (b := elB X) (by omega)) ?_
      refine ⟨fun _ => ?_, fun h => absurd rfl h⟩
      repeat' first | apply step | (apply g_op; · repeat first | exact Evs.nil | (apply Evs.cons; exact rfl)) | (refine Br.mk (fun _ => ?_) (fun _ => ?_) <;> try (exfalso; omega)) | (refine Sd.mk ?_ ?_; · ((repeat' apply And.intro) <;> first | omega | trivial | assumption | (simp; done) | (simp; omega))) | (refine Sx.mk ?_ ?_; · omega) | refine Fa.mk (fun _ => ?_) | refine Im.mk (fun _ => ?_) | apply Lw.go | refine g_cond ?_ | refine g_guard ?_ | refine g_keep ?_ | refine g_pass ?_ | refine g_fin ?_ | (apply g_ap; exact rfl; exact rfl; assumption)
      refine at_callR (bits_Bits_Room_spec (q := some b0) (l := X)) ?_
      repeat' first | apply step | (apply g_op; · repeat first | exact Evs.nil | (apply Evs.cons; exact rfl)) | (refine Br.mk (fun _ => ?_) (fun _ => ?_) <;> try (exfalso; omega)) | (refine Sd.mk ?_ ?_; · ((repeat' apply And.intro) <;> first | omega | trivial | assumption | (simp; done) | (simp; omega))) | (refine Sx.mk ?_ ?_; · omega) | refine Fa.mk (fun _ => ?_) | refine Im.mk (fun _ => ?_) | apply Lw.go | refine g_cond ?_ | refine g_guard ?_ | refine g_keep ?_ | refine g_pass ?_ | refine g_fin ?_ | (apply g_ap; exact rfl; exact rfl; assumption)
      first | refine at_callS (l06_works_spec) ?_ | refine at_callR (l06_works_spec) ?_
      repeat' first | apply step | (apply g_op; · repeat first | exact Evs.nil | (apply Evs.cons; exact rfl)) | (refine Br.mk (fun _ => ?_) (fun _ => ?_) <;> try (exfalso; omega)) | (refine Sd.mk ?_ ?_; · ((repeat' apply And.intro) <;> first | omega | trivial | assumption | (simp; done) | (simp; omega))) | (refine Sx.mk ?_ ?_; · omega) | refine Fa.mk (fun _ => ?_) | refine Im.mk (fun _ => ?_) | apply Lw.go | refine g_cond ?_ | refine g_guard ?_ | refine g_keep ?_ | refine g_pass ?_ | refine g_fin ?_ | (apply g_ap; exact rfl; exact rfl; assumption)
      exact fin hR
  | true =>
    repeat' first | apply step | (apply g_op; · repeat first | exact Evs.nil | (apply Evs.cons; exact rfl)) | (refine Br.mk (fun _ => ?_) (fun _ => ?_) <;> try (exfalso; omega)) | (refine Sd.mk ?_ ?_; · ((repeat' apply And.intro) <;> first | omega | trivial | assumption | (simp; done) | (simp; omega))) | (refine Sx.mk ?_ ?_; · omega) | refine Fa.mk (fun _ => ?_) | refine Im.mk (fun _ => ?_) | apply Lw.go | refine g_cond ?_ | refine g_guard ?_ | refine g_keep ?_ | refine g_pass ?_ | refine g_fin ?_ | (apply g_ap; exact rfl; exact rfl; assumption)
    first | refine at_callS (bits_Full_spec (z := z)) ?_ | refine at_callR (bits_Full_spec (z := z)) ?_
    intro b1
    repeat' first | apply step | (apply g_op; · repeat first | exact Evs.nil | (apply Evs.cons; exact rfl)) | (refine Br.mk (fun _ => ?_) (fun _ => ?_) <;> try (exfalso; omega)) | (refine Sd.mk ?_ ?_; · ((repeat' apply And.intro) <;> first | omega | trivial | assumption | (simp; done) | (simp; omega))) | (refine Sx.mk ?_ ?_; · omega) | refine Fa.mk (fun _ => ?_) | refine Im.mk (fun _ => ?_) | apply Lw.go | refine g_cond ?_ | refine g_guard ?_ | refine g_keep ?_ | refine g_pass ?_ | refine g_fin ?_ | (apply g_ap; exact rfl; exact rfl; assumption)
    refine at_callR (r06_New_L (z := z) (a := true)) ?_
    intro q0 d0 X0 hX0
    have hX0l : X0.length = clampN z := by rw [hX0, List.length_replicate]
    rw [← hX0]
    repeat' first | apply step | (apply g_op; · repeat first | exact Evs.nil | (apply Evs.cons; exact rfl)) | (refine Br.mk (fun _ => ?_) (fun _ => ?_) <;> try (exfalso; omega)) | (refine Sd.mk ?_ ?_; · ((repeat' apply And.intro) <;> first | omega | trivial | assumption | (simp; done) | (simp; omega))) | (refine Sx.mk ?_ ?_; · omega) | refine Fa.mk (fun _ => ?_) | refine Im.mk (fun _ => ?_) | apply Lw.go | refine g_cond ?_ | refine g_guard ?_ | refine g_keep ?_ | refine g_pass ?_ | refine g_fin ?_ | (apply g_ap; exact rfl; exact rfl; assumption)
    refine at_loopS (ι := Nat × Option Addr × Nat × List Bool) (E := fun j => [(2, .slice p acts.length c), (3, .int .i64 k), (9, btp (some b1)), (10, .slice j.2.1 j.2.2.2.length j.2.2.1), (11, .int .i64 (j.1 : Int))]) (Δ := fun j => bt (some b1) j.2.2.2 :: own kBool j.2.1 j.2.2.1 j.2.2.2 :: fro kAct p c acts :: F) (P := fun j => j.1 ≤ acts.length ∧ j.2.2.2.length ≤ 65536) (μ := fun j => acts.length - j.1) (0, q0, d0, X0) ⟨by simp, by dsimp only; omega⟩ ?_
    rintro ⟨j, q, d, X⟩ ⟨hj, hX⟩
    dsimp only at hj hX ⊢
    have hXe := elB_len X
    by_cases hjl : j < acts.length
    · by_cases hgu : acts[j].ns.length ≤ 40 ∧ acts[j].room ≤ 300 ∧ acts[j].dn ≤ 4
      rotate_left
      · repeat' first | apply step | (apply g_op; · repeat first | exact Evs.nil | (apply Evs.cons; exact rfl)) | (refine Br.mk (fun _ => ?_) (fun _ => ?_) <;> try (exfalso; omega)) | (refine Sd.mk ?_ ?_; · ((repeat' apply And.intro) <;> first | omega | trivial | assumption | (simp; done) | (simp; omega))) | (refine Sx.mk ?_ ?_; · omega) | refine Fa.mk (fun _ => ?_) | refine Im.mk (fun _ => ?_) | apply Lw.go | refine g_cond ?_ | refine g_guard ?_ | refine g_keep ?_ | refine g_pass ?_ | refine g_fin ?_ | (apply g_ap; exact rfl; exact rfl; assumption)
        all_goals
          first | refine at_callS (l06_works_spec) ?_ | refine at_callR (l06_works_spec) ?_
          repeat' first | apply step | (apply g_op; · repeat first | exact Evs.nil | (apply Evs.cons; exact rfl)) | (refine Br.mk (fun _ => ?_) (fun _ => ?_) <;> try (exfalso; omega)) | (refine Sd.mk ?_ ?_; · ((repeat' apply And.intro) <;> first | omega | trivial | assumption | (simp; done) | (simp; omega))) | (refine Sx.mk ?_ ?_; · omega) | refine Fa.mk (fun _ => ?_) | refine Im.mk (fun _ => ?_) | apply Lw.go | refine g_cond ?_ | refine g_guard ?_ | refine g_keep ?_ | refine g_pass ?_ | refine g_fin ?_ | (apply g_ap; exact rfl; exact rfl; assumption)
          exact fin hR
      obtain ⟨g1, g2, g3⟩ := hgu
      repeat' first | apply step | (apply g_op; · repeat first | exact Evs.nil | (apply Evs.cons; exact rfl)) | (refine Br.mk (fun _ => ?_) (fun _ => ?_) <;> try (exfalso; omega)) | (refine Sd.mk ?_ ?_; · ((repeat' apply And.intro) <;> first | omega | trivial | assumption | (simp; done) | (simp; omega))) | (refine Sx.mk ?_ ?_; · omega) | refine Fa.mk (fun _ => ?_) | refine Im.mk (fun _ => ?_) | apply Lw.go | refine g_cond ?_ | refine g_guard ?_ | refine g_keep ?_ | refine g_pass ?_ | refine g_fin ?_ | (apply g_ap; exact rfl; exact rfl; assumption)
      first | refine at_callS (l06_do_spec (b := b1) (X := X) (a := acts[j]) (by omega) hX (by omega) (by omega)) ?_ | refine at_callR (l06_do_spec (b := b1) (X := X) (a := acts[j]) (by omega) hX (by omega) (by omega)) ?_
      intro p' c' L hL
      have hLl : L.length = X.length := by rw [hL, actB_len]
      have hLe := elB_len L
      repeat' first | apply step | (apply g_op; · repeat first | exact Evs.nil | (apply Evs.cons; exact rfl)) | (refine Br.mk (fun _ => ?_) (fun _ => ?_) <;> try (exfalso; omega)) | (refine Sd.mk ?_ ?_; · ((repeat' apply And.intro) <;> first | omega | trivial | assumption | (simp; done) | (simp; omega))) | (refine Sx.mk ?_ ?_; · omega) | refine Fa.mk (fun _ => ?_) | refine Im.mk (fun _ => ?_) | apply Lw.go | refine g_cond ?_ | refine g_guard ?_ | refine g_keep ?_ | refine g_pass ?_ | refine g_fin ?_ | (apply g_ap; exact rfl; exact rfl; assumption)
      refine at_callR (bits_Bits_Room_spec (q := some b1) (l := L)) ?_
      repeat' first | apply step | (apply g_op; · repeat first | exact Evs.nil | (apply Evs.cons; exact rfl)) | (refine Br.mk (fun _ => ?_) (fun _ => ?_) <;> try (exfalso; omega)) | (refine Sd.mk ?_ ?_; · ((repeat' apply And.intro) <;> first | omega | trivial | assumption | (simp; done) | (simp; omega))) | (refine Sx.mk ?_ ?_; · omega) | refine Fa.mk (fun _ => ?_) | refine Im.mk (fun _ => ?_) | apply Lw.go | refine g_cond ?_ | refine g_guard ?_ | refine g_keep ?_ | refine g_pass ?_ | refine g_fin ?_ | (apply g_ap; exact rfl; exact rfl; assumption)
      refine at_callR (bits_Bits_List_spec (q := some b1) (l := L)) ?_
      intro q5 d5
      repeat' first | apply step | (apply g_op; · repeat first | exact Evs.nil | (apply Evs.cons; exact rfl)) | (refine Br.mk (fun _ => ?_) (fun _ => ?_) <;> try (exfalso; omega)) | (refine Sd.mk ?_ ?_; · ((repeat' apply And.intro) <;> first | omega | trivial | assumption | (simp; done) | (simp; omega))) | (refine Sx.mk ?_ ?_; · omega) | refine Fa.mk (fun _ => ?_) | refine Im.mk (fun _ => ?_) | apply Lw.go | refine g_cond ?_ | refine g_guard ?_ | refine g_keep ?_ | refine g_pass ?_ | refine g_fin ?_ | (apply g_ap; exact rfl; exact rfl; assumption)
      refine at_callR (r06_List_spec (l := L) (by omega)) ?_
      intro q6 d6
      repeat' first | apply step | (apply g_op; · repeat first | exact Evs.nil | (apply Evs.cons; exact rfl)) | (refine Br.mk (fun _ => ?_) (fun _ => ?_) <;> try (exfalso; omega)) | (refine Sd.mk ?_ ?_; · ((repeat' apply And.intro) <;> first | omega | trivial | assumption | (simp; done) | (simp; omega))) | (refine Sx.mk ?_ ?_; · omega) | refine Fa.mk (fun _ => ?_) | refine Im.mk (fun _ => ?_) | apply Lw.go | refine g_cond ?_ | refine g_guard ?_ | refine g_keep ?_ | refine g_pass ?_ | refine g_fin ?_ | (apply g_ap; exact rfl; exact rfl; assumption)
      refine at_callR (r01_Same_spec (a := elB L) (b := elB L) (by omega)) ?_
      refine ⟨fun _ => ?_, fun h => absurd rfl h⟩
      repeat' first | apply step | (apply g_op; · repeat first | exact Evs.nil | (apply Evs.cons; exact rfl)) | (refine Br.mk (fun _ => ?_) (fun _ => ?_) <;> try (exfalso; omega)) | (refine Sd.mk ?_ ?_; · ((repeat' apply And.intro) <;> first | omega | trivial | assumption | (simp; done) | (simp; omega))) | (refine Sx.mk ?_ ?_; · omega) | refine Fa.mk (fun _ => ?_) | refine Im.mk (fun _ => ?_) | apply Lw.go | refine g_cond ?_ | refine g_guard ?_ | refine g_keep ?_ | refine g_pass ?_ | refine g_fin ?_ | (apply g_ap; exact rfl; exact rfl; assumption)
      refine at_callR (bits_Bits_Count_spec (q := some b1) (l := L)) ?_
      repeat' first | apply step | (apply g_op; · repeat first | exact Evs.nil | (apply Evs.cons; exact rfl)) | (refine Br.mk (fun _ => ?_) (fun _ => ?_) <;> try (exfalso; omega)) | (refine Sd.mk ?_ ?_; · ((repeat' apply And.intro) <;> first | omega | trivial | assumption | (simp; done) | (simp; omega))) | (refine Sx.mk ?_ ?_; · omega) | refine Fa.mk (fun _ => ?_) | refine Im.mk (fun _ => ?_) | apply Lw.go | refine g_cond ?_ | refine g_guard ?_ | refine g_keep ?_ | refine g_pass ?_ | refine g_fin ?_ | (apply g_ap; exact rfl; exact rfl; assumption)
      refine at_callR (r06_List_spec (l := L) (by omega)) ?_
      intro q7 d7
      repeat' first | apply step | (apply g_op; · repeat first | exact Evs.nil | (apply Evs.cons; exact rfl)) | (refine Br.mk (fun _ => ?_) (fun _ => ?_) <;> try (exfalso; omega)) | (refine Sd.mk ?_ ?_; · ((repeat' apply And.intro) <;> first | omega | trivial | assumption | (simp; done) | (simp; omega))) | (refine Sx.mk ?_ ?_; · omega) | refine Fa.mk (fun _ => ?_) | refine Im.mk (fun _ => ?_) | apply Lw.go | refine g_cond ?_ | refine g_guard ?_ | refine g_keep ?_ | refine g_pass ?_ | refine g_fin ?_ | (apply g_ap; exact rfl; exact rfl; assumption)
      by_cases hh : 0 ≤ k ∧ L.getD k.toNat false = true
      · refine at_callR (bits_Bits_Has_spec (q := some b1) (l := L) (k := k)) ?_
        refine ⟨fun _ => ?_, fun h => absurd hh h⟩
        repeat' first | apply step | (apply g_op; · repeat first | exact Evs.nil | (apply Evs.cons; exact rfl)) | (refine Br.mk (fun _ => ?_) (fun _ => ?_) <;> try (exfalso; omega)) | (refine Sd.mk ?_ ?_; · ((repeat' apply And.intro) <;> first | omega | trivial | assumption | (simp; done) | (simp; omega))) | (refine Sx.mk ?_ ?_; · omega) | refine Fa.mk (fun _ => ?_) | refine Im.mk (fun _ => ?_) | apply Lw.go | refine g_cond ?_ | refine g_guard ?_ | refine g_keep ?_ | refine g_pass ?_ | refine g_fin ?_ | (apply g_ap; exact rfl; exact rfl; assumption)
        refine at_callR (r06_Has_spec (l := L) (k := k) (by omega)) ?_
        refine ⟨fun _ => ?_, fun h => absurd hh h⟩
        repeat' first | apply step | (apply g_op; · repeat first | exact Evs.nil | (apply Evs.cons; exact rfl)) | (refine Br.mk (fun _ => ?_) (fun _ => ?_) <;> try (exfalso; omega)) | (refine Sd.mk ?_ ?_; · ((repeat' apply And.intro) <;> first | omega | trivial | assumption | (simp; done) | (simp; omega))) | (refine Sx.mk ?_ ?_; · omega) | refine Fa.mk (fun _ => ?_) | refine Im.mk (fun _ => ?_) | apply Lw.go | refine g_cond ?_ | refine g_guard ?_ | refine g_keep ?_ | refine g_pass ?_ | refine g_fin ?_ | (apply g_ap; exact rfl; exact rfl; assumption)
        · rename_i hbad
          exact absurd rfl hbad
        refine at_callR (bits_Bits_Next_spec (q := some b1) (l := L) (k := k) hk.2 hk.1) ?_
        intro x hx
        repeat' first | apply step | (apply g_op; · repeat first | exact Evs.nil | (apply Evs.cons; exact rfl)) | (refine Br.mk (fun _ => ?_) (fun _ => ?_) <;> try (exfalso; omega)) | (refine Sd.mk ?_ ?_; · ((repeat' apply And.intro) <;> first | omega | trivial | assumption | (simp; done) | (simp; omega))) | (refine Sx.mk ?_ ?_; · omega) | refine Fa.mk (fun _ => ?_) | refine Im.mk (fun _ => ?_) | apply Lw.go | refine g_cond ?_ | refine g_guard ?_ | refine g_keep ?_ | refine g_pass ?_ | refine g_fin ?_ | (apply g_ap; exact rfl; exact rfl; assumption)
        refine at_callR (r06_Next_spec (l := L) (k := k) (by omega)) ?_
        intro y hy
        obtain rfl : x = y := hx.eq hy
        repeat' first | apply step | (apply g_op; · repeat first | exact Evs.nil | (apply Evs.cons; exact rfl)) | (refine Br.mk (fun _ => ?_) (fun _ => ?_) <;> try (exfalso; omega)) | (refine Sd.mk ?_ ?_; · ((repeat' apply And.intro) <;> first | omega | trivial | assumption | (simp; done) | (simp; omega))) | (refine Sx.mk ?_ ?_; · omega) | refine Fa.mk (fun _ => ?_) | refine Im.mk (fun _ => ?_) | apply Lw.go | refine g_cond ?_ | refine g_guard ?_ | refine g_keep ?_ | refine g_pass ?_ | refine g_fin ?_ | (apply g_ap; exact rfl; exact rfl; assumption)
        refine lp_next (j + 1, p', c', L) ⟨by dsimp only; omega, by dsimp only; omega⟩ (by dsimp only; omega)
      · refine at_callR (bits_Bits_Has_spec (q := some b1) (l := L) (k := k)) ?_
        refine ⟨fun h => absurd h hh, fun _ => ?_⟩
        repeat' first | apply step | (apply g_op; · repeat first | exact Evs.nil | (apply Evs.cons; exact rfl)) | (refine Br.mk (fun _ => ?_) (fun _ => ?_) <;> try (exfalso; omega)) | (refine Sd.mk ?_ ?_; · ((repeat' apply And.intro) <;> first | omega | trivial | assumption | (simp; done) | (simp; omega))) | (refine Sx.mk ?_ ?_; · omega) | refine Fa.mk (fun _ => ?_) | refine Im.mk (fun _ => ?_) | apply Lw.go | refine g_cond ?_ | refine g_guard ?_ | refine g_keep ?_ | refine g_pass ?_ | refine g_fin ?_ | (apply g_ap; exact rfl; exact rfl; assumption)
        refine at_callR (r06_Has_spec (l := L) (k := k) (by omega)) ?_
        refine ⟨fun h => absurd h hh, fun _ => ?_⟩
        repeat' first | apply step | (apply g_op; · repeat first | exact Evs.nil | (apply Evs.cons; exact rfl)) | (refine Br.mk (fun _ => ?_) (fun _ => ?_) <;> try (exfalso; omega)) | (refine Sd.mk ?_ ?_; · ((repeat' apply And.intro) <;> first | omega | trivial | assumption | (simp; done) | (simp; omega))) | (refine Sx.mk ?_ ?_; · omega) | refine Fa.mk (fun _ => ?_) | refine Im.mk (fun _ => ?_) | apply Lw.go | refine g_cond ?_ | refine g_guard ?_ | refine g_keep ?_ | refine g_pass ?_ | refine g_fin ?_ | (apply g_ap; exact rfl; exact rfl; assumption)
        · rename_i hbad
          exact absurd rfl hbad
        refine at_callR (bits_Bits_Next_spec (q := some b1) (l := L) (k := k) hk.2 hk.1) ?_
        intro x hx
        repeat' first | apply step | (apply g_op; · repeat first | exact Evs.nil | (apply Evs.cons; exact rfl)) | (refine Br.mk (fun _ => ?_) (fun _ => ?_) <;> try (exfalso; omega)) | (refine Sd.mk ?_ ?_; · ((repeat' apply And.intro) <;> first | omega | trivial | assumption | (simp; done) | (simp; omega))) | (refine Sx.mk ?_ ?_; · omega) | refine Fa.mk (fun _ => ?_) | refine Im.mk (fun _ => ?_) | apply Lw.go | refine g_cond ?_ | refine g_guard ?_ | refine g_keep ?_ | refine g_pass ?_ | refine g_fin ?_ | (apply g_ap; exact rfl; exact rfl; assumption)
        refine at_callR (r06_Next_spec (l := L) (k := k) (by omega)) ?_
        intro y hy
        obtain rfl : x = y := hx.eq hy
        repeat' first | apply step | (apply g_op; · repeat first | exact Evs.nil | (apply Evs.cons; exact rfl)) | (refine Br.mk (fun _ => ?_) (fun _ => ?_) <;> try (exfalso; omega)) | (refine Sd.mk ?_ ?_; · ((repeat' apply And.intro) <;> first | omega | trivial | assumption | (simp; done) | (simp; omega))) | (refine Sx.mk ?_ ?_; · omega) | refine Fa.mk (fun _ => ?_) | refine Im.mk (fun _ => ?_) | apply Lw.go | refine g_cond ?_ | refine g_guard ?_ | refine g_keep ?_ | refine g_pass ?_ | refine g_fin ?_ | (apply g_ap; exact rfl; exact rfl; assumption)
        refine lp_next (j + 1, p', c', L) ⟨by dsimp only; omega, by dsimp only; omega⟩ (by dsimp only; omega)
    · repeat' first | apply step | (apply g_op; · repeat first | exact Evs.nil | (apply Evs.cons; exact rfl)) | (refine Br.mk (fun _ => ?_) (fun _ => ?_) <;> try (exfalso; omega)) | (refine Sd.mk ?_ ?_; · ((repeat' apply And.intro) <;> first | omega | trivial | assumption | (simp; done) | (simp; omega))) | (refine Sx.mk ?_ ?_; · omega) | refine Fa.mk (fun _ => ?_) | refine Im.mk (fun _ => ?_) | apply Lw.go | refine g_cond ?_ | refine g_guard ?_ | refine g_keep ?_ | refine g_pass ?_ | refine g_fin ?_ | (apply g_ap; exact rfl; exact rfl; assumption)
      refine at_callR (bits_Bits_List_spec (q := some b1) (l := X)) ?_
      intro q5 d5
      repeat' first | apply step | (apply g_op; · repeat first | exact Evs.nil | (apply Evs.cons; exact rfl)) | (refine Br.mk (fun _ => ?_) (fun _ => ?_) <;> try (exfalso; omega)) | (refine Sd.mk ?_ ?_; · ((repeat' apply And.intro) <;> first | omega | trivial | assumption | (simp; done) | (simp; omega))) | (refine Sx.mk ?_ ?_; · omega) | refine Fa.mk (fun _ => ?_) | refine Im.mk (fun _ => ?_) | apply Lw.go | refine g_cond ?_ | refine g_guard ?_ | refine g_keep ?_ | refine g_pass ?_ | refine g_fin ?_ | (apply g_ap; exact rfl; exact rfl; assumption)
      refine at_callR (r06_List_spec (l := X) (by omega)) ?_
      intro q6 d6
      repeat' first | apply step | (apply g_op; · repeat first | exact Evs.nil | (apply Evs.cons; exact rfl)) | (refine Br.mk (fun _ => ?_) (fun _ => ?_) <;> try (exfalso; omega)) | (refine Sd.mk ?_ ?_; · ((repeat' apply And.intro) <;> first | omega | trivial | assumption | (simp; done) | (simp; omega))) | (refine Sx.mk ?_ ?_; · omega) | refine Fa.mk (fun _ => ?_) | refine Im.mk (fun _ => ?_) | apply Lw.go | refine g_cond ?_ | refine g_guard ?_ | refine g_keep ?_ | refine g_pass ?_ | refine g_fin ?_ | (apply g_ap; exact rfl; exact rfl; assumption)
      refine at_callR (r01_Same_spec (a := elB X) (b := elB X) (by omega)) ?_
      refine ⟨fun _ => ?_, fun h => absurd rfl h⟩
      repeat' first | apply step | (apply g_op; · repeat first | exact Evs.nil | (apply Evs.cons; exact rfl)) | (refine Br.mk (fun _ => ?_) (fun _ => ?_) <;> try (exfalso; omega)) | (refine Sd.mk ?_ ?_; · ((repeat' apply And.intro) <;> first | omega | trivial | assumption | (simp; done) | (simp; omega))) | (refine Sx.mk ?_ ?_; · omega) | refine Fa.mk (fun _ => ?_) | refine Im.mk (fun _ => ?_) | apply Lw.go | refine g_cond ?_ | refine g_guard ?_ | refine g_keep ?_ | refine g_pass ?_ | refine g_fin ?_ | (apply g_ap; exact rfl; exact rfl; assumption)
      refine at_callR (bits_Bits_Room_spec (q := some b1) (l := X)) ?_
      repeat' first | apply step | (apply g_op; · repeat first | exact Evs.nil | (apply Evs.cons; exact rfl)) | (refine Br.mk (fun _ => ?_) (fun _ => ?_) <;> try (exfalso; omega)) | (refine Sd.mk ?_ ?_; · ((repeat' apply And.intro) <;> first | omega | trivial | assumption | (simp; done) | (simp; omega))) | (refine Sx.mk ?_ ?_; · omega) | refine Fa.mk (fun _ => ?_) | refine Im.mk (fun _ => ?_) | apply Lw.go | refine g_cond ?_ | refine g_guard ?_ | refine g_keep ?_ | refine g_pass ?_ | refine g_fin ?_ | (apply g_ap; exact rfl; exact rfl; assumption)
      first | refine at_callS (l06_works_spec) ?_ | refine at_callR (l06_works_spec) ?_
      repeat' first | apply step | (apply g_op; · repeat first | exact Evs.nil | (apply Evs.cons; exact rfl)) | (refine Br.mk (fun _ => ?_) (fun _ => ?_) <;> try (exfalso; omega)) | (refine Sd.mk ?_ ?_; · ((repeat' apply And.intro) <;> first | omega | trivial | assumption | (simp; done) | (simp; omega))) | (refine Sx.mk ?_ ?_; · omega) | refine Fa.mk (fun _ => ?_) | refine Im.mk (fun _ => ?_) | apply Lw.go | refine g_cond ?_ | refine g_guard ?_ | refine g_keep ?_ | refine g_pass ?_ | refine g_fin ?_ | (apply g_ap; exact rfl; exact rfl; assumption)
      exact fin hR
end Go.AMS

