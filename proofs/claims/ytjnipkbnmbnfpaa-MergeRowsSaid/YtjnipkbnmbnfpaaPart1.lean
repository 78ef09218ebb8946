/- What the functions do, part 1. -/
import Derived.Test.YtjnipkbnmbnfpaaCode
import Derived.Test.YtjnipkbnmbnfpaaSetLaw
namespace Go.AMS
open Go.AM hiding Kt At WP WL Runs RunsY
open Go.AM.G
set_option linter.unusedVariables false
set_option linter.unusedSimpArgs false
set_option linter.unusedSectionVars false
set_option maxRecDepth 100000
set_option maxHeartbeats 1000000
attribute [local irreducible] AtS AtV AtC AtG FinA Spec Post LP G.At G.WP G.WL pt own fro rdl ro hx mp lrec elt sub

open Go.AM.G.Set
section
/-- A script: picks, where all is cancelled, how many steps there were, how many picks were used. -/
structure Scr where
  l : List Int
  cancel : Int
  steps : Nat
  used : Nat
def Scr.off (s : Scr) : Prop := 0 ≤ s.cancel ∧ s.cancel ≤ s.steps
instance (s : Scr) : Decidable s.off := by unfold Scr.off; exact inferInstance
def Scr.took (s : Scr) : Scr := if s.used < s.l.length then { s with used := s.used + 1 } else s
def Scr.one (s : Scr) : Scr := { s with steps := s.steps + 1 }
structure Scr.ok (s : Scr) : Prop where
  hc : -9223372036854775808 ≤ s.cancel ∧ s.cancel ≤ 9223372036854775807
  hs : s.steps ≤ 1000000000000
  hu : s.used ≤ 1000000000000
  hl : s.l.length ≤ 1000000000
section
variable {b : Nat} {s : Scr} {m : Bool}
end
end
end Go.AMS

namespace Go.AMS
open Go.AM hiding Kt At WP WL Runs RunsY
open Go.AM.G
set_option linter.unusedVariables false
set_option linter.unusedSimpArgs false
set_option linter.unusedSectionVars false
set_option maxRecDepth 100000
set_option maxHeartbeats 1000000
attribute [local irreducible] AtS AtV AtC AtG FinA Spec Post LP G.At G.WP G.WL pt own fro rdl ro hx mp lrec elt sub

open Go.AM.G.Set
section
theorem r01_Same_spec {p q : Option Addr} {c c' : Nat} {a b : List Int} (ha : a.length ≤ 1000000000000) : Spec prog1 n_r01_Same [.slice p a.length c, .slice q b.length c'] [rdl (kInt .i64) p a, rdl (kInt .i64) q b] (fun R => (a = b → R (.bool true) []) ∧ (a ≠ b → R (.bool false) [])) := by
  refine spec_code c_r01_Same rfl ?_; intro n F R hR; unfold F_r01_Same
  repeat' first | apply step | (apply g_op; · repeat first | exact Evs.nil | (apply Evs.cons; exact rfl)) | (refine Br.mk (fun _ => ?_) (fun _ => ?_) <;> try (exfalso; omega)) | (refine Sd.mk ?_ ?_; · ((repeat' apply And.intro) <;> first | omega | trivial | assumption | (simp; done) | (simp; omega))) | (refine Sx.mk ?_ ?_; · omega) | refine Fa.mk (fun _ => ?_) | refine Im.mk (fun _ => ?_) | apply Lw.go | refine g_cond ?_ | refine g_guard ?_ | refine g_keep ?_ | refine g_pass ?_ | refine g_fin ?_ | (apply g_ap; exact rfl; exact rfl; assumption)
  · exact fin (hR.2 (fun h => by subst h; simp at *))
  refine at_loopS (ι := Nat) (E := fun k => [(0, .slice p a.length c), (1, .slice q b.length c'), (5, .int .i64 (k : Int))]) (Δ := fun _ => rdl (kInt .i64) p a :: rdl (kInt .i64) q b :: F) (P := fun k => k ≤ a.length ∧ a.take k = b.take k) (μ := fun k => a.length - k) 0 ⟨Nat.zero_le _, by simp⟩ ?_
  rintro k ⟨hk, he⟩
  have hlen : a.length = b.length := by omega
  dsimp only
  repeat' first | apply step | (apply g_op; · repeat first | exact Evs.nil | (apply Evs.cons; exact rfl)) | (refine Br.mk (fun _ => ?_) (fun _ => ?_) <;> try (exfalso; omega)) | (refine Sd.mk ?_ ?_; · ((repeat' apply And.intro) <;> first | omega | trivial | assumption | (simp; done) | (simp; omega))) | (refine Sx.mk ?_ ?_; · omega) | refine Fa.mk (fun _ => ?_) | refine Im.mk (fun _ => ?_) | apply Lw.go | refine g_cond ?_ | refine g_guard ?_ | refine g_keep ?_ | refine g_pass ?_ | refine g_fin ?_ | (apply g_ap; exact rfl; exact rfl; assumption)
  · refine fin (hR.2 (fun h => ?_))
    subst h
    simp at *
  · refine lp_next (k + 1) ⟨by omega, ?_⟩ (by omega)
    have : a[k]'(by omega) = b[k]'(by omega) := by simpa using ‹¬ _ ≠ _›
    rw [List.take_succ_eq_append_getElem (by omega), List.take_succ_eq_append_getElem (by omega), he, this]
  · refine fin (hR.1 ?_)
    rw [List.take_of_length_le (by omega), List.take_of_length_le (by omega)] at he
    exact he
theorem r05_Has_spec {p : Option Addr} {c : Nat} {l : List Int} {x : Int} (hl : l.length ≤ 1000000000000) : Spec prog1 n_r05_Has [.slice p l.length c, .int .i64 x] [rdl (kInt .i64) p l] (fun R => (x ∈ l → R (.bool true) []) ∧ (x ∉ l → R (.bool false) [])) := by
  refine spec_code c_r05_Has rfl ?_; intro n F R hR; unfold F_r05_Has
  repeat' first | apply step | (apply g_op; · repeat first | exact Evs.nil | (apply Evs.cons; exact rfl)) | (refine Br.mk (fun _ => ?_) (fun _ => ?_) <;> try (exfalso; omega)) | (refine Sd.mk ?_ ?_; · ((repeat' apply And.intro) <;> first | omega | trivial | assumption | (simp; done) | (simp; omega))) | (refine Sx.mk ?_ ?_; · omega) | refine Fa.mk (fun _ => ?_) | refine Im.mk (fun _ => ?_) | apply Lw.go | refine g_cond ?_ | refine g_guard ?_ | refine g_keep ?_ | refine g_pass ?_ | refine g_fin ?_ | (apply g_ap; exact rfl; exact rfl; assumption)
  refine at_loopS (ι := Nat) (E := fun k => [(0, .slice p l.length c), (1, .int .i64 x), (5, .int .i64 (k : Int))]) (Δ := fun _ => rdl (kInt .i64) p l :: F) (P := fun k => k ≤ l.length ∧ x ∉ l.take k) (μ := fun k => l.length - k) 0 ⟨Nat.zero_le _, by simp⟩ ?_
  rintro k ⟨hk, hI⟩
  dsimp only
  repeat' first | apply step | (apply g_op; · repeat first | exact Evs.nil | (apply Evs.cons; exact rfl)) | (refine Br.mk (fun _ => ?_) (fun _ => ?_) <;> try (exfalso; omega)) | (refine Sd.mk ?_ ?_; · ((repeat' apply And.intro) <;> first | omega | trivial | assumption | (simp; done) | (simp; omega))) | (refine Sx.mk ?_ ?_; · omega) | refine Fa.mk (fun _ => ?_) | refine Im.mk (fun _ => ?_) | apply Lw.go | refine g_cond ?_ | refine g_guard ?_ | refine g_keep ?_ | refine g_pass ?_ | refine g_fin ?_ | (apply g_ap; exact rfl; exact rfl; assumption)
  · exact fin (hR.1 (by rw [← ‹l[k] = x›]; exact List.getElem_mem _))
  · refine lp_next (k + 1) ⟨by omega, ?_⟩ (by omega)
    rw [List.take_succ_eq_append_getElem (by omega)]
    intro hm
    rcases List.mem_append.1 hm with hm | hm
    · exact hI hm
    · simp at hm; exact absurd hm.symm (by assumption)
  · refine fin (hR.2 ?_)
    rwa [List.take_of_length_le (by omega)] at hI

theorem setL_get {l : List Int} {i j : Nat} (hij : i < j) (hj : j < (setL l).length) : (setL l)[i]'(by omega) < (setL l)[j] :=
  List.pairwise_iff_getElem.1 (setL_lt l) i j (by omega) hj hij
theorem not_in_take {l : List Int} {n : Nat} (hn : n < (setL l).length) : (setL l)[n] ∉ (setL l).take n := by
  intro h
  obtain ⟨i, hi, e⟩ := List.getElem_of_mem h
  rw [List.getElem_take] at e
  simp at hi
  have := setL_get (l := l) (i := i) (j := n) (by omega) hn
  omega
theorem all_taken {l : List Int} {n : Nat} (h : ∀ x ∈ l, x ∈ (setL l).take n) : (setL l).take n = setL l := by
  refine List.take_of_length_le ?_
  rcases Nat.lt_or_ge n (setL l).length with hn | hn
  · exact absurd (h _ (mem_setL.1 (List.getElem_mem hn))) (not_in_take hn)
  · exact hn
theorem next_least {l : List Int} {n : Nat} {best : Int} (h1 : best ∈ l) (h2 : best ∉ (setL l).take n) (h3 : ∀ x ∈ l, x ∉ (setL l).take n → best ≤ x) : n < (setL l).length ∧ (setL l).take (n + 1) = (setL l).take n ++ [best] := by
  obtain ⟨i, hi, e⟩ := List.getElem_of_mem (mem_setL.2 h1)
  have hin : n ≤ i := by
    rcases Nat.lt_or_ge i n with q | q
    · exfalso; apply h2
      rw [List.mem_take_iff_getElem]
      exact ⟨i, by omega, e⟩
    · exact q
  have hn : n < (setL l).length := by omega
  refine ⟨hn, ?_⟩
  rw [List.take_succ_eq_append_getElem hn]
  congr 2
  have h4 := h3 _ (mem_setL.1 (List.getElem_mem hn)) (not_in_take hn)
  rcases Nat.lt_or_eq_of_le hin with q | q
  · have := setL_get (l := l) q hi; omega
  · subst q; exact e
theorem r05_Of_spec {p : Option Addr} {c : Nat} {l : List Int} (hl : l.length ≤ 1000000000) : Spec prog1 n_r05_Of [.slice p l.length c] [rdl (kInt .i64) p l] (fun R => ∀ p' c', R (.slice p' (setL l).length c') [own (kInt .i64) p' c' (setL l)]) := by
  refine spec_code c_r05_Of rfl ?_; intro n F R hR; unfold F_r05_Of
  have hsl := setL_le l
  iterate 2 apply step
  refine at_bnd (p := p) (l := l) (fun hb => ?_)
  repeat' first | apply step | (apply g_op; · repeat first | exact Evs.nil | (apply Evs.cons; exact rfl)) | (refine Br.mk (fun _ => ?_) (fun _ => ?_) <;> try (exfalso; omega)) | (refine Sd.mk ?_ ?_; · ((repeat' apply And.intro) <;> first | omega | trivial | assumption | (simp; done) | (simp; omega))) | (refine Sx.mk ?_ ?_; · omega) | refine Fa.mk (fun _ => ?_) | refine Im.mk (fun _ => ?_) | apply Lw.go | refine g_cond ?_ | refine g_guard ?_ | refine g_keep ?_ | refine g_pass ?_ | refine g_fin ?_ | (apply g_ap; exact rfl; exact rfl; assumption)
  refine at_loopS (ι := Option Addr × Nat × List Int × Nat) (E := fun w => [(0, .slice p l.length c), (3, .slice w.1 w.2.2.1.length w.2.1), (4, .int .i64 (w.2.2.2 : Int))]) (Δ := fun w => own (kInt .i64) w.1 w.2.1 w.2.2.1 :: rdl (kInt .i64) p l :: F) (P := fun w => w.2.2.2 ≤ l.length ∧ w.2.2.1.length = w.2.2.2 ∧ w.2.2.1 = (setL l).take w.2.2.2) (μ := fun w => l.length + 1 - w.2.2.2) (none, 0, [], 0) ⟨Nat.zero_le _, rfl, by simp⟩ ?_
  rintro ⟨po, co, out, j⟩ ⟨hle, hj, ho⟩
  dsimp only at hle hj ho ⊢
  repeat' first | apply step | (apply g_op; · repeat first | exact Evs.nil | (apply Evs.cons; exact rfl)) | (refine Br.mk (fun _ => ?_) (fun _ => ?_) <;> try (exfalso; omega)) | (refine Sd.mk ?_ ?_; · ((repeat' apply And.intro) <;> first | omega | trivial | assumption | (simp; done) | (simp; omega))) | (refine Sx.mk ?_ ?_; · omega) | refine Fa.mk (fun _ => ?_) | refine Im.mk (fun _ => ?_) | apply Lw.go | refine g_cond ?_ | refine g_guard ?_ | refine g_keep ?_ | refine g_pass ?_ | refine g_fin ?_ | (apply g_ap; exact rfl; exact rfl; assumption)
  refine at_loopS (ι := Int × Bool × Nat) (E := fun w => [(0, .slice p l.length c), (3, .slice po out.length co), (4, .int .i64 (j : Int)), (5, .int .i64 w.1), (6, .bool w.2.1), (7, .int .i64 (w.2.2 : Int))]) (Δ := fun w => own (kInt .i64) po co out :: rdl (kInt .i64) p l :: F)
    (P := fun w => w.2.2 ≤ l.length ∧ (w.2.1 = false → ∀ x ∈ l.take w.2.2, x ∈ out) ∧ (w.2.1 = true → w.1 ∈ l ∧ w.1 ∉ out ∧ ∀ x ∈ l.take w.2.2, x ∉ out → w.1 ≤ x)) (μ := fun w => l.length - w.2.2) (0, false, 0) ⟨Nat.zero_le _, by simp, by simp⟩ ?_
  rintro ⟨best, found, k⟩ ⟨hk, hf, ht⟩
  dsimp only at hk hf ht ⊢
  repeat' first | apply step | (apply g_op; · repeat first | exact Evs.nil | (apply Evs.cons; exact rfl)) | (refine Br.mk (fun _ => ?_) (fun _ => ?_) <;> try (exfalso; omega)) | (refine Sd.mk ?_ ?_; · ((repeat' apply And.intro) <;> first | omega | trivial | assumption | (simp; done) | (simp; omega))) | (refine Sx.mk ?_ ?_; · omega) | refine Fa.mk (fun _ => ?_) | refine Im.mk (fun _ => ?_) | apply Lw.go | refine g_cond ?_ | refine g_guard ?_ | refine g_keep ?_ | refine g_pass ?_ | refine g_fin ?_ | (apply g_ap; exact rfl; exact rfl; assumption)
  · have hkl : k < l.length := by omega
    have stp : ∀ x ∈ l.take (k + 1), x ∈ l.take k ∨ x = l[k] := by
      intro x hx
      rw [List.take_succ_eq_append_getElem hkl] at hx
      rcases List.mem_append.1 hx with h | h
      · exact .inl h
      · simp at h; exact .inr h
    first | refine at_callS (r05_Has_spec (l := out) (x := l[k]) (by omega)) ?_ | refine at_callR (r05_Has_spec (l := out) (x := l[k]) (by omega)) ?_
    refine ⟨fun hin => ?_, fun hin => ?_⟩
    · repeat' first | apply step | (apply g_op; · repeat first | exact Evs.nil | (apply Evs.cons; exact rfl)) | (refine Br.mk (fun _ => ?_) (fun _ => ?_) <;> try (exfalso; omega)) | (refine Sd.mk ?_ ?_; · ((repeat' apply And.intro) <;> first | omega | trivial | assumption | (simp; done) | (simp; omega))) | (refine Sx.mk ?_ ?_; · omega) | refine Fa.mk (fun _ => ?_) | refine Im.mk (fun _ => ?_) | apply Lw.go | refine g_cond ?_ | refine g_guard ?_ | refine g_keep ?_ | refine g_pass ?_ | refine g_fin ?_ | (apply g_ap; exact rfl; exact rfl; assumption)
      refine lp_next (best, found, k + 1) ⟨by dsimp only; omega, fun h x hx => ?_, fun h => ?_⟩ (by dsimp only; omega)
      · rcases stp x hx with h1 | rfl
        · exact hf h x h1
        · exact hin
      · refine ⟨(ht h).1, (ht h).2.1, fun x hx hx2 => ?_⟩
        rcases stp x hx with h1 | rfl
        · exact (ht h).2.2 x h1 hx2
        · exact absurd hin hx2
    · cases found
      all_goals
        repeat' first | apply step | (apply g_op; · repeat first | exact Evs.nil | (apply Evs.cons; exact rfl)) | (refine Br.mk (fun _ => ?_) (fun _ => ?_) <;> try (exfalso; omega)) | (refine Sd.mk ?_ ?_; · ((repeat' apply And.intro) <;> first | omega | trivial | assumption | (simp; done) | (simp; omega))) | (refine Sx.mk ?_ ?_; · omega) | refine Fa.mk (fun _ => ?_) | refine Im.mk (fun _ => ?_) | apply Lw.go | refine g_cond ?_ | refine g_guard ?_ | refine g_keep ?_ | refine g_pass ?_ | refine g_fin ?_ | (apply g_ap; exact rfl; exact rfl; assumption)
      · refine lp_next (l[k], true, k + 1) ⟨by dsimp only; omega, by simp, fun _ => ⟨List.getElem_mem hkl, hin, fun x hx hx2 => ?_⟩⟩ (by dsimp only; omega)
        rcases stp x hx with h | rfl
        · exact absurd (hf rfl x h) hx2
        · exact Int.le_refl _
      · refine lp_next (l[k], true, k + 1) ⟨by dsimp only; omega, by simp, fun _ => ⟨List.getElem_mem hkl, hin, fun x hx hx2 => ?_⟩⟩ (by dsimp only; omega)
        rcases stp x hx with h | rfl
        · have := (ht rfl).2.2 x h hx2; omega
        · exact Int.le_refl _
      · refine lp_next (best, true, k + 1) ⟨by dsimp only; omega, by simp, fun _ => ⟨(ht rfl).1, (ht rfl).2.1, fun x hx hx2 => ?_⟩⟩ (by dsimp only; omega)
        rcases stp x hx with h | rfl
        · exact (ht rfl).2.2 x h hx2
        · omega
  · -- one more
    have hkl : l.take k = l := List.take_of_length_le (by omega)
    rw [hkl] at ht
    obtain ⟨h1, h2, h3⟩ := ht (by assumption)
    rw [ho] at h2 h3
    obtain ⟨q1, q2⟩ := next_least h1 h2 h3
    have := hb best h1
    repeat' first | apply step | (apply g_op; · repeat first | exact Evs.nil | (apply Evs.cons; exact rfl)) | (refine Br.mk (fun _ => ?_) (fun _ => ?_) <;> try (exfalso; omega)) | (refine Sd.mk ?_ ?_; · ((repeat' apply And.intro) <;> first | omega | trivial | assumption | (simp; done) | (simp; omega))) | (refine Sx.mk ?_ ?_; · omega) | refine Fa.mk (fun _ => ?_) | refine Im.mk (fun _ => ?_) | apply Lw.go | refine g_cond ?_ | refine g_guard ?_ | refine g_keep ?_ | refine g_pass ?_ | refine g_fin ?_ | (apply g_ap; exact rfl; exact rfl; assumption)
    refine lp_next (_, _, out ++ [best], j + 1) ⟨by dsimp only; omega, ?_, ?_⟩ (by dsimp only; omega)
    · simp; omega
    · show out ++ [best] = _
      rw [q2, ← ho]
  · have hkl : l.take k = l := List.take_of_length_le (by omega)
    rw [hkl] at hf
    have hall := hf (by simpa using ‹¬ found = true›)
    rw [ho] at hall
    have := all_taken hall
    rw [← ho] at this
    subst this
    exact fin (hR po co)
end
end Go.AMS

namespace Go.AMS
open Go.AM hiding Kt At WP WL Runs RunsY
open Go.AM.G Go.AM.G.Set
set_option linter.unusedVariables false
set_option linter.unusedSimpArgs false
/-- A worker: its row, and the job that it holds. -/
structure Wk where
  row : List Int
  job : Int
  holds : Bool
  deriving Inhabited
/-- What comes of a job. -/
def hv (x : Int) : List Int := if x < 2 then [] else [x / 2, x - x / 2]
/-- How many jobs come of a job, itself too. -/
def wt (x : Int) : Nat := if x < 2 then 1 else 2 * x.toNat - 1
def wts (l : List Int) : Nat := (l.map wt).sum
structure Po where
  ws : List Wk
  next : Nat
  did : List Int
  stolen : Nat
  who : List Int
def rowAt (ws : List Wk) (k : Nat) : List Int := (ws.getD k default).row
/-- The first other worker that has something. -/
def firstJ (ws : List Wk) (k : Nat) : Option Nat := (List.range' 1 (ws.length - 1)).find? fun j => !(rowAt ws ((k + j) % ws.length)).isEmpty
def Po.took (P : Po) (k : Nat) : Po :=
  let w := P.ws.getD k default
  if w.row ≠ [] then { P with ws := P.ws.set k ⟨w.row.dropLast, w.row.getLastD 0, true⟩ }
  else match firstJ P.ws k with
    | some j =>
      let f := (k + j) % P.ws.length
      let v := P.ws.getD f default
      { P with ws := (P.ws.set f ⟨v.row.tail, v.job, v.holds⟩).set k ⟨[], v.row.headD 0, true⟩, stolen := P.stolen + 1 }
    | none => { P with ws := P.ws.set k ⟨[], 0, false⟩ }
def Po.step (P : Po) (k : Nat) : Po :=
  let w := P.ws.getD k default
  let P := { P with who := P.who ++ [(k : Int)] }
  if w.holds then { P with ws := P.ws.set k ⟨w.row ++ hv w.job, 0, false⟩, did := P.did ++ [w.job] }
  else P.took k
/-- How many steps are still to come. -/
def mw (w : Wk) : Nat := 2 * wts w.row + bif w.holds then 2 * wt w.job - 1 else 0
def mm (ws : List Wk) : Nat := (ws.map mw).sum
structure Po.ok (P : Po) : Prop where
  n : 0 < P.ws.length ∧ P.ws.length ≤ 64
  x : P.next < P.ws.length
  w : P.who.length + mm P.ws ≤ 1000000
  d : P.did.length + mm P.ws ≤ 1000000
  s : P.stolen + mm P.ws ≤ 1000000
end Go.AMS

namespace Go.AMS
open Go.AM hiding Kt At WP WL Runs RunsY
open Go.AM.G
set_option linter.unusedVariables false
set_option linter.unusedSimpArgs false
set_option linter.unusedSectionVars false
set_option maxRecDepth 100000
set_option maxHeartbeats 1000000
attribute [local irreducible] AtS AtV AtC AtG FinA Spec Post LP G.At G.WP G.WL pt own fro rdl ro hx mp lrec elt sub

section
/-- A row in a ring. -/
structure Rg (ring : List Int) (top : Nat) (l : List Int) : Prop where
  le : l.length ≤ ring.length
  tp : top < ring.length ∨ ring.length = 0
  tt : top ≤ 1000000000
  rl : ring.length ≤ 1000000000
  ats : ∀ i (hi : i < l.length), ring[(top + i) % ring.length]? = some l[i]
section
variable {pre post : List Value} {b z m c top n : Nat} {p : Option Addr}
end
end
end Go.AMS

namespace Go.AMS
open Go.AM hiding Kt At WP WL Runs RunsY
open Go.AM.G
set_option linter.unusedVariables false
set_option linter.unusedSimpArgs false
set_option linter.unusedSectionVars false
set_option maxRecDepth 100000
set_option maxHeartbeats 1000000
attribute [local irreducible] AtS AtV AtC AtG FinA Spec Post LP G.At G.WP G.WL pt own fro rdl ro hx mp lrec elt sub

open Go.AM.G.Set
section
variable {b sb : Nat} {P : Po}
theorem one_took (s : Scr) : (s.one.took).steps = s.steps + 1 ∧ (s.one.took).used ≤ s.used + 1 ∧ (s.one.took).l = s.l ∧ (s.one.took).cancel = s.cancel := by
  unfold Scr.took Scr.one
  split <;> simp
theorem Scr.ok.one {s : Scr} (h : s.ok) (h1 : s.steps + 1 ≤ 1000000000000) (h2 : s.used + 1 ≤ 1000000000000) : s.one.took.ok := by
  obtain ⟨e1, e2, e3, e4⟩ := one_took s
  exact ⟨by rw [e4]; exact h.hc, by omega, by omega, by rw [e3]; exact h.hl⟩
end
end Go.AMS

namespace Go.AMS
open Go.AM hiding Kt At WP WL Runs RunsY
open Go.AM.G
set_option linter.unusedVariables false
set_option linter.unusedSimpArgs false
set_option linter.unusedSectionVars false
set_option maxRecDepth 100000
set_option maxHeartbeats 1000000
attribute [local irreducible] AtS AtV AtC AtG FinA Spec Post LP G.At G.WP G.WL pt own fro rdl ro hx mp lrec elt sub

section
structure Pi where
  room : Nat
  q : List Int
  closed : Bool
  sent : Nat
  recv : Nat
structure Pi.ok (P : Pi) : Prop where
  r : 0 < P.room ∧ P.room ≤ 64
  q : P.q.length ≤ 100000
  s : P.sent ≤ 100000
  v : P.recv ≤ 100000
/-- A pipe in a heap. -/
def pipe (b : Nat) (P : Pi) : HP := hx fun (x : Option Addr × Nat × List Int × Nat) => (Rg x.2.2.1 x.2.2.2 P.q ∧ P.ok, [pt b [.int .i64 (P.room : Int), .slice x.1 x.2.2.1.length x.2.1, .int .i64 (x.2.2.2 : Int), .int .i64 (P.q.length : Int), .bool P.closed, .int .i64 (P.sent : Int), .int .i64 (P.recv : Int)] 0, own (kInt .i64) x.1 x.2.1 x.2.2.1])
instance low_pipe {b : Nat} {P : Pi} : Low (pipe b P) := low_hx fun _ => inferInstance
variable {b : Nat} {P : Pi}
end
end Go.AMS

namespace Go.AMS
open Go.AM hiding Kt At WP WL Runs RunsY
open Go.AM.G
set_option linter.unusedVariables false
set_option linter.unusedSimpArgs false
set_option linter.unusedSectionVars false
set_option maxRecDepth 100000
set_option maxHeartbeats 1000000
attribute [local irreducible] AtS AtV AtC AtG FinA Spec Post LP G.At G.WP G.WL pt own fro rdl ro hx mp lrec elt sub

section
/-- A sender: its row, how many were sent, its pipe. -/
structure Sn where
  row : List Int
  sent : Nat
  pi : Pi
  exited : Bool
variable {b : Nat} {s : Sn}
/-- What the merger has. -/
structure Mg where
  l : List Sn
  heads : List Int
  has : List Bool
  out : List Int
  exited : Bool
structure Mg.ok (M : Mg) : Prop where
  h : M.heads.length = M.l.length
  s : M.has.length = M.l.length
  n : M.l.length ≤ 1000
  o : M.out.length ≤ 1000000
/-- The first pipe that something can be received from. -/
def Mg.can (M : Mg) (k : Nat) : Bool := !M.has.getD k false && decide (0 < ((M.l[k]?).map fun s => s.pi.q.length).getD 0)
def Mg.recv (M : Mg) : Int := match (List.range M.l.length).find? M.can with
  | some k => k
  | none => -1
end
end Go.AMS

namespace Go.AMS
open Go.AM hiding Kt At WP WL Runs RunsY
open Go.AM.G
set_option linter.unusedVariables false
set_option linter.unusedSimpArgs false
set_option linter.unusedSectionVars false
set_option maxRecDepth 100000
set_option maxHeartbeats 1000000
attribute [local irreducible] AtS AtV AtC AtG FinA Spec Post LP G.At G.WP G.WL pt own fro rdl ro hx mp lrec elt sub

open Go.AM.G.Set
section
/-- The first place of the least of so many things. -/
def bestN (v : Nat → Option Int) : Nat → Option Nat
  | 0 => none
  | k + 1 => match v k with
    | none => bestN v k
    | some x => match bestN v k with
      | none => some k
      | some b => if x < (v b).getD 0 then some k else some b
theorem best_skip {v : Nat → Option Int} {k : Nat} (h : v k = none) : bestN v (k + 1) = bestN v k := by
  rw [bestN, h]
theorem best_first {v : Nat → Option Int} {k : Nat} {x : Int} (h : v k = some x) (hb : bestN v k = none) : bestN v (k + 1) = some k := by
  rw [bestN, h, hb]
theorem best_less {v : Nat → Option Int} {k b : Nat} {x y : Int} (h : v k = some x) (hb : bestN v k = some b) (hy : v b = some y) (hl : x < y) : bestN v (k + 1) = some k := by
  rw [bestN, h, hb]; simp only; rw [hy]; exact if_pos hl
theorem best_keep {v : Nat → Option Int} {k b : Nat} {x y : Int} (h : v k = some x) (hb : bestN v k = some b) (hy : v b = some y) (hl : ¬ x < y) : bestN v (k + 1) = some b := by
  rw [bestN, h, hb]; simp only; rw [hy]; exact if_neg hl
theorem best_spec (v : Nat → Option Int) : ∀ n, (bestN v n = none → ∀ j, j < n → v j = none) ∧ ∀ b, bestN v n = some b → b < n ∧ ∃ x, v b = some x ∧ ∀ j y, j < n → v j = some y → x ≤ y
  | 0 => ⟨fun _ j hj => by omega, fun b h => by simp [bestN] at h⟩
  | n + 1 => by
    obtain ⟨h1, h2⟩ := best_spec v n
    cases hv : v n with
    | none =>
      rw [best_skip hv]
      refine ⟨fun h j hj => ?_, fun b h => ?_⟩
      · rcases Nat.lt_or_ge j n with q | q
        · exact h1 h j q
        · rw [show j = n by omega]; exact hv
      · obtain ⟨q1, x, q2, q3⟩ := h2 b h
        refine ⟨by omega, x, q2, fun j y hj hy => ?_⟩
        rcases Nat.lt_or_ge j n with q | q
        · exact q3 j y q hy
        · rw [show j = n by omega, hv] at hy; cases hy
    | some x =>
      cases hb : bestN v n with
      | none =>
        rw [best_first hv hb]
        refine ⟨fun h => (by cases h), fun b h => ?_⟩
        obtain rfl : n = b := by simpa using h
        refine ⟨by omega, x, hv, fun j y hj hy => ?_⟩
        rcases Nat.lt_or_ge j n with q | q
        · rw [h1 hb j q] at hy; cases hy
        · rw [show j = n by omega, hv] at hy; cases hy; omega
      | some b0 =>
        obtain ⟨q1, z, q2, q3⟩ := h2 b0 hb
        by_cases hl : x < z
        · rw [best_less hv hb q2 hl]
          refine ⟨fun h => (by cases h), fun b h => ?_⟩
          obtain rfl : n = b := by simpa using h
          refine ⟨by omega, x, hv, fun j y hj hy => ?_⟩
          rcases Nat.lt_or_ge j n with q | q
          · have := q3 j y q hy; omega
          · rw [show j = n by omega, hv] at hy; cases hy; omega
        · rw [best_keep hv hb q2 hl]
          refine ⟨fun h => (by cases h), fun b h => ?_⟩
          obtain rfl : b0 = b := by simpa using h
          refine ⟨by omega, z, q2, fun j y hj hy => ?_⟩
          rcases Nat.lt_or_ge j n with q | q
          · exact q3 j y q hy
          · rw [show j = n by omega, hv] at hy; cases hy; omega
def putS (out : List Int) (x : Int) : List Int := if out.getLast? = some x then out else out ++ [x]
def hd (l : List (List Int)) (k : Nat) : Option Int := (l[k]?).bind List.head?
def cnt (l : List (List Int)) : Nat := (l.map List.length).sum
def mrow : Nat → List (List Int) → List Int → List Int
  | 0, _, out => out
  | f + 1, l, out => match bestN (hd l) l.length with
    | none => out
    | some k => mrow f (l.set k (l.getD k []).tail) (putS out ((hd l k).getD 0))
/-- What rows make together, behind what was made. -/
def rowsL (l : List (List Int)) (out : List Int) : List Int := mrow (cnt l) l out
theorem sum_set {α : Type} (f : α → Nat) : ∀ {l : List α} {k : Nat} (hk : k < l.length) (a : α), ((l.set k a).map f).sum + f l[k] = (l.map f).sum + f a
  | b :: l, 0, _, a => by simp; omega
  | b :: l, k + 1, hk, a => by
    have := sum_set f (l := l) (k := k) (by simpa using hk) a
    simp only [List.set_cons_succ, List.map_cons, List.sum_cons, List.getElem_cons_succ]
    omega
theorem cnt_tail {l : List (List Int)} {k : Nat} {x : Int} (h : hd l k = some x) : ∃ hk : k < l.length, ∃ r, l[k] = x :: r ∧ cnt (l.set k r) + 1 = cnt l ∧ l.getD k [] = x :: r := by
  unfold hd at h
  rcases Nat.lt_or_ge k l.length with hk | hk
  · rw [List.getElem?_eq_getElem hk] at h
    have h' : l[k].head? = some x := h
    cases hl : l[k] with
    | nil => rw [hl] at h'; cases h'
    | cons y r =>
      rw [hl] at h'
      cases h'
      refine ⟨hk, r, hl, ?_, by rw [getD_lt hk, hl]⟩
      have := sum_set List.length hk r
      unfold cnt
      rw [hl] at this
      simp only [List.length_cons] at this
      omega
  · rw [List.getElem?_eq_none hk] at h; cases h
theorem rows_end {l : List (List Int)} {out : List Int} (h : bestN (hd l) l.length = none) : rowsL l out = out := by
  unfold rowsL
  cases cnt l with
  | zero => rfl
  | succ n => rw [mrow, h]
theorem rows_put {l : List (List Int)} {out : List Int} {k : Nat} {x : Int} {r : List Int} (h : bestN (hd l) l.length = some k) (hk : k < l.length) (hx : l[k] = x :: r) : rowsL l out = rowsL (l.set k r) (putS out x) ∧ cnt (l.set k r) + 1 = cnt l := by
  have h0 : hd l k = some x := by unfold hd; rw [List.getElem?_eq_getElem hk, hx]; rfl
  obtain ⟨_, r', h1, h2, h3⟩ := cnt_tail h0
  rw [hx] at h1; cases h1
  refine ⟨?_, h2⟩
  unfold rowsL
  rw [← h2, mrow, h]
  simp only
  rw [h3, h0]; rfl
theorem cnt_zero {l : List (List Int)} (h : ∀ j, j < l.length → hd l j = none) : cnt l = 0 := by
  unfold cnt
  rw [List.sum_eq_zero_iff_forall_eq_nat.2]
  intro n hn
  obtain ⟨r, hr, rfl⟩ := List.mem_map.1 hn
  obtain ⟨j, hj, rfl⟩ := List.mem_iff_getElem.1 hr
  have := h j hj
  unfold hd at this
  rw [List.getElem?_eq_getElem hj] at this
  have h' : l[j].head? = none := this
  rw [List.head?_eq_none_iff.1 h']; rfl

structure Ce where
  row : List Int
  sent : Nat
  q : List Int
  recv : Nat
  exited : Bool
  head : Int
  has : Bool
structure Ms where
  c : List Ce
  out : List Int
  exited : Bool
def Ce.can (c : Ce) : Bool := !c.has && decide (0 < c.q.length)
def Ce.step (c : Ce) : Ce := if c.row.length ≤ c.sent then { c with exited := true } else { c with sent := c.sent + 1, q := c.q ++ [c.row.getD c.sent 0] }
def Ce.get (c : Ce) : Ce := { c with head := c.q.headD 0, q := c.q.tail, recv := c.recv + 1, has := true }
def Ce.off (c : Ce) : Ce := { c with has := false }
def Ce.w (c : Ce) : Nat := 3 * (c.row.length - c.sent) + 2 * c.q.length + (bif c.has then 1 else 0) + (bif c.exited then 0 else 1)
def Ce.hd (c : Ce) : Option Int := bif c.has then some c.head else none
def Ms.hv (M : Ms) (k : Nat) : Option Int := (M.c[k]?).bind Ce.hd
def Ms.recv (M : Ms) : Option Nat := M.c.findIdx? Ce.can
def Ms.least (M : Ms) : Option Nat := bestN M.hv M.c.length
def Ms.upd (M : Ms) (k : Nat) (f : Ce → Ce) : Ms := match M.c[k]? with
  | some c => { M with c := M.c.set k (f c) }
  | none => M
def Ms.put (M : Ms) : Ms := match M.least with
  | none => { M with exited := true }
  | some k => { M.upd k Ce.off with out := putS M.out ((M.hv k).getD 0) }
def Ms.step (M : Ms) : Ms := match M.recv with
  | some k => M.upd k Ce.get
  | none => M.put
def Ms.mu (M : Ms) : Nat := (M.c.map Ce.w).sum + (bif M.exited then 0 else 1)
structure Ce.ok (R : Nat) (c : Ce) : Prop where
  s : c.sent ≤ c.row.length
  q : c.q.length ≤ R
  e : c.exited = true → c.sent = c.row.length
  v : c.recv + c.q.length = c.sent
  p : c.q = (c.row.take c.sent).drop c.recv
  n : c.row.length ≤ 1000
structure Ms.ok (R : Nat) (M : Ms) : Prop where
  r : 0 < R ∧ R ≤ 64
  n : M.c.length ≤ 1000
  c : ∀ c ∈ M.c, c.ok R
  o : M.out.length + M.mu ≤ 1000000
  x : M.exited = true → ∀ c ∈ M.c, c.w = 0
variable {R : Nat} {M : Ms} {k : Nat}
theorem put_len (out : List Int) (x : Int) : (putS out x).length ≤ out.length + 1 := by
  unfold putS; split <;> simp
end
end Go.AMS

namespace Go.AMS
open Go.AM hiding Kt At WP WL Runs RunsY
open Go.AM.G
set_option linter.unusedVariables false
set_option linter.unusedSimpArgs false
set_option linter.unusedSectionVars false
set_option maxRecDepth 100000
set_option maxHeartbeats 1000000
attribute [local irreducible] AtS AtV AtC AtG FinA Spec Post LP G.At G.WP G.WL pt own fro rdl ro hx mp lrec elt sub

open Go.AM.G.Set
section
abbrev ordV (n : Nat) : Value := .func (.func n) #[] #[]
def bI : Option Nat → Int
  | some k => k
  | none => -1
theorem bI_some (k : Nat) : bI (some k) = k := rfl
theorem bI_none : bI none = -1 := rfl
variable {b : Nat} {R : Nat} {M : Ms}
theorem l11_order_spec {x y : Int} : Spec prog1 n_l11_order [.int .i64 x, .int .i64 y] [] (fun R => (x < y → R (.int .i64 (-1)) []) ∧ (x = y → R (.int .i64 0) []) ∧ (y < x → R (.int .i64 1) [])) := by
  refine spec_code c_l11_order rfl ?_; intro n F R hR; unfold F_l11_order
  repeat' first | apply step | (apply g_op; · repeat first | exact Evs.nil | (apply Evs.cons; exact rfl)) | (refine Br.mk (fun _ => ?_) (fun _ => ?_) <;> try (exfalso; omega)) | (refine Sd.mk ?_ ?_; · ((repeat' apply And.intro) <;> first | omega | trivial | assumption | (simp; done) | (simp; omega))) | (refine Sx.mk ?_ ?_; · omega) | refine Fa.mk (fun _ => ?_) | refine Im.mk (fun _ => ?_) | apply Lw.go | refine g_cond ?_ | refine g_guard ?_ | refine g_keep ?_ | refine g_pass ?_ | refine g_fin ?_ | (apply g_ap; exact rfl; exact rfl; assumption)
  · exact fin (hR.1 (by omega))
  · exact fin (hR.2.2 (by omega))
  · exact fin (hR.2.1 (by omega))
def Mg.hv (M : Mg) (k : Nat) : Option Int := bif M.has.getD k false then some (M.heads.getD k 0) else none
def Mg.least (M : Mg) : Option Nat := bestN M.hv M.l.length
theorem merge_put_int_spec {p : Option Addr} {c : Nat} {l : List Int} {x : Int} (hl : l.length < 1000000) (hx : -9223372036854775808 ≤ x ∧ x ≤ 9223372036854775807) : Spec prog1 n_merge_put_int [.slice p l.length c, .int .i64 x, (ordV n_l11_order)] [own (kInt .i64) p c l] (fun R => ∀ p' c', R (.slice p' (putS l x).length c') [own (kInt .i64) p' c' (putS l x)]) := by
  refine spec_code c_merge_put_int rfl ?_; intro n F R hR; unfold F_merge_put_int
  unfold putS at hR
  rcases Nat.eq_zero_or_pos l.length with h0 | h0
  · obtain rfl := List.eq_nil_of_length_eq_zero h0
    rw [if_neg (by simp)] at hR
    repeat' first | apply step | (apply g_op; · repeat first | exact Evs.nil | (apply Evs.cons; exact rfl)) | (refine Br.mk (fun _ => ?_) (fun _ => ?_) <;> try (exfalso; omega)) | (refine Sd.mk ?_ ?_; · ((repeat' apply And.intro) <;> first | omega | trivial | assumption | (simp; done) | (simp; omega))) | (refine Sx.mk ?_ ?_; · omega) | refine Fa.mk (fun _ => ?_) | refine Im.mk (fun _ => ?_) | apply Lw.go | refine g_cond ?_ | refine g_guard ?_ | refine g_keep ?_ | refine g_pass ?_ | refine g_fin ?_ | (apply g_ap; exact rfl; exact rfl; assumption)
    all_goals first | (exfalso; simp at *; done) | skip
    rename_i p2 c2
    exact fin (hR p2 c2)
  · have hlast : l.getLast? = some l[l.length - 1] := by rw [List.getLast?_eq_getElem?, List.getElem?_eq_getElem (by omega)]
    rw [hlast] at hR
    have e : ((l.length : Int) - 1).toNat = l.length - 1 := by omega
    repeat' first | apply step | (apply g_op; · repeat first | exact Evs.nil | (apply Evs.cons; exact rfl)) | (refine Br.mk (fun _ => ?_) (fun _ => ?_) <;> try (exfalso; omega)) | (refine Sd.mk ?_ ?_; · ((repeat' apply And.intro) <;> first | omega | trivial | assumption | (simp; done) | (simp; omega))) | (refine Sx.mk ?_ ?_; · omega) | refine Fa.mk (fun _ => ?_) | refine Im.mk (fun _ => ?_) | apply Lw.go | refine g_cond ?_ | refine g_guard ?_ | refine g_keep ?_ | refine g_pass ?_ | refine g_fin ?_ | (apply g_ap; exact rfl; exact rfl; assumption)
    simp only [e] at *
    first | refine at_callS (l11_order_spec (x := l[l.length - 1]) (y := x)) ?_ | refine at_callR (l11_order_spec (x := l[l.length - 1]) (y := x)) ?_
    refine ⟨fun h => ?_, fun h => ?_, fun h => ?_⟩
    · rw [if_neg (by intro q; simp at q; omega)] at hR
      repeat' first | apply step | (apply g_op; · repeat first | exact Evs.nil | (apply Evs.cons; exact rfl)) | (refine Br.mk (fun _ => ?_) (fun _ => ?_) <;> try (exfalso; omega)) | (refine Sd.mk ?_ ?_; · ((repeat' apply And.intro) <;> first | omega | trivial | assumption | (simp; done) | (simp; omega))) | (refine Sx.mk ?_ ?_; · omega) | refine Fa.mk (fun _ => ?_) | refine Im.mk (fun _ => ?_) | apply Lw.go | refine g_cond ?_ | refine g_guard ?_ | refine g_keep ?_ | refine g_pass ?_ | refine g_fin ?_ | (apply g_ap; exact rfl; exact rfl; assumption)
      rename_i p2 c2
      exact fin (hR p2 c2)
    · rw [if_pos (by rw [h])] at hR
      repeat' first | apply step | (apply g_op; · repeat first | exact Evs.nil | (apply Evs.cons; exact rfl)) | (refine Br.mk (fun _ => ?_) (fun _ => ?_) <;> try (exfalso; omega)) | (refine Sd.mk ?_ ?_; · ((repeat' apply And.intro) <;> first | omega | trivial | assumption | (simp; done) | (simp; omega))) | (refine Sx.mk ?_ ?_; · omega) | refine Fa.mk (fun _ => ?_) | refine Im.mk (fun _ => ?_) | apply Lw.go | refine g_cond ?_ | refine g_guard ?_ | refine g_keep ?_ | refine g_pass ?_ | refine g_fin ?_ | (apply g_ap; exact rfl; exact rfl; assumption)
      exact fin (hR p c)
    · rw [if_neg (by intro q; simp at q; omega)] at hR
      repeat' first | apply step | (apply g_op; · repeat first | exact Evs.nil | (apply Evs.cons; exact rfl)) | (refine Br.mk (fun _ => ?_) (fun _ => ?_) <;> try (exfalso; omega)) | (refine Sd.mk ?_ ?_; · ((repeat' apply And.intro) <;> first | omega | trivial | assumption | (simp; done) | (simp; omega))) | (refine Sx.mk ?_ ?_; · omega) | refine Fa.mk (fun _ => ?_) | refine Im.mk (fun _ => ?_) | apply Lw.go | refine g_cond ?_ | refine g_guard ?_ | refine g_keep ?_ | refine g_pass ?_ | refine g_fin ?_ | (apply g_ap; exact rfl; exact rfl; assumption)
      rename_i p2 c2
      exact fin (hR p2 c2)
end
end Go.AMS

namespace Go.AMS
open Go.AM hiding Kt At WP WL Runs RunsY
open Go.AM.G
set_option linter.unusedVariables false
set_option linter.unusedSimpArgs false
set_option linter.unusedSectionVars false
set_option maxRecDepth 100000
set_option maxHeartbeats 1000000
attribute [local irreducible] AtS AtV AtC AtG FinA Spec Post LP G.At G.WP G.WL pt own fro rdl ro hx mp lrec elt sub

open Go.AM.G.Set
section
theorem cnt_le {rows : List (List Int)} {k : Nat} (h : ∀ x ∈ rows, x.length ≤ k) : cnt rows ≤ k * rows.length := by
  induction rows with
  | nil => simp [cnt]
  | cons r rows ih =>
    have h1 := h r (by simp)
    have h2 := ih (fun x hx => h x (by simp [hx]))
    unfold cnt at *
    simp only [List.map_cons, List.sum_cons, List.length_cons, Nat.mul_add]
    omega
end
end Go.AMS

namespace Go.AMS
open Go.AM hiding Kt At WP WL Runs RunsY
open Go.AM.G
set_option linter.unusedVariables false
set_option linter.unusedSimpArgs false
set_option linter.unusedSectionVars false
set_option maxRecDepth 100000
set_option maxHeartbeats 1000000
attribute [local irreducible] AtS AtV AtC AtG FinA Spec Post LP G.At G.WP G.WL pt own fro rdl ro hx mp lrec elt sub

open Go.AM.G.Set
section
theorem r11_Few_spec {p : Option Addr} {c : Nat} {rows : List (List Int)} : Spec prog1 n_r11_Few [.slice p rows.length c] [rdl (kSl (kInt .i64)) p rows] (fun R => (rows.length ≤ 20 → (∀ x ∈ rows, x.length ≤ 40) → R (.bool true) []) ∧ R (.bool false) []) := by
  refine spec_code c_r11_Few rfl ?_; intro n F R hR; unfold F_r11_Few
  repeat' first | apply step | (apply g_op; · repeat first | exact Evs.nil | (apply Evs.cons; exact rfl)) | (refine Br.mk (fun _ => ?_) (fun _ => ?_) <;> try (exfalso; omega)) | (refine Sd.mk ?_ ?_; · ((repeat' apply And.intro) <;> first | omega | trivial | assumption | (simp; done) | (simp; omega))) | (refine Sx.mk ?_ ?_; · omega) | refine Fa.mk (fun _ => ?_) | refine Im.mk (fun _ => ?_) | apply Lw.go | refine g_cond ?_ | refine g_guard ?_ | refine g_keep ?_ | refine g_pass ?_ | refine g_fin ?_ | (apply g_ap; exact rfl; exact rfl; assumption)
  · exact fin hR.2
  have hln : rows.length ≤ 20 := by omega
  refine at_loopS (ι := Nat) (E := fun k => [(0, .slice p rows.length c), (3, .int .i64 (k : Int))]) (Δ := fun k => rdl (kSl (kInt .i64)) p rows :: F) (P := fun k => k ≤ rows.length ∧ ∀ x ∈ rows.take k, x.length ≤ 40) (μ := fun k => rows.length - k) 0 ⟨Nat.zero_le _, by simp⟩ ?_
  rintro k ⟨hk, hle⟩
  try dsimp only
  repeat' first | apply step | (apply g_op; · repeat first | exact Evs.nil | (apply Evs.cons; exact rfl)) | (refine Br.mk (fun _ => ?_) (fun _ => ?_) <;> try (exfalso; omega)) | (refine Sd.mk ?_ ?_; · ((repeat' apply And.intro) <;> first | omega | trivial | assumption | (simp; done) | (simp; omega))) | (refine Sx.mk ?_ ?_; · omega) | refine Fa.mk (fun _ => ?_) | refine Im.mk (fun _ => ?_) | apply Lw.go | refine g_cond ?_ | refine g_guard ?_ | refine g_keep ?_ | refine g_pass ?_ | refine g_fin ?_ | (apply g_ap; exact rfl; exact rfl; assumption)
  · exact fin hR.2
  · have hk' : k < rows.length := by omega
    refine lp_next (k + 1) ⟨by omega, fun x hx => ?_⟩ (by omega)
    rw [List.take_succ_eq_append_getElem hk'] at hx
    rcases List.mem_append.1 hx with hx | hx
    · exact hle x hx
    · rw [List.mem_singleton.1 hx]; omega
  · have e : rows.take k = rows := List.take_of_length_le (by omega)
    rw [e] at hle
    exact fin (hR.1 hln hle)
theorem cnt_succ {rows : List (List Int)} {k : Nat} (hk : k < rows.length) : cnt (rows.take (k + 1)) = cnt (rows.take k) + rows[k].length := by
  unfold cnt
  rw [List.take_succ_eq_append_getElem hk, List.map_append, List.sum_append]; simp
theorem cnt_take_le (rows : List (List Int)) (k : Nat) : cnt (rows.take k) ≤ cnt rows := by
  conv => rhs; rw [← List.take_append_drop k rows]
  unfold cnt
  rw [List.map_append, List.sum_append]; omega
theorem hd_some {l : List (List Int)} {k : Nat} (hk : k < l.length) (h0 : 0 < l[k].length) : hd l k = some l[k][0] := by
  unfold hd; rw [List.getElem?_eq_getElem hk]
  show l[k].head? = _
  rw [List.head?_eq_getElem?, List.getElem?_eq_getElem h0]
theorem hd_none {l : List (List Int)} {k : Nat} (hk : k < l.length) (h0 : ¬ 0 < l[k].length) : hd l k = none := by
  unfold hd; rw [List.getElem?_eq_getElem hk]
  show l[k].head? = _
  rw [List.eq_nil_of_length_eq_zero (show l[k].length = 0 by omega)]; rfl
theorem hd_inv {l : List (List Int)} {k : Nat} {x : Int} (h : hd l k = some x) : ∃ hk : k < l.length, ∃ h0 : 0 < l[k].length, l[k][0] = x := by
  obtain ⟨hk, r, h1, _⟩ := cnt_tail h
  have h0 : 0 < l[k].length := by rw [h1]; simp
  refine ⟨hk, h0, ?_⟩
  have := hd_some hk h0
  rw [h] at this; simpa using this.symm
theorem r11_take_spec {p : Option Addr} {c : Nat} {l : List (List Int)} (hl : l.length ≤ 1000000) : Spec prog1 n_r11_take [.slice p l.length c] [rdl (kSl (kInt .i64)) p l] (fun R => R (.int .i64 (bI (bestN (hd l) l.length))) []) := by
  refine spec_code c_r11_take rfl ?_; intro n F R hR; unfold F_r11_take
  repeat' first | apply step | (apply g_op; · repeat first | exact Evs.nil | (apply Evs.cons; exact rfl)) | (refine Br.mk (fun _ => ?_) (fun _ => ?_) <;> try (exfalso; omega)) | (refine Sd.mk ?_ ?_; · ((repeat' apply And.intro) <;> first | omega | trivial | assumption | (simp; done) | (simp; omega))) | (refine Sx.mk ?_ ?_; · omega) | refine Fa.mk (fun _ => ?_) | refine Im.mk (fun _ => ?_) | apply Lw.go | refine g_cond ?_ | refine g_guard ?_ | refine g_keep ?_ | refine g_pass ?_ | refine g_fin ?_ | (apply g_ap; exact rfl; exact rfl; assumption)
  refine at_loopS (ι := Nat) (E := fun k => [(0, .slice p l.length c), (3, .int .i64 (bI (bestN (hd l) k))), (4, .int .i64 (k : Int))]) (Δ := fun k => rdl (kSl (kInt .i64)) p l :: F) (P := fun k => k ≤ l.length) (μ := fun k => l.length - k) 0 (Nat.zero_le _) ?_
  rintro k hk
  try dsimp only
  rcases Nat.lt_or_ge k l.length with hk' | hk'
  · cases hbn : bestN (hd l) k with
    | none =>
      rw [bI_none]
      repeat' first | apply step | (apply g_op; · repeat first | exact Evs.nil | (apply Evs.cons; exact rfl)) | (refine Br.mk (fun _ => ?_) (fun _ => ?_) <;> try (exfalso; omega)) | (refine Sd.mk ?_ ?_; · ((repeat' apply And.intro) <;> first | omega | trivial | assumption | (simp; done) | (simp; omega))) | (refine Sx.mk ?_ ?_; · omega) | refine Fa.mk (fun _ => ?_) | refine Im.mk (fun _ => ?_) | apply Lw.go | refine g_cond ?_ | refine g_guard ?_ | refine g_keep ?_ | refine g_pass ?_ | refine g_fin ?_ | (apply g_ap; exact rfl; exact rfl; assumption)
      · have e1 := best_first (hd_some hk' (by omega)) hbn
        exact lp_next (k + 1) (by omega) (by omega) (by rw [e1, bI_some])
      · have e1 := best_skip (hd_none hk' (by omega))
        exact lp_next (k + 1) (by omega) (by omega) (by rw [e1, hbn, bI_none])
    | some q =>
      obtain ⟨hq, y, hy, _⟩ := (best_spec (hd l) k).2 q hbn
      obtain ⟨hql, hq0, rfl⟩ := hd_inv hy
      rw [bI_some]
      repeat' first | apply step | (apply g_op; · repeat first | exact Evs.nil | (apply Evs.cons; exact rfl)) | (refine Br.mk (fun _ => ?_) (fun _ => ?_) <;> try (exfalso; omega)) | (refine Sd.mk ?_ ?_; · ((repeat' apply And.intro) <;> first | omega | trivial | assumption | (simp; done) | (simp; omega))) | (refine Sx.mk ?_ ?_; · omega) | refine Fa.mk (fun _ => ?_) | refine Im.mk (fun _ => ?_) | apply Lw.go | refine g_cond ?_ | refine g_guard ?_ | refine g_keep ?_ | refine g_pass ?_ | refine g_fin ?_ | (apply g_ap; exact rfl; exact rfl; assumption)
      · have e1 := best_less (hd_some hk' (by omega)) hbn hy (by assumption)
        exact lp_next (k + 1) (by omega) (by omega) (by rw [e1, bI_some])
      · have e1 := best_keep (hd_some hk' (by omega)) hbn hy (by assumption)
        exact lp_next (k + 1) (by omega) (by omega) (by rw [e1, bI_some])
      · have e1 := best_skip (hd_none hk' (by omega))
        exact lp_next (k + 1) (by omega) (by omega) (by rw [e1, hbn, bI_some])
  · have hkk : k = l.length := by omega
    subst hkk
    repeat' first | apply step | (apply g_op; · repeat first | exact Evs.nil | (apply Evs.cons; exact rfl)) | (refine Br.mk (fun _ => ?_) (fun _ => ?_) <;> try (exfalso; omega)) | (refine Sd.mk ?_ ?_; · ((repeat' apply And.intro) <;> first | omega | trivial | assumption | (simp; done) | (simp; omega))) | (refine Sx.mk ?_ ?_; · omega) | refine Fa.mk (fun _ => ?_) | refine Im.mk (fun _ => ?_) | apply Lw.go | refine g_cond ?_ | refine g_guard ?_ | refine g_keep ?_ | refine g_pass ?_ | refine g_fin ?_ | (apply g_ap; exact rfl; exact rfl; assumption)
    exact fin hR
theorem putS_yes {out : List Int} {x : Int} (h : out.length = 0 ∨ ∃ h : 0 < out.length, out[out.length - 1] ≠ x) : putS out x = out ++ [x] := by
  unfold putS
  rw [if_neg]
  rw [List.getLast?_eq_getElem?]
  rcases h with h | ⟨h0, h⟩
  · rw [List.getElem?_eq_none (by omega)]; simp
  · rw [List.getElem?_eq_getElem (by omega)]; simpa using h
theorem putS_no {out : List Int} {x : Int} (h0 : 0 < out.length) (h : out[out.length - 1] = x) : putS out x = out := by
  unfold putS
  rw [if_pos]
  rw [List.getLast?_eq_getElem?, List.getElem?_eq_getElem (by omega), h]
theorem r11_Rows_spec {p : Option Addr} {c : Nat} {rows : List (List Int)} (hf : rows.length ≤ 1000) (hc : cnt rows ≤ 1000000) : Spec prog1 n_r11_Rows [.slice p rows.length c] [rdl (kSl (kInt .i64)) p rows] (fun R => ∀ p' c', R (.slice p' (rowsL rows []).length c') [own (kInt .i64) p' c' (rowsL rows [])]) := by
  refine spec_code c_r11_Rows rfl ?_; intro n F R hR; unfold F_r11_Rows
  repeat' first | apply step | (apply g_op; · repeat first | exact Evs.nil | (apply Evs.cons; exact rfl)) | (refine Br.mk (fun _ => ?_) (fun _ => ?_) <;> try (exfalso; omega)) | (refine Sd.mk ?_ ?_; · ((repeat' apply And.intro) <;> first | omega | trivial | assumption | (simp; done) | (simp; omega))) | (refine Sx.mk ?_ ?_; · omega) | refine Fa.mk (fun _ => ?_) | refine Im.mk (fun _ => ?_) | apply Lw.go | refine g_cond ?_ | refine g_guard ?_ | refine g_keep ?_ | refine g_pass ?_ | refine g_fin ?_ | (apply g_ap; exact rfl; exact rfl; assumption)
  rename_i _ lp0 lc0
  first | refine at_callS (r11_take_spec (l := rows) (by omega)) ?_ | refine at_callR (r11_take_spec (l := rows) (by omega)) ?_
  repeat' first | apply step | (apply g_op; · repeat first | exact Evs.nil | (apply Evs.cons; exact rfl)) | (refine Br.mk (fun _ => ?_) (fun _ => ?_) <;> try (exfalso; omega)) | (refine Sd.mk ?_ ?_; · ((repeat' apply And.intro) <;> first | omega | trivial | assumption | (simp; done) | (simp; omega))) | (refine Sx.mk ?_ ?_; · omega) | refine Fa.mk (fun _ => ?_) | refine Im.mk (fun _ => ?_) | apply Lw.go | refine g_cond ?_ | refine g_guard ?_ | refine g_keep ?_ | refine g_pass ?_ | refine g_fin ?_ | (apply g_ap; exact rfl; exact rfl; assumption)
  obtain ⟨LI, hLI⟩ : ∃ LI : (List (List Int) × Option Addr × Nat) × (List Int × Option Addr × Nat) → Prop, ∀ w, LI w ↔ (w.1.1.length = rows.length ∧ w.2.1.length + cnt w.1.1 ≤ cnt rows ∧ rowsL w.1.1 w.2.1 = rowsL rows []) := ⟨_, fun _ => Iff.rfl⟩
  refine at_loopS (ι := (List (List Int) × Option Addr × Nat) × (List Int × Option Addr × Nat)) (E := fun w => [(3, .slice w.1.2.1 w.1.1.length w.1.2.2), (4, .slice w.2.2.1 w.2.1.length w.2.2.2), (5, .int .i64 (bI (bestN (hd w.1.1) w.1.1.length)))]) (Δ := fun w => own (kSl (kInt .i64)) w.1.2.1 w.1.2.2 w.1.1 :: own (kInt .i64) w.2.2.1 w.2.2.2 w.2.1 :: F) (P := LI) (μ := fun w => cnt w.1.1) ((rows, lp0, lc0), ([], none, 0)) ((hLI _).2 ⟨rfl, by simp, rfl⟩) ?_
  rintro ⟨⟨l, lp, lc⟩, out, op, oc⟩ hL
  obtain ⟨hl, ho, hrs⟩ := (hLI _).1 hL
  dsimp only at hl ho hrs ⊢
  cases hbn : bestN (hd l) l.length with
  | none =>
    rw [bI_none]
    rw [← hrs, rows_end hbn] at hR
    repeat' first | apply step | (apply g_op; · repeat first | exact Evs.nil | (apply Evs.cons; exact rfl)) | (refine Br.mk (fun _ => ?_) (fun _ => ?_) <;> try (exfalso; omega)) | (refine Sd.mk ?_ ?_; · ((repeat' apply And.intro) <;> first | omega | trivial | assumption | (simp; done) | (simp; omega))) | (refine Sx.mk ?_ ?_; · omega) | refine Fa.mk (fun _ => ?_) | refine Im.mk (fun _ => ?_) | apply Lw.go | refine g_cond ?_ | refine g_guard ?_ | refine g_keep ?_ | refine g_pass ?_ | refine g_fin ?_ | (apply g_ap; exact rfl; exact rfl; assumption)
    exact fin (hR op oc)
  | some q =>
    obtain ⟨hq, y, hy, _⟩ := (best_spec (hd l) l.length).2 q hbn
    obtain ⟨hql, hq0, rfl⟩ := hd_inv hy
    rw [bI_some]
    have hcons : l[q] = l[q][0] :: l[q].drop 1 := (List.getElem_cons_drop hq0).symm
    obtain ⟨r1, r2⟩ := rows_put (out := out) hbn hql hcons
    have hsl : (l.set q (l[q].drop 1)).length = l.length := List.length_set ..
    have hpl := put_len out l[q][0]
    have e : ((out.length : Int) - 1).toNat = out.length - 1 := by omega
    have hset : l.length = (l.set q (l[q].drop 1)).length := hsl.symm
    rcases Nat.eq_zero_or_pos out.length with h0 | h0
    · have ep := putS_yes (out := out) (x := l[q][0]) (.inl h0)
      repeat' first | apply step | (apply g_op; · repeat first | exact Evs.nil | (apply Evs.cons; exact rfl)) | (refine Br.mk (fun _ => ?_) (fun _ => ?_) <;> try (exfalso; omega)) | (refine Sd.mk ?_ ?_; · ((repeat' apply And.intro) <;> first | omega | trivial | assumption | (simp; done) | (simp; omega))) | (refine Sx.mk ?_ ?_; · omega) | refine Fa.mk (fun _ => ?_) | refine Im.mk (fun _ => ?_) | apply Lw.go | refine g_cond ?_ | refine g_guard ?_ | refine g_keep ?_ | refine g_pass ?_ | refine g_fin ?_ | (apply g_ap; exact rfl; exact rfl; assumption)
      all_goals first | (exfalso; omega) | skip
      rename_i op2 oc2 _ _ _
      rw [← ep]
      rw [hset]
      first | refine at_callS (r11_take_spec (l := l.set q (l[q].drop 1)) (by omega)) ?_ | refine at_callR (r11_take_spec (l := l.set q (l[q].drop 1)) (by omega)) ?_
      repeat' first | apply step | (apply g_op; · repeat first | exact Evs.nil | (apply Evs.cons; exact rfl)) | (refine Br.mk (fun _ => ?_) (fun _ => ?_) <;> try (exfalso; omega)) | (refine Sd.mk ?_ ?_; · ((repeat' apply And.intro) <;> first | omega | trivial | assumption | (simp; done) | (simp; omega))) | (refine Sx.mk ?_ ?_; · omega) | refine Fa.mk (fun _ => ?_) | refine Im.mk (fun _ => ?_) | apply Lw.go | refine g_cond ?_ | refine g_guard ?_ | refine g_keep ?_ | refine g_pass ?_ | refine g_fin ?_ | (apply g_ap; exact rfl; exact rfl; assumption)
      exact lp_next ((l.set q (l[q].drop 1), lp, lc), (putS out l[q][0], op2, oc2)) ((hLI _).2 ⟨by dsimp only; omega, by dsimp only; omega, by dsimp only; rw [← r1, hrs]⟩) (by dsimp only; omega)
    · repeat' first | apply step | (apply g_op; · repeat first | exact Evs.nil | (apply Evs.cons; exact rfl)) | (refine Br.mk (fun _ => ?_) (fun _ => ?_) <;> try (exfalso; omega)) | (refine Sd.mk ?_ ?_; · ((repeat' apply And.intro) <;> first | omega | trivial | assumption | (simp; done) | (simp; omega))) | (refine Sx.mk ?_ ?_; · omega) | refine Fa.mk (fun _ => ?_) | refine Im.mk (fun _ => ?_) | apply Lw.go | refine g_cond ?_ | refine g_guard ?_ | refine g_keep ?_ | refine g_pass ?_ | refine g_fin ?_ | (apply g_ap; exact rfl; exact rfl; assumption)
      all_goals first | (exfalso; omega) | skip
      all_goals simp only [e] at *
      · rename_i op2 oc2 _ _ _ _ _
        have hne : out[out.length - 1] ≠ l[q][0] := by assumption
        have ep := putS_yes (out := out) (x := l[q][0]) (.inr ⟨h0, hne⟩)
        rw [← ep]
        rw [hset]
        first | refine at_callS (r11_take_spec (l := l.set q (l[q].drop 1)) (by omega)) ?_ | refine at_callR (r11_take_spec (l := l.set q (l[q].drop 1)) (by omega)) ?_
        repeat' first | apply step | (apply g_op; · repeat first | exact Evs.nil | (apply Evs.cons; exact rfl)) | (refine Br.mk (fun _ => ?_) (fun _ => ?_) <;> try (exfalso; omega)) | (refine Sd.mk ?_ ?_; · ((repeat' apply And.intro) <;> first | omega | trivial | assumption | (simp; done) | (simp; omega))) | (refine Sx.mk ?_ ?_; · omega) | refine Fa.mk (fun _ => ?_) | refine Im.mk (fun _ => ?_) | apply Lw.go | refine g_cond ?_ | refine g_guard ?_ | refine g_keep ?_ | refine g_pass ?_ | refine g_fin ?_ | (apply g_ap; exact rfl; exact rfl; assumption)
        exact lp_next ((l.set q (l[q].drop 1), lp, lc), (putS out l[q][0], op2, oc2)) ((hLI _).2 ⟨by dsimp only; omega, by dsimp only; omega, by dsimp only; rw [← r1, hrs]⟩) (by dsimp only; omega)
      · have hne : ¬ out[out.length - 1] ≠ l[q][0] := by assumption
        have ep := putS_no (out := out) (x := l[q][0]) h0 (by simpa using hne)
        rw [hset]
        first | refine at_callS (r11_take_spec (l := l.set q (l[q].drop 1)) (by omega)) ?_ | refine at_callR (r11_take_spec (l := l.set q (l[q].drop 1)) (by omega)) ?_
        repeat' first | apply step | (apply g_op; · repeat first | exact Evs.nil | (apply Evs.cons; exact rfl)) | (refine Br.mk (fun _ => ?_) (fun _ => ?_) <;> try (exfalso; omega)) | (refine Sd.mk ?_ ?_; · ((repeat' apply And.intro) <;> first | omega | trivial | assumption | (simp; done) | (simp; omega))) | (refine Sx.mk ?_ ?_; · omega) | refine Fa.mk (fun _ => ?_) | refine Im.mk (fun _ => ?_) | apply Lw.go | refine g_cond ?_ | refine g_guard ?_ | refine g_keep ?_ | refine g_pass ?_ | refine g_fin ?_ | (apply g_ap; exact rfl; exact rfl; assumption)
        rw [ep] at r1
        exact lp_next ((l.set q (l[q].drop 1), lp, lc), (out, op, oc)) ((hLI _).2 ⟨by dsimp only; omega, by dsimp only; omega, by dsimp only; rw [← r1, hrs]⟩) (by dsimp only; omega)
end
end Go.AMS

namespace Go.AMS
open Go.AM hiding Kt At WP WL Runs RunsY
open Go.AM.G
set_option linter.unusedVariables false
set_option linter.unusedSimpArgs false
set_option linter.unusedSectionVars false
set_option maxRecDepth 100000
set_option maxHeartbeats 1000000
attribute [local irreducible] AtS AtV AtC AtG FinA Spec Post LP G.At G.WP G.WL pt own fro rdl ro hx mp lrec elt sub

open Go.AM.G.Set
section
theorem l11_works_spec : Spec prog1 n_l11_works [] [] (fun R => R (.bool true) []) := closed_spec c_l11_works
theorem rowsL_len (rows : List (List Int)) : ∀ (f : Nat) (l : List (List Int)) (out : List Int), (mrow f l out).length ≤ out.length + f
  | 0, l, out => by simp [mrow]
  | f + 1, l, out => by
    rw [mrow]
    split
    · omega
    · rename_i k _
      have := rowsL_len rows f (l.set k (l.getD k []).tail) (putS out ((hd l k).getD 0))
      have := put_len out ((hd l k).getD 0)
      omega
end
end Go.AMS

namespace Go.AMS
open Go.AM hiding Kt At WP WL Runs RunsY
open Go.AM.G
set_option linter.unusedVariables false
set_option linter.unusedSimpArgs false
set_option linter.unusedSectionVars false
set_option maxRecDepth 100000
set_option maxHeartbeats 1000000
attribute [local irreducible] AtS AtV AtC AtG FinA Spec Post LP G.At G.WP G.WL pt own fro rdl ro hx mp lrec elt sub

open Go.AM.G.Set
section
theorem put_lt {out : List Int} {x : Int} (h : out.Pairwise (fun a b => a < b)) (hx : ∀ y ∈ out, y ≤ x) : (putS out x).Pairwise (fun a b => a < b) ∧ ∀ z, z ∈ putS out x ↔ z ∈ out ∨ z = x := by
  unfold putS
  by_cases hl : out.getLast? = some x
  · rw [if_pos hl]
    refine ⟨h, fun z => ⟨.inl, fun hz => ?_⟩⟩
    rcases hz with hz | rfl
    · exact hz
    · exact List.mem_of_getLast? hl
  · rw [if_neg hl]
    refine ⟨List.pairwise_append.2 ⟨h, List.pairwise_singleton _ _, fun a ha b hb => ?_⟩, fun z => by simp⟩
    rw [List.mem_singleton.1 hb]
    have h1 := hx a ha
    rcases Int.lt_or_eq_of_le h1 with q | q
    · exact q
    · exfalso
      subst q
      apply hl
      obtain ⟨i, hi, he⟩ := List.mem_iff_getElem.1 ha
      rw [List.getLast?_eq_getElem?, List.getElem?_eq_getElem (by omega)]
      rcases Nat.lt_or_ge i (out.length - 1) with g | g
      · have h2 := (List.pairwise_iff_getElem.1 h) i (out.length - 1) hi (by omega) g
        have h3 := hx _ (List.getElem_mem (show out.length - 1 < out.length by omega))
        omega
      · have : i = out.length - 1 := by omega
        subst this; rw [he]
theorem cnt_nil {l : List (List Int)} (h : cnt l = 0) : l.flatten = [] := by
  unfold cnt at h
  rw [List.flatten_eq_nil_iff]
  intro r hr
  have := List.sum_eq_zero_iff_forall_eq_nat.1 h _ (List.mem_map_of_mem hr)
  exact List.eq_nil_of_length_eq_zero this
theorem mem_flat_set {l : List (List Int)} {k : Nat} {x : Int} {r : List Int} (hk : k < l.length) (h : l[k] = x :: r) (z : Int) : z ∈ l.flatten ↔ z = x ∨ z ∈ (l.set k r).flatten := by
  have e1 : l = l.take k ++ (x :: r) :: l.drop (k + 1) := by
    rw [← h, ← List.drop_eq_getElem_cons hk, List.take_append_drop]
  have e2 : l.set k r = l.take k ++ r :: l.drop (k + 1) := by
    rw [List.set_eq_take_append_cons_drop, if_pos hk]
  rw [e2]
  conv => lhs; rw [e1]
  simp only [List.flatten_append, List.flatten_cons, List.mem_append, List.mem_cons]
  constructor
  · rintro (h | (h | h) | h) <;> simp [h]
  · rintro (h | h | h | h) <;> simp [h]
theorem mrow_up : ∀ (f : Nat) (l : List (List Int)) (out : List Int), (∀ r ∈ l, r.Pairwise (fun a b => a ≤ b)) → out.Pairwise (fun a b => a < b) → (∀ r ∈ l, ∀ x ∈ r, ∀ y ∈ out, y ≤ x) → cnt l ≤ f →
    (mrow f l out).Pairwise (fun a b => a < b) ∧ ∀ z, z ∈ mrow f l out ↔ z ∈ out ∨ z ∈ l.flatten
  | 0, l, out, _, h2, _, h4 => by
    rw [mrow, cnt_nil (by omega)]
    exact ⟨h2, fun z => by simp⟩
  | f + 1, l, out, h1, h2, h3, h4 => by
    rw [mrow]
    cases hb : bestN (hd l) l.length with
    | none =>
      have := cnt_nil (cnt_zero fun j hj => (best_spec (hd l) l.length).1 hb j hj)
      simp only
      rw [this]
      exact ⟨h2, fun z => by simp⟩
    | some k =>
      obtain ⟨hk, x, hx, hmin⟩ := (best_spec (hd l) l.length).2 k hb
      obtain ⟨_, r, hl, hc, hg⟩ := cnt_tail hx
      simp only
      rw [hx, hg]
      have hm : l[k] ∈ l := List.getElem_mem hk
      have hp := h1 _ hm
      rw [hl, List.pairwise_cons] at hp
      have hxo : ∀ y ∈ out, y ≤ x := fun y hy => h3 _ hm x (by rw [hl]; simp) y hy
      obtain ⟨p1, p2⟩ := put_lt h2 hxo
      have hA : ∀ r' ∈ l.set k r, r'.Pairwise (fun a b => a ≤ b) := fun r' hr' => by
        rcases List.mem_or_eq_of_mem_set hr' with g | g
        · exact h1 r' g
        · rw [g]; exact hp.2
      have hB : ∀ r' ∈ l.set k r, ∀ z ∈ r', ∀ y ∈ putS out x, y ≤ z := fun r' hr' z hz y hy => by
        have hzl : (∀ y ∈ out, y ≤ z) ∧ x ≤ z := by
          rcases List.mem_or_eq_of_mem_set hr' with g | g
          · refine ⟨fun y hy => h3 r' g z hz y hy, ?_⟩
            obtain ⟨j, hj, rfl⟩ := List.mem_iff_getElem.1 g
            have h0 : 0 < l[j].length := List.length_pos_of_mem hz
            have h5 := hmin j _ hj (hd_some hj h0)
            obtain ⟨i, hi, rfl⟩ := List.mem_iff_getElem.1 hz
            rcases Nat.eq_zero_or_pos i with rfl | g2
            · exact h5
            · have := (List.pairwise_iff_getElem.1 (h1 _ g)) 0 i h0 hi g2
              omega
          · rw [g] at hz
            exact ⟨fun y hy => h3 _ hm z (by rw [hl]; simp [hz]) y hy, hp.1 z hz⟩
        rcases (p2 y).1 hy with g | g
        · exact hzl.1 y g
        · rw [g]; exact hzl.2
      obtain ⟨q1, q2⟩ := mrow_up f (l.set k r) (putS out x) hA p1 hB (by omega)
      refine ⟨q1, fun z => ?_⟩
      show z ∈ mrow f (l.set k r) (putS out x) ↔ _
      rw [q2, p2, mem_flat_set hk hl, or_assoc]
theorem rows_up {rows : List (List Int)} (h : ∀ r ∈ rows, r.Pairwise (fun a b => a ≤ b)) : rowsL rows [] = setL rows.flatten := by
  obtain ⟨h1, h2⟩ := mrow_up (cnt rows) rows [] h List.Pairwise.nil (fun _ _ _ _ y hy => by cases hy) (Nat.le_refl _)
  refine strict_unique h1 (setL_lt _) fun x => ?_
  rw [show rowsL rows [] = mrow (cnt rows) rows [] from rfl, h2, mem_setL]; simp

def cur (rows : List (List Int)) (at_ : List Nat) : List (List Int) := List.zipWith (fun r a => r.drop a) rows at_
section
variable {rows : List (List Int)} {at_ : List Nat} {k : Nat}
theorem cur_len (h : at_.length = rows.length) : (cur rows at_).length = rows.length := by unfold cur; simp [h]
theorem cur_get (h : at_.length = rows.length) (hk : k < rows.length) : (cur rows at_)[k]'(by rw [cur_len h]; exact hk) = rows[k].drop (at_[k]'(by omega)) := by unfold cur; simp
theorem hd_cur_none (h : at_.length = rows.length) (hk : k < rows.length) (h0 : ¬ at_[k]'(by omega) < rows[k].length) : hd (cur rows at_) k = none := by
  refine hd_none (by rw [cur_len h]; exact hk) ?_
  rw [cur_get h hk, List.length_drop]; omega
theorem hd_cur_some (h : at_.length = rows.length) (hk : k < rows.length) (h0 : at_[k]'(by omega) < rows[k].length) : hd (cur rows at_) k = some (rows[k][at_[k]'(by omega)]) := by
  have h1 : 0 < ((cur rows at_)[k]'(by rw [cur_len h]; exact hk)).length := by rw [cur_get h hk, List.length_drop]; omega
  rw [hd_some (by rw [cur_len h]; exact hk) h1]
  congr 1
  have h2 := List.getElem_of_eq (cur_get h hk) h1
  rw [h2, List.getElem_drop]; simp
theorem cur_next (h : at_.length = rows.length) (hk : k < rows.length) : cur rows (at_.set k (at_[k]'(by omega) + 1)) = (cur rows at_).set k (((cur rows at_)[k]'(by rw [cur_len h]; exact hk)).drop 1) := by
  apply List.ext_getElem
  · rw [List.length_set, cur_len h, cur_len (by rw [List.length_set]; exact h)]
  · intro i h1 h2
    rw [List.length_set, cur_len h] at h2
    rw [cur_get (by rw [List.length_set]; exact h) h2, List.getElem_set, List.getElem_set]
    by_cases q : k = i
    · subst q
      simp only [if_true]
      rw [cur_get h hk, List.drop_drop]
    · rw [if_neg q, if_neg q, cur_get h h2]
theorem cur_zero : cur rows (List.replicate rows.length 0) = rows := by
  apply List.ext_getElem
  · rw [cur_len (by simp)]
  · intro i h1 h2
    rw [cur_get (by simp) h2]; simp
end
theorem merge_Rows_int_spec {p : Option Addr} {c : Nat} {rows : List (List Int)} (hf : rows.length ≤ 1000) (hc : cnt rows ≤ 900000) (hr : ∀ x ∈ rows, x.length ≤ 1000000) : Spec prog1 n_merge_Rows_int [.slice p rows.length c, ordV n_l11_order] [rdl (kSl (kInt .i64)) p rows] (fun R => ∀ p' c', R (.slice p' (rowsL rows []).length c') [own (kInt .i64) p' c' (rowsL rows [])]) := by
  refine spec_code c_merge_Rows_int rfl ?_; intro n F R hR; unfold F_merge_Rows_int
  repeat' first | apply step | (apply g_op; · repeat first | exact Evs.nil | (apply Evs.cons; exact rfl)) | (refine Br.mk (fun _ => ?_) (fun _ => ?_) <;> try (exfalso; omega)) | (refine Sd.mk ?_ ?_; · ((repeat' apply And.intro) <;> first | omega | trivial | assumption | (simp; done) | (simp; omega))) | (refine Sx.mk ?_ ?_; · omega) | refine Fa.mk (fun _ => ?_) | refine Im.mk (fun _ => ?_) | apply Lw.go | refine g_cond ?_ | refine g_guard ?_ | refine g_keep ?_ | refine g_pass ?_ | refine g_fin ?_ | (apply g_ap; exact rfl; exact rfl; assumption)
  rename_i ab
  obtain ⟨LI, hLI⟩ : ∃ LI : (List Nat × Option Addr × Nat) × (List Int × Option Addr × Nat) → Prop, ∀ w, LI w ↔ (w.1.1.length = rows.length ∧ w.2.1.length + cnt (cur rows w.1.1) ≤ cnt rows ∧ rowsL (cur rows w.1.1) w.2.1 = rowsL rows []) := ⟨_, fun _ => Iff.rfl⟩
  refine at_loopS (ι := (List Nat × Option Addr × Nat) × (List Int × Option Addr × Nat)) (E := fun w => [(0, .slice p rows.length c), (1, ordV n_l11_order), (5, .slice w.1.2.1 rows.length w.1.2.2), (6, .slice w.2.2.1 w.2.1.length w.2.2.2)]) (Δ := fun w => own (kInt .i64) w.1.2.1 w.1.2.2 (w.1.1.map Int.ofNat) :: own (kInt .i64) w.2.2.1 w.2.2.2 w.2.1 :: rdl (kSl (kInt .i64)) p rows :: F) (P := LI) (μ := fun w => cnt (cur rows w.1.1)) ((List.replicate rows.length 0, some ⟨ab, 0, none⟩, rows.length), ([], none, 0)) ((hLI _).2 ⟨by simp, by dsimp only; rw [cur_zero]; simp, by dsimp only; rw [cur_zero]⟩) ?_ (hs := by
    dsimp only
    rw [List.map_replicate]
    repeat first | exact Ent.refl _ | (apply Ent.more; · repeat first | exact Ent.keep | exact Ent.here | exact Ent.lend | exact ent_nil | apply Ent.there) | apply Ent.drop)
  rintro ⟨⟨at_, ap, ac⟩, out, op, oc⟩ hL
  obtain ⟨hl, ho, hrs⟩ := (hLI _).1 hL
  dsimp only at hl ho hrs ⊢
  have hml : (at_.map Int.ofNat).length = at_.length := List.length_map ..
  repeat' first | apply step | (apply g_op; · repeat first | exact Evs.nil | (apply Evs.cons; exact rfl)) | (refine Br.mk (fun _ => ?_) (fun _ => ?_) <;> try (exfalso; omega)) | (refine Sd.mk ?_ ?_; · ((repeat' apply And.intro) <;> first | omega | trivial | assumption | (simp; done) | (simp; omega))) | (refine Sx.mk ?_ ?_; · omega) | refine Fa.mk (fun _ => ?_) | refine Im.mk (fun _ => ?_) | apply Lw.go | refine g_cond ?_ | refine g_guard ?_ | refine g_keep ?_ | refine g_pass ?_ | refine g_fin ?_ | (apply g_ap; exact rfl; exact rfl; assumption)
  refine at_loopS (ι := Nat) (E := fun k => [(0, .slice p rows.length c), (1, ordV n_l11_order), (5, .slice ap rows.length ac), (6, .slice op out.length oc), (7, .int .i64 (bI (bestN (hd (cur rows at_)) k))), (15, .slice p rows.length c), (16, .int .i64 (rows.length : Int)), (17, .int .i64 (k : Int))]) (Δ := fun k => own (kInt .i64) ap ac (at_.map Int.ofNat) :: own (kInt .i64) op oc out :: rdl (kSl (kInt .i64)) p rows :: F) (P := fun k => k ≤ rows.length) (μ := fun k => rows.length - k) 0 (Nat.zero_le _) ?_
  rintro k hk
  try dsimp only
  rcases Nat.lt_or_ge k rows.length with hk' | hk'
  · have hka : k < at_.length := by omega
    have ek : (at_.map Int.ofNat)[k]'(by omega) = ((at_[k] : Nat) : Int) := List.getElem_map ..
    have hrk := hr _ (List.getElem_mem hk')
    cases hbn : bestN (hd (cur rows at_)) k with
    | none =>
      rw [bI_none]
      repeat' first | rw [ek] | apply step | (apply g_op; · repeat first | exact Evs.nil | (apply Evs.cons; exact rfl)) | (refine Br.mk (fun _ => ?_) (fun _ => ?_) <;> try (exfalso; omega)) | (refine Sd.mk ?_ ?_; · ((repeat' apply And.intro) <;> first | omega | trivial | assumption | (simp; done) | (simp; omega))) | (refine Sx.mk ?_ ?_; · omega) | refine Fa.mk (fun _ => ?_) | refine Im.mk (fun _ => ?_) | apply Lw.go | refine g_cond ?_ | refine g_guard ?_ | refine g_keep ?_ | refine g_pass ?_ | refine g_fin ?_ | (apply g_ap; exact rfl; exact rfl; assumption)
      · have e1 := best_first (hd_cur_some hl hk' (by omega)) hbn
        exact lp_next (k + 1) (by omega) (by omega) (by rw [e1, bI_some])
      · have e1 := best_skip (hd_cur_none hl hk' (by omega))
        exact lp_next (k + 1) (by omega) (by omega) (by rw [e1, hbn, bI_none])
    | some q =>
      obtain ⟨hq, y, hy, _⟩ := (best_spec (hd (cur rows at_)) k).2 q hbn
      have hqr : q < rows.length := by omega
      have hqa : q < at_.length := by omega
      have eq : (at_.map Int.ofNat)[q]'(by omega) = ((at_[q] : Nat) : Int) := List.getElem_map ..
      have hql : at_[q] < rows[q].length := by
        rcases Nat.lt_or_ge at_[q] rows[q].length with g | g
        · exact g
        · rw [hd_cur_none hl hqr (by omega)] at hy; cases hy
      have hy' := hd_cur_some hl hqr hql
      rw [hy] at hy'
      obtain rfl : y = rows[q][at_[q]] := by simpa using hy'
      rw [bI_some]
      repeat' first | rw [ek] | rw [eq] | apply step | (apply g_op; · repeat first | exact Evs.nil | (apply Evs.cons; exact rfl)) | (refine Br.mk (fun _ => ?_) (fun _ => ?_) <;> try (exfalso; omega)) | (refine Sd.mk ?_ ?_; · ((repeat' apply And.intro) <;> first | omega | trivial | assumption | (simp; done) | (simp; omega))) | (refine Sx.mk ?_ ?_; · omega) | refine Fa.mk (fun _ => ?_) | refine Im.mk (fun _ => ?_) | apply Lw.go | refine g_cond ?_ | refine g_guard ?_ | refine g_keep ?_ | refine g_pass ?_ | refine g_fin ?_ | (apply g_ap; exact rfl; exact rfl; assumption)
      · first | refine at_callS (l11_order_spec) ?_ | refine at_callR (l11_order_spec) ?_
        refine ⟨fun h => ?_, fun h => ?_, fun h => ?_⟩
        · have e1 := best_less (hd_cur_some hl hk' (by omega)) hbn hy h
          repeat' first | apply step | (apply g_op; · repeat first | exact Evs.nil | (apply Evs.cons; exact rfl)) | (refine Br.mk (fun _ => ?_) (fun _ => ?_) <;> try (exfalso; omega)) | (refine Sd.mk ?_ ?_; · ((repeat' apply And.intro) <;> first | omega | trivial | assumption | (simp; done) | (simp; omega))) | (refine Sx.mk ?_ ?_; · omega) | refine Fa.mk (fun _ => ?_) | refine Im.mk (fun _ => ?_) | apply Lw.go | refine g_cond ?_ | refine g_guard ?_ | refine g_keep ?_ | refine g_pass ?_ | refine g_fin ?_ | (apply g_ap; exact rfl; exact rfl; assumption)
          exact lp_next (k + 1) (by omega) (by omega) (by rw [e1, bI_some])
        · have e1 := best_keep (hd_cur_some hl hk' (by omega)) hbn hy (by omega)
          repeat' first | apply step | (apply g_op; · repeat first | exact Evs.nil | (apply Evs.cons; exact rfl)) | (refine Br.mk (fun _ => ?_) (fun _ => ?_) <;> try (exfalso; omega)) | (refine Sd.mk ?_ ?_; · ((repeat' apply And.intro) <;> first | omega | trivial | assumption | (simp; done) | (simp; omega))) | (refine Sx.mk ?_ ?_; · omega) | refine Fa.mk (fun _ => ?_) | refine Im.mk (fun _ => ?_) | apply Lw.go | refine g_cond ?_ | refine g_guard ?_ | refine g_keep ?_ | refine g_pass ?_ | refine g_fin ?_ | (apply g_ap; exact rfl; exact rfl; assumption)
          exact lp_next (k + 1) (by omega) (by omega) (by rw [e1, bI_some])
        · have e1 := best_keep (hd_cur_some hl hk' (by omega)) hbn hy (by omega)
          repeat' first | apply step | (apply g_op; · repeat first | exact Evs.nil | (apply Evs.cons; exact rfl)) | (refine Br.mk (fun _ => ?_) (fun _ => ?_) <;> try (exfalso; omega)) | (refine Sd.mk ?_ ?_; · ((repeat' apply And.intro) <;> first | omega | trivial | assumption | (simp; done) | (simp; omega))) | (refine Sx.mk ?_ ?_; · omega) | refine Fa.mk (fun _ => ?_) | refine Im.mk (fun _ => ?_) | apply Lw.go | refine g_cond ?_ | refine g_guard ?_ | refine g_keep ?_ | refine g_pass ?_ | refine g_fin ?_ | (apply g_ap; exact rfl; exact rfl; assumption)
          exact lp_next (k + 1) (by omega) (by omega) (by rw [e1, bI_some])
      · have e1 := best_skip (hd_cur_none hl hk' (by omega))
        exact lp_next (k + 1) (by omega) (by omega) (by rw [e1, hbn, bI_some])
  · have hkk : k = rows.length := by omega
    subst hkk
    have hcl := cur_len hl
    cases hbn : bestN (hd (cur rows at_)) rows.length with
    | none =>
      rw [bI_none]
      rw [← hrs, rows_end (by rw [hcl]; exact hbn)] at hR
      repeat' first | apply step | (apply g_op; · repeat first | exact Evs.nil | (apply Evs.cons; exact rfl)) | (refine Br.mk (fun _ => ?_) (fun _ => ?_) <;> try (exfalso; omega)) | (refine Sd.mk ?_ ?_; · ((repeat' apply And.intro) <;> first | omega | trivial | assumption | (simp; done) | (simp; omega))) | (refine Sx.mk ?_ ?_; · omega) | refine Fa.mk (fun _ => ?_) | refine Im.mk (fun _ => ?_) | apply Lw.go | refine g_cond ?_ | refine g_guard ?_ | refine g_keep ?_ | refine g_pass ?_ | refine g_fin ?_ | (apply g_ap; exact rfl; exact rfl; assumption)
      exact fin (hR op oc)
    | some q =>
      obtain ⟨hqr, y, hy, _⟩ := (best_spec (hd (cur rows at_)) rows.length).2 q hbn
      have hqa : q < at_.length := by omega
      have eq : (at_.map Int.ofNat)[q]'(by omega) = ((at_[q] : Nat) : Int) := List.getElem_map ..
      have hql : at_[q] < rows[q].length := by
        rcases Nat.lt_or_ge at_[q] rows[q].length with g | g
        · exact g
        · rw [hd_cur_none hl hqr (by omega)] at hy; cases hy
      have hy' := hd_cur_some hl hqr hql
      rw [hy] at hy'
      obtain rfl : y = rows[q][at_[q]] := by simpa using hy'
      have hcq := cur_get hl hqr
      have hrq := hr _ (List.getElem_mem hqr)
      have hcons : (cur rows at_)[q]'(by omega) = rows[q][at_[q]] :: ((cur rows at_)[q]'(by omega)).drop 1 := by
        rw [hcq, List.drop_drop]
        exact List.drop_eq_getElem_cons hql
      obtain ⟨r1, r2⟩ := rows_put (out := out) (by rw [hcl]; exact hbn) (by omega) hcons
      rw [← cur_next hl hqr] at r1 r2
      have hpl := put_len out rows[q][at_[q]]
      rw [bI_some]
      repeat' first | rw [eq] | apply step | (apply g_op; · repeat first | exact Evs.nil | (apply Evs.cons; exact rfl)) | (refine Br.mk (fun _ => ?_) (fun _ => ?_) <;> try (exfalso; omega)) | (refine Sd.mk ?_ ?_; · ((repeat' apply And.intro) <;> first | omega | trivial | assumption | (simp; done) | (simp; omega))) | (refine Sx.mk ?_ ?_; · omega) | refine Fa.mk (fun _ => ?_) | refine Im.mk (fun _ => ?_) | apply Lw.go | refine g_cond ?_ | refine g_guard ?_ | refine g_keep ?_ | refine g_pass ?_ | refine g_fin ?_ | (apply g_ap; exact rfl; exact rfl; assumption)
      rename_i hyb
      first | refine at_callS (merge_put_int_spec (l := out) (x := rows[q][at_[q]]) (by omega) hyb) ?_ | refine at_callR (merge_put_int_spec (l := out) (x := rows[q][at_[q]]) (by omega) hyb) ?_
      intro p2 c2
      repeat' first | rw [eq] | apply step | (apply g_op; · repeat first | exact Evs.nil | (apply Evs.cons; exact rfl)) | (refine Br.mk (fun _ => ?_) (fun _ => ?_) <;> try (exfalso; omega)) | (refine Sd.mk ?_ ?_; · ((repeat' apply And.intro) <;> first | omega | trivial | assumption | (simp; done) | (simp; omega))) | (refine Sx.mk ?_ ?_; · omega) | refine Fa.mk (fun _ => ?_) | refine Im.mk (fun _ => ?_) | apply Lw.go | refine g_cond ?_ | refine g_guard ?_ | refine g_keep ?_ | refine g_pass ?_ | refine g_fin ?_ | (apply g_ap; exact rfl; exact rfl; assumption)
      have e2 : (at_.map Int.ofNat).set q ((at_[q] + 1 : Nat) : Int) = (at_.set q (at_[q] + 1)).map Int.ofNat := by rw [List.map_set]; rfl
      rw [e2]
      exact lp_next ((at_.set q (at_[q] + 1), ap, ac), (putS out rows[q][at_[q]], p2, c2)) ((hLI _).2 ⟨by simpa using hl, by dsimp only; omega, by dsimp only; rw [← r1, hrs]⟩) (by dsimp only; omega)
theorem up_of {r : List Int} (h : ∀ i, 1 ≤ i → (hi : i < r.length) → r[i - 1]'(by omega) ≤ r[i]) : r.Pairwise (fun a b => a ≤ b) := by
  rw [List.pairwise_iff_getElem]
  intro i j hi hj hij
  induction j with
  | zero => omega
  | succ j ih =>
    have h1 := h (j + 1) (by omega) hj
    simp only [Nat.add_sub_cancel] at h1
    rcases Nat.lt_or_ge i j with q | q
    · have := ih (by omega) q; omega
    · have : i = j := by omega
      subst this; exact h1
theorem flat_cnt (rows : List (List Int)) : rows.flatten.length = cnt rows := by
  unfold cnt; exact List.length_flatten
theorem l11_MergeRows_spec {p : Option Addr} {c : Nat} {rows : List (List Int)} : Spec prog1 n_l11_MergeRows [.slice p rows.length c] [fro (kSl (kInt .i64)) p c rows] (fun R => R (.bool true) []) := by
  refine spec_code c_l11_MergeRows rfl ?_; intro n F R hR; unfold F_l11_MergeRows
  repeat' first | apply step | (apply g_op; · repeat first | exact Evs.nil | (apply Evs.cons; exact rfl)) | (refine Br.mk (fun _ => ?_) (fun _ => ?_) <;> try (exfalso; omega)) | (refine Sd.mk ?_ ?_; · ((repeat' apply And.intro) <;> first | omega | trivial | assumption | (simp; done) | (simp; omega))) | (refine Sx.mk ?_ ?_; · omega) | refine Fa.mk (fun _ => ?_) | refine Im.mk (fun _ => ?_) | apply Lw.go | refine g_cond ?_ | refine g_guard ?_ | refine g_keep ?_ | refine g_pass ?_ | refine g_fin ?_ | (apply g_ap; exact rfl; exact rfl; assumption)
  first | refine at_callS (r11_Few_spec (rows := rows)) ?_ | refine at_callR (r11_Few_spec (rows := rows)) ?_
  refine ⟨fun hf hr => ?_, ?_⟩
  rotate_left
  · repeat' first | apply step | (apply g_op; · repeat first | exact Evs.nil | (apply Evs.cons; exact rfl)) | (refine Br.mk (fun _ => ?_) (fun _ => ?_) <;> try (exfalso; omega)) | (refine Sd.mk ?_ ?_; · ((repeat' apply And.intro) <;> first | omega | trivial | assumption | (simp; done) | (simp; omega))) | (refine Sx.mk ?_ ?_; · omega) | refine Fa.mk (fun _ => ?_) | refine Im.mk (fun _ => ?_) | apply Lw.go | refine g_cond ?_ | refine g_guard ?_ | refine g_keep ?_ | refine g_pass ?_ | refine g_fin ?_ | (apply g_ap; exact rfl; exact rfl; assumption)
    first | refine at_callS (l11_works_spec) ?_ | refine at_callR (l11_works_spec) ?_
    repeat' first | apply step | (apply g_op; · repeat first | exact Evs.nil | (apply Evs.cons; exact rfl)) | (refine Br.mk (fun _ => ?_) (fun _ => ?_) <;> try (exfalso; omega)) | (refine Sd.mk ?_ ?_; · ((repeat' apply And.intro) <;> first | omega | trivial | assumption | (simp; done) | (simp; omega))) | (refine Sx.mk ?_ ?_; · omega) | refine Fa.mk (fun _ => ?_) | refine Im.mk (fun _ => ?_) | apply Lw.go | refine g_cond ?_ | refine g_guard ?_ | refine g_keep ?_ | refine g_pass ?_ | refine g_fin ?_ | (apply g_ap; exact rfl; exact rfl; assumption)
    exact fin hR
  have hc := cnt_le hr
  have hrl : (rowsL rows []).length ≤ cnt rows := by
    have := rowsL_len rows (cnt rows) rows []
    unfold rowsL; simp at this; omega
  repeat' first | apply step | (apply g_op; · repeat first | exact Evs.nil | (apply Evs.cons; exact rfl)) | (refine Br.mk (fun _ => ?_) (fun _ => ?_) <;> try (exfalso; omega)) | (refine Sd.mk ?_ ?_; · ((repeat' apply And.intro) <;> first | omega | trivial | assumption | (simp; done) | (simp; omega))) | (refine Sx.mk ?_ ?_; · omega) | refine Fa.mk (fun _ => ?_) | refine Im.mk (fun _ => ?_) | apply Lw.go | refine g_cond ?_ | refine g_guard ?_ | refine g_keep ?_ | refine g_pass ?_ | refine g_fin ?_ | (apply g_ap; exact rfl; exact rfl; assumption)
  first | refine at_callS (merge_Rows_int_spec (rows := rows) (by omega) (by omega) (fun x hx => by have := hr x hx; omega)) ?_ | refine at_callR (merge_Rows_int_spec (rows := rows) (by omega) (by omega) (fun x hx => by have := hr x hx; omega)) ?_
  intro p1 c1
  repeat' first | apply step | (apply g_op; · repeat first | exact Evs.nil | (apply Evs.cons; exact rfl)) | (refine Br.mk (fun _ => ?_) (fun _ => ?_) <;> try (exfalso; omega)) | (refine Sd.mk ?_ ?_; · ((repeat' apply And.intro) <;> first | omega | trivial | assumption | (simp; done) | (simp; omega))) | (refine Sx.mk ?_ ?_; · omega) | refine Fa.mk (fun _ => ?_) | refine Im.mk (fun _ => ?_) | apply Lw.go | refine g_cond ?_ | refine g_guard ?_ | refine g_keep ?_ | refine g_pass ?_ | refine g_fin ?_ | (apply g_ap; exact rfl; exact rfl; assumption)
  first | refine at_callS (r11_Rows_spec (rows := rows) (by omega) (by omega)) ?_ | refine at_callR (r11_Rows_spec (rows := rows) (by omega) (by omega)) ?_
  intro p2 c2
  repeat' first | apply step | (apply g_op; · repeat first | exact Evs.nil | (apply Evs.cons; exact rfl)) | (refine Br.mk (fun _ => ?_) (fun _ => ?_) <;> try (exfalso; omega)) | (refine Sd.mk ?_ ?_; · ((repeat' apply And.intro) <;> first | omega | trivial | assumption | (simp; done) | (simp; omega))) | (refine Sx.mk ?_ ?_; · omega) | refine Fa.mk (fun _ => ?_) | refine Im.mk (fun _ => ?_) | apply Lw.go | refine g_cond ?_ | refine g_guard ?_ | refine g_keep ?_ | refine g_pass ?_ | refine g_fin ?_ | (apply g_ap; exact rfl; exact rfl; assumption)
  first | refine at_callS (r01_Same_spec (a := rowsL rows []) (b := rowsL rows []) (by omega)) ?_ | refine at_callR (r01_Same_spec (a := rowsL rows []) (b := rowsL rows []) (by omega)) ?_
  refine ⟨fun _ => ?_, fun h => absurd rfl h⟩
  repeat' first | apply step | (apply g_op; · repeat first | exact Evs.nil | (apply Evs.cons; exact rfl)) | (refine Br.mk (fun _ => ?_) (fun _ => ?_) <;> try (exfalso; omega)) | (refine Sd.mk ?_ ?_; · ((repeat' apply And.intro) <;> first | omega | trivial | assumption | (simp; done) | (simp; omega))) | (refine Sx.mk ?_ ?_; · omega) | refine Fa.mk (fun _ => ?_) | refine Im.mk (fun _ => ?_) | apply Lw.go | refine g_cond ?_ | refine g_guard ?_ | refine g_keep ?_ | refine g_pass ?_ | refine g_fin ?_ | (apply g_ap; exact rfl; exact rfl; assumption)
  refine at_loopS (ι := Nat × Option Addr × Nat) (E := fun k => [(0, .slice p rows.length c), (3, .slice p1 (rowsL rows []).length c1), (4, .slice k.2.1 (rows.take k.1).flatten.length k.2.2), (5, .int .i64 (k.1 : Int))]) (Δ := fun k => own (kInt .i64) k.2.1 k.2.2 (rows.take k.1).flatten :: own (kInt .i64) p1 c1 (rowsL rows []) :: fro (kSl (kInt .i64)) p c rows :: F) (P := fun k => k.1 ≤ rows.length ∧ ∀ r ∈ rows.take k.1, r.Pairwise (fun a b => a ≤ b)) (μ := fun k => rows.length - k.1) (0, none, 0) ⟨Nat.zero_le _, by simp⟩ ?_
  rintro ⟨k, ap, ac⟩ ⟨hk, hup⟩
  dsimp only at hk hup ⊢
  have hfl := flat_cnt (rows.take k)
  have hct := cnt_take_le rows k
  rcases Nat.lt_or_ge k rows.length with hk' | hk'
  · have hrk := hr _ (List.getElem_mem hk')
    have hcs := cnt_succ hk'
    have hct1 := cnt_take_le rows (k + 1)
    repeat' first | apply step | (apply g_op; · repeat first | exact Evs.nil | (apply Evs.cons; exact rfl)) | (refine Br.mk (fun _ => ?_) (fun _ => ?_) <;> try (exfalso; omega)) | (refine Sd.mk ?_ ?_; · ((repeat' apply And.intro) <;> first | omega | trivial | assumption | (simp; done) | (simp; omega))) | (refine Sx.mk ?_ ?_; · omega) | refine Fa.mk (fun _ => ?_) | refine Im.mk (fun _ => ?_) | apply Lw.go | refine g_cond ?_ | refine g_guard ?_ | refine g_keep ?_ | refine g_pass ?_ | refine g_fin ?_ | (apply g_ap; exact rfl; exact rfl; assumption)
    refine at_loopS (ι := Nat) (E := fun j => [(0, .slice p rows.length c), (3, .slice p1 (rowsL rows []).length c1), (4, .slice ap (rows.take k).flatten.length ac), (5, .int .i64 (k : Int)), (6, .int .i64 (j : Int))]) (Δ := fun j => own (kInt .i64) ap ac (rows.take k).flatten :: own (kInt .i64) p1 c1 (rowsL rows []) :: fro (kSl (kInt .i64)) p c rows :: F) (P := fun j => 1 ≤ j ∧ j ≤ rows[k].length + 1 ∧ ∀ i, 1 ≤ i → i < j → (hi : i < rows[k].length) → rows[k][i - 1]'(by omega) ≤ rows[k][i]) (μ := fun j => rows[k].length + 1 - j) 1 ⟨Nat.le_refl _, by omega, fun i h1 h2 => by omega⟩ ?_
    rintro j ⟨hj1, hj2, hju⟩
    try dsimp only
    have e : ((j : Int) - 1).toNat = j - 1 := by omega
    repeat' first | apply step | (apply g_op; · repeat first | exact Evs.nil | (apply Evs.cons; exact rfl)) | (refine Br.mk (fun _ => ?_) (fun _ => ?_) <;> try (exfalso; omega)) | (refine Sd.mk ?_ ?_; · ((repeat' apply And.intro) <;> first | omega | trivial | assumption | (simp; done) | (simp; omega))) | (refine Sx.mk ?_ ?_; · omega) | refine Fa.mk (fun _ => ?_) | refine Im.mk (fun _ => ?_) | apply Lw.go | refine g_cond ?_ | refine g_guard ?_ | refine g_keep ?_ | refine g_pass ?_ | refine g_fin ?_ | (apply g_ap; exact rfl; exact rfl; assumption)
    · first | refine at_callS (l11_works_spec) ?_ | refine at_callR (l11_works_spec) ?_
      repeat' first | apply step | (apply g_op; · repeat first | exact Evs.nil | (apply Evs.cons; exact rfl)) | (refine Br.mk (fun _ => ?_) (fun _ => ?_) <;> try (exfalso; omega)) | (refine Sd.mk ?_ ?_; · ((repeat' apply And.intro) <;> first | omega | trivial | assumption | (simp; done) | (simp; omega))) | (refine Sx.mk ?_ ?_; · omega) | refine Fa.mk (fun _ => ?_) | refine Im.mk (fun _ => ?_) | apply Lw.go | refine g_cond ?_ | refine g_guard ?_ | refine g_keep ?_ | refine g_pass ?_ | refine g_fin ?_ | (apply g_ap; exact rfl; exact rfl; assumption)
      exact fin hR
    · simp only [e] at *
      refine lp_next (j + 1) ⟨by omega, by omega, fun i h1 h2 hi => ?_⟩ (by omega)
      rcases Nat.lt_or_ge i j with g | g
      · exact hju i h1 g hi
      · have : i = j := by omega
        subst this; omega
    · rename_i pr cr _ _ pr2 cr2 _ pa ca
      have e2 : (rows.take k).flatten ++ rows[k] = (rows.take (k + 1)).flatten := by
        rw [List.take_succ_eq_append_getElem hk', List.flatten_append]; simp
      rw [e2]
      refine lp_next (k + 1, pa, ca) ⟨by dsimp only; omega, fun r hr' => ?_⟩ (by dsimp only; omega)
      rw [List.take_succ_eq_append_getElem hk'] at hr'
      rcases List.mem_append.1 hr' with g | g
      · exact hup r g
      · rw [List.mem_singleton.1 g]
        exact up_of fun i h1 hi => hju i h1 (by omega) hi
  · have hkk : k = rows.length := by omega
    subst hkk
    rw [List.take_length] at hup hfl ⊢
    repeat' first | apply step | (apply g_op; · repeat first | exact Evs.nil | (apply Evs.cons; exact rfl)) | (refine Br.mk (fun _ => ?_) (fun _ => ?_) <;> try (exfalso; omega)) | (refine Sd.mk ?_ ?_; · ((repeat' apply And.intro) <;> first | omega | trivial | assumption | (simp; done) | (simp; omega))) | (refine Sx.mk ?_ ?_; · omega) | refine Fa.mk (fun _ => ?_) | refine Im.mk (fun _ => ?_) | apply Lw.go | refine g_cond ?_ | refine g_guard ?_ | refine g_keep ?_ | refine g_pass ?_ | refine g_fin ?_ | (apply g_ap; exact rfl; exact rfl; assumption)
    first | refine at_callS (r05_Of_spec (l := rows.flatten) (by omega)) ?_ | refine at_callR (r05_Of_spec (l := rows.flatten) (by omega)) ?_
    intro p3 c3
    repeat' first | apply step | (apply g_op; · repeat first | exact Evs.nil | (apply Evs.cons; exact rfl)) | (refine Br.mk (fun _ => ?_) (fun _ => ?_) <;> try (exfalso; omega)) | (refine Sd.mk ?_ ?_; · ((repeat' apply And.intro) <;> first | omega | trivial | assumption | (simp; done) | (simp; omega))) | (refine Sx.mk ?_ ?_; · omega) | refine Fa.mk (fun _ => ?_) | refine Im.mk (fun _ => ?_) | apply Lw.go | refine g_cond ?_ | refine g_guard ?_ | refine g_keep ?_ | refine g_pass ?_ | refine g_fin ?_ | (apply g_ap; exact rfl; exact rfl; assumption)
    rw [rows_up hup]
    have hsl := setL_le rows.flatten
    first | refine at_callS (r01_Same_spec (a := setL rows.flatten) (b := setL rows.flatten) (by omega)) ?_ | refine at_callR (r01_Same_spec (a := setL rows.flatten) (b := setL rows.flatten) (by omega)) ?_
    refine ⟨fun _ => ?_, fun h => absurd rfl h⟩
    repeat' first | apply step | (apply g_op; · repeat first | exact Evs.nil | (apply Evs.cons; exact rfl)) | (refine Br.mk (fun _ => ?_) (fun _ => ?_) <;> try (exfalso; omega)) | (refine Sd.mk ?_ ?_; · ((repeat' apply And.intro) <;> first | omega | trivial | assumption | (simp; done) | (simp; omega))) | (refine Sx.mk ?_ ?_; · omega) | refine Fa.mk (fun _ => ?_) | refine Im.mk (fun _ => ?_) | apply Lw.go | refine g_cond ?_ | refine g_guard ?_ | refine g_keep ?_ | refine g_pass ?_ | refine g_fin ?_ | (apply g_ap; exact rfl; exact rfl; assumption)
    first | refine at_callS (l11_works_spec) ?_ | refine at_callR (l11_works_spec) ?_
    repeat' first | apply step | (apply g_op; · repeat first | exact Evs.nil | (apply Evs.cons; exact rfl)) | (refine Br.mk (fun _ => ?_) (fun _ => ?_) <;> try (exfalso; omega)) | (refine Sd.mk ?_ ?_; · ((repeat' apply And.intro) <;> first | omega | trivial | assumption | (simp; done) | (simp; omega))) | (refine Sx.mk ?_ ?_; · omega) | refine Fa.mk (fun _ => ?_) | refine Im.mk (fun _ => ?_) | apply Lw.go | refine g_cond ?_ | refine g_guard ?_ | refine g_keep ?_ | refine g_pass ?_ | refine g_fin ?_ | (apply g_ap; exact rfl; exact rfl; assumption)
    exact fin hR
end
end Go.AMS

