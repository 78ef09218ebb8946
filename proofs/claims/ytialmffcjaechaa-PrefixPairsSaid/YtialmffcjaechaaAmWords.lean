/- Words for the laws: lists in a heap. -/
import Derived.Test.YtialmffcjaechaaAmEval
import Derived.Test.YtialmffcjaechaaAmOpen
import Derived.IntWalk
namespace Go.AM
set_option linter.unusedVariables false
set_option linter.unusedSimpArgs false

theorem rd_one {h : Heap} {b o : Nat} {v : Value} (hr : h.rd b o 1 = some [v]) : h.cell b o = some v := by
  unfold Heap.rd at hr
  unfold Heap.cell
  split at hr
  · rename_i c own hg
    split at hr
    · rename_i hle
      simp only [Option.some.injEq] at hr
      have hlt : o < c.length := by omega
      have e0 : (c.drop o).take 1 = [c[o]] := by
        rw [List.drop_eq_getElem_cons hlt]; rfl
      rw [e0] at hr
      simp only [List.cons.injEq, and_true] at hr
      have h2 := hle.2
      rw [e0] at h2
      simp only [hg, List.getElem?_eq_getElem hlt, hr] at h2 ⊢
      simp only [List.all_cons, List.all_nil, Bool.and_true, Bool.not_eq_true'] at h2
      rw [h2]; rfl
    · cases hr
  · cases hr

section
variable {α : Type} {K : Kind α} {h : Heap} {v : Value} {l : List α}

theorem Sl.form (hs : Sl K h v l) : ∃ p c, v = .slice p l.length c := by
  rcases hs with ⟨rfl, rfl⟩ | ⟨b, o, c, rfl, _⟩
  · exact ⟨_, _, rfl⟩
  · exact ⟨_, _, rfl⟩

theorem Sl.at {p : Option Addr} {c n : Nat} (hs : Sl K h (.slice p n c) l) {i : Nat} {a : α} (ha : l[i]? = some a) : ∃ b o cs, p = some ⟨b, o, none⟩ ∧ h.rd b (o + i * K.esz) K.esz = some cs ∧ K.rd h cs a := by
  rcases hs with ⟨_, rfl⟩ | ⟨b, o, c, e, hE⟩
  · simp at ha
  · cases e
    obtain ⟨cs, h1, h2⟩ := hE i a ha
    exact ⟨b, o, cs, rfl, h1, h2⟩

/-- An element that is one cell. -/
theorem Sl.int {k : IntKind} {l : List Int} {p : Option Addr} {c n : Nat} (hs : Sl (kInt k) h (.slice p n c) l) {i : Nat} (hi : i < l.length) : ∃ b o, p = some ⟨b, o, none⟩ ∧ h.cell b (o + i) = some (.int k l[i]) ∧ k.min ≤ l[i] ∧ l[i] ≤ k.max := by
  obtain ⟨b, o, cs, h1, h2, h3, h4⟩ := hs.at (List.getElem?_eq_getElem hi)
  subst h3
  have := rd_one h2
  simp only [kInt, Nat.mul_one] at this
  exact ⟨b, o, h1, this, h4⟩

/-- An address without a spot. -/
theorem Sl.spot {p : Option Addr} {n c : Nat} (hs : Sl K h (.slice p n c) l) : ∀ a, p = some a → a.spot = none := by
  rintro a rfl
  rcases hs with ⟨e, _⟩ | ⟨b, o, c, e, hE⟩
  · cases e
  · cases e; rfl

/-- A part of a list reads as the part. -/
theorem Sl.part {p : Option Addr} {n c : Nat} (hs : Sl K h (.slice p n c) l) (i j : Nat) (hj : i + j ≤ l.length) : Sl K h (AM.part K.esz p i j) ((l.drop i).take j) := by
  rcases hs with ⟨e, rfl⟩ | ⟨b, o, c, e, hE⟩
  · cases e; exact .inl ⟨rfl, by simp⟩
  · cases e
    refine .inr ⟨b, o + i * K.esz, j, ?_, fun q a ha => ?_⟩
    · simp only [AM.part]
      congr 1
      simp; omega
    · rw [List.getElem?_take] at ha
      split at ha
      · rw [List.getElem?_drop] at ha
        obtain ⟨cs, h1, h2⟩ := hE _ _ ha
        refine ⟨cs, ?_, h2⟩
        rw [← h1]; congr 1; rw [Nat.add_mul]; omega
      · cases ha

end

theorem w64 {x : Int} (h1 : -9223372036854775808 ≤ x) (h2 : x ≤ 9223372036854775807) : IntKind.wrap .i64 x = x := IntWalk.i64_in x ⟨h1, h2⟩

end Go.AM
