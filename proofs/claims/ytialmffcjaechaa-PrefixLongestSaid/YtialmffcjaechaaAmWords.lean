/- Words for the laws: lists in a heap. -/
import Derived.Test.YtialmffcjaechaaAmEval
import Derived.Test.YtialmffcjaechaaAmOpen
import Derived.IntWalk
namespace Go.AM
set_option linter.unusedVariables false
set_option linter.unusedSimpArgs false

theorem rd_one {h : Heap} {b o : Nat} {v : Value} (hr : h.rd b o 1 = some [v]) : h.cell b o = some v := by
  unfold Heap.rd at hr
  unfold Heap.cell
  split at hr
  · rename_i c own hg
    split at hr
    · rename_i hle
      simp only [Option.some.injEq] at hr
      have hlt : o < c.length := by omega
      have e0 : (c.drop o).take 1 = [c[o]] := by
        rw [List.drop_eq_getElem_cons hlt]; rfl
      rw [e0] at hr
      simp only [List.cons.injEq, and_true] at hr
      have h2 := hle.2
      rw [e0] at h2
      simp only [hg, List.getElem?_eq_getElem hlt, hr] at h2 ⊢
      simp only [List.all_cons, List.all_nil, Bool.and_true, Bool.not_eq_true'] at h2
      rw [h2]; rfl
    · cases hr
  · cases hr

section
variable {α : Type} {K : Kind α} {h : Heap} {v : Value} {l : List α}

theorem Sl.form (hs : Sl K h v l) : ∃ p c, v = .slice p l.length c := by
  rcases hs with ⟨rfl, rfl⟩ | ⟨b, o, c, rfl, _⟩
  · exact ⟨_, _, rfl⟩
  · exact ⟨_, _, rfl⟩

theorem Sl.at {p : Option Addr} {c n : Nat} (hs : Sl K h (.slice p n c) l) {i : Nat} {a : α} (ha : l[i]? = some a) : ∃ b o cs, p = some ⟨b, o, none⟩ ∧ h.rd b (o + i * K.esz) K.esz = some cs ∧ K.rd h cs a ∧ b < h.size := by
  rcases hs with ⟨_, rfl⟩ | ⟨b, o, c, e, hE⟩
  · simp at ha
  · cases e
    obtain ⟨h0, cs, h1, h2⟩ := hE i a ha
    exact ⟨b, o, cs, rfl, h1, h2, h0⟩

/-- An element that is one cell. -/
theorem Sl.int {k : IntKind} {l : List Int} {p : Option Addr} {c n : Nat} (hs : Sl (kInt k) h (.slice p n c) l) {i : Nat} (hi : i < l.length) : ∃ b o, p = some ⟨b, o, none⟩ ∧ h.cell b (o + i) = some (.int k l[i]) ∧ k.min ≤ l[i] ∧ l[i] ≤ k.max := by
  obtain ⟨b, o, cs, h1, h2, ⟨h3, h4⟩, _⟩ := hs.at (List.getElem?_eq_getElem hi)
  subst h3
  have := rd_one h2
  simp only [kInt, Nat.mul_one] at this
  exact ⟨b, o, h1, this, h4⟩

/-- An address without a spot. -/
theorem Sl.spot {p : Option Addr} {n c : Nat} (hs : Sl K h (.slice p n c) l) : ∀ a, p = some a → a.spot = none := by
  rintro a rfl
  rcases hs with ⟨e, _⟩ | ⟨b, o, c, e, hE⟩
  · cases e
  · cases e; rfl

/-- A part of a list reads as the part. -/
theorem Sl.part {p : Option Addr} {n c : Nat} (hs : Sl K h (.slice p n c) l) (i j : Nat) (hj : i + j ≤ l.length) : Sl K h (AM.part K.esz p i j) ((l.drop i).take j) := by
  rcases hs with ⟨e, rfl⟩ | ⟨b, o, c, e, hE⟩
  · cases e; exact .inl ⟨rfl, by simp⟩
  · cases e
    refine .inr ⟨b, o + i * K.esz, j, ?_, fun q a ha => ?_⟩
    · simp only [AM.part]
      congr 1
      simp; omega
    · rw [List.getElem?_take] at ha
      split at ha
      · rw [List.getElem?_drop] at ha
        obtain ⟨h0, cs, h1, h2⟩ := hE _ _ ha
        refine ⟨h0, cs, ?_, h2⟩
        rw [← h1]; congr 1; rw [Nat.add_mul]; omega
      · cases ha

end

/-- What was there is as it was. -/
structure Old (h h' : Heap) : Prop where
  size : h.size ≤ h'.size
  prot : h'.prot = h.prot
  get : ∀ b, b < h.size → h'.get b = h.get b

theorem Old.refl (h : Heap) : Old h h := ⟨Nat.le_refl _, rfl, fun _ _ => rfl⟩
theorem Old.trans {a b c : Heap} (h : Old a b) (k : Old b c) : Old a c := ⟨Nat.le_trans h.size k.size, k.prot.trans h.prot, fun x hx => (k.get x (Nat.lt_of_lt_of_le hx h.size)).trans (h.get x hx)⟩
theorem Old.push {a h : Heap} (k : Old a h) (o : AObj) : Old a (h.push o) :=
  ⟨by have := k.size; simp; omega, k.prot, fun b hb => by rw [Heap.get_push, if_neg (by have := k.size; omega)]; exact k.get b hb⟩
theorem Old.set {a h : Heap} (k : Old a h) {b : Nat} (hb : a.size ≤ b) (o : AObj) : Old a (h.set b o) :=
  ⟨k.size, k.prot, fun c hc => by rw [Heap.get_set, if_neg (by omega)]; exact k.get c hc⟩
theorem Old.rd {h h' : Heap} (k : Old h h') {b o n : Nat} (hb : b < h.size) : h'.rd b o n = h.rd b o n := by unfold Heap.rd; rw [k.get b hb]
theorem Old.cell {h h' : Heap} (k : Old h h') {b o : Nat} (hb : b < h.size) : h'.cell b o = h.cell b o := by unfold Heap.cell; rw [k.get b hb]

/-- What reads so goes on to. -/
def Kind.Keeps {α : Type} (K : Kind α) : Prop := ∀ h h' cs a, Old h h' → K.rd h cs a → K.rd h' cs a
theorem keeps_int (k : IntKind) : (kInt k).Keeps := fun _ _ _ _ _ h => h
theorem keeps_bool : kBool.Keeps := fun _ _ _ _ _ h => h
theorem keeps_str : kStr.Keeps := fun _ _ _ _ _ h => h
theorem Sl.old {α : Type} {K : Kind α} (hK : K.Keeps) {h h' : Heap} (k : Old h h') {v : Value} {l : List α} (hs : Sl K h v l) : Sl K h' v l := by
  rcases hs with h0 | ⟨b, o, c, e, hE⟩
  · exact .inl h0
  · refine .inr ⟨b, o, c, e, fun i a ha => ?_⟩
    obtain ⟨h0, cs, h1, h2⟩ := hE i a ha
    exact ⟨Nat.lt_of_lt_of_le h0 k.size, cs, by rw [k.rd h0]; exact h1, hK _ _ _ _ k h2⟩
theorem keeps_sl {α : Type} {K : Kind α} (hK : K.Keeps) : (kSl K).Keeps := fun _ _ _ _ k ⟨v, h1, h2, h3⟩ => ⟨v, h1, h2.old hK k, h3⟩

/-- A list in a list. -/
theorem Sl.sl {α : Type} {K : Kind α} {h : Heap} {l : List (List α)} {p : Option Addr} {c n : Nat} (hs : Sl (kSl K) h (.slice p n c) l) {i : Nat} (hi : i < l.length) : ∃ b o v, p = some ⟨b, o, none⟩ ∧ h.cell b (o + i) = some v ∧ Sl K h v l[i] ∧ l[i].length ≤ maxLen := by
  obtain ⟨b, o, cs, h1, h2, ⟨v, h3, h4, h5⟩, _⟩ := hs.at (List.getElem?_eq_getElem hi)
  subst h3
  have := rd_one h2
  simp only [kSl, Nat.mul_one] at this
  exact ⟨b, o, v, h1, this, h4, h5⟩

/-- The cells of a list of numbers. -/
theorem Sl.cells {k : IntKind} {h : Heap} {l : List Int} {p : Option Addr} {n c : Nat} (hs : Sl (kInt k) h (.slice p n c) l) (hl : l ≠ []) : ∃ b o, p = some ⟨b, o, none⟩ ∧ b < h.size ∧ h.rd b o l.length = some (l.map (.int k)) := by
  obtain ⟨x, r, rfl⟩ := List.exists_cons_of_ne_nil hl
  obtain ⟨b, o, cs, h1, h2, h3, h4⟩ := hs.at (i := 0) (a := x) rfl
  refine ⟨b, o, h1, h4, ?_⟩
  subst h1
  have hc : ∀ (i : Nat) (hi : i < (x :: r).length), h.cell b (o + i) = some (.int k (x :: r)[i]) := fun i hi => by
    obtain ⟨b', o', e1, e2, _⟩ := hs.int hi
    cases e1; exact e2
  have h0 := hc 0 (by simp)
  unfold Heap.cell at h0
  cases hg : h.get b with
  | none => simp [hg] at h0
  | some ob =>
    cases ob with
    | cells C own =>
      have hC : ∀ (i : Nat) (hi : i < (x :: r).length), C[o + i]? = some (.int k (x :: r)[i]) := fun i hi => by
        have := hc i hi
        unfold Heap.cell at this
        simp only [hg] at this
        cases hq : C[o + i]? with
        | none => simp [hq] at this
        | some u =>
          simp only [hq] at this
          cases hj : Heap.isJ u with
          | true => simp [hj] at this
          | false => simpa [hj] using this
      have hlen : o + (x :: r).length ≤ C.length := by
        have := (List.getElem?_eq_some_iff.1 (hC r.length (by simp))).1
        simp; omega
      have e : (C.drop o).take (x :: r).length = (x :: r).map (.int k) := by
        apply List.ext_getElem?
        intro i
        rw [List.getElem?_take]
        split
        · rename_i hi
          rw [List.getElem?_drop, hC i hi, List.getElem?_map, List.getElem?_eq_getElem hi]; rfl
        · rw [List.getElem?_eq_none (by simp only [List.length_map]; omega)]
      unfold Heap.rd
      simp only [hg, e]
      rw [if_pos]
      refine ⟨hlen, ?_⟩
      rw [List.all_eq_true]
      intro v hv
      obtain ⟨n, _, rfl⟩ := List.mem_map.1 hv
      rfl
    | _ => simp [hg] at h0

theorem ints_ok {k : IntKind} {l : List Int} : (l.map (Value.int k)).all cellOk = true := by
  rw [List.all_eq_true]
  intro v hv
  obtain ⟨n, _, rfl⟩ := List.mem_map.1 hv
  rfl

/-- A new block of numbers reads so. -/
theorem Sl.new {k : IntKind} {h : Heap} {l : List Int} {b c : Nat} {own : Option Nat} (hg : h.get b = some (.cells (l.map (.int k)) own)) (hb : b < h.size) (hl : ∀ x ∈ l, k.min ≤ x ∧ x ≤ k.max) : Sl (kInt k) h (.slice (some ⟨b, 0, none⟩) l.length c) l := by
  refine .inr ⟨b, 0, c, rfl, fun i a ha => ⟨hb, [.int k a], ?_, rfl, hl a (List.mem_of_getElem? ha)⟩⟩
  have hi := (List.getElem?_eq_some_iff.1 ha).1
  have hx := (List.getElem?_eq_some_iff.1 ha).2
  unfold Heap.rd
  simp only [hg, kInt, Nat.mul_one, Nat.zero_add]
  have e : ((l.map (Value.int k)).drop i).take 1 = [.int k a] := by
    rw [List.drop_eq_getElem_cons (by simpa using hi)]
    simp [hx]
  rw [e, if_pos]
  exact ⟨by simp only [List.length_map]; omega, rfl⟩

theorem Sl.bounds {k : IntKind} {h : Heap} {l : List Int} {v : Value} (hs : Sl (kInt k) h v l) : ∀ x ∈ l, k.min ≤ x ∧ x ≤ k.max := by
  obtain ⟨p, c, rfl⟩ := hs.form
  intro x hx
  obtain ⟨i, hi⟩ := List.getElem?_of_mem hx
  obtain ⟨_, _, _, _, _, ⟨_, h3⟩, _⟩ := hs.at hi
  exact h3

theorem w64 {x : Int} (h1 : -9223372036854775808 ≤ x) (h2 : x ≤ 9223372036854775807) : IntKind.wrap .i64 x = x := IntWalk.i64_in x ⟨h1, h2⟩

end Go.AM
