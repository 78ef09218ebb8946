/- Operations, one by one, as rules. -/
import Derived.Test.YtdkgalkdcmajjaaGreatAmKinds
namespace Go.AM.G
open Go.AM hiding Kt At WP WL Runs RunsY
set_option linter.unusedVariables false
set_option linter.unusedSectionVars false
set_option linter.unusedSimpArgs false

section
variable {prog : AProg} {ro : Option Nat} {e e' : Env} {h h' : Heap} {Q : Pst} {k : List Kt} {d bar : Bool} {r : List AI} {t : Nat} {x y z : Operand} {v u : Value} {α : Type} {K : Kind α} {m : M} {l : List α}

theorem keepE_mem {e : Env} {t : Nat} {v : Value} : ∀ {l : List Nat}, (t, v) ∈ keepE e l → Env.get e t = some v := by
  intro l
  induction l with
  | nil => intro h; cases h
  | cons a l ih =>
    intro h
    simp only [keepE] at h
    split at h
    · rename_i u hu
      rcases List.mem_cons.1 h with h | h
      · cases h; exact hu
      · exact ih h
    · exact ih h
theorem wp_eq {h h1 : Heap} (e : h1.prot = h.prot) : h1.withProt h.prot = h1 := by rw [← e]; rfl
theorem maxLen_lt : maxLen' ≤ 9223372036854775807 := by decide
theorem at_end {x : AX} (hq : Q x e h) : At prog ro [] x e h Q := hq
theorem get_nil {t : Nat} : Env.get [] t = none := rfl
theorem keepC_none {t : Nat} {r : Env} : keepC none t r = r := rfl
theorem opD_eq {op : AOp} (hb : (d && !bar) = false) (hv : aop op e h = some (v, h')) : opD (d && !bar) op e h = some (v, h') := by rw [hb]; exact hv
theorem opD_same {op : AOp} {o : Bool} (hv : ∀ n, aop op e (h.withProt n) = some (v, h.withProt n)) : opD o op e h = some (v, h) := by
  cases o with
  | false => exact hv h.prot
  | true => simp only [opD, cond_true, hv, Option.map_some]; rfl
theorem opD_push {op : AOp} {o : Bool} {ob : AObj} (hv : ∀ n, aop op e (h.withProt n) = some (v, (h.withProt n).push ob)) : opD o op e h = some (v, h.push ob) := by
  cases o with
  | false => exact hv h.prot
  | true => simp only [opD, cond_true, hv, Option.map_some]; rfl

/-! ### Numbers, bools, texts -/
theorem at_mv (hx : ev e x = some v) (hw : At prog ro (.o d r :: k) .norm ((t, v) :: e) h Q) : At prog ro (.o d (⟨some t, .mv x, none, bar⟩ :: r) :: k) .norm e h Q := at_free (by simp only [aop, hx]; rfl) rfl hw
theorem at_pick_t (hc : ev e z = some (.bool true)) (hx : ev e x = some v) (hw : At prog ro (.o d r :: k) .norm ((t, v) :: e) h Q) : At prog ro (.o d (⟨some t, .pick z x y, none, bar⟩ :: r) :: k) .norm e h Q := at_free (by simp only [aop, hc, hx]; rfl) rfl hw
theorem at_pick_f (hc : ev e z = some (.bool false)) (hx : ev e y = some v) (hw : At prog ro (.o d r :: k) .norm ((t, v) :: e) h Q) : At prog ro (.o d (⟨some t, .pick z x y, none, bar⟩ :: r) :: k) .norm e h Q := at_free (by simp only [aop, hc, hx]; rfl) rfl hw
theorem at_lenS {s : ByteArray} (hx : ev e x = some (.string s)) (hw : At prog ro (.o d r :: k) .norm ((t, .int .i64 s.size) :: e) h Q) : At prog ro (.o d (⟨some t, .len 0 x, none, bar⟩ :: r) :: k) .norm e h Q := at_one (opD_same fun n => by simp only [aop, hx]) hw
theorem at_lenL {p : Option Addr} {n c : Nat} (hx : ev e x = some (.slice p n c)) (hw : At prog ro (.o d r :: k) .norm ((t, .int .i64 n) :: e) h Q) : At prog ro (.o d (⟨some t, .len 1 x, none, bar⟩ :: r) :: k) .norm e h Q := at_one (opD_same fun n => by simp only [aop, hx]) hw
section
variable {ki : IntKind} {p q : Int}
theorem at_bin {op : BinOp} (hx : ev e x = some u) (hy : ev e y = some v) {b : Value} (hb : binV op u v = some b) (hw : At prog ro (.o d r :: k) .norm ((t, b) :: e) h Q) : At prog ro (.o d (⟨some t, .bin op x y, none, bar⟩ :: r) :: k) .norm e h Q := at_free (by simp only [aop, hx, hy, hb]; rfl) rfl hw
theorem at_lss (hx : ev e x = some (.int ki p)) (hy : ev e y = some (.int ki q)) (ht : p < q → At prog ro (.o d r :: k) .norm ((t, .bool true) :: e) h Q) (hf : ¬ p < q → At prog ro (.o d r :: k) .norm ((t, .bool false) :: e) h Q) : At prog ro (.o d (⟨some t, .bin .lss x y, none, bar⟩ :: r) :: k) .norm e h Q := by
  by_cases c : p < q
  · exact at_bin hx hy (by rw [b_lss, decide_eq_true c]) (ht c)
  · exact at_bin hx hy (by rw [b_lss, decide_eq_false c]) (hf c)
theorem at_leq (hx : ev e x = some (.int ki p)) (hy : ev e y = some (.int ki q)) (ht : p ≤ q → At prog ro (.o d r :: k) .norm ((t, .bool true) :: e) h Q) (hf : ¬ p ≤ q → At prog ro (.o d r :: k) .norm ((t, .bool false) :: e) h Q) : At prog ro (.o d (⟨some t, .bin .leq x y, none, bar⟩ :: r) :: k) .norm e h Q := by
  by_cases c : p ≤ q
  · exact at_bin hx hy (by rw [b_leq, decide_eq_true c]) (ht c)
  · exact at_bin hx hy (by rw [b_leq, decide_eq_false c]) (hf c)
theorem at_gtr (hx : ev e x = some (.int ki p)) (hy : ev e y = some (.int ki q)) (ht : q < p → At prog ro (.o d r :: k) .norm ((t, .bool true) :: e) h Q) (hf : ¬ q < p → At prog ro (.o d r :: k) .norm ((t, .bool false) :: e) h Q) : At prog ro (.o d (⟨some t, .bin .gtr x y, none, bar⟩ :: r) :: k) .norm e h Q := by
  by_cases c : q < p
  · exact at_bin hx hy (by rw [b_gtr, decide_eq_true c]) (ht c)
  · exact at_bin hx hy (by rw [b_gtr, decide_eq_false c]) (hf c)
theorem at_geq (hx : ev e x = some (.int ki p)) (hy : ev e y = some (.int ki q)) (ht : q ≤ p → At prog ro (.o d r :: k) .norm ((t, .bool true) :: e) h Q) (hf : ¬ q ≤ p → At prog ro (.o d r :: k) .norm ((t, .bool false) :: e) h Q) : At prog ro (.o d (⟨some t, .bin .geq x y, none, bar⟩ :: r) :: k) .norm e h Q := by
  by_cases c : q ≤ p
  · exact at_bin hx hy (by rw [b_geq, decide_eq_true c]) (ht c)
  · exact at_bin hx hy (by rw [b_geq, decide_eq_false c]) (hf c)
theorem at_eql (hx : ev e x = some (.int ki p)) (hy : ev e y = some (.int ki q)) (ht : p = q → At prog ro (.o d r :: k) .norm ((t, .bool true) :: e) h Q) (hf : ¬ p = q → At prog ro (.o d r :: k) .norm ((t, .bool false) :: e) h Q) : At prog ro (.o d (⟨some t, .bin .eql x y, none, bar⟩ :: r) :: k) .norm e h Q := by
  by_cases c : p = q
  · exact at_bin hx hy (by rw [b_eql, beq_iff_eq.2 c]) (ht c)
  · exact at_bin hx hy (by rw [b_eql, beq_eq_false_iff_ne.2 c]) (hf c)
theorem at_neq (hx : ev e x = some (.int ki p)) (hy : ev e y = some (.int ki q)) (ht : ¬ p = q → At prog ro (.o d r :: k) .norm ((t, .bool true) :: e) h Q) (hf : p = q → At prog ro (.o d r :: k) .norm ((t, .bool false) :: e) h Q) : At prog ro (.o d (⟨some t, .bin .neq x y, none, bar⟩ :: r) :: k) .norm e h Q := by
  by_cases c : p = q
  · exact at_bin hx hy (by rw [b_neq, bne, beq_iff_eq.2 c]; rfl) (hf c)
  · exact at_bin hx hy (by rw [b_neq, bne, beq_eq_false_iff_ne.2 c]; rfl) (ht c)
theorem at_inc {i : Nat} (hx : ev e x = some (.int .i64 (i : Int))) (hi : i + 1 ≤ 9223372036854775807) (hw : At prog ro (.o d r :: k) .norm ((t, .int .i64 ((i + 1 : Nat) : Int)) :: e) h Q) : At prog ro (.o d (⟨some t, .bin .add x (.const (.int .i64 1)), none, bar⟩ :: r) :: k) .norm e h Q :=
  at_bin hx rfl (by rw [b_add, w64 (by omega) (by omega)]; rfl) hw
theorem at_add (hx : ev e x = some (.int .i64 p)) (hy : ev e y = some (.int .i64 q)) (h1 : -9223372036854775808 ≤ p + q ∧ p + q ≤ 9223372036854775807) (hw : At prog ro (.o d r :: k) .norm ((t, .int .i64 (p + q)) :: e) h Q) : At prog ro (.o d (⟨some t, .bin .add x y, none, bar⟩ :: r) :: k) .norm e h Q :=
  at_bin hx hy (by rw [b_add, w64 h1.1 h1.2]) hw
theorem at_sub (hx : ev e x = some (.int .i64 p)) (hy : ev e y = some (.int .i64 q)) (h1 : -9223372036854775808 ≤ p - q ∧ p - q ≤ 9223372036854775807) (hw : At prog ro (.o d r :: k) .norm ((t, .int .i64 (p - q)) :: e) h Q) : At prog ro (.o d (⟨some t, .bin .sub x y, none, bar⟩ :: r) :: k) .norm e h Q :=
  at_bin hx hy (by rw [b_sub, w64 h1.1 h1.2]) hw
theorem at_mul (hx : ev e x = some (.int .i64 p)) (hy : ev e y = some (.int .i64 q)) (h1 : -9223372036854775808 ≤ p * q ∧ p * q ≤ 9223372036854775807) (hw : At prog ro (.o d r :: k) .norm ((t, .int .i64 (p * q)) :: e) h Q) : At prog ro (.o d (⟨some t, .bin .mul x y, none, bar⟩ :: r) :: k) .norm e h Q :=
  at_bin hx hy (by rw [b_mul, w64 h1.1 h1.2]) hw
theorem at_rem (hx : ev e x = some (.int ki p)) (hy : ev e y = some (.int ki q)) (h0 : q ≠ 0) (hw : At prog ro (.o d r :: k) .norm ((t, .int ki (p.tmod q)) :: e) h Q) : At prog ro (.o d (⟨some t, .bin .rem x y, none, bar⟩ :: r) :: k) .norm e h Q :=
  at_bin hx hy (by rw [b_rem, if_neg h0]) hw
theorem at_quo (hx : ev e x = some (.int .i64 p)) (hy : ev e y = some (.int .i64 q)) (h0 : q ≠ 0) (h1 : -9223372036854775808 ≤ p.tdiv q ∧ p.tdiv q ≤ 9223372036854775807) (hw : At prog ro (.o d r :: k) .norm ((t, .int .i64 (p.tdiv q)) :: e) h Q) : At prog ro (.o d (⟨some t, .bin .quo x y, none, bar⟩ :: r) :: k) .norm e h Q :=
  at_bin hx hy (by rw [b_quo, if_neg h0, w64 h1.1 h1.2]) hw
end
section
variable {s u : ByteArray}
theorem at_seql (hx : ev e x = some (.string s)) (hy : ev e y = some (.string u)) (ht : s.toList = u.toList → At prog ro (.o d r :: k) .norm ((t, .bool true) :: e) h Q) (hf : ¬ s.toList = u.toList → At prog ro (.o d r :: k) .norm ((t, .bool false) :: e) h Q) : At prog ro (.o d (⟨some t, .bin .eql x y, none, bar⟩ :: r) :: k) .norm e h Q := by
  by_cases c : s.toList = u.toList
  · exact at_bin hx hy (by rw [b_seq, beq_iff_eq.2 c]) (ht c)
  · exact at_bin hx hy (by rw [b_seq, beq_eq_false_iff_ne.2 c]) (hf c)
theorem at_sneq (hx : ev e x = some (.string s)) (hy : ev e y = some (.string u)) (ht : ¬ s.toList = u.toList → At prog ro (.o d r :: k) .norm ((t, .bool true) :: e) h Q) (hf : s.toList = u.toList → At prog ro (.o d r :: k) .norm ((t, .bool false) :: e) h Q) : At prog ro (.o d (⟨some t, .bin .neq x y, none, bar⟩ :: r) :: k) .norm e h Q := by
  by_cases c : s.toList = u.toList
  · exact at_bin hx hy (by rw [b_sneq, beq_iff_eq.2 c]; rfl) (hf c)
  · exact at_bin hx hy (by rw [b_sneq, beq_eq_false_iff_ne.2 c]; rfl) (ht c)
end
theorem at_sadd {s u : ByteArray} (hx : ev e x = some (.string s)) (hy : ev e y = some (.string u)) (hl : s.size + u.size ≤ 9223372036854775807) (hw : At prog ro (.o d r :: k) .norm ((t, .string (s ++ u)) :: e) h Q) : At prog ro (.o d (⟨some t, .bin .add x y, none, bar⟩ :: r) :: k) .norm e h Q :=
  at_bin hx hy (by rw [b_sadd, if_neg (by omega)]) hw
class EqV (f : α → Value) : Prop where
  eq : ∀ a b, (a = b → binV .eql (f a) (f b) = some (.bool true)) ∧ (a ≠ b → binV .eql (f a) (f b) = some (.bool false))
instance {ki : IntKind} : EqV (Value.int ki) := ⟨fun a b => ⟨fun c => by rw [b_eql, beq_iff_eq.2 c], fun c => by rw [b_eql, beq_eq_false_iff_ne.2 c]⟩⟩
theorem at_eqlV {f : α → Value} [hf : EqV f] {a b : α} (hx : ev e x = some (f a)) (hy : ev e y = some (f b)) (ht : a = b → At prog ro (.o d r :: k) .norm ((t, .bool true) :: e) h Q) (hf : ¬ a = b → At prog ro (.o d r :: k) .norm ((t, .bool false) :: e) h Q) : At prog ro (.o d (⟨some t, .bin .eql x y, none, bar⟩ :: r) :: k) .norm e h Q := by
  by_cases c : a = b
  · exact at_bin hx hy ((EqV.eq a b).1 c) (ht c)
  · exact at_bin hx hy ((EqV.eq a b).2 c) (hf c)
theorem at_nil_t {p : Option Addr} {n c n' c' : Nat} {neg : Bool} (hx : ev e x = some (.slice p n c)) (hy : ev e y = some (.slice none n' c')) (ht : p = none → At prog ro (.o d r :: k) .norm ((t, .bool !neg) :: e) h Q) (hf : p ≠ none → At prog ro (.o d r :: k) .norm ((t, .bool neg) :: e) h Q) : At prog ro (.o d (⟨some t, .eqv 2 neg x y, none, bar⟩ :: r) :: k) .norm e h Q := by
  cases p with
  | none => exact at_free (by simp only [aop, hx, hy, eq1]; cases neg <;> rfl) rfl (ht rfl)
  | some p => exact at_free (by simp only [aop, hx, hy, eq1]; cases neg <;> rfl) rfl (hf (by simp))
theorem at_eqb {neg p q : Bool} (hx : ev e x = some (.bool p)) (hy : ev e y = some (.bool q)) (ht : p = q → At prog ro (.o d r :: k) .norm ((t, .bool !neg) :: e) h Q) (hf : p ≠ q → At prog ro (.o d r :: k) .norm ((t, .bool neg) :: e) h Q) : At prog ro (.o d (⟨some t, .eqv 0 neg x y, none, bar⟩ :: r) :: k) .norm e h Q := by
  by_cases c : p = q
  · subst c; exact at_free (by simp only [aop, hx, hy, eq1]; cases neg <;> simp) rfl (ht rfl)
  · exact at_free (by simp only [aop, hx, hy, eq1]; have : (p == q) = false := by simpa using c
                      rw [this]; cases neg <;> rfl) rfl (hf c)
theorem at_not {b : Bool} (hx : ev e x = some (.bool b)) (hw : At prog ro (.o d r :: k) .norm ((t, .bool !b) :: e) h Q) : At prog ro (.o d (⟨some t, .un .not x, none, bar⟩ :: r) :: k) .norm e h Q := at_free (by simp only [aop, hx]; rfl) rfl hw

theorem at_conv64 {ki : IntKind} {p : Int} (hx : ev e x = some (.int ki p)) (h1 : -9223372036854775808 ≤ p ∧ p ≤ 9223372036854775807) (hw : At prog ro (.o d r :: k) .norm ((t, .int .i64 p) :: e) h Q) : At prog ro (.o d (⟨some t, .conv .i64 x, none, bar⟩ :: r) :: k) .norm e h Q :=
  at_free (by simp only [aop, hx, w64 h1.1 h1.2]) rfl hw
theorem at_max2 {p q : Int} {ki : IntKind} (hx : ev e x = some (.int ki p)) (hy : ev e y = some (.int ki q)) (ht : p < q → At prog ro (.o d r :: k) .norm ((t, .int ki q) :: e) h Q) (hf : ¬ p < q → At prog ro (.o d r :: k) .norm ((t, .int ki p) :: e) h Q) : At prog ro (.o d (⟨some t, .max [x, y], none, bar⟩ :: r) :: k) .norm e h Q := by
  by_cases c : p < q
  · exact at_free (by simp only [aop, evs, hx, hy, Option.bind_some, Option.map_some, minmax, minmaxF, if_true, cond_true]; rw [if_pos c]) rfl (ht c)
  · exact at_free (by simp only [aop, evs, hx, hy, Option.bind_some, Option.map_some, minmax, minmaxF, if_true, cond_true]; rw [if_neg (show ¬ q > p from c)]) rfl (hf c)
theorem at_min2 {p q : Int} {ki : IntKind} (hx : ev e x = some (.int ki p)) (hy : ev e y = some (.int ki q)) (ht : q < p → At prog ro (.o d r :: k) .norm ((t, .int ki q) :: e) h Q) (hf : ¬ q < p → At prog ro (.o d r :: k) .norm ((t, .int ki p) :: e) h Q) : At prog ro (.o d (⟨some t, .min [x, y], none, bar⟩ :: r) :: k) .norm e h Q := by
  by_cases c : q < p
  · exact at_free (by simp only [aop, evs, hx, hy, Option.bind_some, Option.map_some, minmax, minmaxF, if_true, cond_false]; rw [if_pos c]) rfl (ht c)
  · exact at_free (by simp only [aop, evs, hx, hy, Option.bind_some, Option.map_some, minmax, minmaxF, if_true, cond_false]; rw [if_neg c]) rfl (hf c)
theorem at_remN {p q : Int} {ki : IntKind} (hx : ev e x = some (.int ki p)) (hy : ev e y = some (.int ki q)) (h0 : 0 ≤ p ∧ 0 < q) (hw : ∀ j : Nat, j = p.toNat % q.toNat → (j : Int) < q → At prog ro (.o d r :: k) .norm ((t, .int ki (j : Int)) :: e) h Q) : At prog ro (.o d (⟨some t, .bin .rem x y, none, bar⟩ :: r) :: k) .norm e h Q := by
  have hj : ((p.toNat % q.toNat : Nat) : Int) = p.tmod q := by
    rw [Int.tmod_eq_emod_of_nonneg h0.1, Int.natCast_emod, Int.toNat_of_nonneg h0.1, Int.toNat_of_nonneg (by omega)]
  refine at_rem hx hy (by omega) ?_
  rw [← hj]
  exact hw _ rfl (by have := Nat.mod_lt p.toNat (show 0 < q.toNat by omega); omega)

/-! ### Loads -/
theorem at_iaddr {esz i : Nat} {ki : IntKind} {p : Option Addr} {n c : Nat} (hx : ev e x = some (.slice p n c)) (hi : ev e y = some (.int ki (i : Int))) (hs : Sl K m (.slice p n c) l) (hlt : i < l.length) (hw : ∀ b o, p = some ⟨b, o, none⟩ → At prog ro (.o d r :: k) .norm ((t, .pointer (some ⟨b, o + i * esz, none⟩)) :: e) h Q) : At prog ro (.o d (⟨some t, .iaddr esz x y, none, bar⟩ :: r) :: k) .norm e h Q := by
  obtain ⟨b, o, cs, rfl, _⟩ := hs.at hlt
  have := hs.len
  subst this
  refine at_free ?_ rfl (hw b o rfl)
  simp only [aop, hx, hi]
  rw [if_pos ⟨by omega, by omega⟩]
  simp
theorem at_iaddr_int {esz : Nat} {i : Int} {ki : IntKind} {p : Option Addr} {n c : Nat} (hx : ev e x = some (.slice p n c)) (hi : ev e y = some (.int ki i)) (hs : Sl K m (.slice p n c) l) (h0 : 0 ≤ i ∧ i < l.length) (hw : ∀ b o, p = some ⟨b, o, none⟩ → At prog ro (.o d r :: k) .norm ((t, .pointer (some ⟨b, o + i.toNat * esz, none⟩)) :: e) h Q) : At prog ro (.o d (⟨some t, .iaddr esz x y, none, bar⟩ :: r) :: k) .norm e h Q :=
  at_iaddr (i := i.toNat) hx (by rw [hi]; congr 2; omega) hs (by omega) hw
/-- The element that is one cell. -/
theorem at_elem {f : α → Value} [hf : IsVal K f] {b o i n c : Nat} (hx : ev e x = some (.pointer (some ⟨b, o + i * 1, none⟩))) (hs : Sl K m (.slice (some ⟨b, o, none⟩) n c) l) (hm : Sub m (mem h)) (hlt : i < l.length) (hw : At prog ro (.o d r :: k) .norm ((t, f l[i]) :: e) h Q) : At prog ro (.o d (⟨some t, .load1 x, none, bar⟩ :: r) :: k) .norm e h Q := by
  obtain ⟨b', o', cs, e1, h1, h2⟩ := hs.at hlt
  cases e1
  have h3 := cell_of_rd (h := h) (b := b) (o := o + i * 1) (v := f l[i]) (by
    have := (rdm_rd (rdm_sub hm h1)).1
    rw [hf.one, hf.val h2] at this; exact this)
  exact at_one (opD_same fun n => by simp only [aop, hx]; rw [show (h.withProt n).cell b (o + i * 1) = h.cell b (o + i * 1) from rfl, h3]; rfl) hw
theorem at_elemV {f : α → Value} {b o i n c : Nat} (hx : ev e x = some (.pointer (some ⟨b, o + i * 1, none⟩))) (hs : Sl K m (.slice (some ⟨b, o, none⟩) n c) l) (hf : IsVal K f) (hm : Sub m (mem h)) (hlt : i < l.length) (hw : At prog ro (.o d r :: k) .norm ((t, f l[i]) :: e) h Q) : At prog ro (.o d (⟨some t, .load1 x, none, bar⟩ :: r) :: k) .norm e h Q := at_elem hx hs hm hlt hw
theorem at_elemI {l : List Int} {b o i n c : Nat} (hx : ev e x = some (.pointer (some ⟨b, o + i * 1, none⟩))) (hs : Sl (kInt .i64) m (.slice (some ⟨b, o, none⟩) n c) l) (hm : Sub m (mem h)) (hlt : i < l.length) (hw : -9223372036854775808 ≤ l[i] ∧ l[i] ≤ 9223372036854775807 → At prog ro (.o d r :: k) .norm ((t, .int .i64 l[i]) :: e) h Q) : At prog ro (.o d (⟨some t, .load1 x, none, bar⟩ :: r) :: k) .norm e h Q :=
  at_elem hx hs hm hlt (hw (hs.at_bounds hlt))
theorem at_elemU8 {l : List Int} {b o i n c : Nat} (hx : ev e x = some (.pointer (some ⟨b, o + i * 1, none⟩))) (hs : Sl (kInt .u8) m (.slice (some ⟨b, o, none⟩) n c) l) (hm : Sub m (mem h)) (hlt : i < l.length) (hw : 0 ≤ l[i] ∧ l[i] ≤ 255 → At prog ro (.o d r :: k) .norm ((t, .int .u8 l[i]) :: e) h Q) : At prog ro (.o d (⟨some t, .load1 x, none, bar⟩ :: r) :: k) .norm e h Q :=
  at_elem hx hs hm hlt (hw (hs.at_bounds hlt))
theorem at_elemS {l : List ByteArray} {b o i n c : Nat} (hx : ev e x = some (.pointer (some ⟨b, o + i * 1, none⟩))) (hs : Sl kStr m (.slice (some ⟨b, o, none⟩) n c) l) (hm : Sub m (mem h)) (hlt : i < l.length) (hw : l[i].size ≤ 140737488351232 → At prog ro (.o d r :: k) .norm ((t, .string l[i]) :: e) h Q) : At prog ro (.o d (⟨some t, .load1 x, none, bar⟩ :: r) :: k) .norm e h Q := by
  obtain ⟨_, _, _, _, _, h2⟩ := hs.at hlt
  exact at_elem hx hs hm hlt (hw h2.2)
/-- The same, of bools. -/
theorem at_elemB {l : List Bool} {b o i n c : Nat} (hx : ev e x = some (.pointer (some ⟨b, o + i * 1, none⟩))) (hs : Sl kBool m (.slice (some ⟨b, o, none⟩) n c) l) (hm : Sub m (mem h)) (hlt : i < l.length) (ht : l[i] = true → At prog ro (.o d r :: k) .norm ((t, .bool true) :: e) h Q) (hf : l[i] = false → At prog ro (.o d r :: k) .norm ((t, .bool false) :: e) h Q) : At prog ro (.o d (⟨some t, .load1 x, none, bar⟩ :: r) :: k) .norm e h Q := by
  refine at_elem hx hs hm hlt ?_
  cases hq : l[i] with
  | true => exact ht hq
  | false => exact hf hq
/-- The element that is a list. -/
theorem at_elemL {l : List (List α)} {b o i n c : Nat} (hx : ev e x = some (.pointer (some ⟨b, o + i * 1, none⟩))) (hs : Sl (kSl K) m (.slice (some ⟨b, o, none⟩) n c) l) (hm : Sub m (mem h)) (hlt : i < l.length) (hw : ∀ p c, Sl K m (.slice p l[i].length c) l[i] → l[i].length ≤ maxLen' → At prog ro (.o d r :: k) .norm ((t, .slice p l[i].length c) :: e) h Q) : At prog ro (.o d (⟨some t, .load1 x, none, bar⟩ :: r) :: k) .norm e h Q := by
  obtain ⟨b', o', cs, e1, h1, v, h2, h4, h5⟩ := hs.at hlt
  cases e1
  obtain ⟨p, c', rfl⟩ := h4.form
  have h3 := cell_of_rd (h := h) (b := b) (o := o + i * 1) (v := .slice p l[i].length c') (by
    have := (rdm_rd (rdm_sub hm h1)).1
    rw [h2] at this; exact this)
  exact at_one (opD_same fun n => by simp only [aop, hx]; rw [show (h.withProt n).cell b (o + i * 1) = h.cell b (o + i * 1) from rfl, h3]; rfl) (hw p c' h4 h5)
/-- The element that is a struct. -/
theorem at_elemN {b o i n c q : Nat} (hx : ev e x = some (.pointer (some ⟨b, o + i * q, none⟩))) (hs : Sl K m (.slice (some ⟨b, o, none⟩) n c) l) (hm : Sub m (mem h)) (hlt : i < l.length) (hq : K.esz = q) (hw : ∀ cs, K.rd m cs l[i] → At prog ro (.o d r :: k) .norm ((t, .agg cs.toArray) :: e) h Q) : At prog ro (.o d (⟨some t, .loadN q x, none, bar⟩ :: r) :: k) .norm e h Q := by
  subst hq
  obtain ⟨b', o', cs, e1, h1, h2⟩ := hs.at hlt
  cases e1
  have h3 := (rdm_rd (rdm_sub hm h1)).1
  exact at_one (opD_same fun n => by simp only [aop, hx]; rw [show (h.withProt n).rd b (o + i * K.esz) K.esz = h.rd b (o + i * K.esz) K.esz from rfl, h3]; rfl) (hw cs h2)
/-- Out of a block that is known. -/
theorem at_ld {b o : Nat} {c : List Value} {own : Option Nat} (hx : ev e x = some (.pointer (some ⟨b, o, none⟩))) (hg : h.get b = some (.cells c own)) (hv : c[o]? = some v) (hj : Heap.isJ v = false) (hw : At prog ro (.o d r :: k) .norm ((t, v) :: e) h Q) : At prog ro (.o d (⟨some t, .load1 x, none, bar⟩ :: r) :: k) .norm e h Q := by
  have h3 : h.cell b o = some v := by unfold Heap.cell; rw [hg]; simp only [hv, hj, cond_false]
  exact at_one (opD_same fun n => by simp only [aop, hx]; rw [show (h.withProt n).cell b o = h.cell b o from rfl, h3]; rfl) hw
theorem at_ldN {b o n : Nat} {c cs : List Value} {own : Option Nat} (hx : ev e x = some (.pointer (some ⟨b, o, none⟩))) (hg : h.get b = some (.cells c own)) (hn : o + n ≤ c.length) (hv : (c.drop o).take n = cs) (hj : cs.all (fun v => !Heap.isJ v) = true) (hw : At prog ro (.o d r :: k) .norm ((t, .agg cs.toArray) :: e) h Q) : At prog ro (.o d (⟨some t, .loadN n x, none, bar⟩ :: r) :: k) .norm e h Q := by
  have h3 : h.rd b o n = some cs := by unfold Heap.rd; rw [hg]; simp only [hv]; rw [if_pos ⟨hn, hj⟩]
  exact at_one (opD_same fun q => by simp only [aop, hx]; rw [show (h.withProt q).rd b o n = h.rd b o n from rfl, h3]; rfl) hw
theorem at_faddr {off b o : Nat} (hx : ev e x = some (.pointer (some ⟨b, o, none⟩))) (hw : At prog ro (.o d r :: k) .norm ((t, .pointer (some ⟨b, o + off, none⟩)) :: e) h Q) : At prog ro (.o d (⟨some t, .faddr off x, none, bar⟩ :: r) :: k) .norm e h Q := at_free (by simp only [aop, hx]) rfl hw
theorem at_nilc {a : Addr} (hx : ev e x = some (.pointer (some a))) (hw : At prog ro (.o d r :: k) .norm ((t, .pointer (some a)) :: e) h Q) : At prog ro (.o d (⟨some t, .nilc x, none, bar⟩ :: r) :: k) .norm e h Q := at_free (by simp only [aop, hx]) rfl hw
/-- A part of a list. -/
theorem at_slc {esz i j : Nat} {lo hi : Option Operand} {p : Option Addr} {n c : Nat} (hx : ev e x = some (.slice p n c)) (hs : Sl K m (.slice p n c) l) (hlo : boundI e 0 lo = some (i : Int)) (hhi : boundI e n hi = some (j : Int)) (hz : K.esz = esz) (hij : i ≤ j) (hj : j ≤ l.length) (hw : ∀ p' c', Sl K m (.slice p' (j - i) c') ((l.drop i).take (j - i)) → At prog ro (.o d r :: k) .norm ((t, .slice p' (j - i) c') :: e) h Q) : At prog ro (.o d (⟨some t, .slc esz x lo hi, none, bar⟩ :: r) :: k) .norm e h Q := by
  subst hz
  have hp := hs.part i (j - i) (by omega)
  obtain ⟨p', c', he⟩ := hp.form
  have hl : ((l.drop i).take (j - i)).length = j - i := by simp; omega
  rw [hl] at he
  rw [he] at hp
  refine at_free ?_ rfl (hw p' c' hp)
  have hn := hs.len
  simp only [aop, hx, hlo, hhi]
  rw [if_pos ⟨by omega, by omega, by omega⟩]
  rw [← he]
  unfold AM.part
  cases p with
  | none => rfl
  | some a =>
    obtain ⟨b, o, sp⟩ := a
    have : sp = none := by
      obtain ⟨p1, c1, e1, h2, _⟩ := hs
      cases e1; exact h2 _ rfl
    subst this
    simp

theorem at_slcP {esz i j : Nat} {lo hi : Option Operand} {b o n c : Nat} (hx : ev e x = some (.slice (some ⟨b, o, none⟩) n c)) (hlo : boundI e 0 lo = some (i : Int)) (hhi : boundI e n hi = some (j : Int)) (hij : i ≤ j) (hj : j ≤ n) (hw : At prog ro (.o d r :: k) .norm ((t, .slice (some ⟨b, o + i * esz, none⟩) (j - i) (j - i)) :: e) h Q) : At prog ro (.o d (⟨some t, .slc esz x lo hi, none, bar⟩ :: r) :: k) .norm e h Q := by
  refine at_free ?_ rfl hw
  simp only [aop, hx, hlo, hhi]
  rw [if_pos ⟨by omega, by omega, by omega⟩]
  simp

/-! ### What is made -/
theorem at_alloc {zs : List Value} (hw : ∀ h', Old h h' → h'.size = h.size + 1 → h'.get h.size = some (.cells zs (some 0)) → At prog ro (.o d r :: k) .norm ((t, .pointer (some ⟨h.size, 0, none⟩)) :: e) h' Q) : At prog ro (.o d (⟨some t, .alloc zs, none, bar⟩ :: r) :: k) .norm e h Q :=
  at_one (opD_push (v := .pointer (some ⟨h.size, 0, none⟩)) (ob := .cells zs (some 0)) fun n => by simp only [aop]; rfl) (hw _ (.push _ _) rfl (by rw [Heap.get_push, if_pos rfl]))
theorem at_box (hx : ev e x = some v) (hw : ∀ h', Old h h' → h'.size = h.size + 1 → h'.get h.size = some (.cells (vcells v) (some 0)) → At prog ro (.o d r :: k) .norm ((t, .pointer (some ⟨h.size, 0, none⟩)) :: e) h' Q) : At prog ro (.o d (⟨some t, .box x, none, bar⟩ :: r) :: k) .norm e h Q :=
  at_one (opD_push (v := .pointer (some ⟨h.size, 0, none⟩)) (ob := .cells (vcells v) (some 0)) fun n => by simp only [aop, hx]; rfl) (hw _ (.push _ _) rfl (by rw [Heap.get_push, if_pos rfl]))
theorem at_bslice {esz len : Nat} {zs cs : List Value} {ps : List (Nat × Nat × Operand)} {qs : List (Nat × Nat × Value)} (hq : evps e ps = some qs) (hc : fillA zs qs = some cs) (hz : K.esz = esz) (hl : l.length = len) (hr : Cells K m cs l) (hw : ∀ h', Old h h' → h'.size = h.size + 1 → Ow K m h.size h' (.slice (some ⟨h.size, 0, none⟩) len len) l → h'.prot ≤ h.size → At prog ro (.o d r :: k) .norm ((t, .slice (some ⟨h.size, 0, none⟩) len len) :: e) h' Q) (hp : h.prot ≤ h.size) : At prog ro (.o d (⟨some t, .bslice esz len zs ps, none, bar⟩ :: r) :: k) .norm e h Q := by
  subst hz; subst hl
  refine at_one (opD_push (v := .slice (some ⟨h.size, 0, none⟩) l.length l.length) (ob := .cells cs (some K.esz)) fun n => by simp only [aop, hq, hc, Option.bind_some, Option.map_some]; rfl) (hw _ (.push _ _) rfl (.inr ⟨h.size, _, cs, rfl, Nat.le_refl _, by simp, hp, by rw [Heap.get_push, if_pos rfl], hr⟩) hp)
theorem cells_replicate {zs : List Value} {a : α} (ha : K.rd m zs a) : ∀ n, Cells K m ((List.replicate n zs).flatten) (List.replicate n a)
  | 0 => rfl
  | n + 1 => ⟨zs, _, rfl, ha, cells_replicate ha n⟩
theorem at_mkslice {esz bytes i j : Nat} {zs : List Value} {a : α} {k1 k2 : IntKind} (hx : ev e x = some (.int k1 (i : Int))) (hy : ev e y = some (.int k2 (j : Int))) (hij : i ≤ j) (hb : j * bytes ≤ 1099511627776) (hj : j ≤ 1099511627776) (hz : K.esz = esz) (ha : K.rd m zs a) (hp : h.prot ≤ h.size) (hw : ∀ h', Old h h' → h'.size = h.size + 1 → Ow K m h.size h' (.slice (some ⟨h.size, 0, none⟩) i j) (List.replicate i a) → At prog ro (.o d r :: k) .norm ((t, .slice (some ⟨h.size, 0, none⟩) i j) :: e) h' Q) : At prog ro (.o d (⟨some t, .mkslice esz bytes zs x y, none, bar⟩ :: r) :: k) .norm e h Q := by
  subst hz
  refine at_one (opD_push (v := .slice (some ⟨h.size, 0, none⟩) i j) (ob := .cells ((List.replicate i zs).flatten) (some K.esz)) fun n => ?_) (hw _ (.push _ _) rfl (.inr ⟨h.size, j, _, by rw [List.length_replicate], Nat.le_refl _, by simp, hp, by rw [Heap.get_push, if_pos rfl], cells_replicate ha i⟩))
  simp only [aop, hx, hy]
  rw [if_pos ⟨by omega, by omega, by simpa [limit] using hb, by simpa [limit] using hj⟩]
  simp

/-- What an append leaves. -/
structure Apd (K : Kind α) (m : M) (n : Nat) (v : Value) (h h' : Heap) (v' : Value) (l : List α) : Prop where
  but : But (blk v) h h'
  ow : Ow K m n h' v' l
  st : St h h'
  new : ∀ b, blk v' b → blk v b ∨ h.size ≤ b

theorem Ow.back {n p : Nat} {v : Value} (w : Ow K m n h v l) (hp : p ≤ n) : Ow K m n (h.withProt p) v l := by
  rcases w with h0 | ⟨b, c, cs, q0, q1, q2, q3, q4, q5⟩
  · exact .inl h0
  · exact .inr ⟨b, c, cs, q0, q1, q2, Nat.le_trans hp q1, q4, q5⟩
theorem Ow.pos {n : Nat} {v : Value} (o : Ow K m n h v l) (hl : l ≠ []) : ∃ b c, v = .slice (some ⟨b, 0, none⟩) l.length c ∧ n ≤ b ∧ b < h.size := by
  rcases o with ⟨_, h0⟩ | ⟨b, c, cs, h0, h1, h2, _⟩
  · exact absurd h0 hl
  · exact ⟨b, c, h0, h1, h2⟩
theorem Old.apd {h0 h1 h2 : Heap} {v v' : Value} {l l2 : List α} (o : Old h0 h1) (w : Ow K m h0.size h1 v l) (A : Apd K m h0.size v h1 h2 v' l2) : Old h0 h2 :=
  ⟨Nat.le_trans o.size A.but.size, A.but.prot.trans o.prot, fun b hb => by
    rw [A.but.get b (Nat.lt_of_lt_of_le hb o.size) (fun hbb => by have := (w.blk_ge hbb).1; omega), o.get b hb]⟩
theorem append_op {esz bytes n : Nat} {v u : Value} {l l' : List α} (hx : ev e x = some v) (hy : ev e y = some u) (ho : Ow K m n h v l) (hs : Sl K m u l') (hm : Sub m (mem h)) (hz : K.esz = esz) (hlim : (l.length + l'.length) * bytes ≤ 1099511627776) (hlim2 : l.length + l'.length ≤ 1099511627776) (hn : n ≤ h.size) (hp : h.prot ≤ h.size) :
    ∃ v' h', aop (.append esz bytes x y) e h = some (v', h') ∧ Apd K m n v h h' v' (l ++ l') := by
  subst hz
  obtain ⟨p, c, rfl⟩ := hs.form
  by_cases h0 : l' = []
  · subst h0
    obtain ⟨p', c', rfl⟩ := ho.form
    refine ⟨_, h, by simp only [aop, hx, hy, List.length_nil, if_true], ⟨⟨Nat.le_refl _, rfl, fun _ _ _ => rfl⟩, by rw [List.append_nil]; exact ho, .refl h, fun b hb => .inl hb⟩⟩
  · obtain ⟨p1, c1, e1, h2, h3, h4⟩ := hs
    cases e1
    obtain ⟨b, o, cs, rfl, k2, k3⟩ := h4 h0
    obtain ⟨k4, k5⟩ := rdm_rd (rdm_sub hm k2)
    have hlen : l'.length ≠ 0 := by simpa using h0
    have hok : cs.all cellOk = true := by
      have := k3.ok
      rw [List.all_eq_true] at this ⊢
      intro v hv
      have := this v hv
      simp only [Bool.and_eq_true] at this; exact this.1
    rcases ho with ⟨rfl, rfl⟩ | ⟨b', c', cs', rfl, q1, q2, q3, q4, q5⟩
    · simp only [List.nil_append, List.length_nil, Nat.zero_add] at *
      refine ⟨.slice (some ⟨h.size, 0, none⟩) l'.length l'.length, h.push (.cells cs (some K.esz)), ?_, ⟨(Old.push _ _).but _, .inr ⟨h.size, _, cs, rfl, hn, by simp, hp, by rw [Heap.get_push, if_pos rfl], k3⟩, .push _ _, fun b hb => .inr (by rw [show b = h.size from hb]; exact Nat.le_refl _)⟩⟩
      simp only [aop, hx, hy]
      rw [if_neg hlen, if_pos ⟨by rw [Nat.zero_add]; exact hlim, by rw [Nat.zero_add]; exact hlim2⟩]
      simp only [k4, hok, if_true]
    · refine ⟨.slice (some ⟨h.size, 0, none⟩) (l.length + l'.length) (l.length + l'.length), (h.set b' .dead).push (.cells (cs' ++ cs) (some K.esz)), ?_, ⟨?_, .inr ⟨h.size, _, cs' ++ cs, by rw [List.length_append], hn, by simp, hp, by rw [Heap.get_push, if_pos (by simp)], q5.append k3⟩, ?_, fun b hb => .inr (by rw [show b = h.size from hb]; exact Nat.le_refl _)⟩⟩
      · simp only [aop, hx, hy]
        rw [if_neg hlen, if_pos ⟨hlim, hlim2⟩]
        simp only [k4, hok, if_true, q4]
        rw [if_pos ⟨trivial, q5.len, q3, K.pos⟩]
      · refine ⟨by simp, rfl, fun z hz hne => ?_⟩
        rw [Heap.get_push, if_neg (by simp; omega), Heap.get_set, if_neg (show ¬ z = b' from hne)]
      · exact (St.set _ q3 (fun x hx => by rw [q4] at hx; cases hx)).trans (.push _ _)

theorem at_append {esz bytes n : Nat} {l' : List α} (hb : (d && !bar) = false) (hx : ev e x = some v) (hy : ev e y = some u) (ho : Ow K m n h v l) (hs : Sl K m u l') (hm : Sub m (mem h)) (hz : K.esz = esz) (hlim : (l.length + l'.length) * bytes ≤ 1099511627776 ∧ l.length + l'.length ≤ 1099511627776) (hn : n ≤ h.size ∧ h.prot ≤ h.size)
    (hw : ∀ v' h', Apd K m n v h h' v' (l ++ l') → At prog ro (.o d r :: k) .norm ((t, v') :: e) h' Q) : At prog ro (.o d (⟨some t, .append esz bytes x y, none, bar⟩ :: r) :: k) .norm e h Q := by
  obtain ⟨v', h', h1, h2⟩ := append_op hx hy ho hs hm hz hlim.1 hlim.2 hn.1 hn.2
  exact at_one (opD_eq hb h1) (hw v' h' h2)

/-- One thing put behind. -/
theorem at_push {esz bytes n t1 : Nat} {zs cs : List Value} {ps : List (Nat × Nat × Operand)} {qs : List (Nat × Nat × Value)} {a : α} {bar' : Bool} (hb : (d && !bar) = false) (hq : evps e ps = some qs) (hc : fillA zs qs = some cs) (hx : ev ((t1, .slice (some ⟨h.size, 0, none⟩) 1 1) :: e) x = some v) (hy : ev ((t1, .slice (some ⟨h.size, 0, none⟩) 1 1) :: e) y = some (.slice (some ⟨h.size, 0, none⟩) 1 1)) (ho : Ow K m n h v l) (hr : K.rd m cs a) (hm : Sub m (mem h)) (hz : K.esz = esz) (hlim : (l.length + 1) * bytes ≤ 1099511627776 ∧ l.length + 1 ≤ 1099511627776) (hn : n ≤ h.size ∧ h.prot ≤ h.size)
    (hw : ∀ v' h', Apd K m n v h h' v' (l ++ [a]) → At prog ro (.o d r :: k) .norm ((t, v') :: (t1, .slice (some ⟨h.size, 0, none⟩) 1 1) :: e) h' Q) : At prog ro (.o d (⟨some t1, .bslice esz 1 zs ps, none, bar'⟩ :: ⟨some t, .append esz bytes x y, none, bar⟩ :: r) :: k) .norm e h Q := by
  subst hz
  refine at_one (h' := h.push (.cells cs (some K.esz))) (v := .slice (some ⟨h.size, 0, none⟩) 1 1) ?_ ?_
  · exact opD_push fun n => by simp only [aop, hq, hc, Option.bind_some, Option.map_some]; rfl
  have ol := Old.push h (.cells cs (some K.esz))
  have hm' : Sub m (mem (h.push (.cells cs (some K.esz)))) := hm.trans ol.sub
  have ho' := ho.old ol
  have hcells : rdm (mem (h.push (.cells cs (some K.esz)))) h.size 0 K.esz = some cs := by
    have := rdm_of_get (h := h.push (.cells cs (some K.esz))) (b := h.size) (o := 0) (n := K.esz) (c := cs) (own := some K.esz) (by simp) (by rw [Heap.get_push, if_pos rfl]) (by rw [K.len hr]; omega) (by
      rw [List.all_eq_true]
      intro v hv
      have := K.ok hr
      rw [List.all_eq_true] at this
      have := this v (List.mem_of_mem_drop (List.mem_of_mem_take hv))
      simp only [Bool.and_eq_true] at this
      exact this.2)
    rw [this, List.drop_zero, ← K.len hr, List.take_length]
  -- by hand, as what is appended is new
  have hok : cs.all cellOk = true := by
    have := K.ok hr
    rw [List.all_eq_true] at this ⊢
    intro v hv
    have := this v hv
    simp only [Bool.and_eq_true] at this; exact this.1
  have k4 := (rdm_rd hcells).1
  rcases ho' with ⟨rfl, rfl⟩ | ⟨b', c', cs', rfl, q1, q2, q3, q4, q5⟩
  · refine at_one (v := .slice (some ⟨h.size + 1, 0, none⟩) 1 1) (h' := (h.push (.cells cs (some K.esz))).push (.cells cs (some K.esz))) (opD_eq hb ?_) (hw _ _ ⟨(ol.trans (.push _ _)).but _, .inr ⟨h.size + 1, _, cs, rfl, by omega, by simp, by simp; omega, by rw [Heap.get_push, if_pos (by simp)], Cells.one hr⟩, ol.st.trans (.push _ _), fun b hb => .inr (by rw [show b = h.size + 1 from hb]; omega)⟩)
    simp only [aop, put, hx, hy]
    simp only [List.length_nil] at hlim
    rw [if_neg (show ¬ (1 : Nat) = 0 by decide), if_pos ⟨by simpa [limit] using hlim.1, by simp [limit]⟩]
    simp only [Nat.one_mul, k4, hok, if_true]
    rfl
  · have hb' : b' < h.size := by
      rcases Nat.lt_or_ge b' h.size with q | q
      · exact q
      · exfalso
        rcases ho with ⟨h0, _⟩ | ⟨b2, c2, cs2, h0, _, h2, _⟩
        · cases h0
        · cases h0; omega
    refine at_one (v := .slice (some ⟨h.size + 1, 0, none⟩) (l.length + 1) (l.length + 1)) (h' := ((h.push (.cells cs (some K.esz))).set b' .dead).push (.cells (cs' ++ cs) (some K.esz))) (opD_eq hb ?_) (hw _ _ ⟨⟨by simp; omega, rfl, fun z hz hne => ?_⟩, .inr ⟨h.size + 1, _, cs' ++ cs, by rw [List.length_append]; rfl, by omega, by simp, by simp; omega, by rw [Heap.get_push, if_pos (by simp)], q5.append (Cells.one hr)⟩, ol.st.trans ((St.set _ q3 (fun x hx => by rw [q4] at hx; cases hx)).trans (.push _ _)), fun b hb => .inr (by rw [show b = h.size + 1 from hb]; omega)⟩)
    · simp only [aop, put, hx, hy]
      rw [if_neg (show ¬ (1 : Nat) = 0 by decide), if_pos ⟨by simpa [limit] using hlim.1, by simpa [limit] using hlim.2⟩]
      simp only [Nat.one_mul, k4, hok, if_true, q4]
      rw [if_pos ⟨trivial, q5.len, q3, K.pos⟩]
      rfl
    · rw [Heap.get_push, if_neg (by simp; omega), Heap.get_set, if_neg (show ¬ z = b' from hne), Heap.get_push, if_neg (by omega)]

/-! ### Stores -/
theorem wr_get {b o z : Nat} {c vs : List Value} (hg : h.get b = some (.cells c (some z))) (hp : h.prot ≤ b) (hn : o + vs.length ≤ c.length) (hok : vs.all cellOk = true) : h.wr b o vs = some (h.set b (.cells (splice c o vs) (some z))) := by
  unfold Heap.wr; simp only [hg]; rw [if_pos ⟨hp, hn, hok⟩]
/-- What a store leaves. -/
structure Sto (b : Nat) (c : List Value) (z : Nat) (h h' : Heap) : Prop where
  but : But (· = b) h h'
  get : h'.get b = some (.cells c (some z))
  st : St h h'
  size : h'.size = h.size
theorem at_st {dst : Option Nat} {n b o z : Nat} {c vs : List Value} (hb : (d && !bar) = false) (hx : ev e x = some (.pointer (some ⟨b, o, none⟩))) (hy : ev e y = some v) (hv : vcells v = vs) (hl : vs.length = n) (hg : h.get b = some (.cells c (some z))) (hp : h.prot ≤ b) (hn : o + vs.length ≤ c.length) (hok : vs.all cellOk = true)
    (hw : ∀ h', Sto b (splice c o vs) z h h' → At prog ro (.o d r :: k) .norm (put e dst undef) h' Q) : At prog ro (.o d (⟨dst, .store n x y, none, bar⟩ :: r) :: k) .norm e h Q := by
  subst hv
  refine at_one (v := undef) (h' := h.set b (.cells (splice c o (vcells v)) (some z))) (opD_eq hb ?_) (hw _ ⟨⟨Nat.le_refl _, rfl, fun z hz hne => by rw [Heap.get_set, if_neg hne]⟩, by rw [Heap.get_set, if_pos rfl], .set _ hp (fun x hx => by rw [hg] at hx; cases hx), rfl⟩)
  simp only [aop, hx, hy]
  rw [if_pos hl, wr_get hg hp hn hok]; rfl
/-- To an element of one's own. -/
theorem at_stE {dst : Option Nat} {n q b i c N : Nat} {a : α} {vs : List Value} (hb : (d && !bar) = false) (hx : ev e x = some (.pointer (some ⟨b, 0 + i * q, none⟩))) (hy : ev e y = some v) (hv : vcells v = vs) (hz : K.esz = q) (ho : Ow K m n h (.slice (some ⟨b, 0, none⟩) N c) l) (hi : i < l.length) (hr : K.rd m vs a)
    (hw : ∀ h', But (· = b) h h' → St h h' → h'.size = h.size → Ow K m n h' (.slice (some ⟨b, 0, none⟩) N c) (l.set i a) → At prog ro (.o d r :: k) .norm (put e dst undef) h' Q) : At prog ro (.o d (⟨dst, .store q x y, none, bar⟩ :: r) :: k) .norm e h Q := by
  subst hz
  rcases ho with ⟨h0, _⟩ | ⟨b', c', cs', h0, q1, q2, q3, q4, q5⟩
  · cases h0
  cases h0
  have hlen := K.len hr
  have hok : vs.all cellOk = true := by
    have := K.ok hr
    rw [List.all_eq_true] at this ⊢
    intro v hv
    have := this v hv
    simp only [Bool.and_eq_true] at this; exact this.1
  rw [Nat.zero_add] at hx
  refine at_st hb hx hy hv hlen q4 q3 ?_ hok (fun h' s => hw h' s.but s.st s.size (.inr ⟨b, c, _, by rw [List.length_set], q1, by rw [s.size]; exact q2, by rw [s.but.prot]; exact q3, s.get, q5.set hi hr⟩))
  rw [hlen, q5.len]
  have := Nat.mul_le_mul_right K.esz (show i + 1 ≤ l.length by omega)
  rw [Nat.add_mul] at this; omega

theorem at_clear {dst : Option Nat} {b o n c z0 : Nat} {zs cs : List Value} (hb : (d && !bar) = false) (hx : ev e x = some (.slice (some ⟨b, o, none⟩) n c)) (hg : h.get b = some (.cells cs (some z0))) (hp : h.prot ≤ b) (hz : zs ≠ [])
    (hn : o + n * zs.length ≤ cs.length) (hok : zs.all cellOk = true) (hw : ∀ h', Sto b (splice cs o ((List.replicate n zs).flatten)) z0 h h' → At prog ro (.o d r :: k) .norm (put e dst (.tuple #[])) h' Q) : At prog ro (.o d (⟨dst, .clear zs x, none, bar⟩ :: r) :: k) .norm e h Q := by
  have hlen : ((List.replicate n zs).flatten).length = n * zs.length := by simp
  by_cases h0 : n = 0
  · subst h0
    refine at_one (v := .tuple #[]) (h' := h) (opD_eq hb (by simp only [aop, hx, if_true])) (hw _ ⟨⟨Nat.le_refl _, rfl, fun _ _ _ => rfl⟩, ?_, .refl h, rfl⟩)
    rw [hg]; simp [splice]
  · have hwr := wr_get (vs := (List.replicate n zs).flatten) hg hp (by rw [hlen]; exact hn) (by
      rw [List.all_eq_true] at hok ⊢
      intro v hv
      obtain ⟨l, hl, hv⟩ := List.mem_flatten.1 hv
      rw [List.mem_replicate] at hl
      rw [hl.2] at hv; exact hok v hv)
    refine at_one (v := .tuple #[]) (h' := h.set b (.cells (splice cs o ((List.replicate n zs).flatten)) (some z0))) (opD_eq hb ?_) (hw _ ⟨⟨Nat.le_refl _, rfl, fun z hz hne => by rw [Heap.get_set, if_neg hne]⟩, by rw [Heap.get_set, if_pos rfl], .set _ hp (fun x hx => by rw [hg] at hx; cases hx), rfl⟩)
    simp only [aop, hx]
    rw [if_neg h0, hwr]; rfl

/-! ### Calls -/
theorem at_cl {dst : Option Nat} {f : Operand} {as : List Operand} {fn : FuncId} {first captured : Array Value} {vs args : List Value} (hb : (d && !bar) = false) (hf : ev e f = some (.func (.func fn) first captured)) (hvs : evs e as = some vs) (ha : first.toList ++ vs ++ captured.toList = args)
    (hc : Runs prog fn args h (fun v h' => St h h' → h'.prot = h.prot → At prog ro (.o d r :: k) .norm (put e dst v) h' Q)) : At prog ro (.o d (⟨dst, .call f as, none, bar⟩ :: r) :: k) .norm e h Q := by
  subst ha
  have hc' := hc.mono (R' := fun v h' => At prog ro (.o d r :: k) .norm (put e dst v) h' Q) (fun v h' s p q => q s p)
  cases d with
  | false =>
    cases bar with
    | false => exact at_call0 hf hvs hc'
    | true => exact at_call hf hvs hc'
  | true =>
    cases bar with
    | true => exact at_call hf hvs hc'
    | false => cases hb
/-- One whose place is open: it leaves all as it is. -/
theorem at_clO {dst : Option Nat} {f : Operand} {as : List Operand} {fn : FuncId} {first captured : Array Value} {vs args : List Value} (hf : ev e f = some (.func (.func fn) first captured)) (hvs : evs e as = some vs) (ha : first.toList ++ vs ++ captured.toList = args)
    (hc : Runs prog fn args (h.withProt h.size) (fun v h' => Old h (h'.withProt h.prot) → At prog ro (.o true r :: k) .norm (put e dst v) (h'.withProt h.prot) Q)) : At prog ro (.o true (⟨dst, .call f as, none, false⟩ :: r) :: k) .norm e h Q := by
  subst ha
  intro H hH
  obtain ⟨n, v, H1, h1, hr, hp, hl, hs, hp', hq⟩ := hc (H.withProt H.size) hH.wp
  have hold := Old.of hs
  obtain ⟨m, e2, H2, h2, hr2, hp2, hl2, hs2, hq2⟩ := hq hold (H1.withProt H.prot) ⟨hl.size, hH.prot, hl.obj⟩
  refine ⟨Nat.max n m, e2, H2, h2, ?_, hp2, hl2, hold.st.trans hs2, hq2⟩
  have h3 : evI (callV prog (Nat.max n m)) ⟨dst, .call f as, none, false⟩ e (H.withProt H.size) = some (put e dst v, H1) := by
    unfold evI
    simp only [wanted, opV, hf, hvs]
    rw [callV_mono prog (Nat.le_max_left n m) _ _ _ _ hr]; rfl
  simp only [evL, cond_true, evID, cond_false, h3, Option.map_some]
  exact evL_mono (callV_mono prog (Nat.le_max_right n m)) hr2

/-- A call, by a body that gives up all rights to what was there. -/
theorem runs_pure {fn : FuncId} {f : AFn} {args : List Value} {R : Value → Heap → Prop} (hp : prog fn = some (.code f)) (hn : args.length = f.np) (hs : h.prot ≤ h.size)
    (hw : ∀ g, g = h.withProt h.size → Sub (mem h) (fz g) → g.prot = g.size → At prog none [.c f.body] .norm (argEnv 0 args) g (fun x e h1 => (∀ i, x ≠ .exit i) ∧ ∃ vs, resL e h1 f.res = some vs ∧ (St g h1 → Old h (h1.withProt h.prot) → R (tupV vs) (h1.withProt h.prot)))) : Runs prog fn args h R := by
  refine runs_code hp hn (Less.raise h hs) (St.wp h) ?_
  have := hw _ rfl (fz_raise h) rfl
  refine WP.mono this ?_
  rintro x e h1 s ⟨q1, vs, q2, q3⟩
  exact ⟨q1, vs, q2, q3 s (Old.of s)⟩
end
end Go.AM.G
