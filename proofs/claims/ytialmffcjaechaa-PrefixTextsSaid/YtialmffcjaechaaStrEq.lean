/- Texts are alike where their bytes are. -/
import Derived.Test.YtialmffcjaechaaAmRules
namespace Go.AM.G
open Go.AM hiding Kt At WP WL Runs RunsY
set_option linter.unusedVariables false
set_option linter.unusedSectionVars false
set_option linter.unusedSimpArgs false

theorem bytes_loop (bs : ByteArray) : ∀ (n i : Nat) (r : List UInt8), bs.size - i = n → ByteArray.toList.loop bs i r = r.reverse ++ bs.data.toList.drop i := by
  intro n
  induction n with
  | zero =>
    intro i r hn
    have hsz : bs.size = bs.data.size := rfl
    unfold ByteArray.toList.loop
    rw [if_neg (by omega), List.drop_eq_nil_of_le (by simp; omega), List.append_nil]
  | succ n ih =>
    intro i r hn
    have hsz : bs.size = bs.data.size := rfl
    unfold ByteArray.toList.loop
    rw [if_pos (by omega), ih (i + 1) _ (by omega)]
    have hi : i < bs.data.toList.length := by simp; omega
    rw [List.drop_eq_getElem_cons hi, List.reverse_cons, List.append_assoc]
    congr 2
    simp only [List.cons_append, List.nil_append, List.cons.injEq, and_true]
    show bs.get! i = _
    unfold ByteArray.get!
    rw [Array.getElem_toList]
    exact getElem!_pos bs.data i (by simpa using hi)
theorem bytes_toList (bs : ByteArray) : bs.toList = bs.data.toList := by
  unfold ByteArray.toList
  rw [bytes_loop bs _ 0 [] rfl]; rfl
theorem toList_inj {a b : ByteArray} : a.toList = b.toList ↔ a = b := by
  rw [bytes_toList, bytes_toList]
  constructor
  · intro h
    cases a; cases b
    congr 1
    exact Array.toList_inj.1 h
  · rintro rfl; rfl
instance : EqV Value.string := ⟨fun a b => ⟨fun c => by rw [b_seq, beq_iff_eq.2 (toList_inj.2 c)], fun c => by rw [b_seq, beq_eq_false_iff_ne.2 (fun h => c (toList_inj.1 h))]⟩⟩
end Go.AM.G
