/- The library's TrailingZeros64 as an oracle: it reads a table that stands in a variable of the library's. -/
import Derived.Test.YtialmffcjaechaaDoorAmCall
import Derived.Shelf.Spec.TrailingZeros
namespace Go.AM
set_option linter.unusedVariables false
set_option linter.unusedSimpArgs false
variable {P : Program}

theorem TabIn.tabAt {w : World} {g : Nat} (h : TabIn w g) : Go.Proofs.TabAt g Go.Lib.deBruijn64tab w := by
  obtain ⟨O, h1, h2⟩ := h
  intro j hj
  cases O with
  | cells C T fz =>
    unfold World.cell?
    simp only [h1, Option.isSome_none, Bool.false_eq_true, if_false]
    exact h2 j hj
  | _ => exact h2.elim

theorem TabIn.of_cells {w : World} {g : Nat} (h : ∀ j, j < 64 → w.cell? ⟨g, j, none⟩ = some (.int .u8 ((Go.Lib.deBruijn64tab.getD j 0 : Nat) : Int))) : TabIn w g := by
  have h0 := h 0 (by decide)
  unfold World.cell? at h0
  simp only at h0
  split at h0
  · rename_i C T fz hg
    refine ⟨_, hg, fun j hj => ?_⟩
    have := h j hj
    unfold World.cell? at this
    simpa only [hg, Option.isSome_none, Bool.false_eq_true, if_false] using this
  · cases h0
theorem tab_cast {j : Nat} : (Go.Lib.deBruijn64tab.map fun n => ((n : Nat) : Int)).getD j 0 = ((Go.Lib.deBruijn64tab.getD j 0 : Nat) : Int) := by
  rw [List.getD_eq_getElem?_getD, List.getD_eq_getElem?_getD, List.getElem?_map]
  cases Go.Lib.deBruijn64tab[j]? <;> rfl

/-- TrailingZeros64. -/
def tzO : List Value → Heap → Option (Value × Heap) := fun args h => match args with
  | [.int .u64 x] => if 0 ≤ x ∧ x < 18446744073709551616 then some (.int .i64 (Go.Lib.ctz 64 x.toNat), h) else none
  | _ => none

theorem tz_ok {k : FuncId} (hfn : ∃ f, P.funcs[k]? = some f ∧ (f.name == "runtime.NumGoroutine") = false ∧ f.body.isNone = false) {g : Nat} (hg : pinned P g = true)
    (hc : ∀ (x : Nat), x < 18446744073709551616 → ∀ w : World, (x ≠ 0 → Go.Proofs.TabAt g Go.Lib.deBruijn64tab w) → Calls P k #[.int .u64 x] w fun e w' => e = .returned (.int .i64 (Go.Lib.ctz 64 x)) ∧ w' = w) : OracleOk P k tzO := by
  refine ⟨hfn, fun args h v h' hr => ?_, fun args h v h' hr ι w cargs hS hv => ?_⟩
  · unfold tzO at hr
    split at hr
    · split at hr
      · cases hr; exact Ext.refl _
      · cases hr
    · cases hr
  · refine callsIn_wide.2 ?_
    unfold tzO at hr
    split at hr
    · rename_i x
      split at hr
      · rename_i hx
        cases hr
        obtain ⟨u, r, rfl, hu, hr2⟩ := hv.inv
        obtain rfl := hr2.nil_inv
        obtain rfl := hu.scal rfl
        obtain ⟨n, rfl⟩ := Int.eq_ofNat_of_zero_le hx.1
        refine (hc n (by omega) w (fun _ => (hS.pin g hg).1.tabAt)).mono ?_
        rintro e w' ⟨rfl, rfl⟩
        exact ⟨_, ι, rfl, V.int _ _, Rel.refl hS⟩
      · cases hr
    · cases hr
end Go.AM
