/- A part of the abstract machine, or of what is proved of the program by it. -/
import Derived.Test.YtenihfdlckgmmaaGreatAmSort
namespace Go.AM
set_option linter.unusedVariables false
set_option linter.unusedSimpArgs false
def insI (x:Int):List Int→List Int
  | []=>[x]
  | y::r=>bif decide (x≤y) then x::y::r else y::insI x r
def sortI:List Int→List Int
  | []=>[]
  | x::r=>insI x (sortI r)
theorem insI_perm (x:Int):∀ l,(insI x l).Perm (x::l)
  | []=>.refl _
  | y::r=>by
    unfold insI
    cases decide (x≤y) with
    | true=>exact .refl _
    | false=>exact ((insI_perm x r).cons y).trans (.swap _ _ _)
theorem sortI_perm:∀ l,(sortI l).Perm l
  | []=>.refl _
  | x::r=>(insI_perm x _).trans ((sortI_perm r).cons x)
theorem insI_sorted (x:Int):∀ l:List Int,l.Pairwise (·≤·)→(insI x l).Pairwise (·≤·)
  | [],_=>by simp [insI]
  | y::r,h=>by
    obtain ⟨h1,h2⟩:=List.pairwise_cons.1 h
    unfold insI
    by_cases c:x≤y
    · rw [decide_eq_true c]
      refine List.pairwise_cons.2 ⟨fun a ha=>?_,h⟩
      rcases List.mem_cons.1 ha with rfl|ha
      · exact c
      · exact Int.le_trans c (h1 a ha)
    · rw [decide_eq_false c]
      refine List.pairwise_cons.2 ⟨fun a ha=>?_,insI_sorted x r h2⟩
      rcases List.mem_cons.1 ((insI_perm x r).mem_iff.1 ha) with rfl|ha
      · omega
      · exact h1 a ha
theorem sortI_sorted:∀ l:List Int,(sortI l).Pairwise (·≤·)
  | []=>.nil
  | x::r=>insI_sorted x _ (sortI_sorted r)
theorem sortL_sorted (l:List Int):(sortL l).Pairwise (·≤·):=by
  have h:=List.pairwise_mergeSort (le:=fun x y:Int=>decide (x≤y)) (fun a b c h1 h2=>by simp at *;omega) (fun a b=>by simp;omega) l
  exact h.imp (fun h=>by simpa using h)
theorem sortL_eq (l:List Int):sortL l=sortI l:=by
  refine List.Perm.eq_of_pairwise (le:=(·≤·)) (fun a b _ _ h1 h2=>Int.le_antisymm h1 h2) (sortL_sorted l) (sortI_sorted l) ?_
  exact (List.mergeSort_perm l _).trans (sortI_perm l).symm
/-- The same oracle. -/
def sortOI:List Value→Heap→Option (Value × Heap)
  | [.slice p n c],h =>
    if n=0 then some (.tuple #[],h) else
    match p with
    | some ⟨b,o,none⟩=>match h.get b with
      | some (.cells cs (some z)) =>
        if h.prot≤b∧o + n≤cs.length∧n < 4611686018427387904 then
          match intsOf ((cs.drop o).take n) with
          | some zs=>some (.tuple #[],h.set b (.cells (splice cs o ((sortI zs).map (.int .i64))) (some z)))
          | none=>none
        else none
      | _=>none
    | _=>none
  | _,_=>none
theorem sortOI_eq:sortOI=sortO:=by
  funext xs h
  unfold sortOI sortO
  simp only [sortL_eq]
  rfl
theorem sortOI_ok {P:Program} {k:FuncId} (h:OracleOk P k sortO):OracleOk P k sortOI:=by rw [sortOI_eq];exact h
end Go.AM

