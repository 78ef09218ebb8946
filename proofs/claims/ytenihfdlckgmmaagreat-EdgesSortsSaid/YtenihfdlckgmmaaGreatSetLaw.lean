/- A part of the abstract machine, or of what is proved of the program by it. -/
import Derived.Test.YtenihfdlckgmmaaGreatAmSort
namespace Go.AM.G.Set
open Go.AM
set_option linter.unusedVariables false
set_option linter.unusedSimpArgs false
set_option linter.unusedSectionVars false

/-- Each row of alike things, once. -/
def compactL {α:Type} [DecidableEq α]:List α→List α
  | []=>[]
  | [x]=>[x]
  | x::y::r=>if x=y then compactL (y::r) else x::compactL (y::r)

section
variable {α:Type} [DecidableEq α]
theorem mem_compactL {a:α}:∀ {l:List α},a ∈ compactL l ↔ a ∈ l
  | []=>Iff.rfl
  | [x]=>Iff.rfl
  | x::y::r=>by
    have ih:=mem_compactL (a:=a) (l:=y::r)
    unfold compactL
    split
    · rename_i h;subst h
      rw [ih];simp
    · simp only [List.mem_cons] at ih ⊢;rw [ih]
/-- What stands at i is like what stands ahead of it: it falls away. -/
theorem compactL_append:∀ (l:List α) (x:α) ,compactL (l++[x])=if l.getLast? = some x then compactL l else compactL l++[x]
  | [],x=>by simp [compactL]
  | [y],x=>by
    simp only [List.cons_append,List.nil_append,List.getLast?_singleton,Option.some.injEq]
    by_cases h:y=x
    · subst h;simp [compactL]
    · rw [if_neg h];simp [compactL,h]
  | y::z::r,x=>by
    have ih:=compactL_append (z::r) x
    have e:(y::z::r).getLast? = (z::r).getLast?:=by simp [List.getLast?_cons_cons]
    rw [e]
    have e2:(y::z::r)++[x]=y::z::(r++[x]):=rfl
    have e3:(z::r)++[x]=z::(r++[x]):=rfl
    rw [e3] at ih
    rw [e2]
    by_cases h:y=z
    · unfold compactL;rw [if_pos h,if_pos h];exact ih
    · rw [show compactL (y::z::(r++[x]))=y::compactL (z::(r++[x])) by conv=>lhs;unfold compactL;rw [if_neg h]]
      rw [show compactL (y::z::r)=y::compactL (z::r) by conv=>lhs;unfold compactL;rw [if_neg h]]
      rw [ih];split <;> rfl
theorem compactL_take {l:List α} {i:Nat} (h1:0 < i) (h:i < l.length):compactL (l.take (i + 1))=if l[i]=l[i - 1] then compactL (l.take i) else compactL (l.take i)++[l[i]]:=by
  rw [List.take_succ_eq_append_getElem h,compactL_append]
  have:(l.take i).getLast? = some l[i - 1]:=by
    rw [List.getLast?_eq_getElem?,List.length_take,Nat.min_eq_left (by omega),List.getElem?_take,if_pos (by omega),List.getElem?_eq_getElem (by omega)]
  rw [this]
  by_cases e:l[i]=l[i - 1]
  · rw [if_pos e,if_pos (by rw [e])]
  · rw [if_neg e,if_neg (fun h=>e (Option.some.inj h).symm)]
theorem compactL_short {l:List α} (h:l.length < 2):compactL l=l:=by
  match l with
  | []=>rfl
  | [x]=>rfl
  | x::y::r=>simp at h;omega
/-- No two neighbours alike: all stays. -/
theorem compactL_id:∀ {l:List α},(∀ i,0 < i→(h:i < l.length)→l[i]≠l[i - 1])→compactL l=l
  | [],_=>rfl
  | [x],_=>rfl
  | x::y::r,h=>by
    have h0:=h 1 (by omega) (by simp)
    simp at h0
    unfold compactL
    rw [if_neg (fun e=>h0 e.symm),compactL_id (l:=y::r) (fun i hi hl=>?_)]
    have:=h (i + 1) (by omega) (by simpa using hl)
    obtain ⟨j,rfl⟩:∃ j,i=j + 1:=⟨i - 1,by omega⟩
    simpa using this
end

def setL (l:List Int):List Int:=compactL (sortL l)
end Go.AM.G.Set

