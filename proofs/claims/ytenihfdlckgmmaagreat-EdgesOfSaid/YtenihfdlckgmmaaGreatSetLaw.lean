/- A part of the abstract machine, or of what is proved of the program by it. -/
import Derived.Test.YtenihfdlckgmmaaGreatAmSort
namespace Go.AM.G.Set
open Go.AM
set_option linter.unusedVariables false
set_option linter.unusedSimpArgs false
set_option linter.unusedSectionVars false

/-- Each row of alike things, once. -/
def compactL {α:Type} [DecidableEq α]:List α→List α
  | []=>[]
  | [x]=>[x]
  | x::y::r=>if x=y then compactL (y::r) else x::compactL (y::r)

section
variable {α:Type} [DecidableEq α]
theorem mem_compactL {a:α}:∀ {l:List α},a ∈ compactL l ↔ a ∈ l
  | []=>Iff.rfl
  | [x]=>Iff.rfl
  | x::y::r=>by
    have ih:=mem_compactL (a:=a) (l:=y::r)
    unfold compactL
    split
    · rename_i h;subst h
      rw [ih];simp
    · simp only [List.mem_cons] at ih ⊢;rw [ih]
/-- What stands at i is like what stands ahead of it: it falls away. -/
theorem compactL_append:∀ (l:List α) (x:α) ,compactL (l++[x])=if l.getLast? = some x then compactL l else compactL l++[x]
  | [],x=>by simp [compactL]
  | [y],x=>by
    simp only [List.cons_append,List.nil_append,List.getLast?_singleton,Option.some.injEq]
    by_cases h:y=x
    · subst h;simp [compactL]
    · rw [if_neg h];simp [compactL,h]
  | y::z::r,x=>by
    have ih:=compactL_append (z::r) x
    have e:(y::z::r).getLast? = (z::r).getLast?:=by simp [List.getLast?_cons_cons]
    rw [e]
    have e2:(y::z::r)++[x]=y::z::(r++[x]):=rfl
    have e3:(z::r)++[x]=z::(r++[x]):=rfl
    rw [e3] at ih
    rw [e2]
    by_cases h:y=z
    · unfold compactL;rw [if_pos h,if_pos h];exact ih
    · rw [show compactL (y::z::(r++[x]))=y::compactL (z::(r++[x])) by conv=>lhs;unfold compactL;rw [if_neg h]]
      rw [show compactL (y::z::r)=y::compactL (z::r) by conv=>lhs;unfold compactL;rw [if_neg h]]
      rw [ih];split <;> rfl
theorem compactL_take {l:List α} {i:Nat} (h1:0 < i) (h:i < l.length):compactL (l.take (i + 1))=if l[i]=l[i - 1] then compactL (l.take i) else compactL (l.take i)++[l[i]]:=by
  rw [List.take_succ_eq_append_getElem h,compactL_append]
  have:(l.take i).getLast? = some l[i - 1]:=by
    rw [List.getLast?_eq_getElem?,List.length_take,Nat.min_eq_left (by omega),List.getElem?_take,if_pos (by omega),List.getElem?_eq_getElem (by omega)]
  rw [this]
  by_cases e:l[i]=l[i - 1]
  · rw [if_pos e,if_pos (by rw [e])]
  · rw [if_neg e,if_neg (fun h=>e (Option.some.inj h).symm)]
theorem compactL_le:∀ {l:List α},(compactL l).length≤l.length
  | []=>Nat.le_refl _
  | [x]=>Nat.le_refl _
  | x::y::r=>by
    have ih:=compactL_le (l:=y::r)
    unfold compactL
    split
    · simp only [List.length_cons] at ih ⊢;omega
    · simp only [List.length_cons] at ih ⊢;omega
theorem compactL_short {l:List α} (h:l.length < 2):compactL l=l:=by
  match l with
  | []=>rfl
  | [x]=>rfl
  | x::y::r=>simp at h;omega
/-- No two neighbours alike: all stays. -/
theorem compactL_id:∀ {l:List α},(∀ i,0 < i→(h:i < l.length)→l[i]≠l[i - 1])→compactL l=l
  | [],_=>rfl
  | [x],_=>rfl
  | x::y::r,h=>by
    have h0:=h 1 (by omega) (by simp)
    simp at h0
    unfold compactL
    rw [if_neg (fun e=>h0 e.symm),compactL_id (l:=y::r) (fun i hi hl=>?_)]
    have:=h (i + 1) (by omega) (by simpa using hl)
    obtain ⟨j,rfl⟩:∃ j,i=j + 1:=⟨i - 1,by omega⟩
    simpa using this
end

theorem compactL_lt:∀ {l:List Int},l.Pairwise (fun a b=>a≤b)→(compactL l).Pairwise (fun a b=>a < b)
  | [],_=>by simp [compactL]
  | [x],_=>by simp [compactL]
  | x::y::r,h=>by
    rw [List.pairwise_cons] at h
    have ih:=compactL_lt h.2
    unfold compactL
    split
    · exact ih
    · rename_i hne
      rw [List.pairwise_cons]
      refine ⟨fun a ha=>?_,ih⟩
      have hxy:=h.1 y (by simp)
      rw [mem_compactL] at ha
      have h2:=h.2
      rw [List.pairwise_cons] at h2
      rcases List.mem_cons.1 ha with rfl|ha
      · omega
      · have:=h2.1 a ha;omega

def setL (l:List Int):List Int:=compactL (sortL l)
theorem mem_setL {l:List Int} {x:Int}:x ∈ setL l ↔ x ∈ l:=by
  unfold setL sortL;rw [mem_compactL,List.mem_mergeSort]
theorem setL_lt (l:List Int):(setL l).Pairwise (fun a b=>a < b):=by
  refine compactL_lt ?_
  have:=List.pairwise_mergeSort (le:=fun x y:Int=>decide (x≤y)) (fun a b c h1 h2=>by simp at *;omega) (fun a b=>by simp;omega) l
  exact this.imp (fun h=>by simpa using h)
theorem strict_unique:∀ {l r:List Int},l.Pairwise (fun a b=>a < b)→r.Pairwise (fun a b=>a < b)→(∀ x,x ∈ l ↔ x ∈ r)→l=r
  | [],[],_,_,_=>rfl
  | [],y::r,_,_,h=>absurd ((h y).2 (by simp)) (by simp)
  | x::l,[],_,_,h=>absurd ((h x).1 (by simp)) (by simp)
  | x::l,y::r,hl,hr,h=>by
    rw [List.pairwise_cons] at hl hr
    have hxy:x=y:=by
      rcases List.mem_cons.1 ((h x).1 (by simp)) with e|e
      · exact e
      · rcases List.mem_cons.1 ((h y).2 (by simp)) with e2|e2
        · exact e2.symm
        · have:=hl.1 y e2;have:=hr.1 x e;omega
    subst hxy
    congr 1
    refine strict_unique hl.2 hr.2 fun z=>?_
    have hz:=h z
    simp only [List.mem_cons] at hz
    constructor
    · intro hm
      rcases hz.1 (.inr hm) with e|e
      · subst e;have:=hl.1 z hm;omega
      · exact e
    · intro hm
      rcases hz.2 (.inr hm) with e|e
      · subst e;have:=hr.1 z hm;omega
      · exact e
theorem setL_le (l:List Int):(setL l).length≤l.length:=by
  have:=compactL_le (l:=sortL l)
  unfold setL;unfold sortL at *;simpa using this
end Go.AM.G.Set

