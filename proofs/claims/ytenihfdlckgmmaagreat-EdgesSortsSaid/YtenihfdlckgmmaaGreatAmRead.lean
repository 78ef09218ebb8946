/- A part of the abstract machine, or of what is proved of the program by it. -/
import Derived.Test.YtenihfdlckgmmaaGreatAmCall
namespace Go.AM
set_option linter.unusedVariables false
set_option linter.unusedSimpArgs false
variable {P:Program} {N:Nat}
def noK:ACode→Prop
  | .keep _=>False
  | _=>True
theorem erase_seqN {a b:ACode} (ha:noK a) (hb:noK b):erase (.seq a b)=.seq (erase a) (erase b):=by
  cases a <;> cases b <;> first|rfl|exact ha.elim|exact hb.elim
theorem compC_erase:∀ (c:Code) {a:ACode},compC P N c=some a→erase a=a∧noK a:=by
  intro c
  induction c with
  | skip=>intro a h;cases h;exact ⟨rfl,trivial⟩
  | region id ops draw =>
    intro a h
    unfold compC at h
    repeat' (first|split at h)
    all_goals first
      | (cases h;exact ⟨rfl,trivial⟩)
      | (obtain ⟨_,_,rfl⟩:=Option.map_eq_some_iff.1 h;exact ⟨rfl,trivial⟩)
      | cases h
  | seq a b iha ihb =>
    intro x h
    unfold compC at h
    split at h
    · rename_i u v h1 h2
      cases h
      obtain ⟨e1,k1⟩:=iha h1
      obtain ⟨e2,k2⟩:=ihb h2
      exact ⟨by rw [erase_seqN k1 k2,e1,e2],trivial⟩
    · cases h
  | cond c t e iht ihe =>
    intro x h
    unfold compC at h
    split at h
    · split at h
      · rename_i u v h1 h2
        cases h
        exact ⟨by rw [erase,(iht h1).1,(ihe h2).1],trivial⟩
      · cases h
    · cases h
  | block id b ih =>
    intro x h
    unfold compC at h
    obtain ⟨y,h1,rfl⟩:=Option.map_eq_some_iff.1 h
    exact ⟨by rw [erase,(ih h1).1],trivial⟩
  | loop b ih =>
    intro x h
    unfold compC at h
    obtain ⟨y,h1,rfl⟩:=Option.map_eq_some_iff.1 h
    exact ⟨by rw [erase,(ih h1).1],trivial⟩
  | rangeFunc f ps asg body iha ihb =>
    intro x h
    unfold compC at h
    split at h
    · split at h
      · rename_i u v h1 h2
        cases h
        exact ⟨by rw [erase,(iha h1).1,(ihb h2).1],trivial⟩
      · cases h
    · cases h
  | exit id=>intro a h;simp only [compC,Option.some.injEq] at h;subst h;exact ⟨rfl,trivial⟩
  | ret=>intro a h;cases h;exact ⟨rfl,trivial⟩
  | label id=>intro a h;cases h;exact ⟨rfl,trivial⟩
  | scope b ih =>
    intro x h
    unfold compC at h
    obtain ⟨y,h1,rfl⟩:=Option.map_eq_some_iff.1 h
    exact ⟨by rw [erase,(ih h1).1];rfl,trivial⟩
  | _=>intro a h;cases h
/-- All functions that can be read, and oracles ahead of them. -/
noncomputable def readP (P:Program) (l:List (Nat × ADef)):AProg:=fun k=>match l.find? (fun p=>Nat.beq p.1 k) with
  | some p=>some p.2
  | none=>((P.funcs[k]?).bind (compF P)).map .code
theorem compF_erase {fn:Func} {f:AFn} (h:compF P fn=some f):erase f.body=f.body:=by
  unfold compF at h
  split at h
  · cases h
  · split at h
    · split at h
      · split at h
        · rename_i b r h1 _ _
          cases h
          exact (compC_erase _ h1).1
        · cases h
      · cases h
    · cases h
theorem read_ok {l:List (Nat × ADef)} (h:∀ p ∈ l,∃ o,p.2=.oracle o∧OracleOk P p.1 o):ProgOk P (readP P l):=by
  have key:∀ k d,l.find? (fun p=>Nat.beq p.1 k)=some d→d ∈ l∧d.1=k:=fun k d hd=>⟨List.mem_of_find?_eq_some hd,by have:=List.find?_some hd;exact Nat.eq_of_beq_eq_true this⟩
  refine ⟨fun k f hk=>?_,fun k o hk=>?_⟩
  · unfold readP at hk
    split at hk
    · rename_i p hp
      obtain ⟨o,h1,_⟩:=h p (key k p hp).1
      rw [h1] at hk;cases hk
    · obtain ⟨g,h1,h2⟩:=Option.map_eq_some_iff.1 hk
      cases h2
      obtain ⟨fn,h3,h4⟩:=Option.bind_eq_some_iff.1 h1
      unfold Is
      rw [h1,compF_erase h4]
  · unfold readP at hk
    split at hk
    · rename_i p hp
      obtain ⟨o',h1,h2⟩:=h p (key k p hp).1
      rw [h1] at hk
      cases hk
      rw [(key k p hp).2] at h2
      exact h2
    · obtain ⟨g,h1,h2⟩:=Option.map_eq_some_iff.1 hk
      cases h2
end Go.AM

