/- A part of the abstract machine, or of what is proved of the program by it. -/
import Derived.Test.YtenihfdlckgmmaaGreatAmSepL
namespace Go.AMS
open Go.AM hiding Kt At WP WL Runs RunsY
open Go.AM.G
set_option linter.unusedVariables false
set_option linter.unusedSectionVars false
section
variable {prog:AProg} {n:Nat} {rr:Option Nat} {k:List Kt} {e:Env} {Γ:List HP} {Q:Pst} {ι:Type}
def CP (n:Nat) (prog:AProg) (rr:Option Nat) (k:List Kt) (E:ι→Env) (Δ:ι→List HP) (P:ι→Prop) (Q:Pst):Pst:=fun x e h=>match x with
  | .norm=>∃ j,P j∧e=E j∧Sat n (Δ j) h
  | x=>G.At prog rr k x e h Q
theorem at_cutK {A r:ACode} {vs:List Nat} (E:ι→Env) (Δ:ι→List HP) (P:ι→Prop)
    (hb:AtS n prog rr [.c A,.c (.keep vs)] .norm e Γ (CP n prog rr (.c r::k) E Δ P Q))
    (hw:∀ j,P j→AtS n prog rr (.c r::k) .norm (E j) (Δ j) Q):AtS n prog rr (.c (.seq A (.seq (.keep vs) r))::k) .norm e Γ Q:=fun h hh=>by
  refine G.at_seq (WP.mono (hb h hh) ?_)
  intro x e1 h1 _ hq
  cases x with
  | norm =>
    refine G.at_seq (WP.mono hq ?_)
    intro x2 e2 h2 _ hq2
    cases x2 with
    | norm=>obtain ⟨j,q1,q2,q3⟩:=hq2;subst q2;exact hw j q1 h2 q3
    | exit i=>exact hq2
    | ret=>exact hq2
  | exit i=>exact hq
  | ret=>exact hq
theorem cut_end {E : ι → Env} {Δ1 : ι → List HP} {P : ι → Prop} (j : ι) (hp : P j) (he : e = E j := by rfl) (hs : Ent Γ (Δ1 j) := by
      repeat first|exact Ent.refl _|(apply Ent.more;· repeat first|exact Ent.keep|exact Ent.here|exact Ent.lend|exact ent_nil|apply Ent.there)|apply Ent.drop):AtS n prog rr [] .norm e Γ (CP n prog rr k E Δ1 P Q):=fun h hh=>⟨j,hp,he,hs.sat hh⟩
instance s_cpe {id:Nat} {E:ι→Env} {Δ1:ι→List HP} {P:ι→Prop}:Step (AtS n prog rr [] (.exit id) e Γ (CP n prog rr k E Δ1 P Q)) (AtS n prog rr k (.exit id) e Γ Q):=⟨fun w h hs=>w h hs⟩
instance s_cpr {E:ι→Env} {Δ1:ι→List HP} {P:ι→Prop}:Step (AtS n prog rr [] .ret e Γ (CP n prog rr k E Δ1 P Q)) (AtS n prog rr k .ret e Γ Q):=⟨fun w h hs=>w h hs⟩
end
end Go.AMS

