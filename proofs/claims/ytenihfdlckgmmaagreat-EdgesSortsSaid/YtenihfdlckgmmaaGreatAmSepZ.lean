/- A part of the abstract machine, or of what is proved of the program by it. -/
import Derived.Test.YtenihfdlckgmmaaGreatAmSepY
import Derived.Test.YtenihfdlckgmmaaGreatAmSepT
import Derived.Test.YtenihfdlckgmmaaGreatAmSepL
namespace Go.AMS
open Go.AM hiding Kt At WP WL Runs RunsY
open Go.AM.G
set_option linter.unusedVariables false
set_option linter.unusedSectionVars false
set_option linter.unusedSimpArgs false
section
variable {prog:AProg} {rr:Option Nat} {e e':Env} {Q:Pst} {k:List Kt} {x y z:Operand} {ax:AX} {n:Nat} {Γ Δ F Γ':List HP} {d bar:Bool} {r:List AI} {t:Nat} {dst:Option Nat} {u v v1 v2 v3:Value} {vs:List Value} {op:AOp} {h h':Heap}
/-- The end of a body. -/
def BodyP2 (n:Nat) (l:Nat) (r:ARec) (I C:HP) (J D:AX→HP) (F:List HP):Pst:=fun x e h=>match x with
  | .norm=>Sat n (lrec l (Busy r)::I::C::F) h
  | x=>Sat n (lrec l (Busy r)::J x::D x::F) h
/-- The end of what lays a loop's variables. -/
def AsgP2 (n:Nat) (prog:AProg) (l:Nat) (r:ARec) (I C:HP) (J D:AX→HP) (F:List HP):Pst:=fun x e h=>x=.norm∧∃ Γ,Sat n (lrec l r::Γ) h∧AtS n prog (some l) [.c r.body] .norm e (lrec l (Busy r)::Γ) (BodyP2 n l r I C J D F)
instance s_asg2 {l:Nat} {r0:ARec} {I C:HP} {J D:AX→HP} [a:LkR Γ l r0 Γ']:Step (AtS n prog rr [] .norm e Γ (AsgP2 n prog l r0 I C J D F)) (AtS n prog (some l) [.c r0.body] .norm e (lrec l (Busy r0)::Γ') (BodyP2 n l r0 I C J D F)):=⟨fun w h hs=>⟨rfl,Γ',a.ent.sat hs,w⟩⟩
end
end Go.AMS


namespace Go.AMS
open Go.AM hiding Kt At WP WL Runs RunsY
open Go.AM.G
set_option linter.unusedVariables false
set_option linter.unusedSectionVars false
set_option linter.unusedSimpArgs false
section
variable {prog:AProg} {rr:Option Nat} {e e':Env} {Q:Pst} {k:List Kt} {x y z:Operand} {ax:AX} {n:Nat} {Γ Δ F Γ':List HP} {d bar:Bool} {r:List AI} {t:Nat} {dst:Option Nat} {u v v1 v2 v3:Value} {vs:List Value} {op:AOp} {h h':Heap}
end
end Go.AMS


namespace Go.AMS
open Go.AM hiding Kt At WP WL Runs RunsY
open Go.AM.G
set_option linter.unusedVariables false
set_option linter.unusedSectionVars false
section
variable {prog:AProg} {n:Nat} {rr:Option Nat} {k:List Kt} {e:Env} {Γ:List HP} {Q:Pst} {ι:Type}
def CP (n:Nat) (prog:AProg) (rr:Option Nat) (k:List Kt) (E:ι→Env) (Δ:ι→List HP) (P:ι→Prop) (Q:Pst):Pst:=fun x e h=>match x with
  | .norm=>∃ j,P j∧e=E j∧Sat n (Δ j) h
  | x=>G.At prog rr k x e h Q
instance s_cpe {id:Nat} {E:ι→Env} {Δ1:ι→List HP} {P:ι→Prop}:Step (AtS n prog rr [] (.exit id) e Γ (CP n prog rr k E Δ1 P Q)) (AtS n prog rr k (.exit id) e Γ Q):=⟨fun w h hs=>w h hs⟩
instance s_cpr {E:ι→Env} {Δ1:ι→List HP} {P:ι→Prop}:Step (AtS n prog rr [] .ret e Γ (CP n prog rr k E Δ1 P Q)) (AtS n prog rr k .ret e Γ Q):=⟨fun w h hs=>w h hs⟩
end
end Go.AMS

