/- A part of the abstract machine, or of what is proved of the program by it. -/
import Derived.Test.YtenihfdlckgmmaaGreatAmSepM
namespace Go.AMS
open Go.AM hiding Kt At WP WL Runs RunsY
open Go.AM.G
set_option linter.unusedVariables false
set_option linter.unusedSectionVars false
set_option linter.unusedSimpArgs false
section
variable {prog:AProg} {rr:Option Nat} {e e':Env} {Q:Pst} {k:List Kt} {x y z:Operand} {ax:AX} {n:Nat} {Γ Δ F Γ':List HP} {d bar:Bool} {r:List AI} {t:Nat} {dst:Option Nat} {u v v1 v2 v3:Value} {vs:List Value} {op:AOp} {h h':Heap}

/-- A loop's record, and the rest. -/
class LkR (Γ:List HP) (l:Nat) (r:outParam ARec) (F:outParam (List HP)):Prop where
  ent:Ent Γ (lrec l r::F)
instance lkr_hd {l:Nat} {r:ARec}:LkR (lrec l r::Γ) l r Γ:=⟨.refl _⟩
instance (priority:=900) lkr_tl {P:HP} {l:Nat} {r:ARec} [a:LkR Γ l r F]:LkR (P::Γ) l r (P::F):=⟨a.ent.there⟩
class RoOk (rr:Option Nat) (Γ:List HP):Prop where
  ok:∀ {n:Nat} {h:Heap},Sat n Γ h→roOk h rr=true
instance ro_none:RoOk none Γ:=⟨fun _=>rfl⟩
instance ro_some {l:Nat} {r:ARec} [a:LkR Γ l r F]:RoOk (some l) Γ:=⟨fun hs=>by
  obtain ⟨S,⟨s,s',h1,_⟩,_⟩:=(a.ent.sat hs).s
  unfold roOk;simp only [h1.1]⟩

def Busy (r:ARec):ARec:={ r with st:=.busy }
/-- The end of a body. -/
def BodyP (n:Nat) (l:Nat) (r:ARec) (I:HP) (J:AX→HP) (F:List HP):Pst:=fun x e h=>match x with
  | .norm=>Sat n (lrec l (Busy r)::I::F) h
  | x=>Sat n (lrec l (Busy r)::J x::F) h
/-- The end of what lays a loop's variables. -/
def AsgP (n:Nat) (prog:AProg) (l:Nat) (r:ARec) (I:HP) (J:AX→HP) (F:List HP):Pst:=fun x e h=>x=.norm∧∃ Γ,Sat n (lrec l r::Γ) h∧AtS n prog (some l) [.c r.body] .norm e (lrec l (Busy r)::Γ) (BodyP n l r I J F)
instance s_asg {l:Nat} {r0:ARec} {I:HP} {J:AX→HP} [a:LkR Γ l r0 Γ']:Step (AtS n prog rr [] .norm e Γ (AsgP n prog l r0 I J F)) (AtS n prog (some l) [.c r0.body] .norm e (lrec l (Busy r0)::Γ') (BodyP n l r0 I J F)):=⟨fun w h hs=>⟨rfl,Γ',a.ent.sat hs,w⟩⟩
end
end Go.AMS

