/- A part of the abstract machine, or of what is proved of the program by it. -/
import Derived.Test.YtenihfdlckgmmaaGreatAmSepY
import Derived.Test.YtenihfdlckgmmaaGreatAmLogic
namespace Go.AMS
open Go.AM hiding Kt At WP WL Runs RunsY
open Go.AM.G
set_option linter.unusedVariables false
namespace C
@[reducible] def o (d:Nat) (op:AOp):AI:=⟨some d,op,none,false⟩
@[reducible] def b (d:Nat) (op:AOp):AI:=⟨some d,op,none,true⟩
@[reducible] def s (op:AOp):AI:=⟨none,op,none,false⟩
@[reducible] def sb (op:AOp):AI:=⟨none,op,none,true⟩
@[reducible] def t (i:Nat):Operand:=.tmp i
@[reducible] def ci (i:Int):Operand:=.const (.int .i64 i)
end C
section
variable {prog:AProg} {rr:Option Nat} {e:Env} {Q:Pst} {k:List Kt} {x:AX} {n:Nat} {Γ Δ F F':List HP} {P P':HP} {R:Value→List HP→Prop} {v:Value}
theorem fin_ent (k:Ent Γ Δ) (w:FinG R v F Δ):FinG R v F Γ:=let ⟨⟨Γ',h1,h2⟩⟩:=w;⟨Γ',h1,k.trans h2⟩
/-- One part turned into another one. -/
theorem at_via (h : Ent (P :: F) Δ) (w : AtS n prog rr k x e Δ Q) (hs : Ent Γ (P :: F) := by
      repeat first|exact Ent.here|apply Ent.there):AtS n prog rr k x e Γ Q:=at_ent (hs.trans h) w
theorem fin_via (h : Ent (P :: F') Δ) (w : FinG R v F Δ) (hs : Ent Γ (P :: F') := by
      repeat first|exact Ent.here|apply Ent.there):FinG R v F Γ:=fin_ent (hs.trans h) w
end
section
variable {prog:AProg} {rr:Option Nat} {e:Env} {Q:Pst} {k:List Kt} {n:Nat} {Γ Δ F R:List HP} {P P':HP} {d bar:Bool} {dst:Option Nat} {op:AOp} {vs:List Value} {r:List AI}
/-- The same, once an operation's operands are known. -/
theorem av_ent (h:Ent Γ Δ) (w:AtV n prog rr d bar dst op vs r k e Δ Q):AtV n prog rr d bar dst op vs r k e Γ Q:=fun hE=>at_ent h (w hE)
theorem av_via (h : Ent (P :: F) Δ) (w : AtV n prog rr d bar dst op vs r k e Δ Q) (hs : Ent Γ (P :: F) := by
      repeat first|exact Ent.here|apply Ent.there):AtV n prog rr d bar dst op vs r k e Γ Q:=av_ent (hs.trans h) w
instance (priority:=2000) sv_app {A:List HP} [a:App A F R]:Step (AtV n prog rr d bar dst op vs r k e (A++F) Q) (AtV n prog rr d bar dst op vs r k e R Q):=⟨by rw [a.eq];exact id⟩
end
/-- What is lent, part by part. -/
class RdsL (A:List HP) (R:outParam (List HP)):Prop where
  ent:∀ F,Ent (Rds A++F) (R++F)
class Rd1 (P:HP) (P':outParam HP):Prop where
  ent:∀ Γ,Ent (ro P::Γ) (P'::Γ)
instance (priority:=1100) rd1_own {α:Type} {K:Kind α} {p:Option Addr} {c:Nat} {l:List α}:Rd1 (own K p c l) (rdl K p l):=⟨fun _=>.ro_own⟩
instance (priority:=1050) rd1_pers {P:HP} [Pers P]:Rd1 P P:=⟨fun _=>.ro_pers⟩
instance rd1_ro {P:HP}:Rd1 P (ro P):=⟨fun _=>.refl _⟩
instance rdsl_nil:RdsL [] []:=⟨fun _=>.refl _⟩
instance rdsl_cons {P P':HP} {A R:List HP} [a:Rd1 P P'] [b:RdsL A R]:RdsL (P::A) (P'::R):=⟨fun F=>(Ent.cons (b.ent F)).trans (a.ent _)⟩
instance (priority:=2100) s_rds {prog:AProg} {rr:Option Nat} {e:Env} {Q:Pst} {k:List Kt} {x:AX} {n:Nat} {F A R R':List HP} [a:RdsL A R] [b:App R F R']:Step (AtS n prog rr k x e (Rds A++F) Q) (AtS n prog rr k x e R' Q):=⟨fun w=>at_ent (by rw [← b.eq];exact a.ent F) w⟩
instance (priority:=2100) sv_rds {prog:AProg} {rr:Option Nat} {e:Env} {Q:Pst} {k:List Kt} {n:Nat} {F A R R':List HP} {d bar:Bool} {dst:Option Nat} {op:AOp} {vs:List Value} {r:List AI} [a:RdsL A R] [b:App R F R']:Step (AtV n prog rr d bar dst op vs r k e (Rds A++F) Q) (AtV n prog rr d bar dst op vs r k e R' Q):=⟨fun w=>av_ent (by rw [← b.eq];exact a.ent F) w⟩
instance (priority:=2000) s_app1 {prog:AProg} {rr:Option Nat} {e:Env} {Q:Pst} {k:List Kt} {x:AX} {n:Nat} {F A R:List HP} {P:HP} [a:App A F R]:Step (AtS n prog rr k x e (P::(A++F)) Q) (AtS n prog rr k x e (P::R) Q):=⟨by rw [a.eq];exact id⟩
section
variable {prog:AProg} {rr:Option Nat} {e:Env} {Q:Pst} {k:List Kt} {x:AX} {n:Nat} {Γ F:List HP} {d bar:Bool} {dst:Option Nat} {op:AOp} {vs:List Value} {r:List AI}
end
section
variable {prog:AProg} {rr:Option Nat} {e:Env} {Q:Pst} {k:List Kt} {n:Nat} {Γ F:List HP} {α:Type} {K:Kind α} {l:List α}
theorem g_ap {sz s t b o i w o':Nat} {p:Option Addr} (h1:Env.get e s=some (.pointer (elt p i w o))) (h2:Env.get e t=some (.pointer (some ⟨b,o',none⟩))) (hf:∀ a,p=some a→a.block < sz∧a.block≠b) (g:AtS n prog rr k .norm e Γ Q):AtS n prog rr (.ap sz [(s,t)]::k) .norm e Γ Q:=fun h hs=>by
  refine at_apart ?_ (g h hs)
  cases p with
  | none=>simp only [apartE,h1,h2,elt,Option.map_none];rfl
  | some a =>
    obtain ⟨q1,q2⟩:=hf a rfl
    simp only [apartE,h1,h2,elt,Option.map_some]
    simp [q1,q2]
end
/-- A call that is run once for all. -/
theorem closed_spec {prog:AProg} {fn:FuncId} {v:Value} (hp:prog fn=some (.oracle (closedO v))):Spec prog fn [] [] (fun R=>R v []):=fun n F h R hs hw =>
  runs_oracle hp (fun _=>rfl) ⟨[],hw,hs⟩
/-- Cells behind others. -/
instance nth_app {pre l:List Value} {i:Nat} {v:Value} [a:Nth l i v]:Nth (pre++l) (pre.length + i) v:=⟨by rw [List.getElem?_append_right (by omega),Nat.add_sub_cancel_left];exact a.eq⟩
instance (priority:=1100) nth_app0 {l:List Value} {i:Nat} {v:Value} [a:Nth l i v]:Nth ([]++l) i v:=⟨a.eq⟩
instance (priority:=1100) nth_app1 {pre l:List Value} {i:Nat} {u v:Value} [a:Nth (u::(pre++l)) i v]:Nth ((u::pre)++l) i v:=⟨a.eq⟩
instance spl_app {pre cs cs' vs:List Value} {o:Nat} [a:Spl cs o vs cs']:Spl (pre++cs) (pre.length + o) vs (pre++cs'):=⟨by
    have:=a.eq
    simp only [splice] at *
    rw [List.take_append,List.drop_append,List.take_of_length_le (by omega),Nat.add_sub_cancel_left,← this,List.drop_eq_nil_of_le (by omega),show pre.length + o + vs.length - pre.length=o + vs.length by omega]
    simp [List.append_assoc],by have:=a.le;simp only [List.length_append];omega⟩
instance (priority:=1100) spl_app0 {cs cs' vs:List Value} {o:Nat} [a:Spl cs o vs cs']:Spl ([]++cs) o vs cs':=⟨a.eq,a.le⟩
instance (priority:=1100) spl_app1 {pre cs cs' vs:List Value} {o:Nat} {u:Value} [a:Spl (u::(pre++cs)) o vs cs']:Spl ((u::pre)++cs) o vs cs':=⟨a.eq,a.le⟩
section
variable {prog:AProg} {rr:Option Nat} {e:Env} {Q:Pst} {k:List Kt} {n:Nat} {Γ F:List HP} {ax:AX} {v:Value} {vs:List Value} {p:Nat} {ps:List Nat}
instance (priority:=2000) s_bind0:Step (AtS n prog rr k ax (bindPs [] [] e) Γ Q) (AtS n prog rr k ax e Γ Q):=⟨id⟩
instance (priority:=2000) s_bind1:Step (AtS n prog rr k ax (bindPs (p::ps) (v::vs) e) Γ Q) (AtS n prog rr k ax (bindPs ps vs ((p,v)::e)) Γ Q):=⟨id⟩
end
end Go.AMS

