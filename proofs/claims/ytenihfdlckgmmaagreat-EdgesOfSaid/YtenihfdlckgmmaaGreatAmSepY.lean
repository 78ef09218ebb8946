/- A part of the abstract machine, or of what is proved of the program by it. -/
import Derived.Test.YtenihfdlckgmmaaGreatAmSepM
namespace Go.AMS
open Go.AM hiding Kt At WP WL Runs RunsY
open Go.AM.G
set_option linter.unusedVariables false
set_option linter.unusedSectionVars false
set_option linter.unusedSimpArgs false
section
variable {prog:AProg} {rr:Option Nat} {e e':Env} {Q:Pst} {k:List Kt} {x y z:Operand} {ax:AX} {n:Nat} {Γ Δ F Γ':List HP} {d bar:Bool} {r:List AI} {t:Nat} {dst:Option Nat} {u v v1 v2 v3:Value} {vs:List Value} {op:AOp} {h h':Heap}

/-- What the body of a loop over a function does, when it is called. -/
def YSpec (prog:AProg) (l:Nat) (args:List Value) (Γ:List HP) (W:(Value→List HP→Prop)→Prop):Prop :=
  ∀ n F h R,Sat n (Γ++F) h→W R→RunsY prog l args h (fun v h'=>∃ Γ',R v Γ'∧Sat n (Γ'++F) h')
theorem at_callY {l:Nat} {f:Operand} {as:List Operand} {args:List Value} {a1 a2:Array Value} {Ps:List HP} {W:(Value→List HP→Prop)→Prop} (hs:YSpec prog l args Ps W)
    (w:W (fun v Γ'=>AtS n prog rr (.o d r::k) .norm (put e dst v) (Γ'++F) Q))
    (ha:a1.toList++vs++a2.toList=args:=by rfl) (hb:(d && !bar)=false:=by rfl) (he:Ent Γ (Ps++F):=by
      repeat first|exact Ent.refl _|(apply Ent.more;· repeat first|exact Ent.keep|exact Ent.here|exact Ent.lend|exact ent_nil|apply Ent.there)):AtV n prog rr d bar dst (.call f as) (.func (.yield l) a1 a2::vs) r k e Γ Q:=fun hE h hh=>by
  refine at_clY hb hE.a hE.tl.evs ha (hs n F h _ (he.sat hh) w |>.mono ?_)
  intro v h' _ _ hq _ _
  obtain ⟨Γ',h1,h2⟩:=hq
  exact h1 h' h2

/-- A loop's record, and the rest. -/
class LkR (Γ:List HP) (l:Nat) (r:outParam ARec) (F:outParam (List HP)):Prop where
  ent:Ent Γ (lrec l r::F)
instance lkr_hd {l:Nat} {r:ARec}:LkR (lrec l r::Γ) l r Γ:=⟨.refl _⟩
instance (priority:=900) lkr_tl {P:HP} {l:Nat} {r:ARec} [a:LkR Γ l r F]:LkR (P::Γ) l r (P::F):=⟨a.ent.there⟩
class RoOk (rr:Option Nat) (Γ:List HP):Prop where
  ok:∀ {n:Nat} {h:Heap},Sat n Γ h→roOk h rr=true
instance ro_none:RoOk none Γ:=⟨fun _=>rfl⟩
instance ro_some {l:Nat} {r:ARec} [a:LkR Γ l r F]:RoOk (some l) Γ:=⟨fun hs=>by
  obtain ⟨S,⟨s,s',h1,_⟩,_⟩:=(a.ent.sat hs).s
  unfold roOk;simp only [h1.1]⟩

def Busy (r:ARec):ARec:={ r with st:=.busy }
def Done (r:ARec) (x:AX):ARec:={ r with st:=.done,pend:=some x }
/-- The end of a body. -/
def BodyP (n:Nat) (l:Nat) (r:ARec) (I:HP) (J:AX→HP) (F:List HP):Pst:=fun x e h=>match x with
  | .norm=>Sat n (lrec l (Busy r)::I::F) h
  | x=>Sat n (lrec l (Busy r)::J x::F) h
/-- The end of what lays a loop's variables. -/
def AsgP (n:Nat) (prog:AProg) (l:Nat) (r:ARec) (I:HP) (J:AX→HP) (F:List HP):Pst:=fun x e h=>x=.norm∧∃ Γ,Sat n (lrec l r::Γ) h∧AtS n prog (some l) [.c r.body] .norm e (lrec l (Busy r)::Γ) (BodyP n l r I J F)
instance s_asg {l:Nat} {r0:ARec} {I:HP} {J:AX→HP} [a:LkR Γ l r0 Γ']:Step (AtS n prog rr [] .norm e Γ (AsgP n prog l r0 I J F)) (AtS n prog (some l) [.c r0.body] .norm e (lrec l (Busy r0)::Γ') (BodyP n l r0 I J F)):=⟨fun w h hs=>⟨rfl,Γ',a.ent.sat hs,w⟩⟩
theorem y_next {l : Nat} {r0 : ARec} {I : HP} {J : AX → HP} (he : Ent Γ (lrec l (Busy r0) :: I :: F) := by
      repeat first|exact Ent.refl _|(apply Ent.more;· repeat first|exact Ent.keep|exact Ent.here|exact Ent.lend|exact ent_nil|apply Ent.there)|apply Ent.drop):AtS n prog rr [] .norm e Γ (BodyP n l r0 I J F):=fun h hs=>he.sat hs
theorem y_exit {l : Nat} {r0 : ARec} {I : HP} {J : AX → HP} (hx : ax ≠ .norm := by simp) (he : Ent Γ (lrec l (Busy r0) :: J ax :: F) := by
      repeat first|exact Ent.refl _|(apply Ent.more;· repeat first|exact Ent.keep|exact Ent.here|exact Ent.lend|exact ent_nil|apply Ent.there)|apply Ent.drop):AtS n prog rr [] ax e Γ (BodyP n l r0 I J F):=fun h hs=>by
  have:=he.sat hs
  cases ax with
  | norm=>exact absurd rfl hx
  | exit i=>exact this
  | ret=>exact this
theorem lrec_set {l:Nat} {r0 r1:ARec} (hs:Sat n (lrec l r0::F) h):Sat n (lrec l r1::F) (h.set l (.loop r1))∧h.get l=some (.loop r0)∧n≤l:=by
  obtain ⟨⟨S,⟨s,s',⟨h1,h2,rfl⟩,h3,h4,h5⟩,h6⟩,hp,hn⟩:=hs
  have hb:n≤l:=h6 l ((h5 l).2 (.inl rfl))
  exact ⟨⟨⟨S,⟨(·=l),s',⟨by rw [Heap.get_set,if_pos rfl],h2,rfl⟩,h3.loc (.set _ (by rw [hp];exact hb) (fun c q=>by rw [h1] at q;cases q)) (fun x hx=>by rw [Heap.get_set,if_neg (fun e=>h4 x e hx)]),h4,h5⟩,h6⟩,hp,hn⟩,h1,hb⟩

theorem lrec_dead {l:Nat} {r0:ARec} (hs:Sat n (lrec l r0::F) h):Sat n F (h.set l .dead)∧h.get l=some (.loop r0):=by
  obtain ⟨⟨S,⟨s,s',⟨h1,h2,rfl⟩,h3,h4,h5⟩,h6⟩,hp,hn⟩:=hs
  have hb:n≤l:=h6 l ((h5 l).2 (.inl rfl))
  exact ⟨⟨⟨s',h3.loc (.set _ (by rw [hp];exact hb) (fun c q=>by rw [h1] at q;cases q)) (fun x hx=>by rw [Heap.get_set,if_neg (fun e=>h4 x e hx)]),fun b q=>h6 b ((h5 b).2 (.inr q))⟩,hp,hn⟩,h1⟩
/-- A record, and what goes with it. -/
def recI (l:Nat) (r:ARec) (I:HP):HP:=hx fun (_:Unit)=>(True,[lrec l r,I])
theorem recI_open {l:Nat} {r0:ARec} {I:HP}:Ent (recI l r0 I::F) (lrec l r0::I::F):=fun h S hs=>by
  obtain ⟨s,s',⟨_,_,h1⟩,h2,h3,h4⟩:=hs
  have:=h1.join h2 h3
  exact ⟨_,this,fun b hb=>(h4 b).2 hb⟩
theorem recI_fold {l:Nat} {r0:ARec} {I:HP}:Ent (lrec l r0::I::F) (recI l r0 I::F):=.fold () trivial (.refl _)

end
end Go.AMS

