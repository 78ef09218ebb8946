/- A part of the abstract machine, or of what is proved of the program by it. -/
import Derived.Test.YtenihfdlckgmmaaGreatAmSepP
namespace Go.AMS
open Go.AM hiding Kt At WP WL Runs RunsY
open Go.AM.G
set_option linter.unusedVariables false
set_option linter.unusedSectionVars false
set_option linter.unusedSimpArgs false
/-- Cells that are alike. -/
class EqP (ks:List Nat) (cs ds:List Value) (φ:outParam Prop):Prop where
  eq:∃ b,eqCells ks cs ds=some b∧(b=true ↔ φ)
instance (priority:=1100) eqp_int1 {k:IntKind} {a b:Int}:EqP [1] [.int k a] [.int k b] (a=b):=⟨_,by simp [eqCells,eqs];rfl,by simp⟩
instance (priority:=1100) eqp_bool1 {a b:Bool}:EqP [0] [.bool a] [.bool b] (a=b):=⟨_,by simp [eqCells,eqs];rfl,by simp⟩
instance eqp_int {ks:List Nat} {cs ds:List Value} {k:IntKind} {a b:Int} {φ:Prop} [e:EqP ks cs ds φ]:EqP (1::ks) (.int k a::cs) (.int k b::ds) (a=b∧φ):=⟨by
  obtain ⟨c,h1,h2⟩:=e.eq
  exact ⟨(a == b) && c,by simp [eqCells,eqs,h1],by simp [h2]⟩⟩
instance eqp_bool {ks:List Nat} {cs ds:List Value} {a b:Bool} {φ:Prop} [e:EqP ks cs ds φ]:EqP (0::ks) (.bool a::cs) (.bool b::ds) (a=b∧φ):=⟨by
  obtain ⟨c,h1,h2⟩:=e.eq
  exact ⟨(a == b) && c,by simp [eqCells,eqs,h1],by simp [h2]⟩⟩
section
variable {prog:AProg} {rr:Option Nat} {e:Env} {Q:Pst} {k:List Kt} {n:Nat} {Γ:List HP} {d bar:Bool} {r:List AI} {t:Nat} {x y:Operand} {ks:List Nat} {cs ds:List Value} {φ:Prop}
instance v_eqA [q:EqP ks cs ds φ]:Step (AtV n prog rr d bar (some t) (.eqA ks false x y) [.agg (List.toArray cs),.agg (List.toArray ds)] r k e Γ Q) (BrB n prog rr d r k t e Γ Q φ):=⟨fun w hE=>by
  obtain ⟨b,h1,h2⟩:=q.eq
  have go:AtS n prog rr (.o d r::k) .norm ((t,.bool b)::e) Γ Q→AtS n prog rr (.o d (⟨some t,.eqA ks false x y,none,bar⟩::r)::k) .norm e Γ Q:=fun w=>go1 (fun h _ m=>by simp only [aop,hE.a,hE.b,h1,Option.map_some,cond_false]) w
  cases b with
  | true=>exact go (w.t (h2.1 rfl))
  | false=>exact go (w.f (fun h=>by have:=h2.2 h;cases this))⟩
instance v_neA [q:EqP ks cs ds φ]:Step (AtV n prog rr d bar (some t) (.eqA ks true x y) [.agg (List.toArray cs),.agg (List.toArray ds)] r k e Γ Q) (BrB n prog rr d r k t e Γ Q (¬ φ)):=⟨fun w hE=>by
  obtain ⟨b,h1,h2⟩:=q.eq
  have go:AtS n prog rr (.o d r::k) .norm ((t,.bool !b)::e) Γ Q→AtS n prog rr (.o d (⟨some t,.eqA ks true x y,none,bar⟩::r)::k) .norm e Γ Q:=fun w=>go1 (fun h _ m=>by simp only [aop,hE.a,hE.b,h1,Option.map_some,cond_true]) w
  cases b with
  | true=>exact go (w.f (fun h=>h (h2.1 rfl)))
  | false=>exact go (w.t (fun h=>by have:=h2.2 h;cases this))⟩
end
/-- A list, parted at a place. -/
class Splt (l:List AI) (j:Nat) (l1:outParam (List AI)) (c:outParam AI) (l2:outParam (List AI)):Prop where
  eq:l=l1++c::l2
  len:l1.length=j
instance splt0 {c:AI} {l:List AI}:Splt (c::l) 0 [] c l:=⟨rfl,rfl⟩
instance splt1 {a c:AI} {l l1 l2:List AI} {j:Nat} [s:Splt l j l1 c l2]:Splt (a::l) (j + 1) (a::l1) c l2:=⟨by rw [s.eq];rfl,by rw [List.length_cons,s.len]⟩
/-- Cells that can be compared. -/
class Flt (cs:List Value):Prop where
  eq:veqL cs cs=true
instance flt0:Flt []:=⟨rfl⟩
section
variable {l:List Value} [a:Flt l]
instance flt_int {k:IntKind} {i:Int}:Flt (.int k i::l):=⟨by simp [veqL,veq,a.eq]⟩
instance flt_bool {b:Bool}:Flt (.bool b::l):=⟨by simp [veqL,veq,a.eq]⟩
instance flt_ptr {p:Option Addr}:Flt (.pointer p::l):=⟨by simp [veqL,veq,a.eq]⟩
instance flt_sl {p:Option Addr} {i j:Nat}:Flt (.slice p i j::l):=⟨by simp [veqL,veq,a.eq]⟩
instance flt_map {p:Option Nat}:Flt (.map p::l):=⟨by simp [veqL,veq,a.eq]⟩
instance flt_nf:Flt (.nilFunc::l):=⟨by simp [veqL,veq,a.eq]⟩
instance flt_f {f:FuncId}:Flt (.func (.func f) #[] #[]::l):=⟨by simp [veqL,veq,a.eq]⟩
end
/-- Slots that point into a block. -/
inductive Kin (e:Env) (b:Nat):List (Nat × Nat)→Prop where
  | nil:Kin e b []
  | cons {j t o:Nat} {r:List (Nat × Nat)} (h:Env.get e t=some (.pointer (some ⟨b,o,none⟩))) (w:Kin e b r):Kin e b ((j,t)::r)
theorem Kin.mem {e:Env} {b:Nat} {ks:List (Nat × Nat)} (h:Kin e b ks):∀ x ∈ ks,∃ o,Env.get e x.2=some (.pointer (some ⟨b,o,none⟩)):=by
  induction h with
  | nil=>intro x hx;cases hx
  | cons h w ih =>
    intro x hx
    rcases List.mem_cons.1 hx with rfl|hx
    · exact ⟨_,h⟩
    · exact ih x hx
section
variable {prog:AProg} {rr:Option Nat} {e e1 e2:Env} {Q:Pst} {k:List Kt} {n:Nat} {Γ Γ1 Γ2 F:List HP} {ks ap:List (Nat × Nat)} {l l1 l2:List AI} {c:AI} {b sz z:Nat} {cs:List Value}
theorem at_ap0 (w:AtS n prog rr k .norm e Γ Q):AtS n prog rr (.ap sz []::k) .norm e Γ Q:=fun h hs=>⟨rfl,w h hs⟩
instance s_opsK0:Step (AtS n prog rr (.c (.opsK [] [] l)::k) .norm e Γ Q) (AtS n prog rr (.o true l::k) .norm e Γ Q):=⟨fun w h hs=>by
  intro H hH
  obtain ⟨m,e1,H1,h1,hr,hp,hl,hst,hq⟩:=w h hs H hH
  exact ⟨m,.norm,e1,H1,h1,by simp only [evC,hr];rfl,hp,hl,hst,hq⟩⟩
instance s_ap0:Step (AtS n prog rr (.ap sz []::k) .norm e Γ Q) (AtS n prog rr k .norm e Γ Q):=⟨at_ap0⟩
end
section
variable {prog:AProg} {rr:Option Nat} {e:Env} {Q:Pst} {k:List Kt} {n:Nat} {Γ F:List HP} {α:Type} {K:Kind α} {l:List α}
end
section
variable {prog:AProg} {rr:Option Nat} {e:Env} {Q:Pst} {k:List Kt} {n:Nat} {Γ F F':List HP}
end
end Go.AMS

