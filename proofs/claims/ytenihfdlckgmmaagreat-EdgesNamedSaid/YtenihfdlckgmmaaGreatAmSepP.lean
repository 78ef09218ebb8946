/- A part of the abstract machine, or of what is proved of the program by it. -/
import Derived.Test.YtenihfdlckgmmaaGreatAmSepC
namespace Go.AMS
open Go.AM hiding Kt At WP WL Runs RunsY
open Go.AM.G
set_option linter.unusedVariables false
set_option linter.unusedSectionVars false
set_option linter.unusedSimpArgs false
def kPtr:Kind Nat:=⟨1,by decide,fun _ cs b=>cs=[.pointer (some ⟨b,0,none⟩)],fun _ h=>h,fun h=>by rw [h];rfl,fun h=>by rw [h];rfl⟩
instance esz_ptr:Esz kPtr 1:=⟨rfl⟩
instance ofv_ptr {b:Nat}:OfV kPtr (.pointer (some ⟨b,0,none⟩)) b True:=⟨fun _ _=>rfl⟩
instance kof_ptr {b:Nat} {cs:List Value}:KOf (.pointer (some ⟨b,0,none⟩)::cs) kPtr:=⟨trivial⟩
section
variable {prog:AProg} {rr:Option Nat} {e:Env} {Q:Pst} {k:List Kt} {x:Operand} {n:Nat} {Γ:List HP} {d bar:Bool} {r:List AI} {t i:Nat} {p:Option Addr}
instance v_elemP {lp:List Nat} [s:LkS Γ p kPtr lp]:Step (AtV n prog rr d bar (some t) (.load1 x) [.pointer (elt p i 1 0)] r k e Γ Q) (Sx fun (hi:i < lp.length)=>AtS n prog rr (.o d r::k) .norm ((t,.pointer (some ⟨lp[i],0,none⟩))::e) Γ Q) :=
  ⟨fun g hE=>elt_load s esz_ptr fldI rfl g.c hE (fun h v hs q=>by cases q;exact g.a h hs)⟩
end
section
variable {α β:Type} {f:α→HP} {g:α→β→HP} {l:List α} {Γ F A B:List HP} {P:HP}
/-- All of many. -/
def alls (f:α→HP) (l:List α):HP:=⟨fun h s=>SatS (l.map f) h s,fun hs=>hs.inb,fun hs st hg=>hs.loc st hg⟩
theorem alls_open:Ent (alls f l::Γ) (l.map f++Γ):=fun h S ⟨s,s',h1,h2,h3,h4⟩=>⟨_,SatS.join h1 h2 h3,fun b hb=>(h4 b).2 hb⟩
theorem alls_close:Ent (l.map f++Γ) (alls f l::Γ):=fun h S hs=>by
  obtain ⟨s,s',h1,h2,h3,h4⟩:=hs.app
  exact ⟨S,⟨s,s',h1,h2,h3,h4⟩,fun b hb=>hb⟩
theorem ent_mid:Ent (A++P::B) (P::(A++B)):=by
  induction A with
  | nil=>exact .refl _
  | cons Q A ih=>exact (Ent.cons ih).trans .swap
theorem ent_back:Ent (P::(A++B)) (A++P::B):=by
  induction A with
  | nil=>exact .refl _
  | cons Q A ih=>exact Ent.swap.trans (.cons ih)
theorem alls_take {i:Nat} (hi:i < l.length):Ent (alls f l::Γ) (f l[i]::alls f (l.eraseIdx i)::Γ):=by
  refine alls_open.trans ?_
  have e:l.map f=(l.take i).map f++f l[i]::(l.drop (i + 1)).map f:=by
    rw [← List.map_cons,← List.map_append,← List.drop_eq_getElem_cons hi,List.take_append_drop]
  have e2:(l.eraseIdx i).map f=(l.take i).map f++(l.drop (i + 1)).map f:=by rw [List.eraseIdx_eq_take_drop_succ,List.map_append]
  rw [e,List.append_assoc,List.cons_append]
  refine ent_mid.trans (.cons ?_)
  rw [← List.append_assoc,← e2]
  exact alls_close
theorem alls_put {i:Nat} {a:α} (hi:i < l.length):Ent (f a::alls f (l.eraseIdx i)::Γ) (alls f (l.set i a)::Γ):=by
  refine (Ent.cons alls_open).trans ?_
  have e:(l.set i a).map f=(l.take i).map f++f a::(l.drop (i + 1)).map f:=by
    rw [List.set_eq_take_append_cons_drop,if_pos hi,List.map_append,List.map_cons]
  have e2:(l.eraseIdx i).map f=(l.take i).map f++(l.drop (i + 1)).map f:=by rw [List.eraseIdx_eq_take_drop_succ,List.map_append]
  rw [e2,List.append_assoc]
  refine ent_back.trans ?_
  have:(l.take i).map f++f a::((l.drop (i + 1)).map f++Γ)=(l.set i a).map f++Γ:=by rw [e];simp
  rw [this]
  exact alls_close
instance low_alls [h:∀ a,Low (f a)]:Low (alls f l):=⟨fun {hh s} m hs=>by
  have:LowL (l.map f):=⟨fun P hP=>by obtain ⟨a,_,rfl⟩:=List.mem_map.1 hP;exact h a⟩
  exact this.sat m hs⟩
/-- Things behind pointers, one each. -/
def each (g:α→β→HP) (xs:List α) (ys:List β):HP:=alls (fun x=>g x.1 x.2) (xs.zip ys)
variable {xs:List α} {ys:List β}
instance low_each [h:∀ a b,Low (g a b)]:Low (each g xs ys):=low_alls
end
end Go.AMS

