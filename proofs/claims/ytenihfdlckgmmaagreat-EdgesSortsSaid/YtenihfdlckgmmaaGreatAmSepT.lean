/- A part of the abstract machine, or of what is proved of the program by it. -/
import Derived.Test.YtenihfdlckgmmaaGreatAmSepB
namespace Go.AMS
open Go.AM hiding Kt At WP WL Runs RunsY
open Go.AM.G
set_option linter.unusedVariables false
set_option linter.unusedSectionVars false
set_option linter.unusedSimpArgs false
class KeyE (s:KS) {κ:Type} [DecidableEq κ] (enc:κ→Value):Prop where
  eq:∀ a b:κ,eqK s (enc a) (enc b)=some (decide (a=b))
def kI (x:Int):Value:=.int .i64 x
def kII (x:Int × Int):Value:=.agg (List.toArray [.int .i64 x.1,.int .i64 x.2])
instance keyE_int:KeyE (.one 1) kI:=⟨fun a b=>by
  show (if (IntKind.i64=IntKind.i64) then some (a == b) else none)=_
  rw [if_pos rfl];rfl⟩
instance keyE_pair:KeyE (.many [1,1]) kII:=⟨fun a b=>by
  obtain ⟨a1,a2⟩:=a
  obtain ⟨b1,b2⟩:=b
  simp only [eqK,kII,eqCells,eqs,if_true,Option.bind_some,Option.map_some]
  congr 1
  by_cases h1:a1=b1 <;> by_cases h2:a2=b2 <;> simp [h1,h2]⟩
section
variable {κ β:Type} [DecidableEq κ]
/-- What a map has at a key. -/
def aget (k:κ):List (κ × β)→Option β
  | []=>none
  | (k',v)::r=>if k=k' then some v else aget k r
/-- A map with something put at a key. -/
def aset (k:κ) (v:β):List (κ × β)→List (κ × β)
  | []=>[(k,v)]
  | (k',v')::r=>if k=k' then (k,v)::r else (k',v')::aset k v r
theorem aget_aset (k j:κ) (v:β):∀ l:List (κ × β),aget j (aset k v l)=if j=k then some v else aget j l
  | []=>by simp only [aset,aget]
  | (k',v')::r=>by
    simp only [aset]
    split
    · rename_i h;subst h
      simp only [aget]
      split <;> rfl
    · rename_i h
      simp only [aget,aget_aset k j v r]
      split
      · rename_i h2;subst h2;rw [if_neg (fun e=>h e.symm)]
      · rfl
variable {s:KS} {enc:κ→Value} [ke:KeyE s enc] {vv:β→Value}
abbrev amap (enc:κ→Value) (vv:β→Value) (l:List (κ × β)):List (Value × Value):=l.map fun p=>(enc p.1,vv p.2)
end
class LkM (Γ:List HP) (r:Nat) (es:outParam (List (Value × Value))):Prop where
  get:∀ {h:Heap} {S:Nat→Prop},SatS Γ h S→r < h.size∧h.get r=some (.map es)
section
variable {Γ F:List HP} {r0:Nat} {es:List (Value × Value)}
instance lkm_hd:LkM (mp r0 es::Γ) r0 es:=⟨fun ⟨s,s',h1,_⟩=>⟨h1.2.1,h1.1⟩⟩
instance lkm_ro:LkM (ro (mp r0 es)::Γ) r0 es:=⟨fun ⟨s,s',⟨⟨s1,h1,_⟩,_⟩,_⟩=>⟨h1.2.1,h1.1⟩⟩
instance (priority:=900) lkm_tl {P:HP} [a:LkM Γ r0 es]:LkM (P::Γ) r0 es:=⟨fun ⟨s,s',_,h2,_⟩=>a.get h2⟩
end
class LkMW (Γ:List HP) (r:Nat) (es:outParam (List (Value × Value))) (F:outParam (List HP)):Prop where
  ent:Ent Γ (mp r es::F)
section
variable {Γ F:List HP} {r0:Nat} {es:List (Value × Value)}
instance lkmw_hd:LkMW (mp r0 es::Γ) r0 es Γ:=⟨.refl _⟩
instance (priority:=900) lkmw_tl {P:HP} [a:LkMW Γ r0 es F]:LkMW (P::Γ) r0 es (P::F):=⟨a.ent.there⟩
end
section
variable {prog:AProg} {rr:Option Nat} {e:Env} {Q:Pst} {k:List Kt} {x y q:Operand} {n t:Nat} {Γ F:List HP} {d bar:Bool} {r:List AI} {dst:Option Nat}
variable {s:KS} {z u v kv:Value} {m:Nat} {es es':List (Value × Value)} {vs:List Value} {h:Heap} {b:Bool}
section
variable {κ β:Type} [DecidableEq κ] {enc:κ→Value} [ke:KeyE s enc] {vv:β→Value} {key:κ} {val:β} {l:List (κ × β)}
end
section
variable {κ β:Type} [DecidableEq κ] {enc:κ→Value} [ke:KeyE s enc] {vv:β→Value} {key:κ} {val z0:β} {l:List (κ × β)}
end
instance v_lenM [a:LkM Γ m es]:Step (AtV n prog rr d bar (some t) (.len 2 x) [.map (some m)] r k e Γ Q) (AtS n prog rr (.o d r::k) .norm ((t,.int .i64 es.length)::e) Γ Q):=⟨fun g hE=>go1 (fun h hs p=>by
  obtain ⟨S,h1,_⟩:=hs.s
  obtain ⟨_,h2⟩:=a.get h1
  simp only [aop,hE.a,show (h.withProt p).get m=h.get m from rfl,h2]) g⟩
end
section
variable {α κ:Type} [DecidableEq κ] {K:Kind α} {enc:κ→Value} {r:Nat} {Γ F:List HP}
abbrev LE (κ α:Type):=κ × (List α × (Option Addr × Nat))
abbrev slV {α:Type} (q:List α × (Option Addr × Nat)):Value:=.slice q.2.1 q.1.length q.2.2
def ownE (K:Kind α) (q:LE κ α):HP:=own K q.2.2.1 q.2.2.2 q.2.1
/-- What a map holds, but for where it lies. -/
abbrev fst2 (Z:List (LE κ α)):List (κ × List α):=Z.map fun q=>(q.1,q.2.1)
def mapL (r:Nat) (enc:κ→Value) (K:Kind α) (f:List (κ × List α)):HP:=hx fun (Z:List (LE κ α))=>(fst2 Z=f,[mp r (amap enc slV Z),alls (ownE K) Z])
instance low_ownE {q:LE κ α}:Low (ownE K q):=low_own
instance low_mapL {f:List (κ × List α)}:Low (mapL r enc K f):=low_hx fun _=>inferInstance
end
inductive Kin2 (e:Env) (b1 b2:Nat):List (Nat × Nat)→Prop where
  | nil:Kin2 e b1 b2 []
  | one {j t o:Nat} {r:List (Nat × Nat)} (h:Env.get e t=some (.pointer (some ⟨b1,o,none⟩))) (w:Kin2 e b1 b2 r):Kin2 e b1 b2 ((j,t)::r)
  | two {j t o:Nat} {r:List (Nat × Nat)} (h:Env.get e t=some (.pointer (some ⟨b2,o,none⟩))) (w:Kin2 e b1 b2 r):Kin2 e b1 b2 ((j,t)::r)
theorem Kin2.mem {e:Env} {b1 b2:Nat} {ks:List (Nat × Nat)} (h:Kin2 e b1 b2 ks):∀ x ∈ ks,(∃ o,Env.get e x.2=some (.pointer (some ⟨b1,o,none⟩)))∨∃ o,Env.get e x.2=some (.pointer (some ⟨b2,o,none⟩)):=by
  induction h with
  | nil=>intro x hx;cases hx
  | one h w ih =>
    intro x hx
    rcases List.mem_cons.1 hx with rfl|hx
    · exact .inl ⟨_,h⟩
    · exact ih x hx
  | two h w ih =>
    intro x hx
    rcases List.mem_cons.1 hx with rfl|hx
    · exact .inr ⟨_,h⟩
    · exact ih x hx
section
variable {prog:AProg} {rr:Option Nat} {e e1 e2:Env} {Q:Pst} {k:List Kt} {n:Nat} {Γ Γ1 Γ2 F F':List HP} {ks ap:List (Nat × Nat)} {l l1 l2:List AI} {c:AI} {b1 b2 sz z1 z2:Nat} {cs1 cs2:List Value}
end
section
variable {prog:AProg} {rr:Option Nat} {e e':Env} {Q:Pst} {k:List Kt} {x y z:Operand} {ax:AX} {n:Nat} {Γ Δ F Γ':List HP} {d bar:Bool} {r:List AI} {t:Nat} {dst:Option Nat} {u v v1 v2 v3:Value} {vs:List Value} {op:AOp} {h h':Heap}

end
end Go.AMS

