/- A part of the abstract machine, or of what is proved of the program by it. -/
import Derived.Test.YtenihfdlckgmmaaGreatAmSepB
namespace Go.AMS
open Go.AM hiding Kt At WP WL Runs RunsY
open Go.AM.G
set_option linter.unusedVariables false
set_option linter.unusedSectionVars false
set_option linter.unusedSimpArgs false
class KeyE (s:KS) {κ:Type} [DecidableEq κ] (enc:κ→Value):Prop where
  eq:∀ a b:κ,eqK s (enc a) (enc b)=some (decide (a=b))
def kI (x:Int):Value:=.int .i64 x
def kII (x:Int × Int):Value:=.agg (List.toArray [.int .i64 x.1,.int .i64 x.2])
instance keyE_int:KeyE (.one 1) kI:=⟨fun a b=>by
  show (if (IntKind.i64=IntKind.i64) then some (a == b) else none)=_
  rw [if_pos rfl];rfl⟩
instance keyE_pair:KeyE (.many [1,1]) kII:=⟨fun a b=>by
  obtain ⟨a1,a2⟩:=a
  obtain ⟨b1,b2⟩:=b
  simp only [eqK,kII,eqCells,eqs,if_true,Option.bind_some,Option.map_some]
  congr 1
  by_cases h1:a1=b1 <;> by_cases h2:a2=b2 <;> simp [h1,h2]⟩
section
variable {κ β:Type} [DecidableEq κ]
/-- What a map has at a key. -/
def aget (k:κ):List (κ × β)→Option β
  | []=>none
  | (k',v)::r=>if k=k' then some v else aget k r
/-- A map with something put at a key. -/
def aset (k:κ) (v:β):List (κ × β)→List (κ × β)
  | []=>[(k,v)]
  | (k',v')::r=>if k=k' then (k,v)::r else (k',v')::aset k v r
/-- A key's place. -/
def apos (k:κ):List (κ × β)→Nat
  | []=>0
  | (k',_)::r=>if k=k' then 0 else apos k r + 1
/-- A map in which a key is. -/
def aent (k:κ) (z:β):List (κ × β)→List (κ × β)
  | []=>[(k,z)]
  | (k',v)::r=>if k=k' then (k',v)::r else (k',v)::aent k z r
theorem aget_aset (k j:κ) (v:β):∀ l:List (κ × β),aget j (aset k v l)=if j=k then some v else aget j l
  | []=>by simp only [aset,aget]
  | (k',v')::r=>by
    simp only [aset]
    split
    · rename_i h;subst h
      simp only [aget]
      split <;> rfl
    · rename_i h
      simp only [aget,aget_aset k j v r]
      split
      · rename_i h2;subst h2;rw [if_neg (fun e=>h e.symm)]
      · rfl
theorem aset_get {k:κ} {v z:β}:∀ {l:List (κ × β)},(aent k z l).set (apos k l) (k,v)=aset k v l
  | []=>rfl
  | (k',v')::r=>by
    simp only [aent,apos,aset]
    split
    · rfl
    · rw [List.set_cons_succ,aset_get]
variable {s:KS} {enc:κ→Value} [ke:KeyE s enc] {vv:β→Value}
abbrev amap (enc:κ→Value) (vv:β→Value) (l:List (κ × β)):List (Value × Value):=l.map fun p=>(enc p.1,vv p.2)
theorem keyOk_enc (k:κ):keyOk s (enc k)=true:=by unfold keyOk;rw [ke.eq];rfl
theorem findM_enc (k:κ):∀ l:List (κ × β),findM s (enc k) (amap enc vv l)=some ((aget k l).map vv)
  | []=>rfl
  | (k',v)::r=>by
    simp only [amap,List.map_cons,findM,aget,ke.eq]
    by_cases h:k=k'
    · rw [if_pos h,decide_eq_true h];rfl
    · rw [if_neg h,decide_eq_false h];exact findM_enc k r
theorem updM_enc (k:κ) (v:β):∀ l:List (κ × β),updM s (enc k) (vv v) (amap enc vv l)=some (amap enc vv (aset k v l))
  | []=>rfl
  | (k',v')::r=>by
    simp only [amap,List.map_cons,updM,aset,ke.eq]
    by_cases h:k=k'
    · rw [if_pos h,decide_eq_true h];rfl
    · rw [if_neg h,decide_eq_false h]
      have:=updM_enc k v r
      simp only [amap] at this
      simp only [this,Option.map_some,List.map_cons]
end
class LkM (Γ:List HP) (r:Nat) (es:outParam (List (Value × Value))):Prop where
  get:∀ {h:Heap} {S:Nat→Prop},SatS Γ h S→r < h.size∧h.get r=some (.map es)
section
variable {Γ F:List HP} {r0:Nat} {es:List (Value × Value)}
instance lkm_hd:LkM (mp r0 es::Γ) r0 es:=⟨fun ⟨s,s',h1,_⟩=>⟨h1.2.1,h1.1⟩⟩
instance lkm_ro:LkM (ro (mp r0 es)::Γ) r0 es:=⟨fun ⟨s,s',⟨⟨s1,h1,_⟩,_⟩,_⟩=>⟨h1.2.1,h1.1⟩⟩
instance (priority:=900) lkm_tl {P:HP} [a:LkM Γ r0 es]:LkM (P::Γ) r0 es:=⟨fun ⟨s,s',_,h2,_⟩=>a.get h2⟩
end
class LkMW (Γ:List HP) (r:Nat) (es:outParam (List (Value × Value))) (F:outParam (List HP)):Prop where
  ent:Ent Γ (mp r es::F)
section
variable {Γ F:List HP} {r0:Nat} {es:List (Value × Value)}
instance lkmw_hd:LkMW (mp r0 es::Γ) r0 es Γ:=⟨.refl _⟩
instance (priority:=900) lkmw_tl {P:HP} [a:LkMW Γ r0 es F]:LkMW (P::Γ) r0 es (P::F):=⟨a.ent.there⟩
end
section
variable {prog:AProg} {rr:Option Nat} {e:Env} {Q:Pst} {k:List Kt} {x y q:Operand} {n t:Nat} {Γ F:List HP} {d bar:Bool} {r:List AI} {dst:Option Nat}
variable {s:KS} {z u v kv:Value} {m:Nat} {es es':List (Value × Value)} {vs:List Value} {h:Heap} {b:Bool}
theorem sat_map (hs:Sat n (mp m es::F) h):h.get m=some (.map es)∧n≤m∧Sat n (mp m es'::F) (h.set m (.map es')):=by
  obtain ⟨⟨S,⟨s,s',⟨h1,h2,rfl⟩,h3,h4,h5⟩,h6⟩,hp,hn⟩:=hs
  have hb:n≤m:=h6 m ((h5 m).2 (.inl rfl))
  exact ⟨h1,hb,⟨⟨S,⟨(·=m),s',⟨by rw [Heap.get_set,if_pos rfl],h2,rfl⟩,h3.loc (.set _ (by rw [hp];exact hb) (fun c q=>by rw [h1] at q;cases q)) (fun x hx=>by rw [Heap.get_set,if_neg (fun e=>h4 x e hx)]),h4,h5⟩,h6⟩,hp,hn⟩⟩
theorem av_look {res:Option Value} (a:LkM Γ m es) (hk:keyOk s kv=true) (hf:findM s kv es=some res)
    (g:AtS n prog rr (.o d r::k) .norm ((t,match res with|some v=>bif b then .tuple #[v,.bool true] else v|none=>bif b then .tuple #[z,.bool false] else z)::e) Γ Q):AtV n prog rr d bar (some t) (.lookup s z b x y) [.map (some m),kv] r k e Γ Q:=fun hE=>go1 (fun h hs p=>by
  obtain ⟨S,h1,_⟩:=hs.s
  obtain ⟨_,h2⟩:=a.get h1
  simp only [aop,hE.a,hE.b]
  rw [if_pos hk]
  simp only [show (h.withProt p).get m=h.get m from rfl,h2,hf]
  cases res <;> rfl) g
theorem av_mapupd (hd:(d && !bar)=false) (a:LkMW Γ m es F) (hk:keyOk s kv=true) (hu:updM s kv v es=some es')
    (g:AtS n prog rr (.o d r::k) .norm (put e dst undef) (mp m es'::F) Q):AtV n prog rr d bar dst (.mapupd s x y q) [.map (some m),kv,v] r k e Γ Q:=fun hE h hs=>by
  have h1:=a.ent.sat hs
  obtain ⟨h2,h3,h4⟩:=sat_map (es':=es') h1
  refine at_one (v:=undef) (h':=h.set m (.map es')) (opD_eq hd ?_) (g _ h4)
  simp only [aop,hE.a,hE.b,hE.c,h2]
  rw [if_pos ⟨by rw [h1.prot];exact h3,hk⟩,hu];rfl
theorem av_mapent {i:Nat} (hd:(d && !bar)=false) (a:LkMW Γ m es F) (hk:keyOk s kv=true) (hu:entM s kv z es=some (i,v,es'))
    (g:AtS n prog rr (.o d r::k) .norm ((t,.tuple #[v,.int .i64 i])::e) (mp m es'::F) Q):AtV n prog rr d bar (some t) (.mapent s z x y) [.map (some m),kv] r k e Γ Q:=fun hE h hs=>by
  have h1:=a.ent.sat hs
  obtain ⟨h2,h3,h4⟩:=sat_map (es':=es') h1
  refine at_one (h':=h.set m (.map es')) (opD_eq hd ?_) (g _ h4)
  simp only [aop,hE.a,hE.b,h2]
  rw [if_pos ⟨by rw [h1.prot];exact h3,hk⟩,hu];rfl
theorem av_entst {i:Nat} {w:Value × Value} (hd:(d && !bar)=false) (a:LkMW Γ m es F) (hi:es[i]? = some w)
    (g:AtS n prog rr (.o d r::k) .norm (put e dst undef) (mp m (es.set i (w.1,u))::F) Q):AtV n prog rr d bar dst (.entst x y q) [.map (some m),.int .i64 (i:Int),u] r k e Γ Q:=fun hE h hs=>by
  have h1:=a.ent.sat hs
  obtain ⟨h2,h3,h4⟩:=sat_map (es':=es.set i (w.1,u)) h1
  refine at_one (v:=undef) (h':=h.set m (.map (es.set i (w.1,u)))) (opD_eq hd ?_) (g _ h4)
  simp only [aop,hE.a,hE.b,hE.c,h2]
  show (match es[i]? with|some x=>_|none=>_)=_
  rw [hi]
  simp only
  rw [if_pos (by rw [h1.prot];exact h3)]
section
variable {κ β:Type} [DecidableEq κ] {enc:κ→Value} [ke:KeyE s enc] {vv:β→Value} {key:κ} {val:β} {l:List (κ × β)}
theorem av_look1 (a:LkM Γ m (amap enc vv l)) (hq:aget key l=some val) (g:AtS n prog rr (.o d r::k) .norm ((t,.tuple #[vv val,.bool true])::e) Γ Q):AtV n prog rr d bar (some t) (.lookup s z true x y) [.map (some m),enc key] r k e Γ Q :=
  av_look (res:=some (vv val)) a (keyOk_enc key) (by rw [findM_enc,hq];rfl) g
theorem av_look0 (a:LkM Γ m (amap enc vv l)) (hq:aget key l=none) (g:AtS n prog rr (.o d r::k) .norm ((t,.tuple #[z,.bool false])::e) Γ Q):AtV n prog rr d bar (some t) (.lookup s z true x y) [.map (some m),enc key] r k e Γ Q :=
  av_look (res:=none) a (keyOk_enc key) (by rw [findM_enc,hq];rfl) g
theorem av_at1 (a:LkM Γ m (amap enc vv l)) (hq:aget key l=some val) (g:AtS n prog rr (.o d r::k) .norm ((t,vv val)::e) Γ Q):AtV n prog rr d bar (some t) (.lookup s z false x y) [.map (some m),enc key] r k e Γ Q :=
  av_look (res:=some (vv val)) a (keyOk_enc key) (by rw [findM_enc,hq];rfl) g
theorem av_at0 (a:LkM Γ m (amap enc vv l)) (hq:aget key l=none) (g:AtS n prog rr (.o d r::k) .norm ((t,z)::e) Γ Q):AtV n prog rr d bar (some t) (.lookup s z false x y) [.map (some m),enc key] r k e Γ Q :=
  av_look (res:=none) a (keyOk_enc key) (by rw [findM_enc,hq];rfl) g
theorem av_put (hd:(d && !bar)=false) (a:LkMW Γ m (amap enc vv l) F) (g:AtS n prog rr (.o d r::k) .norm (put e dst undef) (mp m (amap enc vv (aset key val l))::F) Q):AtV n prog rr d bar dst (.mapupd s x y q) [.map (some m),enc key,vv val] r k e Γ Q :=
  av_mapupd hd a (keyOk_enc key) (updM_enc key val l) g
end
section
variable {κ β:Type} [DecidableEq κ] {enc:κ→Value} [ke:KeyE s enc] {vv:β→Value} {key:κ} {val z0:β} {l:List (κ × β)}
theorem entM_enc (key:κ) (z0:β):∀ l:List (κ × β),entM s (enc key) (vv z0) (amap enc vv l)=some (apos key l,vv ((aget key l).getD z0),amap enc vv (aent key z0 l))
  | []=>rfl
  | (k',v')::r=>by
    simp only [amap,List.map_cons,entM,aget,apos,aent,ke.eq]
    by_cases h:key=k'
    · rw [if_pos h,if_pos h,if_pos h,decide_eq_true h];subst h;rfl
    · rw [if_neg h,if_neg h,if_neg h,decide_eq_false h]
      have:=entM_enc key z0 r
      simp only [amap] at this
      simp only [this,Option.map_some,List.map_cons]
/-- The entry of a key, laid where there is none. -/
theorem av_ent1 (hd:(d && !bar)=false) (a:LkMW Γ m (amap enc vv l) F) (hz:z=vv z0) (g:AtS n prog rr (.o d r::k) .norm ((t,.tuple #[vv ((aget key l).getD z0),.int .i64 (apos key l:Int)])::e) (mp m (amap enc vv (aent key z0 l))::F) Q):AtV n prog rr d bar (some t) (.mapent s z x y) [.map (some m),enc key] r k e Γ Q :=
  av_mapent hd a (keyOk_enc key) (by rw [hz];exact entM_enc key z0 l) g
theorem aent_at (key:κ) (z0:β):∀ l:List (κ × β),(amap enc vv (aent key z0 l))[apos key l]? = some (enc key,vv ((aget key l).getD z0))
  | []=>rfl
  | (k',v')::r=>by
    simp only [aent,apos,aget]
    by_cases h:key=k'
    · rw [if_pos h,if_pos h,if_pos h,h];rfl
    · rw [if_neg h,if_neg h,if_neg h]
      have:=aent_at key z0 r
      simp only [amap,List.map_cons,List.getElem?_cons_succ] at this ⊢
      exact this
theorem av_ent2 (hd:(d && !bar)=false) (a:LkMW Γ m (amap enc vv (aent key z0 l)) F) (g:AtS n prog rr (.o d r::k) .norm (put e dst undef) (mp m (amap enc vv (aset key val l))::F) Q):AtV n prog rr d bar dst (.entst x y q) [.map (some m),.int .i64 (apos key l:Int),vv val] r k e Γ Q:=by
  refine av_entst hd a (aent_at (enc:=enc) (vv:=vv) key z0 l) ?_
  have h:(amap enc vv (aent key z0 l)).set (apos key l) (enc key,vv val)=amap enc vv (aset key val l):=by
    rw [← aset_get (z:=z0)]
    simp only [amap,List.map_set]
  rw [h];exact g
end
instance v_lenM [a:LkM Γ m es]:Step (AtV n prog rr d bar (some t) (.len 2 x) [.map (some m)] r k e Γ Q) (AtS n prog rr (.o d r::k) .norm ((t,.int .i64 es.length)::e) Γ Q):=⟨fun g hE=>go1 (fun h hs p=>by
  obtain ⟨S,h1,_⟩:=hs.s
  obtain ⟨_,h2⟩:=a.get h1
  simp only [aop,hE.a,show (h.withProt p).get m=h.get m from rfl,h2]) g⟩
end
section
variable {α κ:Type} [DecidableEq κ] {K:Kind α} {enc:κ→Value} {r:Nat} {Γ F:List HP}
abbrev LE (κ α:Type):=κ × (List α × (Option Addr × Nat))
abbrev slV {α:Type} (q:List α × (Option Addr × Nat)):Value:=.slice q.2.1 q.1.length q.2.2
def ownE (K:Kind α) (q:LE κ α):HP:=own K q.2.2.1 q.2.2.2 q.2.1
/-- What a map holds, but for where it lies. -/
abbrev fst2 (Z:List (LE κ α)):List (κ × List α):=Z.map fun q=>(q.1,q.2.1)
def mapL (r:Nat) (enc:κ→Value) (K:Kind α) (f:List (κ × List α)):HP:=hx fun (Z:List (LE κ α))=>(fst2 Z=f,[mp r (amap enc slV Z),alls (ownE K) Z])
instance low_ownE {q:LE κ α}:Low (ownE K q):=low_own
instance low_mapL {f:List (κ × List α)}:Low (mapL r enc K f):=low_hx fun _=>inferInstance
theorem aget_fst2 (k:κ):∀ Z:List (LE κ α),aget k (fst2 Z)=(aget k Z).map (·.1)
  | []=>rfl
  | (k',v)::Z=>by
    simp only [fst2,List.map_cons,aget]
    split
    · rfl
    · exact aget_fst2 k Z
theorem aset_fst2 (k:κ) (v:List α × (Option Addr × Nat)):∀ Z:List (LE κ α),fst2 (aset k v Z)=aset k v.1 (fst2 Z)
  | []=>rfl
  | (k',v')::Z=>by
    simp only [fst2,List.map_cons,aset]
    split
    · rfl
    · simp only [List.map_cons];congr 1;exact aset_fst2 k v Z
theorem aset_none {β:Type} {k:κ} {v:β}:∀ {Z:List (κ × β)},aget k Z=none→aset k v Z=Z++[(k,v)]
  | [],_=>rfl
  | (k',v')::Z,h=>by
    simp only [aget] at h
    split at h
    · cases h
    · rename_i hk;simp only [aset];rw [if_neg hk,aset_none h];rfl
theorem aset_some {β:Type} {k:κ} {v v0:β}:∀ {Z:List (κ × β)},aget k Z=some v0→∃ hi:apos k Z < Z.length,Z[apos k Z]=(k,v0)∧aset k v Z=Z.set (apos k Z) (k,v)
  | [],h=>by cases h
  | (k',v')::Z,h=>by
    simp only [aget] at h
    by_cases hk:k=k'
    · rw [if_pos hk] at h;cases h
      subst hk
      refine ⟨by simp [apos],by simp [apos],by simp [aset,apos]⟩
    · rw [if_neg hk] at h
      obtain ⟨h1,h2,h3⟩:=aset_some (v:=v) h
      refine ⟨by simp only [apos,if_neg hk,List.length_cons];omega,?_,?_⟩
      · simp only [apos,if_neg hk,List.getElem_cons_succ];exact h2
      · simp only [aset,apos,if_neg hk,List.set_cons_succ,h3]
theorem alls_snoc {α:Type} {f:α→HP} {l:List α} {a:α}:Ent (f a::alls f l::Γ) (alls f (l++[a])::Γ):=by
  refine (Ent.cons alls_open).trans ?_
  refine ent_back.trans ?_
  have:l.map f++f a::Γ=(l++[a]).map f++Γ:=by simp
  rw [this]
  exact alls_close
theorem alls_nil {α:Type} {f:α→HP}:Ent Γ (alls f []::Γ):=fun h S hs=>⟨S,⟨fun _=>False,S,fun b q=>q,hs,fun _ q=>q.elim,fun b=>by simp⟩,fun b hb=>hb⟩
/-- One of the lists, taken out; and another one, or a new one, put in. -/
theorem ownE_take {k:κ} {l:List α} {x:Option Addr × Nat} {Z:List (LE κ α)} (h:aget k Z=some (l,x)):Ent (alls (ownE K) Z::Γ) (own K x.1 x.2 l::alls (ownE K) (Z.eraseIdx (apos k Z))::Γ):=by
  obtain ⟨h1,h2,_⟩:=aset_some (v:=(l,x)) h
  have:=alls_take (f:=ownE K) (Γ:=Γ) h1
  rw [h2] at this;exact this
theorem ownE_put {k:κ} {l l':List α} {x x':Option Addr × Nat} {Z:List (LE κ α)} (h:aget k Z=some (l,x)):Ent (own K x'.1 x'.2 l'::alls (ownE K) (Z.eraseIdx (apos k Z))::Γ) (alls (ownE K) (aset k (l',x') Z)::Γ):=by
  obtain ⟨h1,h2,h3⟩:=aset_some (v:=(l',x')) h
  rw [h3]
  exact alls_put (f:=ownE K) (a:=(k,(l',x'))) h1
theorem ownE_new {k:κ} {l':List α} {x':Option Addr × Nat} {Z:List (LE κ α)} (h:aget k Z=none):Ent (own K x'.1 x'.2 l'::alls (ownE K) Z::Γ) (alls (ownE K) (aset k (l',x') Z)::Γ):=by
  rw [aset_none h]
  exact alls_snoc (f:=ownE K) (a:=(k,(l',x')))
end
inductive Kin2 (e:Env) (b1 b2:Nat):List (Nat × Nat)→Prop where
  | nil:Kin2 e b1 b2 []
  | one {j t o:Nat} {r:List (Nat × Nat)} (h:Env.get e t=some (.pointer (some ⟨b1,o,none⟩))) (w:Kin2 e b1 b2 r):Kin2 e b1 b2 ((j,t)::r)
  | two {j t o:Nat} {r:List (Nat × Nat)} (h:Env.get e t=some (.pointer (some ⟨b2,o,none⟩))) (w:Kin2 e b1 b2 r):Kin2 e b1 b2 ((j,t)::r)
theorem Kin2.mem {e:Env} {b1 b2:Nat} {ks:List (Nat × Nat)} (h:Kin2 e b1 b2 ks):∀ x ∈ ks,(∃ o,Env.get e x.2=some (.pointer (some ⟨b1,o,none⟩)))∨∃ o,Env.get e x.2=some (.pointer (some ⟨b2,o,none⟩)):=by
  induction h with
  | nil=>intro x hx;cases hx
  | one h w ih =>
    intro x hx
    rcases List.mem_cons.1 hx with rfl|hx
    · exact .inl ⟨_,h⟩
    · exact ih x hx
  | two h w ih =>
    intro x hx
    rcases List.mem_cons.1 hx with rfl|hx
    · exact .inr ⟨_,h⟩
    · exact ih x hx
section
variable {prog:AProg} {rr:Option Nat} {e e1 e2:Env} {Q:Pst} {k:List Kt} {n:Nat} {Γ Γ1 Γ2 F F':List HP} {ks ap:List (Nat × Nat)} {l l1 l2:List AI} {c:AI} {b1 b2 sz z1 z2:Nat} {cs1 cs2:List Value}
def KQ2 (prog:AProg) (rr:Option Nat) (b1:Nat) (cs1:List Value) (z1:Nat) (b2:Nat) (cs2:List Value) (z2:Nat) (l2:List AI) (ap:List (Nat × Nat)) (k:List Kt) (sz:Nat) (Q:Pst):Pst:=fun x e2 h2=>x=.norm∧(h2.get b1=some (.cells cs1 (some z1))∧veqL cs1 cs1=true)∧(h2.get b2=some (.cells cs2 (some z2))∧veqL cs2 cs2=true)∧G.At prog rr (.o true l2::.ap sz ap::k) .norm e2 h2 Q
theorem at_opsKS2 (b1 b2 j:Nat) [s:Splt l j l1 c l2] [a:LkW Γ b1 cs1 z1 F] [a':LkW Γ b2 cs2 z2 F'] (w:∀ sz,b1 < sz→b2 < sz→AtS n prog rr [.o true l1] .norm e Γ (KP1 prog rr c l2 ks ap k sz Q)) (hk:ks.all (fun x=>x.1 == j)=true:=by rfl):AtS n prog rr (.c (.opsK ks ap l)::k) .norm e Γ Q:=fun h hs=>by
  rw [s.eq]
  refine at_opsK (fun x hx=>?_) ?_
  · have:=List.all_eq_true.1 hk x hx
    rw [s.len];simpa using this
  · have h1:=w h.size (lkw_get a hs).1 (lkw_get a' hs).1 h hs
    exact wl_mono h1 (fun e1 h1 hq=>hq.2)
theorem kq1 (b1 b2:Nat) [a:LkW Γ1 b1 cs1 z1 F] [a':LkW Γ1 b2 cs2 z2 F'] (w:AtS n prog rr [.o true [c]] .norm e1 Γ1 (KQ2 prog rr b1 cs1 z1 b2 cs2 z2 l2 ap k sz Q)) (hb:b1 < sz) (hb':b2 < sz) (hk:Kin2 e1 b1 b2 ks:=by repeat first|exact Kin2.nil|(apply Kin2.one;exact rfl)|(apply Kin2.two;exact rfl)):AtS n prog rr [] .norm e1 Γ1 (KP1 prog rr c l2 ks ap k sz Q):=fun h1 hs1=>by
  refine ⟨rfl,wl_mono (w h1 hs1) (fun e2 h2 hq=>?_)⟩
  obtain ⟨_,⟨q1,q2⟩,⟨q1',q2'⟩,q3⟩:=hq
  refine ⟨fun x hx p hp=>?_,q3⟩
  rcases hk.mem x hx with ⟨o,ho⟩|⟨o,ho⟩
  · rw [ho] at hp;cases hp
    exact ⟨hb,cs1,z1,(lkw_get a hs1).2,q1,q2⟩
  · rw [ho] at hp;cases hp
    exact ⟨hb',cs2,z2,(lkw_get a' hs1).2,q1',q2'⟩
theorem kq2 [a:LkW Γ2 b1 cs1 z1 F] [a':LkW Γ2 b2 cs2 z2 F'] [f:Flt cs1] [f':Flt cs2] (w:AtS n prog rr (.o true l2::.ap sz ap::k) .norm e2 Γ2 Q):AtS n prog rr [] .norm e2 Γ2 (KQ2 prog rr b1 cs1 z1 b2 cs2 z2 l2 ap k sz Q):=fun h2 hs2=>⟨rfl,⟨(lkw_get a hs2).2,f.eq⟩,⟨(lkw_get a' hs2).2,f'.eq⟩,w h2 hs2⟩
end
section
variable {prog:AProg} {rr:Option Nat} {e e':Env} {Q:Pst} {k:List Kt} {x y z:Operand} {ax:AX} {n:Nat} {Γ Δ F Γ':List HP} {d bar:Bool} {r:List AI} {t:Nat} {dst:Option Nat} {u v v1 v2 v3:Value} {vs:List Value} {op:AOp} {h h':Heap}

/-- The like, where what is handed to the body is known but for some data, with parts that go with it. -/
theorem at_rfunSD {D:Type} {fn:FuncId} {f:Operand} {ps:List Nat} {asg body:ACode} {first cap:Array Value} {Ps Po:List HP} {args:Nat→List Value} (I:Nat→HP) (J:AX→HP) (N:Nat) (va:Nat→D→List Value) (Pa:Nat→D→List HP)
    (hi:∀ (ly:Nat) (A:Nat→HP) (B:AX→HP),(∀ i,i < N→∀ d,YSpec prog ly (va i d) (A i::Pa i d) (fun R=>R (.bool true) [A (i + 1)]∧∀ x,x≠.norm→R (.bool false) [B x])) →
      Spec prog fn (args ly) (A 0::Ps) (fun R=>(∀ v,R v (A N::Po))∧∀ x v,x≠.norm→R v (B x::Po)))
    (hn:∀ i,i < N→∀ d,(va i d).length=ps.length)
    (hb:∀ i,i < N→∀ d ly m F',AtS m prog (some ly) [.c asg] .norm (bindPs ps (va i d) e) (lrec ly ⟨ps,asg,body,e,.ready,none⟩::I i::(Pa i d++F')) (AsgP m prog ly ⟨ps,asg,body,e,.ready,none⟩ (I (i + 1)) J F'))
    (w:AtS n prog rr k .norm e (I N::(Po++F)) Q) (wx:∀ x,x≠.norm→AtS n prog rr k x e (J x::(Po++F)) Q)
    (hf:ev e f=some (.func (.func fn) first cap):=by rfl) (hargs:∀ ly,first.toList++[.func (.yield ly) #[] #[]]++cap.toList=args ly:=by intro _;rfl) (hr:RoOk rr Γ:=by infer_instance) (hs:Ent Γ (I 0::(Ps++F)):=by
      repeat first|exact Ent.refl _|(apply Ent.more;· repeat first|exact Ent.keep|exact Ent.here|exact Ent.lend|exact ent_nil|apply Ent.there)):AtS n prog rr (.c (.rfun f ps asg body)::k) .norm e Γ Q:=fun h hh=>by
  have hro:=hr.ok hh
  obtain ⟨⟨S,h1,h2⟩,hp,hle⟩:=hs.sat hh
  refine at_rfun hf (by omega) hro ?_
  have hin:=h1.inb
  -- the record is new
  generalize hrec:(⟨ps,asg,body,e,.ready,none⟩:ARec)=rec at *
  have hst:=St.push h (.loop rec)
  have hsat:Sat n (recI h.size rec (I 0)::(Ps++F)) (h.push (.loop rec)):=by
    refine recI_fold.sat ⟨⟨_,⟨(·=h.size),S,⟨by rw [Heap.get_push,if_pos rfl],by simp,rfl⟩,h1.loc hst (fun b hb=>by rw [Heap.get_push,if_neg (by have:=hin b hb;omega)]),fun b q1 q2=>by have:=hin b q2;rw [show b=h.size from q1] at this;omega,fun b=>Iff.rfl⟩,fun b q=>?_⟩,hp,by have:=hle;simp;omega⟩
    rcases q with q|q
    · rw [show b=h.size from q];exact hle
    · exact h2 b q
  have hrec':rec=⟨ps,asg,body,e,.ready,none⟩:=hrec.symm
  have hits:=hi h.size (fun i=>recI h.size rec (I i)) (fun x=>recI h.size (Done rec x) (J x)) ?_ n F (h.push (.loop rec))
    (fun _ Γ'=>(Γ'=recI h.size rec (I N)::Po)∨∃ x,x≠.norm∧Γ'=recI h.size (Done rec x) (J x)::Po) (by simpa using hsat) ⟨fun _=>.inl rfl,fun x _ hx=>.inr ⟨x,hx,rfl⟩⟩
  · rw [hargs]
    refine hits.mono ?_
    rintro v h' _ _ ⟨Γ',hc,hsat'⟩
    rcases hc with rfl|⟨x,hx,rfl⟩
    · have h3:=recI_open.sat hsat'
      obtain ⟨h4,h5⟩:=lrec_dead h3
      refine ⟨rec,h5,by rw [hrec'];simp,fun _ _=>?_⟩
      have:=w _ h4
      rw [hrec'];exact this
    · have h3:=recI_open.sat hsat'
      obtain ⟨h4,h5⟩:=lrec_dead h3
      refine ⟨Done rec x,h5,by simp [Done],fun _ _=>?_⟩
      exact wx x hx _ h4
  · subst hrec'
    intro i hi d m F' h' R hs' hw
    have h3:=recI_open.sat hs'
    obtain ⟨-,h4,h5⟩:=lrec_set (r1:=⟨ps,asg,body,e,.ready,none⟩) h3
    have hpr:h'.prot=m:=h3.prot
    refine runsY_round h4 rfl (by omega) (hn i hi d) ?_
    have h6:=hb i hi d h.size m F' h' h3
    refine G.WP.mono h6 ?_
    rintro x e1 h1 _ ⟨rfl,Γ1,h7,h8⟩
    obtain ⟨h9,h10,h11⟩:=lrec_set (r1:=Busy ⟨ps,asg,body,e,.ready,none⟩) h7
    refine ⟨rfl,_,h10,rfl,by have:=h7.prot;omega,?_⟩
    refine G.WP.mono (h8 _ h9) ?_
    rintro x e3 h12 _ hq
    by_cases hx:x=.norm
    · subst hx
      obtain ⟨h13,h14,h15⟩:=lrec_set (r1:=⟨ps,asg,body,e,.ready,none⟩) (show Sat m (lrec h.size (Busy _)::I (i + 1)::F') h12 from hq)
      refine ⟨_,h14,fun _=>⟨_,hw.1,?_⟩,fun q=>absurd rfl q⟩
      rw [wp_eq (by have:=h13.prot;simp at this ⊢;omega)]
      exact recI_fold.sat h13
    · have hq':Sat m (lrec h.size (Busy ⟨ps,asg,body,e,.ready,none⟩)::J x::F') h12:=by
        cases x with
        | norm=>exact absurd rfl hx
        | exit i=>exact hq
        | ret=>exact hq
      obtain ⟨h13,h14,h15⟩:=lrec_set (r1:=Done ⟨ps,asg,body,e,.ready,none⟩ x) hq'
      refine ⟨_,h14,fun q=>absurd q hx,fun _=>⟨_,hw.2 x hx,?_⟩⟩
      rw [wp_eq (by have:=h13.prot;simp at this ⊢;omega)]
      exact recI_fold.sat h13
end
end Go.AMS

