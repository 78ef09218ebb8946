/- A part of the abstract machine, or of what is proved of the program by it. -/
import Derived.Test.YtenihfdlckgmmaaGreatAmSepC
import Derived.Test.YtenihfdlckgmmaaGreatAmOpenG
namespace Go.AMS
open Go.AM hiding Kt At WP WL Runs RunsY
open Go.AM.G
set_option linter.unusedVariables false
set_option linter.unusedSectionVars false
set_option linter.unusedSimpArgs false
def kPtr:Kind Nat:=⟨1,by decide,fun _ cs b=>cs=[.pointer (some ⟨b,0,none⟩)],fun _ h=>h,fun h=>by rw [h];rfl,fun h=>by rw [h];rfl⟩
instance esz_ptr:Esz kPtr 1:=⟨rfl⟩
instance ofv_ptr {b:Nat}:OfV kPtr (.pointer (some ⟨b,0,none⟩)) b True:=⟨fun _ _=>rfl⟩
instance kof_ptr {b:Nat} {cs:List Value}:KOf (.pointer (some ⟨b,0,none⟩)::cs) kPtr:=⟨trivial⟩
section
variable {prog:AProg} {rr:Option Nat} {e:Env} {Q:Pst} {k:List Kt} {x:Operand} {n:Nat} {Γ:List HP} {d bar:Bool} {r:List AI} {t i:Nat} {p:Option Addr}
instance v_elemP {lp:List Nat} [s:LkS Γ p kPtr lp]:Step (AtV n prog rr d bar (some t) (.load1 x) [.pointer (elt p i 1 0)] r k e Γ Q) (Sx fun (hi:i < lp.length)=>AtS n prog rr (.o d r::k) .norm ((t,.pointer (some ⟨lp[i],0,none⟩))::e) Γ Q) :=
  ⟨fun g hE=>elt_load s esz_ptr fldI rfl g.c hE (fun h v hs q=>by cases q;exact g.a h hs)⟩
end
section
variable {α β:Type} {f:α→HP} {g:α→β→HP} {l:List α} {Γ F A B:List HP} {P:HP}
/-- All of many. -/
def alls (f:α→HP) (l:List α):HP:=⟨fun h s=>SatS (l.map f) h s,fun hs=>hs.inb,fun hs st hg=>hs.loc st hg⟩
instance low_alls [h:∀ a,Low (f a)]:Low (alls f l):=⟨fun {hh s} m hs=>by
  have:LowL (l.map f):=⟨fun P hP=>by obtain ⟨a,_,rfl⟩:=List.mem_map.1 hP;exact h a⟩
  exact this.sat m hs⟩
/-- Things behind pointers, one each. -/
def each (g:α→β→HP) (xs:List α) (ys:List β):HP:=alls (fun x=>g x.1 x.2) (xs.zip ys)
variable {xs:List α} {ys:List β}
instance low_each [h:∀ a b,Low (g a b)]:Low (each g xs ys):=low_alls
end
end Go.AMS


namespace Go.AMS
open Go.AM hiding Kt At WP WL Runs RunsY
open Go.AM.G
set_option linter.unusedVariables false
set_option linter.unusedSectionVars false

/-- All that is there is frozen for ever. -/
def AllFr (h:Heap):Prop:=∀ b,b < h.size→(∃ c,h.get b=some (.cells c none))∨h.get b=some .dead
theorem start_fr (W:World):AllFr (AM.start W):=fun b hb=>by
  rw [start_get]
  have hb':b < W.heap.size:=hb
  rw [if_pos hb']
  rcases abs0_cases W b with ⟨c,h⟩|h
  · exact .inl ⟨c,by rw [h]⟩
  · exact .inr (by rw [h])
class KTz {α:Type} (K:Kind α):Prop where
  tz:∀ {h:Heap} {cs:List Value} {a:α},AllFr h→K.rd (mem h) cs a→K.rd (tz h) cs a
instance ktz_int {k:IntKind}:KTz (kInt k):=⟨fun _ h=>h⟩
instance ktz_bool:KTz kBool:=⟨fun _ h=>h⟩
instance ktz_str {n:Nat}:KTz (kStrB n):=⟨fun _ h=>h⟩
theorem rdm_tz {h:Heap} (hf:AllFr h) {b o n:Nat} {cs:List Value} (e:rdm (mem h) b o n=some cs):rdm (tz h) b o n=some cs:=by
  have hb:=(rdm_rd e).2
  rcases hf b hb with ⟨c,hc⟩|hc
  · have h1:mem h b=some (.cells c none):=by unfold mem;rw [if_pos hb,hc];rfl
    unfold rdm at e ⊢
    rw [h1] at e
    rw [tz_of hb hc];exact e
  · unfold rdm mem at e
    rw [if_pos hb,hc] at e;cases e
theorem sl_tz {α:Type} {K:Kind α} [k:KTz K] {h:Heap} (hf:AllFr h) {v:Value} {l:List α} (s:Sl K (mem h) v l):Sl K (tz h) v l:=by
  obtain ⟨p,c,h1,h2,h3,h4⟩:=s
  refine ⟨p,c,h1,h2,h3,fun hl=>?_⟩
  obtain ⟨b,o,cs,k1,k2,k3⟩:=h4 hl
  refine ⟨b,o,cs,k1,rdm_tz hf k2,?_⟩
  clear k1 k2 h4 h3 h2 h1 hl
  induction l generalizing cs with
  | nil=>exact k3
  | cons a l ih =>
    obtain ⟨c,r,e,q1,q2⟩:=k3
    exact ⟨c,r,e,k.tz hf q1,ih r q2⟩
instance ktz_sl {α:Type} {K:Kind α} [k:KTz K]:KTz (kSl K):=⟨fun hf ⟨v,h1,h2,h3⟩=>⟨v,h1,sl_tz hf h2,h3⟩⟩
theorem sat0 (W:World):Sat 0 [] (AM.start W):=⟨⟨fun _=>False,fun b q=>q,fun b q=>q.elim⟩,rfl,Nat.zero_le _⟩
theorem sat_arg {α:Type} {K:Kind α} [k:KTz K] {W:World} {Γ:List HP} {p:Option Addr} {c:Nat} {l:List α} (hs:Sat 0 Γ (AM.start W)) (h:Sl K (mem (AM.start W)) (.slice p l.length c) l):Sat 0 (fro K p c l::Γ) (AM.start W) :=
  sat_fro hs (sl_tz (start_fr W) h)
theorem Spec.law {prog:AProg} {fn:FuncId} {args:List Value} {Γ:List HP} {W:World} (hs:Spec prog fn args Γ (fun R=>R (.bool true) [])) (h:Sat 0 Γ (AM.start W)):Runs prog fn args (AM.start W) (fun v _=>v=.bool true) :=
  (hs 0 [] (AM.start W) (fun v _=>v=.bool true) (by rw [List.append_nil];exact h) rfl).mono fun v _ _ _ ⟨_,h,_⟩=>h

/-- A table of functions. -/
def tabP (l:List (Nat × ADef)):AProg:=fun k=>(l.find? (fun p=>Nat.beq p.1 k)).map (·.2)
theorem tab_ok {P:Program} {l:List (Nat × ADef)} (h:∀ p ∈ l,match p.2 with
    | .code f=>Is P p.1 f
    | .oracle o=>OracleOk P p.1 o):ProgOk P (tabP l):=by
  have key:∀ k d,tabP l k=some d→(k,d) ∈ l:=by
    intro k d hk
    unfold tabP at hk
    obtain ⟨⟨k',d'⟩,h1,h2⟩:=Option.map_eq_some_iff.1 hk
    have h3:=List.find?_some h1
    have h4:=List.mem_of_find?_eq_some h1
    simp only at h2 h3
    have h5:=Nat.eq_of_beq_eq_true h3
    subst h2;subst h5;exact h4
  exact ⟨fun k f hk=>h _ (key k _ hk),fun k o hk=>h _ (key k _ hk)⟩
end Go.AMS


namespace Go.AMS
open Go.AM hiding Kt At WP WL Runs RunsY
open Go.AM.G
set_option linter.unusedVariables false
set_option linter.unusedSectionVars false
set_option linter.unusedSimpArgs false
section
variable {α β:Type} {K:Kind α} {m:M} {p q:Option Addr} {c i j z o n:Nat} {l l':List α} {h:Heap} {Γ F:List HP} {v:Value}
variable {prog:AProg} {rr:Option Nat} {e:Env} {Q:Pst} {k:List Kt} {d bar:Bool} {r:List AI} {dst:Option Nat} {op:AOp} {vs:List Value} {x y:Operand} {t:Nat}
theorem Sl.part (s:Sl K m (.slice p l.length c) l) (hi:i + n≤l.length):Sl K m (.slice (sub p i K.esz) n n) ((l.drop i).take n):=by
  have s2:=((Sl2.of s).drop i).take n
  have hl:((l.drop i).take n).length=n:=by rw [List.length_take,List.length_drop];omega
  obtain ⟨h1,h2,h3⟩:=s2
  refine ⟨sub p i K.esz,n,by rw [hl],h1,fun hp=>?_,h3⟩
  have:=h2 hp
  exact ⟨by rw [← hl,this];rfl,this⟩
theorem Sl.head (s:Sl K m (.slice p l.length c) l) (hi:n≤l.length):Sl K m (.slice p n n) (l.take n):=by
  have s2:=(Sl2.of s).take n
  have hl:(l.take n).length=n:=by rw [List.length_take];omega
  obtain ⟨h1,h2,h3⟩:=s2
  refine ⟨p,n,by rw [hl],h1,fun hp=>?_,h3⟩
  have:=h2 hp
  exact ⟨by rw [← hl,this];rfl,this⟩
/-- Cells as one thing of a kind. -/
class OfC (Γ:List HP) {α:Type} (K:Kind α) (cs:List Value) (a:outParam α) (φ:outParam Prop):Prop where
  rd:φ→∀ {h:Heap} {S:Nat→Prop},SatS Γ h S→K.rd (tz h) cs a
instance (priority:=500) ofc_v {a:α} {φ:Prop} [o:OfV K v a φ]:OfC Γ K [v] a φ:=⟨fun h _ _ _=>o.rd h _⟩
instance (priority:=1100) ofc_l [a:LkF Γ p c K l]:OfC Γ (kSl K) [.slice p l.length c] l (l.length≤140737488351232):=⟨fun h _ _ hs=>⟨_,rfl,a.get hs,h⟩⟩
instance (priority:=1200) ofc_l0:OfC Γ (kSl K) [.slice none 0 0] [] True:=⟨fun h _ _ hs=>⟨_,rfl,Sl.nil,Nat.zero_le _⟩⟩
/-- A frozen list at a place. -/
class LkG (Γ:List HP) (p:Option Addr) {α:outParam Type} (K:outParam (Kind α)) (c:outParam Nat) (l:outParam (List α)):Prop where
  get:∀ {h:Heap} {S:Nat→Prop},SatS Γ h S→Sl K (tz h) (.slice p l.length c) l
instance lkg_hd:LkG (fro K p c l::Γ) p K c l:=⟨fun ⟨s,s',h1,_⟩=>h1.1⟩
instance (priority:=900) lkg_tl {P:HP} [a:LkG Γ p K c l]:LkG (P::Γ) p K c l:=⟨fun ⟨s,s',_,h2,_⟩=>a.get h2⟩
instance ofc_sub [a:LkG Γ p K c l] [b:Esz K z]:OfC Γ (kSl K) [.slice (sub p i z) j j] ((l.drop i).take j) (i + j≤l.length∧j≤140737488351232):=⟨fun h _ _ hs=>⟨_,rfl,by rw [← b.eq];exact Sl.part (a.get hs) h.1,by rw [List.length_take];have:=h.2;unfold maxLen';omega⟩⟩
instance (priority:=1050) ofc_subL [a:LkG Γ p K c l] [b:Esz K z]:OfC Γ (kSl K) [.slice (sub p i z) (l.length - i) (l.length - i)] (l.drop i) (i≤l.length∧l.length≤140737488351232):=⟨fun h _ _ hs=>⟨_,rfl,by
  have:=Sl.part (i:=i) (n:=l.length - i) (a.get hs) (by have:=h.1;omega)
  rw [← b.eq]
  rwa [List.take_of_length_le (by simp)] at this,by rw [List.length_drop];have:=h.2;unfold maxLen';omega⟩⟩
instance (priority:=900) ofc_take [a:LkG Γ p K c l]:OfC Γ (kSl K) [.slice p j j] (l.take j) (j≤l.length∧j≤140737488351232):=⟨fun h _ _ hs=>⟨_,rfl,Sl.head (a.get hs) h.1,by rw [List.length_take];have:=h.2;unfold maxLen';omega⟩⟩
instance (priority:=800) ofvsC {cs:List Value} {a:α} {φ:Prop} [o:OfC Γ K cs a φ]:OfVs Γ K cs [a] φ:=⟨fun h _ _ hs=>Cells.one (o.rd h hs)⟩

/-- What the cells of a thing are, and what they point to. -/
class Cel {α:Type} (K:Kind α) (A:outParam Type) (cs:outParam (α→A→List Value)) (ps:outParam (α→A→List HP)) (φ:outParam (α→Prop)):Prop where
  get:∀ {h:Heap} {c:List Value} {a:α},K.rd (tz h) c a→∃ x:A,c=cs a x∧φ a∧SatS (ps a x) h (fun _=>False)
theorem sat_nil0:SatS [] h (fun _=>False):=fun _ q=>q
theorem sat_more {Ps:List HP} (s:Sat n Γ h) (w:SatS Ps h (fun _=>False)):Sat n (Ps++Γ) h:=by
  obtain ⟨⟨S,h1,h2⟩,hp,hn⟩:=s
  exact ⟨⟨_,w.join h1 (fun _ q=>q.elim),fun b hb=>h2 b (by simpa using hb)⟩,hp,hn⟩
instance v_elemN {A:Type} {w:Nat} {cs:α→A→List Value} {ps:α→A→List HP} {φ:α→Prop} [s:LkS Γ p K l] [b:Esz K w] [g:Cel K A cs ps φ]:Step (AtV n prog rr d bar (some t) (.loadN w x) [.pointer (elt p i w 0)] r k e Γ Q)
    (Sx fun (hi:i < l.length)=>Fa fun (y:A)=>Im (φ l[i]) (AtS n prog rr (.o d r::k) .norm ((t,.agg (List.toArray (cs l[i] y)))::e) (ps l[i] y++Γ) Q)):=⟨fun u hE h hs=>by
  obtain ⟨S,q1,_⟩:=hs.s
  obtain ⟨b',o',c',rfl,h3,h4⟩:=(s.get q1).at u.c
  obtain ⟨y,rfl,h5,h6⟩:=g.get h4
  refine at_one (v:=.agg (List.toArray (cs (l[i]'u.c) y))) (opD_same fun m=>?_) ((u.a.a y).a h5 h (sat_more hs h6))
  have h7:=(rdm_rd h3).1
  rw [b.eq] at h7
  simp only [aop,hE.a,elt,Option.map_some,Nat.add_zero]
  rw [show (h.withProt m).rd b' (o' + i * w) w=h.rd b' (o' + i * w) w from rfl,h7];rfl⟩
/-- One element of one's own, told by its cells. -/
instance (priority:=900) v_storeN {w:Nat} {cs:List Value} {a:α} {φ:Prop} [od:Ord d bar] [s:LkO Γ p K c l F] [b:Esz K w] [vc:Vc0 v cs] [f:OfC F K cs a φ]:Step (AtV n prog rr d bar dst (.store w x y) [.pointer (elt p i w 0),v] r k e Γ Q)
    (Sd (i < l.length∧φ) (AtS n prog rr (.o d r::k) .norm (put e dst undef) (own K p c (l.set i a)::F) Q)):=⟨fun g hE h hs=>by
  have hs1:=s.ent.sat hs
  have h1:K.rd (tz h) cs a:=by
    obtain ⟨S,⟨s1,s2,k1,k2,_⟩,_⟩:=hs1.s
    exact f.rd g.c.2 k2
  obtain ⟨b',ocs,hp,h2,h3⟩:=sat_set hs1 g.c.1 h1
  have hz:=b.eq
  have hlen:=K.len h1
  subst hp
  refine at_one (v:=undef) (h':=h.set b' (.cells ocs (some K.esz))) (opD_eq od.eq ?_) (g.a _ h3)
  simp only [aop,hE.a,hE.b,elt,Option.map_some,vc.eq,Nat.add_zero,Nat.zero_add]
  rw [hz] at h2 hlen ⊢
  rw [if_pos hlen,h2];rfl⟩
end
end Go.AMS

