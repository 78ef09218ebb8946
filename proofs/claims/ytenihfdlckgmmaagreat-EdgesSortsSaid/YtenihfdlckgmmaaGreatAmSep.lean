/- A part of the abstract machine, or of what is proved of the program by it. -/
import Derived.Test.YtenihfdlckgmmaaGreatAmRange
namespace Go.AMS
open Go.AM hiding Kt At WP WL Runs RunsY
open Go.AM.G
set_option linter.unusedVariables false
set_option linter.unusedSectionVars false
set_option linter.unusedSimpArgs false

def tz (h:Heap):M:=fun b=>match h.get b with
  | some (.cells c none)=>if b < h.size then some (.cells c none) else none
  | _=>none
variable {g h h':Heap}
theorem tz_some {b:Nat} {o:AObj} (e:tz h b=some o):∃ c,o=.cells c none∧h.get b=some (.cells c none)∧b < h.size:=by
  unfold tz at e
  split at e
  · rename_i c hg
    split at e
    · cases e;exact ⟨c,rfl,hg,‹_›⟩
    · cases e
  · cases e
theorem tz_of {b:Nat} {c:List Value} (hb:b < h.size) (hg:h.get b=some (.cells c none)):tz h b=some (.cells c none):=by
  unfold tz;rw [hg];simp only;rw [if_pos hb]
theorem tz_fz (h:Heap):Sub (tz h) (fz h):=fun b o e=>by
  obtain ⟨c,rfl,hg,hb⟩:=tz_some e
  unfold fz
  rw [if_pos ⟨hb,.inr ⟨c,hg⟩⟩]
  unfold mem
  rw [if_pos hb,hg];rfl
theorem tz_mem (h:Heap):Sub (tz h) (mem h):=(tz_fz h).trans (fz_mem h)
theorem St_tz (s:St g h):Sub (tz g) (tz h):=fun b o e=>by
  obtain ⟨c,rfl,hg,hb⟩:=tz_some e
  obtain ⟨h1,h2⟩:=s.fr b ⟨hb,.inr ⟨c,hg⟩⟩
  exact tz_of h1.1 (by rw [h2,hg])

structure HP where
  has:Heap→(Nat→Prop)→Prop
  inb:∀ {h:Heap} {s:Nat→Prop},has h s→∀ b,s b→b < h.size
  loc:∀ {h h':Heap} {s:Nat→Prop},has h s→St h h'→(∀ b,s b→h'.get b=h.get b)→has h' s

def SatS:List HP→Heap→(Nat→Prop)→Prop
  | [],_,S=>∀ b,¬ S b
  | P::Γ,h,S=>∃ s s',P.has h s∧SatS Γ h s'∧(∀ b,s b→¬ s' b)∧∀ b,S b ↔ (s b∨s' b)
theorem SatS.inb:∀ {Γ:List HP} {h:Heap} {S:Nat→Prop},SatS Γ h S→∀ b,S b→b < h.size
  | [],_,_,hs,b,hb=>absurd hb (hs b)
  | P::Γ,_,_,⟨s,s',h1,h2,_,h4⟩,b,hb=>by
    rcases (h4 b).1 hb with h|h
    · exact P.inb h1 b h
    · exact SatS.inb h2 b h
theorem SatS.loc:∀ {Γ:List HP} {h h':Heap} {S:Nat→Prop},SatS Γ h S→St h h'→(∀ b,S b→h'.get b=h.get b)→SatS Γ h' S
  | [],_,_,_,hs,_,_=>hs
  | P::Γ,_,_,_,⟨s,s',h1,h2,h3,h4⟩,hst,hg=>⟨s,s',P.loc h1 hst (fun b hb=>hg b ((h4 b).2 (.inl hb))),SatS.loc h2 hst (fun b hb=>hg b ((h4 b).2 (.inr hb))),h3,h4⟩
theorem SatS.join:∀ {A B:List HP} {h:Heap} {s s':Nat→Prop},SatS A h s→SatS B h s'→(∀ b,s b→¬ s' b)→SatS (A++B) h (fun b=>s b∨s' b)
  | [],B,h,s,s',h1,h2,h3=>by
    have e:(fun b=>s b∨s' b)=s':=by funext b;have:=h1 b;simp [this]
    rw [e];exact h2
  | P::A,B,h,S,s',⟨s,t,h1,h2,h3,h4⟩,k,d=>by
    refine ⟨s,fun b=>t b∨s' b,h1,SatS.join h2 k (fun b hb=>d b ((h4 b).2 (.inr hb))),fun b hb hb'=>?_,fun b=>by show (S b∨s' b) ↔ (s b∨t b∨s' b);rw [h4,or_assoc]⟩
    rcases hb' with hb'|hb'
    · exact h3 b hb hb'
    · exact d b ((h4 b).2 (.inl hb)) hb'

structure Sat (n:Nat) (Γ:List HP) (h:Heap):Prop where
  s:∃ S,SatS Γ h S∧∀ b,S b→n≤b
  prot:h.prot=n
  le:n≤h.size

def Ent (Γ Δ:List HP):Prop:=∀ h S,SatS Γ h S→∃ S',SatS Δ h S'∧∀ b,S' b→S b
variable {Γ Δ F Γ1 Γ2:List HP} {P P':HP} {n:Nat}
theorem Ent.refl (Γ:List HP):Ent Γ Γ:=fun h S hs=>⟨S,hs,fun b hb=>hb⟩
theorem Ent.trans {A B C:List HP} (h:Ent A B) (k:Ent B C):Ent A C:=fun g S hs=>by
  obtain ⟨S1,h1,h2⟩:=h g S hs
  obtain ⟨S2,h3,h4⟩:=k g S1 h1
  exact ⟨S2,h3,fun b hb=>h2 b (h4 b hb)⟩
theorem Ent.cons (k:Ent Γ Δ):Ent (P::Γ) (P::Δ):=fun h S ⟨s,s',h1,h2,h3,h4⟩=>by
  obtain ⟨S',k1,k2⟩:=k h s' h2
  exact ⟨fun b=>s b∨S' b,⟨s,S',h1,k1,fun b hb hb'=>h3 b hb (k2 b hb'),fun b=>Iff.rfl⟩,fun b hb=>(h4 b).2 (hb.elim .inl fun hb=>.inr (k2 b hb))⟩
theorem Ent.swap:Ent (P::P'::Γ) (P'::P::Γ):=fun h S ⟨s,s',h1,⟨t,t',k1,k2,k3,k4⟩,h3,h4⟩=>by
  refine ⟨fun b=>t b∨s b∨t' b,⟨t,fun b=>s b∨t' b,k1,⟨s,t',h1,k2,fun b hb hb'=>h3 b hb ((k4 b).2 (.inr hb')),fun b=>Iff.rfl⟩,fun b hb hb'=>?_,fun b=>Iff.rfl⟩,fun b hb=>?_⟩
  · rcases hb' with hb'|hb'
    · exact h3 b hb' ((k4 b).2 (.inl hb))
    · exact k3 b hb hb'
  · rw [h4,k4]
    rcases hb with hb|hb|hb
    · exact .inr (.inl hb)
    · exact .inl hb
    · exact .inr (.inr hb)
theorem Ent.drop (k:Ent Γ Δ):Ent (P::Γ) Δ:=fun h S ⟨s,s',h1,h2,h3,h4⟩=>by
  obtain ⟨S',k1,k2⟩:=k h s' h2
  exact ⟨S',k1,fun b hb=>(h4 b).2 (.inr (k2 b hb))⟩
theorem Ent.one (k:∀ h s,P.has h s→∃ s',P'.has h s'∧∀ b,s' b→s b):Ent (P::Γ) (P'::Γ):=fun h S ⟨s,s',h1,h2,h3,h4⟩=>by
  obtain ⟨t,k1,k2⟩:=k h s h1
  exact ⟨fun b=>t b∨s' b,⟨t,s',k1,h2,fun b hb=>h3 b (k2 b hb),fun b=>Iff.rfl⟩,fun b hb=>(h4 b).2 (hb.elim (fun hb=>.inl (k2 b hb)) .inr)⟩
theorem Ent.sat (k:Ent Γ Δ) (s:Sat n Γ h):Sat n Δ h:=by
  obtain ⟨S,h1,h2⟩:=s.s
  obtain ⟨S',h3,h4⟩:=k h S h1
  exact ⟨⟨S',h3,fun b hb=>h2 b (h4 b hb)⟩,s.prot,s.le⟩
/-- One part picked out. -/
theorem Ent.there (k:Ent Γ (P::F)):Ent (P'::Γ) (P::P'::F):=(Ent.cons k).trans .swap
theorem Ent.here:Ent (P::Γ) (P::Γ):=.refl _
theorem Ent.more (hs:Ent Γ (P::Γ1)) (k:Ent Γ1 Δ):Ent Γ (P::Δ):=hs.trans (.cons k)
/-- What has no place of its own. -/
class Pers (P:HP):Prop where
  no:∀ {h:Heap} {s:Nat→Prop},P.has h s→P.has h (fun _=>False)
theorem Ent.dup [hp:Pers P]:Ent (P::Γ) (P::P::Γ):=fun h S ⟨s,s',h1,h2,h3,h4⟩ =>
  ⟨S,⟨fun _=>False,S,hp.no h1,⟨s,s',h1,h2,h3,h4⟩,fun _ hb=>hb.elim,fun b=>by simp⟩,fun b hb=>hb⟩

/-- A block of one's own. -/
def pt (b:Nat) (cs:List Value) (z:Nat):HP:=⟨fun h s=>h.get b=some (.cells cs (some z))∧b < h.size∧s=(·=b),
  fun ⟨_,h2,h3⟩ x hx=>by subst h3;rw [show x=b from hx];exact h2,fun ⟨h1,h2,h3⟩ st hg=>⟨by rw [hg b (by rw [h3])];exact h1,Nat.lt_of_lt_of_le h2 st.size,h3⟩⟩
section
variable {α β:Type}
/-- A slice of one's own. -/
def own (K:Kind α) (p:Option Addr) (c:Nat) (l:List α):HP:=⟨fun h s=>(p=none∧c=0∧l=[]∧s=fun _=>False)∨∃ b cs,p=some ⟨b,0,none⟩∧b < h.size∧h.get b=some (.cells cs (some K.esz))∧Cells K (tz h) cs l∧s=(·=b),
  fun hh x hx=>by
    rcases hh with ⟨_,_,_,rfl⟩|⟨b,cs,_,h2,_,_,rfl⟩
    · exact hx.elim
    · rw [show x=b from hx];exact h2,
  fun hh st hg=>by
    rcases hh with hh|⟨b,cs,h1,h2,h3,h4,rfl⟩
    · exact .inl hh
    · exact .inr ⟨b,cs,h1,Nat.lt_of_lt_of_le h2 st.size,by rw [hg b rfl];exact h3,h4.mono (St_tz st),rfl⟩⟩
/-- A slice that is frozen for ever. -/
def fro (K:Kind α) (p:Option Addr) (c:Nat) (l:List α):HP:=⟨fun h s=>Sl K (tz h) (.slice p l.length c) l∧s=fun _=>False,
  fun ⟨_,h2⟩ x hx=>by subst h2;exact hx.elim,fun ⟨h1,h2⟩ st _=>⟨h1.mono (St_tz st),h2⟩⟩
/-- A slice whose cells are read out of one memory, and what they point to out of another one. -/
def Sl2 (K:Kind α) (m m':M) (p:Option Addr) (l:List α):Prop :=
  (∀ a,p=some a→a.spot=none)∧(p=none→l=[])∧(l≠[]→∃ b o cs,p=some ⟨b,o,none⟩∧rdm m b o (l.length * K.esz)=some cs∧Cells K m' cs l)
theorem Sl2.mono {K:Kind α} {m m' k k':M} {p:Option Addr} {l:List α} (s:Sub m k) (s':Sub m' k') (h:Sl2 K m m' p l):Sl2 K k k' p l :=
  ⟨h.1,h.2.1,fun hl=>let ⟨b,o,cs,k1,k2,k3⟩:=h.2.2 hl;⟨b,o,cs,k1,rdm_sub s k2,k3.mono s'⟩⟩
theorem Sl2.of {K:Kind α} {m:M} {p:Option Addr} {c:Nat} {l:List α} (h:Sl K m (.slice p l.length c) l):Sl2 K m m p l:=by
  obtain ⟨p',c',e,h1,h2,h3⟩:=h
  cases e;exact ⟨h1,fun q=>(h2 q).2,h3⟩
/-- A slice that is lent: nobody writes it meanwhile. -/
def rdl (K:Kind α) (p:Option Addr) (l:List α):HP:=⟨fun h s=>Sl2 K (fz h) (tz h) p l∧s=fun _=>False,
  fun ⟨_,h2⟩ x hx=>by subst h2;exact hx.elim,fun ⟨h1,h2⟩ st _=>⟨h1.mono (St.fz st) (St_tz st),h2⟩⟩
/-- What is lent. -/
def ro (P:HP):HP:=⟨fun h s=>(∃ s',P.has h s'∧∀ b,s' b→frz h b)∧s=fun _=>False,
  fun ⟨_,h2⟩ x hx=>by subst h2;exact hx.elim,
  fun ⟨⟨s',h1,h3⟩,h2⟩ st _=>⟨⟨s',P.loc h1 st (fun b hb=>(st.fr b (h3 b hb)).2),fun b hb=>(st.fr b (h3 b hb)).1⟩,h2⟩⟩
/-- One of many. -/
def hx {A:Type} (f:A→Prop × List HP):HP:=⟨fun h s=>∃ a,(f a).1∧SatS (f a).2 h s,
  fun ⟨a,_,h2⟩=>SatS.inb h2,fun ⟨a,h1,h2⟩ st hg=>⟨a,h1,h2.loc st hg⟩⟩
/-- A map of one's own. -/
def mp (r:Nat) (es:List (Value × Value)):HP:=⟨fun h s=>h.get r=some (.map es)∧r < h.size∧s=(·=r),
  fun ⟨_,h2,h3⟩ x hx=>by subst h3;rw [show x=r from hx];exact h2,fun ⟨h1,h2,h3⟩ st hg=>⟨by rw [hg r (by rw [h3])];exact h1,Nat.lt_of_lt_of_le h2 st.size,h3⟩⟩
/-- A loop's record. -/
def lrec (l:Nat) (r:ARec):HP:=⟨fun h s=>h.get l=some (.loop r)∧l < h.size∧s=(·=l),
  fun ⟨_,h2,h3⟩ x hx=>by subst h3;rw [show x=l from hx];exact h2,fun ⟨h1,h2,h3⟩ st hg=>⟨by rw [hg l (by rw [h3])];exact h1,Nat.lt_of_lt_of_le h2 st.size,h3⟩⟩

instance pers_fro {K:Kind α} {p:Option Addr} {c:Nat} {l:List α}:Pers (fro K p c l):=⟨fun h=>⟨h.1,rfl⟩⟩
instance pers_rdl {K:Kind α} {p:Option Addr} {l:List α}:Pers (rdl K p l):=⟨fun h=>⟨h.1,rfl⟩⟩
instance pers_ro {P:HP}:Pers (ro P):=⟨fun h=>⟨h.1,rfl⟩⟩
theorem Ent.keep [Pers P]:Ent (P::Γ) (P::P::Γ):=.dup
theorem Ent.lend {K:Kind α} {p:Option Addr} {c:Nat} {l:List α}:Ent (fro K p c l::Γ) (rdl K p l::fro K p c l::Γ):=Ent.dup.trans (.one fun h s ⟨h1,h2⟩=>⟨s,⟨(Sl2.of h1).mono (tz_fz h) (.refl _),h2⟩,fun b hb=>hb⟩)
/-- What stays as it is when the protection falls back. -/
class Low (P:HP):Prop where
  low:∀ {h:Heap} {s:Nat→Prop} (n:Nat),P.has h s→P.has (h.withProt n) s
class LowL (Γ:List HP):Prop where
  low:∀ P ∈ Γ,Low P
instance low_nil:LowL []:=⟨fun P h=>by cases h⟩
instance low_cons [a:Low P] [b:LowL Γ]:LowL (P::Γ):=⟨fun Q h=>by
  rcases List.mem_cons.1 h with rfl|h
  · exact a
  · exact b.low Q h⟩
theorem LowL.sat:∀ {Γ:List HP} (hl:LowL Γ) {h:Heap} {S:Nat→Prop} (n:Nat),SatS Γ h S→SatS Γ (h.withProt n) S
  | [],_,_,_,_,hs=>hs
  | P::Γ,hl,_,_,n,⟨s,s',h1,h2,h3,h4⟩=>⟨s,s',(hl.low P (by simp)).low n h1,LowL.sat (Γ:=Γ) ⟨fun Q hq=>hl.low Q (by simp [hq])⟩ n h2,h3,h4⟩
instance low_pt {b:Nat} {cs:List Value} {z:Nat}:Low (pt b cs z):=⟨fun n h=>h⟩
instance low_own {K:Kind α} {p:Option Addr} {c:Nat} {l:List α}:Low (own K p c l):=⟨fun n h=>h⟩
instance low_fro {K:Kind α} {p:Option Addr} {c:Nat} {l:List α}:Low (fro K p c l):=⟨fun n h=>h⟩
instance low_mp {r:Nat} {es:List (Value × Value)}:Low (mp r es):=⟨fun n h=>h⟩
theorem low_hx {A:Type} {f:A→Prop × List HP} (hl:∀ a,LowL (f a).2):Low (hx f):=⟨fun n ⟨a,h1,h2⟩=>⟨a,h1,(hl a).sat n h2⟩⟩

variable {prog:AProg} {rr:Option Nat} {e e':Env} {Q:Pst} {k:List Kt} {x:AX}
/-- So code goes on, from all heaps that hold these parts. -/
def AtS (n:Nat) (prog:AProg) (rr:Option Nat) (k:List Kt) (x:AX) (e:Env) (Γ:List HP) (Q:Pst):Prop:=∀ h,Sat n Γ h→At prog rr k x e h Q

class Step (A:Prop) (B:outParam Prop):Prop where
  go:B→A
theorem step {A B:Prop} [s:Step A B] (b:B):A:=s.go b
structure Br (c A B:Prop):Prop where
  t:c→A
  f:¬ c→B
structure Sd (c A:Prop):Prop where
  c:c
  a:A
structure Fa {α:Type} (A:α→Prop):Prop where
  a:∀ x,A x
structure Im (c A:Prop):Prop where
  a:c→A
structure Lw (Γ:List HP) (A:Prop):Prop where
  l:LowL Γ
  a:A
theorem Lw.go {A:Prop} [l:LowL Γ] (a:A):Lw Γ A:=⟨l,a⟩

theorem at_ent (k1:Ent Γ Δ) (w:AtS n prog rr k x e Δ Q):AtS n prog rr k x e Γ Q:=fun h s=>w h (k1.sat s)
/-- What is lent, in parts. -/
def Rds:List HP→List HP:=List.map ro
theorem Ent.ro_own {K:Kind α} {p:Option Addr} {c:Nat} {l:List α}:Ent (ro (own K p c l)::Γ) (rdl K p l::Γ):=.one fun h s ⟨⟨s',h1,hf⟩,hs⟩=>by
  refine ⟨s,⟨?_,hs⟩,fun b hb=>hb⟩
  rcases h1 with ⟨rfl,rfl,rfl,_⟩|⟨b,cs,rfl,h2,h3,h4,rfl⟩
  · exact ⟨by simp,fun _=>rfl,fun h=>absurd rfl h⟩
  · refine ⟨by simp,by simp,fun _=>⟨b,0,cs,rfl,?_,h4⟩⟩
    unfold rdm fz mem
    rw [if_pos (hf b rfl),if_pos h2,h3]
    simp only [Option.map_some,strip,List.drop_zero,Nat.zero_add]
    rw [← h4.len,if_pos,List.take_length]
    refine ⟨Nat.le_refl _,?_⟩
    rw [List.take_length,List.all_eq_true]
    intro v hv
    have:=h4.ok
    rw [List.all_eq_true] at this
    have:=this v hv
    simp only [Bool.and_eq_true] at this
    exact this.2
theorem Ent.ro_pers [hp:Pers P]:Ent (ro P::Γ) (P::Γ):=.one fun h s ⟨⟨s',h1,hf⟩,hs⟩=>⟨_,hp.no h1,fun b hb=>hb.elim⟩

def Spec (prog:AProg) (fn:FuncId) (args:List Value) (Γ:List HP) (W:(Value→List HP→Prop)→Prop):Prop :=
  ∀ n F h R,Sat n (Γ++F) h→W R→Runs prog fn args h (fun v h'=>∃ Γ',R v Γ'∧Sat n (Γ'++F) h')
def Post (res:List ARes) (n:Nat) (F:List HP) (R:Value→List HP→Prop):Pst:=fun x e h=>(∀ i,x≠.exit i)∧∃ vs,resL e h res=some vs∧∃ Γ',R (tupV vs) Γ'∧Sat n (Γ'++F) h
theorem spec_code {fn:FuncId} {f:AFn} {args:List Value} {W:(Value→List HP→Prop)→Prop} (hp:prog fn=some (.code f)) (hn:args.length=f.np)
    (hb:∀ n F R,W R→AtS n prog none [.c f.body] .norm (argEnv 0 args) (Γ++F) (Post f.res n F R)):Spec prog fn args Γ W:=fun n F h R hs hw=>by
  refine runs_here hp hn (G.WP.mono (hb n F R hw h hs) ?_)
  rintro x e h1 _ ⟨h2,vs,h3,Γ',h4,h5⟩
  refine ⟨h2,vs,h3,Γ',h4,?_⟩
  have e:h1.withProt h.prot=h1:=wp_eq (h5.prot.trans hs.prot.symm)
  rw [e];exact h5
theorem Spec.mono {fn:FuncId} {args:List Value} {W W':(Value→List HP→Prop)→Prop} (hs:Spec prog fn args Γ W) (hw:∀ R,W' R→W R):Spec prog fn args Γ W':=fun n F h R h1 h2=>hs n F h R h1 (hw R h2)

/-- Where code ends. -/
structure FinG (R:Value→List HP→Prop) (v:Value) (F Γ:List HP):Prop where
  ex:∃ Γ',R v Γ'∧Ent Γ (Γ'++F)
end
end Go.AMS

