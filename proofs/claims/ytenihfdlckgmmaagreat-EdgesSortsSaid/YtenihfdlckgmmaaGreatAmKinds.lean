/- A part of the abstract machine, or of what is proved of the program by it. -/
import Derived.Test.YtenihfdlckgmmaaGreatAmHoare
import Derived.IntWalk
namespace Go.AM.G
open Go.AM hiding Kt At WP WL Runs RunsY
set_option linter.unusedVariables false
set_option linter.unusedSectionVars false
set_option linter.unusedSimpArgs false

abbrev M:=Nat→Option AObj
def strip:AObj→AObj
  | .cells c _=>.cells c none
  | o=>o
def mem (h:Heap):M:=fun b=>if b < h.size then (h.get b).map strip else none
def Sub (m m':M):Prop:=∀ b o,m b=some o→m' b=some o
open Classical in
noncomputable def fz (h:Heap):M:=fun b=>if frz h b then mem h b else none

variable {g h h' h1 h2:Heap} {m m':M}

theorem Sub.refl (m:M):Sub m m:=fun _ _ h=>h
theorem Sub.trans {a b c:M} (h:Sub a b) (k:Sub b c):Sub a c:=fun x o e=>k x o (h x o e)
theorem fz_mem (h:Heap):Sub (fz h) (mem h):=fun b o e=>by unfold fz at e;split at e;exact e;cases e
theorem mem_some {b:Nat} {o:AObj} (e:mem h b=some o):b < h.size∧(h.get b).map strip=some o:=by
  unfold mem at e;split at e
  · exact ⟨‹_›,e⟩
  · cases e
theorem St.fz (s:St g h):Sub (fz g) (fz h):=fun b o e=>by
  unfold G.fz at e ⊢
  split at e
  · rename_i hf
    obtain ⟨k1,k2⟩:=s.fr b hf
    rw [if_pos k1]
    obtain ⟨q1,q2⟩:=mem_some e
    unfold mem
    rw [if_pos k1.1,k2];exact q2
  · cases e
theorem St.sub (s:St g h):Sub (G.fz g) (mem h):=(St.fz s).trans (fz_mem h)
/-- Nothing that was there has turned. -/
structure Old (h h':Heap):Prop where
  size:h.size≤h'.size
  prot:h'.prot=h.prot
  get:∀ b,b < h.size→h'.get b=h.get b
theorem Old.refl (h:Heap):Old h h:=⟨Nat.le_refl _,rfl,fun _ _=>rfl⟩
theorem Old.trans {a b c:Heap} (h:Old a b) (k:Old b c):Old a c:=⟨Nat.le_trans h.size k.size,k.prot.trans h.prot,fun x hx=>by rw [k.get x (Nat.lt_of_lt_of_le hx h.size),h.get x hx]⟩
theorem Old.sub (o:Old h h'):Sub (mem h) (mem h'):=fun b x e=>by
  obtain ⟨q1,q2⟩:=mem_some e
  unfold mem
  rw [if_pos (Nat.lt_of_lt_of_le q1 o.size),o.get b q1];exact q2
theorem Old.st (o:Old h h'):St h h':=.of_eq o.size o.prot (fun b hb=>o.get b hb.1)
theorem Old.push (h:Heap) (o:AObj):Old h (h.push o):=⟨by simp,rfl,fun b hb=>by rw [Heap.get_push,if_neg (by omega)]⟩
/-- Out of a run with all rights to what was there given up. -/
theorem Old.of (s:St (h.withProt h.size) h1):Old h (h1.withProt h.prot):=⟨s.size,rfl,fun b hb=>(s.fr b ⟨hb,.inl hb⟩).2⟩
/-- But for what is a block's. -/
structure But (p:Nat→Prop) (h h':Heap):Prop where
  size:h.size≤h'.size
  prot:h'.prot=h.prot
  get:∀ b,b < h.size→¬ p b→h'.get b=h.get b
theorem Old.but (o:Old h h') (p:Nat→Prop):But p h h':=⟨o.size,o.prot,fun b hb _=>o.get b hb⟩
theorem But.trans {p:Nat→Prop} {a b c:Heap} (h:But p a b) (k:But p b c):But p a c:=⟨Nat.le_trans h.size k.size,k.prot.trans h.prot,fun x hx hp=>by rw [k.get x (Nat.lt_of_lt_of_le hx h.size) hp,h.get x hx hp]⟩
theorem But.mono {p q:Nat→Prop} (o:But p h h') (hpq:∀ b,b < h.size→p b→q b):But q h h':=⟨o.size,o.prot,fun b hb hq=>o.get b hb (fun hp=>hq (hpq b hb hp))⟩

/-- The cells of a block from a place on. -/
def rdm (m:M) (b o n:Nat):Option (List Value) :=
  match m b with
  | some (.cells c _)=>if o + n≤c.length∧((c.drop o).take n).all (fun v=>!Heap.isJ v)=true then some ((c.drop o).take n) else none
  | _=>none
theorem rdm_sub (s:Sub m m') {b o n:Nat} {cs:List Value} (e:rdm m b o n=some cs):rdm m' b o n=some cs:=by
  unfold rdm at e ⊢
  cases hm:m b with
  | none=>rw [hm] at e;cases e
  | some ob=>rw [hm] at e;rw [s b ob hm];exact e
theorem rdm_rd {b o n:Nat} {cs:List Value} (e:rdm (mem h) b o n=some cs):h.rd b o n=some cs∧b < h.size:=by
  unfold rdm at e
  cases hm:mem h b with
  | none=>rw [hm] at e;cases e
  | some ob =>
    obtain ⟨q1,q2⟩:=mem_some hm
    refine ⟨?_,q1⟩
    rw [hm] at e
    obtain ⟨o0,q3,q4⟩:=Option.map_eq_some_iff.1 q2
    unfold Heap.rd
    rw [q3]
    cases o0 with
    | cells c own=>simp only [strip] at q4;subst q4;exact e
    | _=>simp only [strip] at q4;subst q4;cases e
theorem rdm_of_get {b o n:Nat} {c:List Value} {own:Option Nat} (hb:b < h.size) (hg:h.get b=some (.cells c own)) (hn:o + n≤c.length) (hj:((c.drop o).take n).all (fun v=>!Heap.isJ v)=true):rdm (mem h) b o n=some ((c.drop o).take n):=by
  unfold rdm mem
  rw [if_pos hb,hg]
  simp only [Option.map_some,strip]
  rw [if_pos ⟨hn,hj⟩]
theorem rdm_part {b o n i k:Nat} {cs:List Value} (e:rdm m b o n=some cs) (hk:i + k≤n):rdm m b (o + i) k=some ((cs.drop i).take k):=by
  unfold rdm at e ⊢
  split at e
  · rename_i c own hm
    split at e
    · rename_i h
      cases e
      have e2:(c.drop (o + i)).take k=(((c.drop o).take n).drop i).take k:=by
        rw [List.drop_take,List.drop_drop,List.take_take,Nat.min_eq_left (by omega)]
      rw [e2,if_pos]
      refine ⟨by omega,?_⟩
      rw [List.all_eq_true] at *
      intro v hv
      have hh:=h.2
      exact hh v (List.mem_of_mem_drop (List.mem_of_mem_take hv))
    · cases e
  · cases e
theorem cell_of_rd {b o:Nat} {v:Value} (hr:h.rd b o 1=some [v]):h.cell b o=some v:=by
  unfold Heap.rd at hr
  unfold Heap.cell
  split at hr
  · rename_i c own hg
    split at hr
    · rename_i hle
      simp only [Option.some.injEq] at hr
      have hlt:o < c.length:=by omega
      have e0:(c.drop o).take 1=[c[o]]:=by
        rw [List.drop_eq_getElem_cons hlt];rfl
      rw [e0] at hr
      simp only [List.cons.injEq,and_true] at hr
      have h2:=hle.2
      rw [e0] at h2
      simp only [hg,List.getElem?_eq_getElem hlt,hr] at h2 ⊢
      simp only [List.all_cons,List.all_nil,Bool.and_true,Bool.not_eq_true'] at h2
      rw [h2];rfl
    · cases hr
  · cases hr

/-- A kind of values: how many cells, and how they read. -/
structure Kind (α:Type) where
  esz:Nat
  pos:0 < esz
  rd:M→List Value→α→Prop
  mono:∀ {m m':M} {cs:List Value} {a:α},Sub m m'→rd m cs a→rd m' cs a
  len:∀ {m:M} {cs:List Value} {a:α},rd m cs a→cs.length=esz
  ok:∀ {m:M} {cs:List Value} {a:α},rd m cs a→cs.all (fun v=>cellOk v && !Heap.isJ v)=true

variable {α β:Type} {K:Kind α}

def Cells (K:Kind α) (m:M):List Value→List α→Prop
  | cs,[]=>cs=[]
  | cs,a::l=>∃ c r,cs=c++r∧K.rd m c a∧Cells K m r l

theorem Cells.mono (s:Sub m m'):∀ {l:List α} {cs:List Value},Cells K m cs l→Cells K m' cs l
  | [],_,h=>h
  | a::l,_,⟨c,r,e,h1,h2⟩=>⟨c,r,e,K.mono s h1,Cells.mono s h2⟩
theorem Cells.len:∀ {l:List α} {cs:List Value},Cells K m cs l→cs.length=l.length * K.esz
  | [],_,h=>by rw [show _=_ from h];simp
  | a::l,_,⟨c,r,e,h1,h2⟩=>by rw [e,List.length_append,K.len h1,Cells.len h2,List.length_cons,Nat.add_mul];omega
theorem Cells.ok:∀ {l:List α} {cs:List Value},Cells K m cs l→cs.all (fun v=>cellOk v && !Heap.isJ v)=true
  | [],_,h=>by rw [show _=_ from h];rfl
  | a::l,_,⟨c,r,e,h1,h2⟩=>by rw [e,List.all_append,K.ok h1,Cells.ok h2];rfl
theorem Cells.append:∀ {l l':List α} {cs cs':List Value},Cells K m cs l→Cells K m cs' l'→Cells K m (cs++cs') (l++l')
  | [],l',_,_,h,k=>by rw [show _=_ from h];exact k
  | a::l,l',_,_,⟨c,r,e,h1,h2⟩,k=>⟨c,r++_,by rw [e,List.append_assoc],h1,Cells.append h2 k⟩
theorem Cells.one {cs:List Value} {a:α} (h:K.rd m cs a):Cells K m cs [a]:=⟨cs,[],by simp,h,rfl⟩
theorem Cells.split:∀ {l:List α} {cs:List Value} (i:Nat),Cells K m cs l→Cells K m (cs.take (i * K.esz)) (l.take i)∧Cells K m (cs.drop (i * K.esz)) (l.drop i)
  | [],cs,i,h=>by rw [show cs=[] from h];simp [Cells]
  | a::l,cs,0,h=>by simp only [Nat.zero_mul,List.take_zero,List.drop_zero];exact ⟨rfl,h⟩
  | a::l,_,i + 1,⟨c,r,e,h1,h2⟩=>by
    obtain ⟨k1,k2⟩:=Cells.split i h2
    have hc:=K.len h1
    have e1:(i + 1) * K.esz=c.length + i * K.esz:=by rw [Nat.add_mul,hc];omega
    rw [e,e1,List.take_length_add_append,List.drop_length_add_append]
    exact ⟨⟨c,_,rfl,h1,k1⟩,k2⟩
theorem Cells.at {l:List α} {cs:List Value} (h:Cells K m cs l) {i:Nat} (hi:i < l.length):K.rd m ((cs.drop (i * K.esz)).take K.esz) l[i]:=by
  obtain ⟨_,k⟩:=Cells.split i h
  rw [List.drop_eq_getElem_cons hi] at k
  obtain ⟨c,r,e,h1,_⟩:=k
  rw [e,← K.len h1,List.take_left];exact h1
theorem Cells.part {l:List α} {cs:List Value} (h:Cells K m cs l) (i j:Nat):Cells K m ((cs.drop (i * K.esz)).take (j * K.esz)) ((l.drop i).take j) :=
  (Cells.split j (Cells.split i h).2).1
theorem Cells.set {l:List α} {cs c:List Value} {a:α} (h:Cells K m cs l) {i:Nat} (hi:i < l.length) (ha:K.rd m c a):Cells K m (splice cs (i * K.esz) c) (l.set i a):=by
  have e:l.set i a=l.take i++a::l.drop (i + 1):=by rw [List.set_eq_take_append_cons_drop,if_pos hi]
  rw [e]
  unfold splice
  rw [K.len ha,show i * K.esz + K.esz=(i + 1) * K.esz by rw [Nat.add_mul];omega,List.append_assoc]
  exact Cells.append (Cells.split i h).1 ⟨c,_,rfl,ha,(Cells.split (i + 1) h).2⟩

/-- A slice reads as a list. -/
def Sl (K:Kind α) (m:M) (v:Value) (l:List α):Prop :=
  ∃ p c,v=.slice p l.length c∧(∀ a,p=some a→a.spot=none)∧(p=none→c=0∧l=[]) ∧
    (l≠[]→∃ b o cs,p=some ⟨b,o,none⟩∧rdm m b o (l.length * K.esz)=some cs∧Cells K m cs l)

theorem Sl.mono {v:Value} {l:List α} (s:Sub m m') (h:Sl K m v l):Sl K m' v l:=by
  obtain ⟨p,c,h1,h2,h3,h4⟩:=h
  refine ⟨p,c,h1,h2,h3,fun hl=>?_⟩
  obtain ⟨b,o,cs,k1,k2,k3⟩:=h4 hl
  exact ⟨b,o,cs,k1,rdm_sub s k2,k3.mono s⟩
theorem Sl.form {v:Value} {l:List α} (h:Sl K m v l):∃ p c,v=.slice p l.length c:=let ⟨p,c,h1,_⟩:=h;⟨p,c,h1⟩
theorem Sl.nil:Sl K m (.slice none 0 0) ([]:List α):=⟨none,0,rfl,by simp,fun _=>⟨rfl,rfl⟩,fun h=>absurd rfl h⟩
theorem Sl.at {p:Option Addr} {n c:Nat} {l:List α} (h:Sl K m (.slice p n c) l) {i:Nat} (hi:i < l.length):∃ b o cs,p=some ⟨b,o,none⟩∧rdm m b (o + i * K.esz) K.esz=some cs∧K.rd m cs l[i]:=by
  obtain ⟨p',c',h1,h2,h3,h4⟩:=h
  cases h1
  obtain ⟨b,o,cs,k1,k2,k3⟩:=h4 (by intro e;subst e;simp at hi)
  refine ⟨b,o,_,k1,rdm_part k2 (k:=K.esz) (i:=i * K.esz) ?_,k3.at hi⟩
  have:=Nat.mul_le_mul_right K.esz (show i + 1≤l.length by omega)
  rw [Nat.add_mul] at this;omega
theorem Sl.len {p:Option Addr} {n c:Nat} {l:List α} (h:Sl K m (.slice p n c) l):n=l.length:=by obtain ⟨p',c',h1,_⟩:=h;cases h1;rfl
theorem Sl.nil_inv {c n:Nat} {l:List α} (h:Sl K m (.slice none n c) l):l=[]∧c=0∧n=0:=by
  obtain ⟨p',c',h1,h2,h3,h4⟩:=h
  cases h1
  obtain ⟨rfl,rfl⟩:=h3 rfl
  exact ⟨rfl,rfl,rfl⟩
/-- A part of a list reads as the part. -/
theorem Sl.part {p:Option Addr} {n c:Nat} {l:List α} (hs:Sl K m (.slice p n c) l) (i j:Nat) (hj:i + j≤l.length):Sl K m (AM.part K.esz p i j) ((l.drop i).take j):=by
  obtain ⟨p',c',h1,h2,h3,h4⟩:=hs
  cases h1
  have hlen:((l.drop i).take j).length=j:=by simp;omega
  cases p with
  | none =>
    obtain ⟨_,rfl⟩:=h3 rfl
    simp at hj
    obtain ⟨rfl,rfl⟩:=hj
    exact Sl.nil
  | some a =>
    obtain ⟨b,o,sp⟩:=a
    have:=h2 _ rfl
    simp only at this;subst this
    refine ⟨some ⟨b,o + i * K.esz,none⟩,j,by simp only [AM.part,hlen],by simp,by simp,fun hne=>?_⟩
    have hl:l≠[]:=by rintro rfl;simp at hne
    obtain ⟨b',o',cs,k1,k2,k3⟩:=h4 hl
    cases k1
    refine ⟨b,o + i * K.esz,_,rfl,?_,k3.part i j⟩
    rw [hlen]
    refine rdm_part k2 ?_
    have:=Nat.mul_le_mul_right K.esz hj
    rw [Nat.add_mul] at this;exact this
theorem Sl.of_cells {b o c:Nat} {l:List α} {cs:List Value} (hr:rdm m b o (l.length * K.esz)=some cs) (hc:Cells K m cs l):Sl K m (.slice (some ⟨b,o,none⟩) l.length c) l :=
  ⟨_,_,rfl,by simp,by simp,fun _=>⟨b,o,cs,rfl,hr,hc⟩⟩

def kInt (k:IntKind):Kind Int:=⟨1,by decide,fun _ cs n=>cs=[.int k n]∧k.min≤n∧n≤k.max,fun _ h=>h,fun h=>by rw [h.1];rfl,fun h=>by rw [h.1];rfl⟩
def kBool:Kind Bool:=⟨1,by decide,fun _ cs b=>cs=[.bool b],fun _ h=>h,fun h=>by rw [h];rfl,fun h=>by rw [h];rfl⟩
def maxLen':Nat:=140737488351232
/-- Texts of so many bytes at most. -/
def kStrB (n:Nat):Kind ByteArray:=⟨1,by decide,fun _ cs s=>cs=[.string s]∧s.size≤n,fun _ h=>h,fun h=>by rw [h.1];rfl,fun h=>by rw [h.1];rfl⟩
abbrev kStr:Kind ByteArray:=kStrB maxLen'
def kSl (K:Kind α):Kind (List α):=⟨1,by decide,fun m cs l=>∃ v,cs=[v]∧Sl K m v l∧l.length≤maxLen',fun s ⟨v,h1,h2,h3⟩=>⟨v,h1,h2.mono s,h3⟩,fun ⟨v,h1,_⟩=>by rw [h1];rfl,fun ⟨v,h1,h2,_⟩=>by obtain ⟨p,c,rfl⟩:=h2.form;rw [h1];rfl⟩
/-- One cell, told by a function. -/
class IsVal (K:Kind α) (f:outParam (α→Value)):Prop where
  one:K.esz=1
  val:∀ {m:M} {cs:List Value} {a:α},K.rd m cs a→cs=[f a]
instance {k:IntKind}:IsVal (kInt k) (.int k):=⟨rfl,fun h=>h.1⟩
instance:IsVal kBool .bool:=⟨rfl,fun h=>h⟩
instance {n:Nat}:IsVal (kStrB n) .string:=⟨rfl,fun h=>h.1⟩

theorem Cells.mem:∀ {l:List α} {cs:List Value},Cells K m cs l→∀ a ∈ l,∃ c,K.rd m c a
  | a::l,_,⟨c,r,e,h1,h2⟩,x,hx=>by
    rcases List.mem_cons.1 hx with rfl|hx
    · exact ⟨c,h1⟩
    · exact Cells.mem h2 x hx
/-- A kind that says less. -/
theorem Cells.weak {K':Kind α} (hk:∀ {cs:List Value} {a:α},K.rd m cs a→K'.rd m cs a):∀ {l:List α} {cs:List Value},Cells K m cs l→Cells K' m cs l
  | [],_,h=>h
  | a::l,_,⟨c,r,e,h1,h2⟩=>⟨c,r,e,hk h1,Cells.weak hk h2⟩
theorem Sl.weak {K':Kind α} (he:K'.esz=K.esz) (hk:∀ {cs:List Value} {a:α},K.rd m cs a→K'.rd m cs a) {l:List α} {v:Value} (h:Sl K m v l):Sl K' m v l:=by
  obtain ⟨p,c,h1,h2,h3,h4⟩:=h
  refine ⟨p,c,h1,h2,h3,fun hne=>?_⟩
  obtain ⟨b,o,cs,k1,k2,k3⟩:=h4 hne
  exact ⟨b,o,cs,k1,by rw [he];exact k2,k3.weak hk⟩
theorem Sl.more {n n':Nat} (hn:n≤n') {l:List ByteArray} {v:Value} (h:Sl (kStrB n) m v l):Sl (kStrB n') m v l:=Sl.weak (K:=kStrB n) (K':=kStrB n') rfl (fun {cs a} k=>⟨k.1,Nat.le_trans k.2 hn⟩) h
/-- A slice over a block of one's own, whose cells read so by a view. -/
def Ow (K:Kind α) (m:M) (n:Nat) (h:Heap) (v:Value) (l:List α):Prop :=
  (v=.slice none 0 0∧l=[])∨∃ b c cs,v=.slice (some ⟨b,0,none⟩) l.length c∧n≤b∧b < h.size∧h.prot≤b∧h.get b=some (.cells cs (some K.esz))∧Cells K m cs l

/-- The block of a slice. -/
def blk:Value→Nat→Prop
  | .slice (some a) _ _,b=>b=a.block
  | _,_=>False

section
variable {n:Nat} {v:Value} {l:List α}
theorem Ow.nil:Ow K m n h (.slice none 0 0) ([]:List α):=.inl ⟨rfl,rfl⟩
theorem Ow.mono (s:Sub m m') (o:Ow K m n h v l):Ow K m' n h v l:=by
  rcases o with h0|⟨b,c,cs,h0,h1,h2,h3,h4,h5⟩
  · exact .inl h0
  · exact .inr ⟨b,c,cs,h0,h1,h2,h3,h4,h5.mono s⟩
theorem Ow.sl (s:Sub m (mem h)) (o:Ow K m n h v l):Sl K (mem h) v l:=by
  rcases o with ⟨rfl,rfl⟩|⟨b,c,cs,rfl,h1,h2,h3,h4,h5⟩
  · exact Sl.nil
  · refine Sl.of_cells (cs:=cs) ?_ (h5.mono s)
    have:=rdm_of_get (o:=0) (n:=l.length * K.esz) h2 h4 (by rw [h5.len];omega) (by
      rw [List.all_eq_true]
      intro v hv
      have:=h5.ok
      rw [List.all_eq_true] at this
      have:=this v (List.mem_of_mem_drop (List.mem_of_mem_take hv))
      simp only [Bool.and_eq_true] at this
      exact this.2)
    rw [this,List.drop_zero,← h5.len,List.take_length]
theorem Ow.form (o:Ow K m n h v l):∃ p c,v=.slice p l.length c:=by
  rcases o with ⟨rfl,rfl⟩|⟨b,c,cs,rfl,_⟩
  · exact ⟨_,_,rfl⟩
  · exact ⟨_,_,rfl⟩
theorem Ow.low {k:Nat} (hk:k≤n) (o:Ow K m n h v l):Ow K m k h v l:=by
  rcases o with ⟨rfl,rfl⟩|⟨b,c,cs,rfl,h1,h2⟩
  · exact .inl ⟨rfl,rfl⟩
  · exact .inr ⟨b,c,cs,rfl,Nat.le_trans hk h1,h2⟩
/-- It stays, if its block does. -/
theorem Ow.keep (hs:h.size≤h'.size) (hp:h'.prot=h.prot) (hg:∀ b,b < h.size→blk v b→h'.get b=h.get b) (o:Ow K m n h v l):Ow K m n h' v l:=by
  rcases o with ⟨rfl,rfl⟩|⟨b,c,cs,rfl,h1,h2,h3,h4,h5⟩
  · exact .inl ⟨rfl,rfl⟩
  · exact .inr ⟨b,c,cs,rfl,h1,Nat.lt_of_lt_of_le h2 hs,by rw [hp];exact h3,by rw [hg b h2 rfl];exact h4,h5⟩
theorem Ow.old (k:Old h h') (o:Ow K m n h v l):Ow K m n h' v l:=o.keep k.size k.prot (fun b hb _=>k.get b hb)
theorem Ow.but {p:Nat→Prop} (k:But p h h') (hne:∀ b,b < h.size→blk v b→¬ p b) (o:Ow K m n h v l):Ow K m n h' v l:=o.keep k.size k.prot (fun b hb hv=>k.get b hb (hne b hb hv))

end

/-- The beginning of a block of one's own. -/
def OwP (K:Kind α) (m:M) (n:Nat) (h:Heap) (v:Value) (l:List α):Prop :=
  (v=.slice none 0 0∧l=[])∨∃ b c cs r,v=.slice (some ⟨b,0,none⟩) l.length c∧n≤b∧b < h.size∧h.prot≤b∧h.get b=some (.cells (cs++r) (some K.esz))∧Cells K m cs l
theorem Ow.p {n:Nat} {v:Value} {l:List α} (o:Ow K m n h v l):OwP K m n h v l:=by
  rcases o with h0|⟨b,c,cs,h0,h1,h2,h3,h4,h5⟩
  · exact .inl h0
  · exact .inr ⟨b,c,cs,[],h0,h1,h2,h3,by rw [List.append_nil];exact h4,h5⟩
theorem OwP.form {n:Nat} {v:Value} {l:List α} (o:OwP K m n h v l):∃ p c,v=.slice p l.length c:=by
  rcases o with ⟨rfl,rfl⟩|⟨b,c,cs,r,rfl,_⟩
  · exact ⟨_,_,rfl⟩
  · exact ⟨_,_,rfl⟩
theorem w64 {x:Int} (h1:-9223372036854775808≤x) (h2:x≤9223372036854775807):IntKind.wrap .i64 x=x:=IntWalk.i64_in x ⟨h1,h2⟩
end Go.AM.G

