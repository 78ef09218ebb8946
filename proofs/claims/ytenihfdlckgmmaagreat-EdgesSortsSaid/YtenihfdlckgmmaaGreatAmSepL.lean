/- A part of the abstract machine, or of what is proved of the program by it. -/
import Derived.Test.YtenihfdlckgmmaaGreatAmSepR
namespace Go.AMS
open Go.AM hiding Kt At WP WL Runs RunsY
open Go.AM.G
set_option linter.unusedVariables false
set_option linter.unusedSectionVars false
set_option linter.unusedSimpArgs false

section
variable {α β:Type} {K:Kind α} {m m':M} {p q:Option Addr} {c i j z o:Nat} {l l':List α} {h h':Heap} {Γ F:List HP}
/-- An element's address, and a part's. -/
def elt (p:Option Addr) (i z o:Nat):Option Addr:=p.map fun a=>⟨a.block,a.off + (i * z + o),a.spot⟩
def sub (p:Option Addr) (i z:Nat):Option Addr:=p.map fun a=>⟨a.block,a.off + i * z,a.spot⟩

theorem Sl2.at (h:Sl2 K m m' p l) (hi:i < l.length):∃ b o cs,p=some ⟨b,o,none⟩∧rdm m b (o + i * K.esz) K.esz=some cs∧K.rd m' cs l[i]:=by
  obtain ⟨b,o,cs,k1,k2,k3⟩:=h.2.2 (by intro e;subst e;simp at hi)
  refine ⟨b,o,_,k1,rdm_part k2 (k:=K.esz) (i:=i * K.esz) ?_,k3.at hi⟩
  have:=Nat.mul_le_mul_right K.esz (show i + 1≤l.length by omega)
  rw [Nat.add_mul] at this;omega
theorem Sl2.drop (h:Sl2 K m m' p l) (i:Nat):Sl2 K m m' (sub p i K.esz) (l.drop i):=by
  obtain ⟨h1,h2,h3⟩:=h
  refine ⟨fun a ha=>?_,fun hp=>?_,fun hl=>?_⟩
  · unfold sub at ha
    obtain ⟨a',q1,q2⟩:=Option.map_eq_some_iff.1 ha
    rw [← q2];exact h1 a' q1
  · unfold sub at hp
    have hp':p=none:=by simpa using hp
    rw [h2 hp'];simp
  · have hne:l≠[]:=by rintro rfl;simp at hl
    obtain ⟨b,o,cs,k1,k2,k3⟩:=h3 hne
    have hi:i < l.length:=by
      rcases Nat.lt_or_ge i l.length with q|q
      · exact q
      · exact absurd (List.drop_eq_nil_of_le q) hl
    refine ⟨b,o + i * K.esz,(cs.drop (i * K.esz)).take ((l.length - i) * K.esz),by rw [k1];rfl,?_,?_⟩
    · rw [List.length_drop]
      refine rdm_part k2 ?_
      have:=Nat.mul_le_mul_right K.esz (show i + (l.length - i)≤l.length by omega)
      rw [Nat.add_mul] at this;exact this
    · have:=k3.part i (l.length - i)
      rw [List.take_of_length_le (l:=l.drop i) (by simp)] at this;exact this
theorem Sl2.take (h:Sl2 K m m' p l) (i:Nat):Sl2 K m m' p (l.take i):=by
  obtain ⟨h1,h2,h3⟩:=h
  refine ⟨h1,fun hp=>by rw [h2 hp];simp,fun hl=>?_⟩
  have hne:l≠[]:=by rintro rfl;simp at hl
  obtain ⟨b,o,cs,k1,k2,k3⟩:=h3 hne
  have e:(l.take i).length=min i l.length:=List.length_take
  refine ⟨b,o,cs.take (min i l.length * K.esz),k1,?_,?_⟩
  · have:=rdm_part k2 (i:=0) (k:=min i l.length * K.esz) (by
      have:=Nat.mul_le_mul_right K.esz (show min i l.length≤l.length by omega)
      omega)
    rw [e]
    simpa using this
  · have:=(k3.split (min i l.length)).1
    rwa [show l.take (min i l.length)=l.take i by rw [List.take_eq_take_iff];omega] at this

class LkS (Γ:List HP) (p:Option Addr) {α:outParam Type} (K:outParam (Kind α)) (l:outParam (List α)):Prop where
  get:∀ {h:Heap} {S:Nat→Prop},SatS Γ h S→Sl2 K (mem h) (tz h) p l
theorem own_sl2 {s:Nat→Prop} (h1:(own K p c l).has h s):Sl2 K (mem h) (tz h) p l:=by
  rcases h1 with ⟨rfl,rfl,rfl,_⟩|⟨b,cs,rfl,h2,h3,h4,rfl⟩
  · exact ⟨by simp,fun _=>rfl,fun h=>absurd rfl h⟩
  · refine ⟨by simp,by simp,fun _=>⟨b,0,cs,rfl,?_,h4⟩⟩
    have:=rdm_of_get (o:=0) (n:=l.length * K.esz) h2 h3 (by rw [h4.len];omega) (by
      rw [List.all_eq_true]
      intro v hv
      have:=h4.ok
      rw [List.all_eq_true] at this
      have:=this v (List.mem_of_mem_drop (List.mem_of_mem_take hv))
      simp only [Bool.and_eq_true] at this
      exact this.2)
    rw [this,List.drop_zero,← h4.len,List.take_length]
instance lks_own:LkS (own K p c l::Γ) p K l:=⟨fun ⟨s,s',h1,_⟩=>own_sl2 h1⟩
instance lks_fro:LkS (fro K p c l::Γ) p K l:=⟨fun ⟨s,s',h1,_⟩=>(Sl2.of h1.1).mono (tz_mem _) (.refl _)⟩
instance lks_rdl:LkS (rdl K p l::Γ) p K l:=⟨fun ⟨s,s',h1,_⟩=>h1.1.mono (fz_mem _) (.refl _)⟩
instance (priority:=900) lks_tl {P:HP} [a:LkS Γ p K l]:LkS (P::Γ) p K l:=⟨fun ⟨s,s',_,h2,_⟩=>a.get h2⟩
class Esz {α:Type} (K:Kind α) (z:outParam Nat):Prop where
  eq:K.esz=z
instance esz_int {ki:IntKind}:Esz (kInt ki) 1:=⟨rfl⟩
instance esz_bool:Esz kBool 1:=⟨rfl⟩
instance esz_str {n:Nat}:Esz (kStrB n) 1:=⟨rfl⟩
instance esz_sl:Esz (kSl K) 1:=⟨rfl⟩
instance (priority:=950) lks_sub [a:LkS Γ p K l] [b:Esz K z]:LkS Γ (sub p i z) K (l.drop i):=⟨fun hs=>by
  have h1:=a.get hs
  rw [← b.eq]
  exact h1.drop i⟩
/-- A slice's list. -/
class LkL (Γ:List HP) (p:Option Addr) (n:Nat) {α:outParam Type} (K:outParam (Kind α)) (l:outParam (List α)) (φ:outParam Prop):Prop where
  len:φ→l.length=n
  get:∀ {h:Heap} {S:Nat→Prop},SatS Γ h S→Sl2 K (mem h) (tz h) p l
instance (priority:=1100) lkl_all [a:LkS Γ p K l]:LkL Γ p l.length K l True:=⟨fun _=>rfl,a.get⟩
instance lkl_take {n:Nat} [a:LkS Γ p K l]:LkL Γ p n K (l.take n) (n≤l.length):=⟨fun h=>by rw [List.length_take];omega,fun hs=>(a.get hs).take n⟩
/-- One of one's own, and the rest. -/
class LkO (Γ:List HP) (p:Option Addr) {α:outParam Type} (K:outParam (Kind α)) (c:outParam Nat) (l:outParam (List α)) (F:outParam (List HP)):Prop where
  ent:Ent Γ (own K p c l::F)
instance lko_hd:LkO (own K p c l::Γ) p K c l Γ:=⟨.refl _⟩
instance (priority:=900) lko_tl {P:HP} [a:LkO Γ p K c l F]:LkO (P::Γ) p K c l (P::F):=⟨a.ent.there⟩
/-- A value as a thing of a kind. -/
class OfV {α:Type} (K:Kind α) (v:Value) (a:outParam α) (φ:outParam Prop):Prop where
  rd:φ→∀ m,K.rd m [v] a
instance ofv_i {x:Int}:OfV (kInt .i64) (.int .i64 x) x (-9223372036854775808≤x∧x≤9223372036854775807):=⟨fun h m=>⟨rfl,h⟩⟩
instance ofv_8 {x:Int}:OfV (kInt .u8) (.int .u8 x) x (0≤x∧x≤255):=⟨fun h m=>⟨rfl,h⟩⟩
instance ofv_u {x:Int}:OfV (kInt .u64) (.int .u64 x) x (0≤x∧x≤18446744073709551615):=⟨fun h m=>⟨rfl,h⟩⟩
instance ofv_b {x:Bool}:OfV kBool (.bool x) x True:=⟨fun h m=>rfl⟩
instance ofv_s {n:Nat} {x:ByteArray}:OfV (kStrB n) (.string x) x (x.size≤n):=⟨fun h m=>⟨rfl,h⟩⟩
/-- Cells as things of a kind. -/
class OfVs (Γ:List HP) {α:Type} (K:Kind α) (cs:List Value) (l:outParam (List α)) (φ:outParam Prop):Prop where
  rd:φ→∀ {h:Heap} {S:Nat→Prop},SatS Γ h S→Cells K (tz h) cs l
instance ofvs0:OfVs Γ K [] [] True:=⟨fun _ _ _ _=>rfl⟩
instance (priority:=1100) ofvs1 {v:Value} {a:α} {φ:Prop} [b:OfV K v a φ]:OfVs Γ K [v] [a] φ:=⟨fun h _ _ _=>Cells.one (b.rd h _)⟩
instance ofvsI {v:Value} {a:α} {cs:List Value} {φ ψ:Prop} [b:OfV K v a φ] [d:OfVs Γ K cs l ψ]:OfVs Γ K (v::cs) (a::l) (φ∧ψ):=⟨fun h _ _ hs=>⟨[v],cs,rfl,b.rd h.1 _,d.rd h.2 hs⟩⟩
/-- A frozen list, as an element. -/
class LkF (Γ:List HP) (p:Option Addr) (c:Nat) {α:outParam Type} (K:outParam (Kind α)) (l:outParam (List α)):Prop where
  get:∀ {h:Heap} {S:Nat→Prop},SatS Γ h S→Sl K (tz h) (.slice p l.length c) l
instance lkf_hd:LkF (fro K p c l::Γ) p c K l:=⟨fun ⟨s,s',h1,_⟩=>h1.1⟩
instance (priority:=900) lkf_tl {P:HP} [a:LkF Γ p c K l]:LkF (P::Γ) p c K l:=⟨fun ⟨s,s',_,h2,_⟩=>a.get h2⟩
instance (priority:=1200) ofvsL [a:LkF Γ p c K l]:OfVs Γ (kSl K) [.slice p l.length c] [l] (l.length≤140737488351232):=⟨fun h _ _ hs=>Cells.one ⟨_,rfl,a.get hs,h⟩⟩
instance (priority:=1200) ofvsL0:OfVs Γ (kSl K) [.slice none 0 0] [[]] True:=⟨fun h _ _ hs=>Cells.one ⟨_,rfl,Sl.nil,Nat.zero_le _⟩⟩
/-- The kind that a zero tells. -/
class ZeroK (zs:List Value) {α:outParam Type} (K:outParam (Kind α)) (a:outParam α):Prop where
  rd:∀ m,K.rd m zs a
instance zk_i:ZeroK [.int .i64 0] (kInt .i64) 0:=⟨fun m=>⟨rfl,by decide,by decide⟩⟩
instance zk_8:ZeroK [.int .u8 0] (kInt .u8) 0:=⟨fun m=>⟨rfl,by decide,by decide⟩⟩
instance zk_u:ZeroK [.int .u64 0] (kInt .u64) 0:=⟨fun m=>⟨rfl,by decide,by decide⟩⟩
instance zk_b:ZeroK [.bool false] kBool false:=⟨fun m=>rfl⟩
instance zk_s:ZeroK [.string ⟨#[]⟩] kStr ⟨#[]⟩:=⟨fun m=>⟨rfl,Nat.zero_le _⟩⟩
class AsNat (i:Int) (n:outParam Nat):Prop where
  eq:0≤i→(n:Int)=i
instance (priority:=1100) asn_c {i:Int} {n:Nat} [a:IsN i n]:AsNat i n:=⟨fun _=>a.eq.symm⟩
instance asn_t {i:Int}:AsNat i i.toNat:=⟨fun h=>Int.toNat_of_nonneg h⟩
end

structure Sx {c:Prop} (A:c→Prop):Prop where
  c:c
  a:A c
section
variable {prog:AProg} {rr:Option Nat} {e e':Env} {Q:Pst} {k:List Kt} {x y z:Operand} {ax:AX} {n:Nat} {Γ Δ F Γ':List HP} {d bar:Bool} {r:List AI} {t:Nat} {dst:Option Nat} {u v v1 v2 v3:Value} {vs:List Value} {op:AOp} {h h':Heap}
variable {α β:Type} {K:Kind α} {p q:Option Addr} {c i j w o:Nat} {l l':List α}

instance v_iaddr {ki:IntKind} {a:Int} {len:Nat} [s:LkS Γ p K l] [b:AsNat a i]:Step (AtV n prog rr d bar (some t) (.iaddr w x y) [.slice p len c,.int ki a] r k e Γ Q) (Sd (0≤a∧i < len∧i < l.length) (AtS n prog rr (.o d r::k) .norm ((t,.pointer (elt p i w 0))::e) Γ Q)):=⟨fun g hE=>go1 (fun h hs m=>by
    obtain ⟨S,h1,_⟩:=hs.s
    have h2:=s.get h1
    obtain ⟨b',o',cs,rfl,_⟩:=h2.at g.c.2.2
    have h0:=b.eq g.c.1
    simp only [aop,hE.a,hE.b]
    rw [if_pos ⟨g.c.1,by have:=g.c.2.1;omega⟩]
    simp [elt,← h0]) g.a⟩
instance v_faddrE {f o':Nat} [a:Plus o f o'] [s:LkS Γ p K l]:Step (AtV n prog rr d bar (some t) (.faddr f x) [.pointer (elt p i w o)] r k e Γ Q) (Sd (i < l.length) (AtS n prog rr (.o d r::k) .norm ((t,.pointer (elt p i w o'))::e) Γ Q)):=⟨fun g hE=>go1 (fun h hs m=>by
    obtain ⟨S,h1,_⟩:=hs.s
    have h2:=s.get h1
    obtain ⟨b',o1,cs,rfl,_⟩:=h2.at g.c
    simp only [aop,hE.a]
    simp only [elt,Option.map_some,← a.eq,Nat.add_assoc]) g.a⟩
instance v_nilcE [s:LkS Γ p K l]:Step (AtV n prog rr d bar (some t) (.nilc x) [.pointer (elt p i w o)] r k e Γ Q) (Sd (i < l.length) (AtS n prog rr (.o d r::k) .norm ((t,.pointer (elt p i w o))::e) Γ Q)):=⟨fun g hE=>go1 (fun h hs m=>by
    obtain ⟨S,h1,_⟩:=hs.s
    have h2:=s.get h1
    obtain ⟨b',o1,cs,rfl,_⟩:=h2.at g.c
    simp only [aop,hE.a,elt,Option.map_some]) g.a⟩
/-- A field of an element. -/
class Fld {α:Type} (K:Kind α) (o:Nat) {β:outParam Type} (L:outParam (Kind β)) (f:outParam (α→β)):Prop where
  fld:∀ {m:M} {cs:List Value} {a:α},K.rd m cs a→L.rd m ((cs.drop o).take L.esz) (f a)
  le:o + L.esz≤K.esz
theorem elt_cell {L:Kind β} {f:α→β} (s:LkS Γ p K l) (b:Esz K w) (a:Fld K o L f) (h1:L.esz=1) (hi:i < l.length) {S:Nat→Prop} (hs:SatS Γ h S):∃ bb oo v,elt p i w o=some ⟨bb,oo,none⟩∧L.rd (tz h) [v] (f l[i])∧h.cell bb oo=some v:=by
  have h2:=s.get hs
  obtain ⟨b',o',cs,rfl,h3,h4⟩:=h2.at hi
  have h5:=a.fld h4
  have h6:=L.len h5
  rw [h1] at h6 h5
  obtain ⟨v,hv⟩:=List.length_eq_one_iff.1 h6
  rw [hv] at h5
  have hle:=a.le
  have h7:=rdm_part h3 (i:=o) (k:=1) (by omega)
  rw [hv] at h7
  refine ⟨b',o' + (i * w + o),v,rfl,h5,?_⟩
  have h8:=cell_of_rd (rdm_rd h7).1
  rw [b.eq,Nat.add_assoc] at h8;exact h8
theorem elt_load {L:Kind β} {f:α→β} (s:LkS Γ p K l) (b:Esz K w) (a:Fld K o L f) (h1:L.esz=1) (hi:i < l.length) (hE:Evs e (AOp.opnds (.load1 x)) [.pointer (elt p i w o)])
    (g:∀ h v,Sat n Γ h→L.rd (tz h) [v] (f l[i])→At prog rr (.o d r::k) .norm ((t,v)::e) h Q):AtS n prog rr (.o d (⟨some t,.load1 x,none,bar⟩::r)::k) .norm e Γ Q:=fun h hs=>by
  obtain ⟨S,q1,_⟩:=hs.s
  obtain ⟨bb,oo,v,h2,h3,h4⟩:=elt_cell s b a h1 hi q1
  refine at_one (v:=v) (opD_same fun m=>?_) (g h v hs h3)
  simp only [aop,hE.a,h2]
  rw [show (h.withProt m).cell bb oo=h.cell bb oo from rfl,h4];rfl
theorem fldI {K:Kind α}:Fld K 0 K id:=⟨fun {m cs a} h=>by rw [List.drop_zero,List.take_of_length_le (by rw [K.len h];exact Nat.le_refl _)];exact h,by omega⟩
section
variable {li:List Int} {lb:List Bool} {ls:List ByteArray} {ll:List (List α)} {sz:Nat}
instance v_elemI [s:LkS Γ p (kInt .i64) li]:Step (AtV n prog rr d bar (some t) (.load1 x) [.pointer (elt p i 1 0)] r k e Γ Q) (Sx fun (hi:i < li.length)=>Im (-9223372036854775808≤li[i]∧li[i]≤9223372036854775807) (AtS n prog rr (.o d r::k) .norm ((t,.int .i64 li[i])::e) Γ Q)) :=
  ⟨fun g hE=>elt_load s esz_int fldI rfl g.c hE (fun h v hs q=>by obtain ⟨q1,q2⟩:=q;cases q1;exact g.a.a q2 h hs)⟩
instance v_elem8 [s:LkS Γ p (kInt .u8) li]:Step (AtV n prog rr d bar (some t) (.load1 x) [.pointer (elt p i 1 0)] r k e Γ Q) (Sx fun (hi:i < li.length)=>Im (0≤li[i]∧li[i]≤255) (AtS n prog rr (.o d r::k) .norm ((t,.int .u8 li[i])::e) Γ Q)) :=
  ⟨fun g hE=>elt_load s esz_int fldI rfl g.c hE (fun h v hs q=>by obtain ⟨q1,q2⟩:=q;cases q1;exact g.a.a q2 h hs)⟩
instance v_elemU [s:LkS Γ p (kInt .u64) li]:Step (AtV n prog rr d bar (some t) (.load1 x) [.pointer (elt p i 1 0)] r k e Γ Q) (Sx fun (hi:i < li.length)=>Im (0≤li[i]∧li[i]≤18446744073709551615) (AtS n prog rr (.o d r::k) .norm ((t,.int .u64 li[i])::e) Γ Q)) :=
  ⟨fun g hE=>elt_load s esz_int fldI rfl g.c hE (fun h v hs q=>by obtain ⟨q1,q2⟩:=q;cases q1;exact g.a.a q2 h hs)⟩
instance v_elemB [s:LkS Γ p kBool lb]:Step (AtV n prog rr d bar (some t) (.load1 x) [.pointer (elt p i 1 0)] r k e Γ Q) (Sx fun (hi:i < lb.length)=>AtS n prog rr (.o d r::k) .norm ((t,.bool lb[i])::e) Γ Q) :=
  ⟨fun g hE=>elt_load s esz_bool fldI rfl g.c hE (fun h v hs q=>by cases q;exact g.a h hs)⟩
instance v_elemS [s:LkS Γ p (kStrB sz) ls]:Step (AtV n prog rr d bar (some t) (.load1 x) [.pointer (elt p i 1 0)] r k e Γ Q) (Sx fun (hi:i < ls.length)=>Im (ls[i].size≤sz) (AtS n prog rr (.o d r::k) .norm ((t,.string ls[i])::e) Γ Q)) :=
  ⟨fun g hE=>elt_load s esz_str fldI rfl g.c hE (fun h v hs q=>by obtain ⟨q1,q2⟩:=q;cases q1;exact g.a.a q2 h hs)⟩
theorem sat_fro {p:Option Addr} {c:Nat} {l:List α} (hs:Sat n Γ h) (hf:Sl K (tz h) (.slice p l.length c) l):Sat n (fro K p c l::Γ) h:=by
  obtain ⟨S,h1,h2⟩:=hs.s
  exact ⟨⟨S,⟨fun _=>False,S,⟨hf,rfl⟩,h1,fun _ q=>q.elim,fun b=>by simp⟩,h2⟩,hs.prot,hs.le⟩
instance v_elemL [s:LkS Γ p (kSl K) ll]:Step (AtV n prog rr d bar (some t) (.load1 x) [.pointer (elt p i 1 0)] r k e Γ Q) (Sx fun (hi:i < ll.length)=>Fa fun (p':Option Addr)=>Fa fun (c':Nat)=>Im (ll[i].length≤140737488351232) (AtS n prog rr (.o d r::k) .norm ((t,.slice p' ll[i].length c')::e) (fro K p' c' ll[i]::Γ) Q)) :=
  ⟨fun g hE=>elt_load s esz_sl fldI rfl g.c hE (fun h v hs q=>by
    obtain ⟨v',q1,q2,q3⟩:=q
    cases q1
    obtain ⟨p',c',rfl⟩:=q2.form
    exact ((g.a.a p').a c').a q3 h (sat_fro hs q2))⟩
instance v_fldI {f:α→Int} [s:LkS Γ p K l] [b:Esz K w] [a:Fld K o (kInt .i64) f]:Step (AtV n prog rr d bar (some t) (.load1 x) [.pointer (elt p i w o)] r k e Γ Q) (Sx fun (hi:i < l.length)=>Im (-9223372036854775808≤f l[i]∧f l[i]≤9223372036854775807) (AtS n prog rr (.o d r::k) .norm ((t,.int .i64 (f l[i]))::e) Γ Q)) :=
  ⟨fun g hE=>elt_load s b a rfl g.c hE (fun h v hs q=>by obtain ⟨q1,q2⟩:=q;cases q1;exact g.a.a q2 h hs)⟩
instance v_fldB {f:α→Bool} [s:LkS Γ p K l] [b:Esz K w] [a:Fld K o kBool f]:Step (AtV n prog rr d bar (some t) (.load1 x) [.pointer (elt p i w o)] r k e Γ Q) (Sx fun (hi:i < l.length)=>AtS n prog rr (.o d r::k) .norm ((t,.bool (f l[i]))::e) Γ Q) :=
  ⟨fun g hE=>elt_load s b a rfl g.c hE (fun h v hs q=>by cases q;exact g.a h hs)⟩
instance v_fldL {L:Kind β} {f:α→List β} [s:LkS Γ p K l] [b:Esz K w] [a:Fld K o (kSl L) f]:Step (AtV n prog rr d bar (some t) (.load1 x) [.pointer (elt p i w o)] r k e Γ Q) (Sx fun (hi:i < l.length)=>Fa fun (p':Option Addr)=>Fa fun (c':Nat)=>Im ((f l[i]).length≤140737488351232) (AtS n prog rr (.o d r::k) .norm ((t,.slice p' (f l[i]).length c')::e) (fro L p' c' (f l[i])::Γ) Q)) :=
  ⟨fun g hE=>elt_load s b a rfl g.c hE (fun h v hs q=>by
    obtain ⟨v',q1,q2,q3⟩:=q
    cases q1
    obtain ⟨p',c',rfl⟩:=q2.form
    exact ((g.a.a p').a c').a q3 h (sat_fro hs q2))⟩
end
/-- A store to an element. -/
theorem sat_set {a:α} {cs:List Value} (hs:Sat n (own K p c l::F) h) (hi:i < l.length) (hr:K.rd (tz h) cs a):∃ b ocs,p=some ⟨b,0,none⟩∧h.wr b (i * K.esz) cs=some (h.set b (.cells ocs (some K.esz)))∧Sat n (own K p c (l.set i a)::F) (h.set b (.cells ocs (some K.esz))):=by
  obtain ⟨⟨S,⟨t1,t2,k1,k3,k4,k5⟩,k6⟩,hp,hn⟩:=hs
  rcases k1 with ⟨_,_,rfl,_⟩|⟨b,ocs,rfl,q2,q3,q4,rfl⟩
  · simp at hi
  have hb:n≤b:=k6 b ((k5 b).2 (.inl rfl))
  have hlen:=K.len hr
  have hle:i * K.esz + cs.length≤ocs.length:=by
    rw [hlen,q4.len]
    have:=Nat.mul_le_mul_right K.esz (show i + 1≤l.length by omega)
    rw [Nat.add_mul] at this;omega
  have hst:St h (h.set b (.cells (splice ocs (i * K.esz) cs) (some K.esz))):=.set _ (by rw [hp];exact hb) (fun c q=>by rw [q3] at q;cases q)
  refine ⟨b,splice ocs (i * K.esz) cs,rfl,wr_get q3 (by rw [hp];exact hb) hle (by
    have:=K.ok hr
    rw [List.all_eq_true] at this ⊢
    intro v hv
    have:=this v hv
    simp only [Bool.and_eq_true] at this;exact this.1),⟨⟨S,⟨(·=b),t2,.inr ⟨b,_,rfl,q2,by rw [Heap.get_set,if_pos rfl],(q4.set hi hr).mono (St_tz hst),rfl⟩,k3.loc hst (fun x hx=>by rw [Heap.get_set,if_neg (fun e=>k4 x e hx)]),k4,k5⟩,k6⟩,hp,hn⟩⟩
instance v_storeE {a:α} {φ:Prop} [od:Ord d bar] [s:LkO Γ p K c l F] [b:Esz K 1] [f:OfV K v a φ]:Step (AtV n prog rr d bar dst (.store 1 x y) [.pointer (elt p i 1 0),v] r k e Γ Q) (Sd (i < l.length∧φ) (AtS n prog rr (.o d r::k) .norm (put e dst undef) (own K p c (l.set i a)::F) Q)):=⟨fun g hE h hs=>by
    have h1:=f.rd g.c.2
    obtain ⟨b',ocs,hp,h2,h3⟩:=sat_set (s.ent.sat hs) g.c.1 (h1 (tz h))
    have hz:=b.eq
    have hvc:vcells v=[v]:=by
      have h4:=K.ok (h1 (tz h))
      cases v <;> first|rfl|(simp [cellOk] at h4)
    refine at_one (v:=undef) (h':=h.set b' (.cells ocs (some K.esz))) (opD_eq od.eq ?_) (g.a _ h3)
    subst hp
    simp only [aop,hE.a,hE.b,elt,Option.map_some,hvc,List.length_singleton,if_true,Nat.add_zero,Nat.zero_add]
    rw [hz] at h2 ⊢
    rw [h2];rfl⟩

instance s_opsA {l:List AI}:Step (AtS n prog rr (.c (.opsA [] l)::k) .norm e Γ Q) (AtS n prog rr (.o true l::k) .norm e Γ Q):=⟨fun g h hs=>by
    refine at_opsA ?_
    intro H hH
    obtain ⟨m,e',H',h',h1,h2,h3,h4,h5⟩:=g h hs H hH
    exact ⟨m,e',H',h',h1,h2,h3,h4,rfl,h5⟩⟩

/-- What is nil has nothing. -/
theorem nil_of [s:LkS Γ none K l] (hs:Sat n Γ h):l=[]:=by
  obtain ⟨S,h1,_⟩:=hs.s
  exact (s.get h1).2.1 rfl
instance (priority:=1100) e_s0L {a b a' b':Nat} [s:LkS Γ p K l]:Step (AtV n prog rr d bar (some t) (.eqv 2 false x y) [.slice p a b,.slice none a' b'] r k e Γ Q) (Br (p=none) (Im (l=[]) (AtS n prog rr (.o d r::k) .norm ((t,.bool true)::e) Γ Q)) (AtS n prog rr (.o d r::k) .norm ((t,.bool false)::e) Γ Q)):=⟨fun w hE h hs=>by
    cases p with
    | none=>exact eqv1 (b:=true) hE rfl ((w.t rfl).a (nil_of hs)) h hs
    | some p=>exact eqv1 (b:=false) hE rfl (w.f (by simp)) h hs⟩
instance (priority:=1100) e_s1L {a b a' b':Nat} [s:LkS Γ p K l]:Step (AtV n prog rr d bar (some t) (.eqv 2 true x y) [.slice p a b,.slice none a' b'] r k e Γ Q) (Br (p≠none) (AtS n prog rr (.o d r::k) .norm ((t,.bool true)::e) Γ Q) (Im (l=[]) (AtS n prog rr (.o d r::k) .norm ((t,.bool false)::e) Γ Q))):=⟨fun w hE h hs=>by
    cases p with
    | none=>exact eqv1 (b:=true) hE rfl ((w.f (by simp)).a (nil_of hs)) h hs
    | some p=>exact eqv1 (b:=false) hE rfl (w.t (by simp)) h hs⟩

theorem at_mk {zs:List Value} {a b:Int} {k1 k2:IntKind} {bytes:Nat} (K:Kind α) (y0:α) (hz:K.esz=w) (hr:∀ m,K.rd m zs y0) (ha:AsNat a i) (hb:AsNat b j) (hc:0≤a∧a≤b∧j * bytes≤1099511627776∧j≤1099511627776)
    (g:∀ bb,AtS n prog rr (.o d r::k) .norm ((t,.slice (some ⟨bb,0,none⟩) i j)::e) (own K (some ⟨bb,0,none⟩) j (List.replicate i y0)::Γ) Q):AtV n prog rr d bar (some t) (.mkslice w bytes zs x y) [.int k1 a,.int k2 b] r k e Γ Q:=fun hE=>by
  subst hz
  have h1:=ha.eq hc.1
  have h2:=hb.eq (by omega)
  refine go_new (ob:=.cells ((List.replicate i zs).flatten) (some K.esz)) (P:=fun bb=>own K (some ⟨bb,0,none⟩) j (List.replicate i y0)) (vf:=fun bb=>.slice (some ⟨bb,0,none⟩) i j) (fun h _ m=>?_) (fun h bb q1 q2=>.inr ⟨bb,_,rfl,q2,q1,cells_replicate (hr _) i,rfl⟩) g
  simp only [aop,hE.a,hE.b]
  have e1:a.toNat=i:=by omega
  have e2:b.toNat=j:=by omega
  rw [e1,e2,if_pos ⟨hc.1,hc.2.1,by simpa [limit] using hc.2.2.1,by simpa [limit] using hc.2.2.2⟩]
  rfl
instance v_mks {zs:List Value} {a b:Int} {k1 k2:IntKind} {bytes:Nat} {y0:α} [f:ZeroK zs K y0] [s:Esz K w] [ha:AsNat a i] [hb:AsNat b j]:Step (AtV n prog rr d bar (some t) (.mkslice w bytes zs x y) [.int k1 a,.int k2 b] r k e Γ Q) (Sd (0≤a∧a≤b∧j * bytes≤1099511627776∧j≤1099511627776) (Fa fun bb=>AtS n prog rr (.o d r::k) .norm ((t,.slice (some ⟨bb,0,none⟩) i j)::e) (own K (some ⟨bb,0,none⟩) j (List.replicate i y0)::Γ) Q)) :=
  ⟨fun g=>at_mk K y0 s.eq f.rd ha hb g.c g.a.a⟩

theorem sat_app {bytes:Nat} {c':Nat} (hs:Sat n (own K p c l::F) h) (hq:Sl2 K (mem h) (tz h) q l') (hx:ev e x=some (.slice p l.length c)) (hy:ev e y=some (.slice q l'.length c')) (hlim:(l.length + l'.length) * bytes≤1099511627776∧l.length + l'.length≤1099511627776) :
    ∃ p' c' h',aop (.append K.esz bytes x y) e h=some (.slice p' (l++l').length c',h')∧Sat n (own K p' c' (l++l')::F) h':=by
  obtain ⟨hq1,hq2,hq3⟩:=hq
  by_cases h0:l'=[]
  · subst h0
    refine ⟨p,c,h,by simp only [aop,hx,hy,List.length_nil,if_true,List.append_nil],by rw [List.append_nil];exact hs⟩
  obtain ⟨b,o,cs,rfl,k2,k3⟩:=hq3 h0
  obtain ⟨k4,k5⟩:=rdm_rd k2
  have hlen:l'.length≠0:=by simpa using h0
  have hok:cs.all cellOk=true:=by
    have:=k3.ok
    rw [List.all_eq_true] at this ⊢
    intro v hv
    have:=this v hv
    simp only [Bool.and_eq_true] at this;exact this.1
  obtain ⟨⟨S,⟨t1,t2,f1,f3,f4,f5⟩,f6⟩,hp,hn⟩:=hs
  have hin:=f3.inb
  rcases f1 with ⟨rfl,rfl,rfl,rfl⟩|⟨b',cs',rfl,q2,q3,q4,rfl⟩
  · have hst:=St.push h (.cells cs (some K.esz))
    refine ⟨some ⟨h.size,0,none⟩,l'.length,h.push (.cells cs (some K.esz)),?_,⟨⟨fun b=>b=h.size∨t2 b,⟨(·=h.size),t2,.inr ⟨h.size,cs,rfl,by simp,by rw [Heap.get_push,if_pos rfl],k3.mono (St_tz hst),rfl⟩,f3.loc hst (fun x hx=>by rw [Heap.get_push,if_neg (by have:=hin x hx;omega)]),fun x h1 h2=>by have:=hin x h2;rw [show x=h.size from h1] at this;omega,fun x=>Iff.rfl⟩,fun x hx=>?_⟩,hp,by have:=hn;simp;omega⟩⟩
    · simp only [List.length_nil,Nat.zero_add] at hlim hx
      simp only [aop,hx,hy]
      rw [if_neg hlen,if_pos ⟨by rw [Nat.zero_add];exact hlim.1,by rw [Nat.zero_add];exact hlim.2⟩]
      simp only [k4,hok,if_true,List.nil_append]
    · rcases hx with hx|hx
      · rw [hx];exact hn
      · exact f6 x ((f5 x).2 (.inr hx))
  · have hb:n≤b':=f6 b' ((f5 b').2 (.inl rfl))
    have hst:St h ((h.set b' .dead).push (.cells (cs'++cs) (some K.esz))):=(St.set _ (by rw [hp];exact hb) (fun x hx=>by rw [q3] at hx;cases hx)).trans (.push _ _)
    have hg:∀ x,t2 x→((h.set b' .dead).push (.cells (cs'++cs) (some K.esz))).get x=h.get x:=fun x hx=>by
      rw [Heap.get_push,if_neg (by have:=hin x hx;simp;omega),Heap.get_set,if_neg (fun e=>f4 x e hx)]
    refine ⟨some ⟨h.size,0,none⟩,l.length + l'.length,(h.set b' .dead).push (.cells (cs'++cs) (some K.esz)),?_,⟨⟨fun b=>b=h.size∨t2 b,⟨(·=h.size),t2,.inr ⟨h.size,cs'++cs,rfl,by simp,by rw [Heap.get_push,if_pos (by simp)],(q4.append k3).mono (St_tz hst),rfl⟩,f3.loc hst hg,fun x h1 h2=>by have:=hin x h2;rw [show x=h.size from h1] at this;omega,fun x=>Iff.rfl⟩,fun x hx=>?_⟩,hp,by have:=hn;simp;omega⟩⟩
    · simp only [aop,hx,hy]
      rw [if_neg hlen,if_pos (show (l.length + l'.length) * bytes≤limit∧l.length + l'.length≤limit from hlim)]
      simp only [k4,hok,if_true,q3]
      rw [if_pos ⟨trivial,q4.len,by rw [hp];exact hb,K.pos⟩,List.length_append]
    · rcases hx with hx|hx
      · rw [hx];exact hn
      · exact f6 x ((f5 x).2 (.inr hx))
/-- A list put behind one of one's own. -/
theorem at_app {bytes len c':Nat} {φ:Prop} (hd:(d && !bar)=false) (hz:K.esz=w) (he:Ent Γ (own K p c l::F)) (hq:LkL F q len K l' φ) (hc:φ∧(l.length + l'.length) * bytes≤1099511627776∧l.length + l'.length≤1099511627776)
    (g:∀ p' c',AtS n prog rr (.o d r::k) .norm ((t,.slice p' (l++l').length c')::e) (own K p' c' (l++l')::F) Q):AtV n prog rr d bar (some t) (.append w bytes x y) [.slice p l.length c,.slice q len c'] r k e Γ Q:=fun hE h hs=>by
  subst hz
  have hlen:=hq.len hc.1
  subst hlen
  have hs1:=he.sat hs
  obtain ⟨S,⟨s1,s2,k1,k2,k3,k4⟩,_⟩:=hs1.s
  obtain ⟨p',c1,h',h1,h2⟩:=sat_app (bytes:=bytes) hs1 (hq.get k2) hE.a hE.b hc.2
  exact at_one (opD_eq hd h1) (g p' c1 h' h2)
instance v_app {bytes len c':Nat} {φ:Prop} [od:Ord d bar] [o:LkO Γ p K c l F] [s:Esz K w] [a:LkL F q len K l' φ]:Step (AtV n prog rr d bar (some t) (.append w bytes x y) [.slice p l.length c,.slice q len c'] r k e Γ Q)
    (Sd (φ∧(l.length + l'.length) * bytes≤1099511627776∧l.length + l'.length≤1099511627776) (Fa fun p'=>Fa fun c'=>AtS n prog rr (.o d r::k) .norm ((t,.slice p' (l++l').length c')::e) (own K p' c' (l++l')::F) Q)) :=
  ⟨fun g=>at_app od.eq s.eq o.ent a g.c (fun p' c'=>(g.a.a p').a c')⟩
theorem ent_nil {K:Kind α}:Ent Γ (own K none 0 []::Γ):=fun h S hs=>⟨S,⟨fun _=>False,S,.inl ⟨rfl,rfl,rfl,rfl⟩,hs,fun _ q=>q.elim,fun b=>by simp⟩,fun b hb=>hb⟩
/-- The same, behind nothing. -/
instance (priority:=900) v_app0 {bytes len c':Nat} {φ:Prop} [od:Ord d bar] [s:Esz K w] [a:LkL Γ q len K l' φ]:Step (AtV n prog rr d bar (some t) (.append w bytes x y) [.slice none 0 0,.slice q len c'] r k e Γ Q)
    (Sd (φ∧(0 + l'.length) * bytes≤1099511627776∧0 + l'.length≤1099511627776) (Fa fun p'=>Fa fun c'=>AtS n prog rr (.o d r::k) .norm ((t,.slice p' l'.length c')::e) (own K p' c' l'::Γ) Q)) :=
  ⟨fun g=>at_app (l:=[]) od.eq s.eq ent_nil a g.c (fun p' c'=>(g.a.a p').a c')⟩
theorem pt_own {b q:Nat} {cs:List Value} {φ:Prop} {cap:Nat} (hz:K.esz=q) (a:OfVs Γ K cs l φ) (hf:φ):Ent (pt b cs q::Γ) (own K (some ⟨b,0,none⟩) cap l::Γ):=fun h S ⟨s,s',h1,h2,h3,h4⟩ =>
  ⟨S,⟨s,s',.inr ⟨b,cs,rfl,h1.2.1,by rw [hz];exact h1.1,a.rd hf h2,h1.2.2⟩,h2,h3,h4⟩,fun b hb=>hb⟩
/-- Things put behind a list of one's own. -/
theorem at_put {b bytes len c' zz:Nat} {cs:List Value} {φ:Prop} {F':List HP} (hd:(d && !bar)=false) (hz:K.esz=w) (hzz:zz=w) (he:Ent Γ (own K p c l::F)) (hq:Ent F (pt b cs zz::F')) (a:OfVs F' K cs l' φ) (hn:l'.length=len) (hc:φ∧(l.length + len) * bytes≤1099511627776∧l.length + len≤1099511627776)
    (g:∀ p' c',AtS n prog rr (.o d r::k) .norm ((t,.slice p' (l++l').length c')::e) (own K p' c' (l++l')::F') Q):AtV n prog rr d bar (some t) (.append w bytes x y) [.slice p l.length c,.slice (some ⟨b,0,none⟩) len c'] r k e Γ Q:=by
  subst hn;subst hzz
  exact at_app (F:=own K (some ⟨b,0,none⟩) c' l'::F') hd hz (he.trans (.cons (hq.trans (pt_own hz a hc.1)))) (lkl_all) ⟨trivial,hc.2⟩ (fun p' c' h hs=>g p' c' h ((Ent.cons (.drop (.refl _))).sat hs))
instance (priority:=1100) v_put {b bytes len c':Nat} {cs:List Value} {φ:Prop} {F':List HP} [od:Ord d bar] [o:LkO Γ p K c l F] [s:Esz K w] [q:LkW F b cs w F'] [a:OfVs F' K cs l' φ]:Step (AtV n prog rr d bar (some t) (.append w bytes x y) [.slice p l.length c,.slice (some ⟨b,0,none⟩) len c'] r k e Γ Q)
    (Sd (l'.length=len∧φ∧(l.length + len) * bytes≤1099511627776∧l.length + len≤1099511627776) (Fa fun p'=>Fa fun c'=>AtS n prog rr (.o d r::k) .norm ((t,.slice p' (l++l').length c')::e) (own K p' c' (l++l')::F') Q)) :=
  ⟨fun g=>at_put od.eq s.eq rfl o.ent q.ent a g.c.1 g.c.2 (fun p' c'=>(g.a.a p').a c')⟩
/-- The kind that a cell tells. -/
class KOf (cs:List Value) {α:outParam Type} (K:outParam (Kind α)):Prop where
  u:True
instance kof_i {x:Int} {ki:IntKind} {cs:List Value}:KOf (.int ki x::cs) (kInt ki):=⟨trivial⟩
instance kof_b {x:Bool} {cs:List Value}:KOf (.bool x::cs) kBool:=⟨trivial⟩
instance kof_s {x:ByteArray} {cs:List Value}:KOf (.string x::cs) kStr:=⟨trivial⟩
instance v_put0 {b bytes len c':Nat} {cs:List Value} {φ:Prop} [od:Ord d bar] [q:LkW Γ b cs w F] [o:KOf cs K] [s:Esz K w] [a:OfVs F K cs l' φ]:Step (AtV n prog rr d bar (some t) (.append w bytes x y) [.slice none 0 0,.slice (some ⟨b,0,none⟩) len c'] r k e Γ Q)
    (Sd (l'.length=len∧φ∧(0 + len) * bytes≤1099511627776∧0 + len≤1099511627776) (Fa fun p'=>Fa fun c'=>AtS n prog rr (.o d r::k) .norm ((t,.slice p' l'.length c')::e) (own K p' c' l'::F) Q)) :=
  ⟨fun g=>at_put (l:=[]) od.eq s.eq rfl ent_nil q.ent a g.c.1 g.c.2 (fun p' c'=>(g.a.a p').a c')⟩
/-- A list put behind things that lie in a new block. -/
instance (priority:=950) v_app1 {b bytes n1 len c' c1:Nat} {cs:List Value} {φ ψ:Prop} [od:Ord d bar] [q0:LkW Γ b cs w F] [a:LkL F q len K l' φ] [s:Esz K w] [f:OfVs F K cs l ψ]:Step (AtV n prog rr d bar (some t) (.append w bytes x y) [.slice (some ⟨b,0,none⟩) n1 c1,.slice q len c'] r k e Γ Q)
    (Sd (l.length=n1∧ψ∧φ∧(l.length + l'.length) * bytes≤1099511627776∧l.length + l'.length≤1099511627776) (Fa fun p'=>Fa fun c'=>AtS n prog rr (.o d r::k) .norm ((t,.slice p' (l++l').length c')::e) (own K p' c' (l++l')::F) Q)) :=
  ⟨fun g=>by
    obtain ⟨⟨h1,h2,h3⟩,h4⟩:=g
    subst h1
    exact at_app od.eq s.eq (q0.ent.trans (pt_own s.eq f h2)) a h3 (fun p' c'=>(h4.a p').a c')⟩
instance (priority:=960) v_app2 {b bytes len c' c1:Nat} {φ:Prop} [od:Ord d bar] [q0:LkW Γ b [] w F] [a:LkL F q len K l' φ] [s:Esz K w]:Step (AtV n prog rr d bar (some t) (.append w bytes x y) [.slice (some ⟨b,0,none⟩) 0 c1,.slice q len c'] r k e Γ Q)
    (Sd (φ∧(0 + l'.length) * bytes≤1099511627776∧0 + l'.length≤1099511627776) (Fa fun p'=>Fa fun c'=>AtS n prog rr (.o d r::k) .norm ((t,.slice p' l'.length c')::e) (own K p' c' l'::F) Q)) :=
  ⟨fun g=>at_app (l:=[]) od.eq s.eq (q0.ent.trans (pt_own s.eq ofvs0 trivial)) a g.c (fun p' c'=>(g.a.a p').a c')⟩
/-- A part of a list. -/
theorem sub0 (p:Option Addr) (z:Nat):sub p 0 z=p:=by
  unfold sub;cases p <;> simp
theorem slc_op {lo hi:Option Operand} {a b:Int} {len:Nat} {φ:Prop} (s:LkL Γ p len K l φ) (hf:φ) (hs:Sat n Γ h) (hx:ev e x=some (.slice p len c)) (hlo:boundI e 0 lo=some a) (hhi:boundI e len hi=some b) (ha:(i:Int)=a) (hb:(j:Int)=b) (hc:i≤j∧j≤len) (m:Nat) :
    aop (.slc w x lo hi) e (h.withProt m)=some (.slice (sub p i w) (j - i) (j - i),h.withProt m):=by
  subst ha;subst hb
  simp only [aop,hx,hlo,hhi]
  rw [if_pos ⟨by omega,by omega,by omega⟩]
  obtain ⟨S,h1,_⟩:=hs.s
  obtain ⟨q1,q2,q3⟩:=s.get h1
  have hl:=s.len hf
  cases p with
  | none =>
    have:=q2 rfl
    subst this
    simp only [List.length_nil] at hl
    have e1:j - i=0:=by omega
    simp only [sub,Option.map_none,e1]
  | some a =>
    obtain ⟨b,o,sp⟩:=a
    have:=q1 _ rfl
    simp only at this;subst this
    simp [sub]
instance v_slcA {len:Nat} {φ:Prop} {y z:Operand} {a b:Int} {k1 k2:IntKind} [s:LkL Γ p len K l φ] [ha:AsNat a i] [hb:AsNat b j]:Step (AtV n prog rr d bar (some t) (.slc w x (some y) (some z)) [.slice p len c,.int k1 a,.int k2 b] r k e Γ Q)
    (Sd (φ∧0≤a∧a≤b∧j≤len) (AtS n prog rr (.o d r::k) .norm ((t,.slice (sub p i w) (j - i) (j - i))::e) Γ Q)):=⟨fun g hE=>go1 (fun h hs m=>by
    have h1:=ha.eq g.c.2.1
    have h2:=hb.eq (by have:=g.c;omega)
    have hE1:=hE.b;have hE2:=hE.c
    exact slc_op s g.c.1 hs hE.a (by simp only [boundI,hE1]) (by simp only [boundI,hE2]) h1 h2 (by have:=g.c;omega) m) g.a⟩
instance v_slcL {len:Nat} {φ:Prop} {y:Operand} {a:Int} {k1:IntKind} [s:LkL Γ p len K l φ] [ha:AsNat a i]:Step (AtV n prog rr d bar (some t) (.slc w x (some y) none) [.slice p len c,.int k1 a] r k e Γ Q)
    (Sd (φ∧0≤a∧i≤len) (AtS n prog rr (.o d r::k) .norm ((t,.slice (sub p i w) (len - i) (len - i))::e) Γ Q)):=⟨fun g hE=>go1 (fun h hs m=>by
    have h1:=ha.eq g.c.2.1
    have hE1:=hE.b
    exact slc_op s g.c.1 hs hE.a (by simp only [boundI,hE1]) rfl h1 rfl (by have:=g.c;omega) m) g.a⟩
instance v_slcH {len:Nat} {φ:Prop} {y:Operand} {a:Int} {k1:IntKind} [s:LkL Γ p len K l φ] [ha:AsNat a i]:Step (AtV n prog rr d bar (some t) (.slc w x none (some y)) [.slice p len c,.int k1 a] r k e Γ Q)
    (Sd (φ∧0≤a∧i≤len) (AtS n prog rr (.o d r::k) .norm ((t,.slice p i i)::e) Γ Q)):=⟨fun g hE=>go1 (fun h hs m=>by
    have h1:=ha.eq g.c.2.1
    have hE1:=hE.b
    have:=slc_op (w:=w) (c:=c) s g.c.1 hs hE.a (lo:=none) (a:=0) rfl (hi:=some y) (b:=a) (by simp only [boundI,hE1]) (i:=0) rfl h1 (by have:=g.c;omega) m
    rw [sub0] at this;exact this) g.a⟩

theorem Runs.raise {fn:FuncId} {args:List Value} {R R':Value→Heap→Prop} (hs:h.prot≤h.size) (hr:Runs prog fn args (h.withProt h.size) R) (hq:∀ v h1,St (h.withProt h.size) h1→R v h1→R' v (h1.withProt h.prot)):Runs prog fn args h R':=fun H hH=>by
  obtain ⟨m,v,H',h',h1,h2,h3,h4,h5,h6⟩:=hr H ((Less.raise h hs).trans hH)
  have ol:=Old.of h4
  exact ⟨m,v,H',h'.withProt h.prot,h1,h2,⟨h3.size,by show H'.prot≤h.prot;rw [h2];exact hH.prot,h3.obj⟩,ol.st,rfl,hq v h' h4 h6⟩
/-- What is lent to one that is called. -/
def Lend1 (Γ:List HP) (P:HP):Prop:=∀ h S,SatS Γ h S→(∀ b,b < h.size→frz h b)→P.has h (fun _=>False)
inductive Lend (Γ:List HP):List HP→Prop where
  | nil:Lend Γ []
  | cons {P:HP} {R:List HP} (a:Lend1 Γ P) (b:Lend Γ R):Lend Γ (P::R)
theorem Lend.sat {R:List HP} (hl:Lend Γ R) {S:Nat→Prop} (h1:SatS Γ h S) (hf:∀ b,b < h.size→frz h b):SatS R h (fun _=>False):=by
  induction hl with
  | nil=>exact fun b q=>q
  | cons a b ih=>exact ⟨fun _=>False,fun _=>False,a h S h1 hf,ih,fun _ q=>q.elim,fun b=>by simp⟩
theorem Lend1.there {P P':HP} (a:Lend1 Γ P):Lend1 (P'::Γ) P:=fun h S ⟨s,s',_,h2,_⟩ hf=>a h s' h2 hf
theorem Lend1.ro {P:HP}:Lend1 (P::Γ) (ro P):=fun h S ⟨s,s',h1,_⟩ hf=>⟨⟨s,h1,fun b hb=>hf b (P.inb h1 b hb)⟩,rfl⟩
theorem Lend1.pers {P:HP} [a:Pers P]:Lend1 (P::Γ) P:=fun h S ⟨s,s',h1,_⟩ hf=>a.no h1
theorem Lend1.list [a:LkS Γ p K l]:Lend1 Γ (rdl K p l):=fun h S hs hf=>⟨(a.get hs).mono (fun b o q=>by
  obtain ⟨q1,q2⟩:=mem_some q
  unfold fz;rw [if_pos (hf b q1)];exact q) (.refl _),rfl⟩
theorem Lend1.nil:Lend1 Γ (rdl K none []):=fun h S _ _=>⟨⟨by simp,fun _=>rfl,fun h=>absurd rfl h⟩,rfl⟩
theorem at_callS {fn:FuncId} {f:Operand} {as:List Operand} {args:List Value} {a1 a2:Array Value} {Ps:List HP} {W:(Value→List HP→Prop)→Prop} (hs:Spec prog fn args Ps W)
    (w:W (fun v Γ'=>AtS n prog rr (.o d r::k) .norm (put e dst v) (Γ'++F) Q))
    (ha:a1.toList++vs++a2.toList=args:=by rfl) (hb:(d && !bar)=false:=by rfl) (he:Ent Γ (Ps++F):=by
      repeat first|exact Ent.refl _|(apply Ent.more;· repeat first|exact Ent.keep|exact Ent.here|exact Ent.lend|exact ent_nil|apply Ent.there)):AtV n prog rr d bar dst (.call f as) (.func (.func fn) a1 a2::vs) r k e Γ Q:=fun hE h hh=>by
  refine at_cl hb hE.a hE.tl.evs ha (hs n F h _ (he.sat hh) w |>.mono ?_)
  intro v h' _ _ hq _ _
  obtain ⟨Γ',h1,h2⟩:=hq
  exact h1 h' h2
theorem at_callR {fn:FuncId} {f:Operand} {as:List Operand} {args:List Value} {a1 a2:Array Value} {Ps:List HP} {W:(Value→List HP→Prop)→Prop} (hs:Spec prog fn args Ps W)
    (w:W (fun v Γ'=>Lw Γ' (AtS n prog rr (.o d r::k) .norm (put e dst v) (Γ'++Γ) Q)))
    (ha:a1.toList++vs++a2.toList=args:=by rfl) (he:Lend Γ Ps:=by
      repeat first|exact Lend.nil|(apply Lend.cons;· repeat first|exact Lend1.list|exact Lend1.pers|exact Lend1.ro|exact Lend1.nil|apply Lend1.there)):AtV n prog rr d bar dst (.call f as) (.func (.func fn) a1 a2::vs) r k e Γ Q:=fun hE h hh=>by
  obtain ⟨⟨S,h1,h2⟩,hp,hn⟩:=hh
  have hle:h.prot≤h.size:=by rw [hp];exact hn
  have hraise:SatS Γ (h.withProt h.size) S:=h1.loc (St.wp h) (fun _ _=>rfl)
  have hl:=he.sat hraise (fun b hb=>⟨hb,.inl hb⟩)
  have hrun:=hs h.size [] (h.withProt h.size) _ ⟨⟨fun _=>False,by rw [List.append_nil];exact hl,fun _ q=>False.elim q⟩,rfl,Nat.le_refl _⟩ w
  have fin:∀ v h1',St (h.withProt h.size) h1'→(∃ Γ',Lw Γ' (AtS n prog rr (.o d r::k) .norm (put e dst v) (Γ'++Γ) Q)∧Sat h.size (Γ'++[]) h1')→At prog rr (.o d r::k) .norm (put e dst v) (h1'.withProt h.prot) Q:=by
    rintro v h1' st ⟨Γ',⟨g1,g2⟩,g3⟩
    rw [List.append_nil] at g3
    obtain ⟨⟨S',k1,k2⟩,k3,k4⟩:=g3
    have ol:=Old.of st
    refine g2 _ ⟨⟨fun b=>S' b∨S b,(g1.sat h.prot k1).join (h1.loc ol.st (fun b hb=>ol.get b (h1.inb b hb))) (fun b q1 q2=>?_),fun b q=>?_⟩,hp,?_⟩
    · have:=k2 b q1;have:=h1.inb b q2;omega
    · rcases q with q|q
      · have:=k2 b q;omega
      · exact h2 b q
    · have:=ol.size;simp at this ⊢;omega
  cases hdb:(d && !bar) with
  | false =>
    refine at_cl hdb hE.a hE.tl.evs ha (Runs.raise hle hrun ?_)
    intro v h1' st hq _ _
    exact fin v h1' st hq
  | true =>
    simp only [Bool.and_eq_true,Bool.not_eq_true'] at hdb
    obtain ⟨rfl,rfl⟩:=hdb
    refine at_clO hE.a hE.tl.evs ha (hrun.mono ?_)
    intro v h1' st _ hq _
    exact fin v h1' st hq

def LP {ι:Type} (n:Nat) (prog:AProg) (rr:Option Nat) (k:List Kt) (E:ι→Env) (Δ:ι→List HP) (P:ι→Prop) (μ:ι→Nat) (i:ι) (Q:Pst):Pst:=fun x e h=>match x with
  | .norm=>∃ j,P j∧μ j < μ i∧e=E j∧Sat n (Δ j) h
  | x=>At prog rr k x e h Q
theorem at_loopS {ι : Type} {b : ACode} (E : ι → Env) (Δ : ι → List HP) (P : ι → Prop) (μ : ι → Nat) (i : ι) (hp : P i) (hb : ∀ i, P i → AtS n prog rr [.c b] .norm (E i) (Δ i) (LP n prog rr k E Δ P μ i Q)) (he : e = E i := by rfl) (hs : Ent Γ (Δ i) := by
      repeat first|exact Ent.refl _|(apply Ent.more;· repeat first|exact Ent.keep|exact Ent.here|exact Ent.lend|exact ent_nil|apply Ent.there)|apply Ent.drop):AtS n prog rr (.c (.loop b)::k) .norm e Γ Q:=fun h hh=>by
  subst he
  refine at_loop2 (I:=fun m e h=>∃ i,m=μ i∧P i∧e=E i∧Sat n (Δ i) h) (O:=fun x e h=>At prog rr k x e h Q) (m:=μ i) ⟨i,rfl,hp,rfl,hs.sat hh⟩ ?_ (fun _ _ _ _ q=>q)
  rintro m e h1 _ ⟨i,rfl,hi,rfl,hsat⟩
  refine G.WP.mono (hb i hi h1 hsat) ?_
  rintro x e' h' _ hq
  cases x with
  | norm =>
    obtain ⟨j,q1,q2,q3,q4⟩:=hq
    exact ⟨μ j,q2,j,rfl,q1,q3,q4⟩
  | exit i=>exact hq
  | ret=>exact hq
section
variable {ι:Type} {E:ι→Env} {Δ1:ι→List HP} {P:ι→Prop} {μ:ι→Nat} {i:ι} {rr':Option Nat} {k':List Kt}
theorem lp_next (j : ι) (hp : P j) (hm : μ j < μ i) (he : e = E j := by rfl) (hs : Ent Γ (Δ1 j) := by
      repeat first|exact Ent.refl _|(apply Ent.more;· repeat first|exact Ent.keep|exact Ent.here|exact Ent.lend|exact ent_nil|apply Ent.there)|apply Ent.drop):AtS n prog rr [] .norm e Γ (LP n prog rr k E Δ1 P μ i Q):=fun h hh=>⟨j,hp,hm,he,hs.sat hh⟩
instance s_lpe {id:Nat}:Step (AtS n prog rr [] (.exit id) e Γ (LP n prog rr k E Δ1 P μ i Q)) (AtS n prog rr k (.exit id) e Γ Q):=⟨fun w h hs=>w h hs⟩
instance s_lpr:Step (AtS n prog rr [] .ret e Γ (LP n prog rr k E Δ1 P μ i Q)) (AtS n prog rr k .ret e Γ Q):=⟨fun w h hs=>w h hs⟩
end

/-- What results are. -/
inductive ResL (e:Env) (Γ:List HP):List ARes→List Value→Prop where
  | nil:ResL e Γ [] []
  | tmp {t:Nat} {v:Value} {rs:List ARes} {vs:List Value} (h:Env.get e t=some v) (w:ResL e Γ rs vs):ResL e Γ (.tmp t::rs) (v::vs)
  | cell1 {t b o:Nat} {cs:List Value} {v:Value} {rs:List ARes} {vs:List Value} (h:Env.get e t=some (.pointer (some ⟨b,o,none⟩))) (l:LkP Γ b cs) (a:Nth cs o v) (c:Cl v) (w:ResL e Γ rs vs):ResL e Γ (.cell1 t::rs) (v::vs)
  | cellN {t b o i:Nat} {cs cs':List Value} {rs:List ARes} {vs:List Value} (h:Env.get e t=some (.pointer (some ⟨b,o,none⟩))) (l:LkP Γ b cs) (a:Mid cs o i cs') (c:Cls cs' i) (w:ResL e Γ rs vs):ResL e Γ (.cellN t i::rs) (.agg (List.toArray cs')::vs)
theorem ResL.res {res:List ARes} (hr:ResL e Γ res vs) {S:Nat→Prop} (hs:SatS Γ h S):resL e h res=some vs:=by
  induction hr with
  | nil=>rfl
  | tmp h1 w ih=>simp only [resL,resV,h1,ih,Option.bind_some,Option.map_some]
  | cell1 h1 l a c w ih =>
    obtain ⟨_,u,h2⟩:=l.get hs
    simp only [resL,resV,h1,ih,cell_eq h2 a.eq c.nj,Option.bind_some,Option.map_some]
  | cellN h1 l a c w ih =>
    rename_i b o i cs cs' rs vs'
    obtain ⟨_,u,h2⟩:=l.get hs
    have h3:h.rd b o i=some cs':=by unfold Heap.rd;rw [h2];simp only [a.eq];rw [if_pos ⟨a.le,c.nj⟩]
    simp only [resL,resV,h1,ih,h3,Option.bind_some,Option.map_some]
class TupV (vs:List Value) (v:outParam Value):Prop where
  eq:tupV vs=v
instance (priority:=1100) tv1:TupV [v] v:=⟨rfl⟩
instance tv0:TupV [] (.tuple #[]):=⟨rfl⟩
instance tv2:TupV (u::v::vs) (.tuple (List.toArray (u::v::vs))):=⟨rfl⟩
/-- A function's end: what it tells. -/
def FinA (n:Nat) (vs:List Value) (R:Value→List HP→Prop) (F Γ:List HP):Prop:=∃ Γ',R (tupV vs) Γ'∧Ent Γ (Γ'++F)
theorem g_fin {res : List ARes} {R : Value → List HP → Prop} (w : FinA n vs R F Γ) (hx : ax = .norm ∨ ax = .ret := by first | exact Or.inl rfl | exact Or.inr rfl) (hr : ResL e Γ res vs := by
      repeat first|exact ResL.nil|(apply ResL.tmp;exact rfl)|(apply ResL.cell1;exact rfl;exact inferInstance;exact inferInstance;exact inferInstance)|(apply ResL.cellN;exact rfl;exact inferInstance;exact inferInstance;exact inferInstance)):AtS n prog rr [] ax e Γ (Post res n F R):=fun h hh=>by
  obtain ⟨Γ',h1,h2⟩:=w
  obtain ⟨S,q1,_⟩:=hh.s
  refine ⟨fun i=>?_,vs,hr.res q1,Γ',h1,h2.sat hh⟩
  rcases hx with rfl|rfl <;> simp
instance s_fin {R:Value→List HP→Prop} [a:TupV vs v]:Step (FinA n vs R F Γ) (FinG R v F Γ):=⟨fun ⟨⟨Γ',h1,h2⟩⟩=>⟨Γ',by rw [a.eq];exact h1,h2⟩⟩
theorem fin {R : Value → List HP → Prop} (h1 : R v Γ') (h2 : Ent Γ (Γ' ++ F) := by
      repeat first|exact Ent.refl _|(apply Ent.more;· repeat first|exact Ent.keep|exact Ent.here|exact Ent.lend|exact ent_nil|apply Ent.there)|apply Ent.drop):FinG R v F Γ:=⟨Γ',h1,h2⟩
end
end Go.AMS

