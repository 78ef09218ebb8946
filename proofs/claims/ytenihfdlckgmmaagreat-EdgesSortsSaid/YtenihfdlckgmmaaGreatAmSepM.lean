/- A part of the abstract machine, or of what is proved of the program by it. -/
import Derived.Test.YtenihfdlckgmmaaGreatAmSepL
namespace Go.AMS
open Go.AM hiding Kt At WP WL Runs RunsY
open Go.AM.G
set_option linter.unusedVariables false
set_option linter.unusedSectionVars false
set_option linter.unusedSimpArgs false
section
variable {prog:AProg} {rr:Option Nat} {e e':Env} {Q:Pst} {k:List Kt} {x y z:Operand} {ax:AX} {n:Nat} {Γ Δ F Γ':List HP} {d bar:Bool} {r:List AI} {t:Nat} {dst:Option Nat} {u v v1 v2 v3:Value} {vs:List Value} {op:AOp} {h h':Heap}
variable {α β:Type} {K:Kind α} {p q:Option Addr} {c i j w o m:Nat} {l l':List α}

theorem rdm_same {b o n:Nat} (h1:b < h.size) (h2:b < h'.size) (hg:h'.get b=h.get b):rdm (mem h') b o n=rdm (mem h) b o n:=by
  unfold rdm mem;rw [if_pos h1,if_pos h2,hg]
/-- A list that lies in a block of one's own, which may hold more. -/
def lst (K:Kind α) (p:Option Addr) (l:List α):HP:=⟨fun h s=>Sl2 K (mem h) (tz h) p l∧((p=none∧s=fun _=>False)∨∃ a,p=some a∧a.block < h.size∧s=(·=a.block)),
  fun ⟨_,h2⟩ x hx=>by
    rcases h2 with ⟨_,rfl⟩|⟨a,_,h3,rfl⟩
    · exact hx.elim
    · rw [show x=a.block from hx];exact h3,
  fun {h h' s} ⟨h1,h2⟩ st hg=>by
    refine ⟨⟨h1.1,h1.2.1,fun hl=>?_⟩,?_⟩
    · obtain ⟨b,o,cs,k1,k2,k3⟩:=h1.2.2 hl
      rcases h2 with ⟨k4,_⟩|⟨a,k4,k5,rfl⟩
      · rw [k4] at k1;cases k1
      · rw [k4] at k1;cases k1
        exact ⟨b,o,cs,k4,by rw [rdm_same k5 (Nat.lt_of_lt_of_le k5 st.size) (hg b rfl)];exact k2,k3.mono (St_tz st)⟩
    · rcases h2 with h2|⟨a,k4,k5,rfl⟩
      · exact .inl h2
      · exact .inr ⟨a,k4,Nat.lt_of_lt_of_le k5 st.size,rfl⟩⟩
instance lks_lst:LkS (lst K p l::Γ) p K l:=⟨fun ⟨s,s',h1,_⟩=>h1.1⟩
instance low_lst:Low (lst K p l):=⟨fun n h=>h⟩
theorem Sl2.pre {m1 m2:M} (h:Sl2 K m1 m2 p l) (i:Nat) (e:l.take i=l'):Sl2 K m1 m2 p l':=by subst e;exact h.take i
theorem own_lst (i:Nat) (e:l.take i=l'):Ent (own K p c l::Γ) (lst K p l'::Γ):=.one fun h s h1=>by
  refine ⟨s,⟨(own_sl2 h1).pre i e,?_⟩,fun b hb=>hb⟩
  rcases h1 with ⟨h2,_,_,h3⟩|⟨b,cs,h2,h3,_,_,h4⟩
  · exact .inl ⟨h2,h3⟩
  · exact .inr ⟨_,h2,h3,h4⟩

theorem cells_range {cs vs:List Value} {m1:M} (h:Cells K m1 cs l) (hv:Cells K m1 vs l') (hi:i + l'.length≤l.length):Cells K m1 (splice cs (i * K.esz) vs) (l.take i++l'++l.drop (i + l'.length)):=by
  unfold splice
  refine Cells.append (Cells.append (Cells.split i h).1 hv) ?_
  have:=(Cells.split (i + l'.length) h).2
  rw [hv.len,← Nat.add_mul];exact this
/-- Cells written over some of one's own. -/
theorem sat_range {vs:List Value} (hs:Sat n (own K p c l::F) h) (hv:Cells K (tz h) vs l') (hi:i + l'.length≤l.length) (h0:l'≠[]):∃ b ocs,p=some ⟨b,0,none⟩∧h.wr b (i * K.esz) vs=some (h.set b (.cells ocs (some K.esz)))∧Sat n (own K p c (l.take i++l'++l.drop (i + l'.length))::F) (h.set b (.cells ocs (some K.esz))):=by
  obtain ⟨⟨S,⟨t1,t2,k1,k3,k4,k5⟩,k6⟩,hp,hn⟩:=hs
  rcases k1 with ⟨_,_,rfl,_⟩|⟨b,ocs,rfl,q2,q3,q4,rfl⟩
  · exact absurd (List.eq_nil_of_length_eq_zero (by have:([]:List α).length=0:=rfl;omega)) h0
  have hb:n≤b:=k6 b ((k5 b).2 (.inl rfl))
  have hle:i * K.esz + vs.length≤ocs.length:=by
    rw [hv.len,q4.len,← Nat.add_mul]
    exact Nat.mul_le_mul_right _ hi
  have hst:St h (h.set b (.cells (splice ocs (i * K.esz) vs) (some K.esz))):=.set _ (by rw [hp];exact hb) (fun c q=>by rw [q3] at q;cases q)
  refine ⟨b,splice ocs (i * K.esz) vs,rfl,wr_get q3 (by rw [hp];exact hb) hle (by
    have:=hv.ok
    rw [List.all_eq_true] at this ⊢
    intro v hv
    have:=this v hv
    simp only [Bool.and_eq_true] at this;exact this.1),⟨⟨S,⟨(·=b),t2,.inr ⟨b,_,rfl,q2,by rw [Heap.get_set,if_pos rfl],(cells_range q4 hv hi).mono (St_tz hst),rfl⟩,k3.loc hst (fun x hx=>by rw [Heap.get_set,if_neg (fun e=>k4 x e hx)]),k4,k5⟩,k6⟩,hp,hn⟩⟩
instance v_clear {zs:List Value} {a:α} [od:Ord d bar] [s:LkO Γ p K c l F] [f:ZeroK zs K a] [b:Esz K w]:Step (AtV n prog rr d bar dst (.clear zs x) [.slice (sub p i w) m j] r k e Γ Q) (Sd (i + m≤l.length) (AtS n prog rr (.o d r::k) .norm (put e dst (.tuple #[])) (own K p c (l.take i++List.replicate m a++l.drop (i + m))::F) Q)):=⟨fun g hE h hs=>by
  have hs1:=s.ent.sat hs
  have hz:=b.eq
  subst hz
  by_cases h0:m=0
  · subst h0
    have e1:l.take i++List.replicate 0 a++l.drop (i + 0)=l:=by simp
    refine at_one (v:=.tuple #[]) (h':=h) (opD_eq od.eq (by simp only [aop,hE.a,if_true])) (g.a h ?_)
    rw [e1];exact hs1
  · have hv:Cells K (tz h) ((List.replicate m zs).flatten) (List.replicate m a):=cells_replicate (f.rd _) m
    obtain ⟨bb,ocs,rfl,h1,h2⟩:=sat_range (i:=i) hs1 hv (by rw [List.length_replicate];exact g.c) (by simpa using h0)
    rw [List.length_replicate] at h2
    refine at_one (v:=.tuple #[]) (h':=h.set bb (.cells ocs (some K.esz))) (opD_eq od.eq ?_) (g.a _ h2)
    simp only [aop,hE.a,sub,Option.map_some]
    rw [if_neg h0,Nat.zero_add,h1];rfl⟩
instance v_copy {len c':Nat} {φ:Prop} [od:Ord d bar] [s:LkO Γ p K c l F] [b:Esz K w] [a:LkL F q m K l' φ]:Step (AtV n prog rr d bar (some t) (.copy w x y) [.slice p len j,.slice q m c'] r k e Γ Q) (Sd (φ∧len=l.length∧m≤l.length) (AtS n prog rr (.o d r::k) .norm ((t,.int .i64 (m:Int))::e) (own K p c (l'++l.drop m)::F) Q)):=⟨fun g hE h hs=>by
  have hs1:=s.ent.sat hs
  have hz:=b.eq
  subst hz
  obtain ⟨⟨hf,rfl,hm⟩,ga⟩:=g
  have hlen:=a.len hf
  subst hlen
  have hmin:Nat.min l'.length l.length=l'.length:=Nat.min_eq_left hm
  by_cases h0:l'=[]
  · subst h0
    refine at_one (v:=.int .i64 0) (h':=h) (opD_eq od.eq ?_) (ga h ?_)
    · simp only [aop,hE.a,hE.b,List.length_nil]
      rw [if_pos (by exact Nat.zero_min _)]
    · simpa using hs1
  · obtain ⟨S,⟨s1,s2,_,k2,_,_⟩,_⟩:=hs1.s
    obtain ⟨q1,q2,q3⟩:=a.get k2
    obtain ⟨b',o',cs,rfl,q4,q5⟩:=q3 h0
    obtain ⟨bb,ocs,rfl,h1,h2⟩:=sat_range (i:=0) hs1 q5 (by omega) h0
    simp only [List.take_zero,List.nil_append,Nat.zero_add,Nat.zero_mul] at h1 h2
    refine at_one (v:=.int .i64 l'.length) (h':=h.set bb (.cells ocs (some K.esz))) (opD_eq od.eq ?_) (ga _ h2)
    simp only [aop,hE.a,hE.b,hmin]
    rw [if_neg (by simpa using h0)]
    simp only [(rdm_rd q4).1,h1,Option.map_some]⟩
end
end Go.AMS

