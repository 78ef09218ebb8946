/- A part of the abstract machine, or of what is proved of the program by it. -/
import Derived.Test.YtenihfdlckgmmaaGreatAmReg
namespace Go.AM
set_option linter.unusedVariables false
set_option linter.unusedSimpArgs false
variable {P:Program} {w:World} {ι:Inj} {h h':Heap} {e e':Env} {a:Act} {N:Nat} {v:Value} {op:AOp} {call:CallT} {F:Fence} {n:Nat}

def res (ι:Inj) (m:Nat):Inj:=fun b=>if b < m then ι b else none

theorem res_mono {ι κ:Inj} {m k:Nat} (h:∀ b i,b < m→ι b=some i→κ b=some i) (hm:m≤k):Le (res ι m) (res κ k):=by
  intro b i e
  unfold res at e ⊢
  split at e
  · rename_i hb;rw [if_pos (by omega)];exact h b i hb e
  · cases e
theorem res_some {ι:Inj} {m b:Nat} {i:BI} (e:res ι m b=some i):b < m∧ι b=some i:=by
  unfold res at e;split at e
  · exact ⟨‹_›,e⟩
  · cases e
theorem res_of {ι:Inj} {m b:Nat} {i:BI} (hb:b < m) (e:ι b=some i):res ι m b=some i:=by unfold res;rw [if_pos hb];exact e

/-- The states of a run through operations, one by one. -/
theorem trace {call:CallT}:∀ {is:List AI} {e e':Env} {h h':Heap},evL call true is e h=some (e',h') →
    ∃ (E:Nat→Env) (H:Nat→Heap),E 0=e∧H 0=h∧E is.length=e'∧H is.length=h'∧∀ j i,is[j]? = some i→evID call i (E j) (H j)=some (E (j + 1),H (j + 1)):=by
  intro is
  induction is with
  | nil =>
    intro e e' h h' hr
    simp only [evL,Option.some.injEq,Prod.mk.injEq] at hr;obtain ⟨rfl,rfl⟩:=hr
    exact ⟨fun _=>e,fun _=>h,rfl,rfl,rfl,rfl,fun j i hi=>by simp at hi⟩
  | cons i is ih =>
    intro e e' h h' hr
    simp only [evL] at hr
    split at hr
    · rename_i e1 h1 he
      simp only [cond_true] at he
      obtain ⟨E,H,a1,a2,a3,a4,a5⟩:=ih hr
      refine ⟨fun k=>match k with|0=>e|k + 1=>E k,fun k=>match k with|0=>h|k + 1=>H k,rfl,rfl,a3,a4,fun j i' hj=>?_⟩
      cases j with
      | zero=>simp at hj;subst hj;simp only;rw [he,a1,a2]
      | succ j=>exact a5 j i' (by simpa using hj)
    · cases hr

theorem get_put {e:Env} {d:Option Nat} {v:Value} {t:Nat}:Env.get (put e d v) t=if d=some t then some v else Env.get e t:=by
  cases d with
  | none=>simp [put]
  | some d=>simp only [put,Env.get_cons,Option.some.injEq]

theorem evI_env {i:AI} (hr:evI call i e h=some (e',h')):∃ v,e'=put e i.dst v:=by
  unfold evI at hr
  split at hr
  · obtain ⟨⟨v,h2⟩,h1,he⟩:=Option.map_eq_some_iff.1 hr
    simp only [Prod.mk.injEq] at he;exact ⟨v,he.1.symm⟩
  · simp only [Option.some.injEq,Prod.mk.injEq] at hr;exact ⟨undef,hr.1.symm⟩
  · cases hr

theorem evID_env {i:AI} (hr:evID call i e h=some (e',h')):∃ v,e'=put e i.dst v:=by
  unfold evID at hr
  cases hb:i.bar with
  | true=>rw [hb] at hr;exact evI_env hr
  | false =>
    rw [hb] at hr
    obtain ⟨⟨e2,h2⟩,h1,he⟩:=Option.map_eq_some_iff.1 hr
    simp only [Prod.mk.injEq] at he;obtain ⟨rfl,_⟩:=he
    exact evI_env h1

theorem keepE_get {e:Env} {l:List Nat} {t:Nat}:Env.get (keepE e l) t=if t ∈ l then Env.get e t else none:=by
  induction l with
  | nil=>simp [keepE,Env.get]
  | cons x l ih =>
    simp only [keepE]
    cases hx:Env.get e x with
    | none =>
      simp only [ih,List.mem_cons]
      by_cases h1:t=x
      · subst h1;simp [hx]
      · simp [h1]
    | some v =>
      simp only [Env.get_cons,ih,List.mem_cons]
      by_cases h1:x=t
      · subst h1;simp [hx]
      · have:t≠x:=fun q=>h1 q.symm
        simp [h1,this]

theorem evI_keep {i:AI} {l:List Nat} (hl:∀ t ∈ i.reads,t ∈ l) (hr:evI call i e h=some (e',h')):∃ v,e'=put e i.dst v∧evI call i (keepE e l) h=some (put (keepE e l) i.dst v,h'):=by
  have hg:wanted (keepE e l) i.guard=wanted e i.guard:=by
    cases hq:i.guard with
    | none=>rfl
    | some p =>
      simp only [wanted,keepE_get]
      rw [if_pos (hl _ (by unfold AI.reads;simp [hq]))]
  have ho:opV call i.op (keepE e l) h=opV call i.op e h:=by
    apply opV_congr
    intro x hx
    cases x with
    | tmp t =>
      simp only [ev,keepE_get]
      rw [if_pos (hl t (by unfold AI.reads;refine List.mem_append_left _ (List.mem_filterMap.2 ⟨_,hx,rfl⟩)))]
    | _=>rfl
  unfold evI at hr ⊢
  rw [hg,ho]
  split at hr
  · obtain ⟨⟨v,h2⟩,h1,he⟩:=Option.map_eq_some_iff.1 hr
    simp only [Prod.mk.injEq] at he;obtain ⟨rfl,rfl⟩:=he
    exact ⟨v,rfl,by rw [h1];rfl⟩
  · simp only [Option.some.injEq,Prod.mk.injEq] at hr;obtain ⟨rfl,rfl⟩:=hr
    exact ⟨undef,rfl,rfl⟩
  · cases hr

/-- What is known of a region whose order is open. -/
structure Stat (P:Program) (N:Nat) (call:CallT) (ops:Array Oper) (is:List AI) (B:List (List Nat)) (E:Nat→Env) (H:Nat→Heap):Prop where
  len:is.length=ops.size
  ai:∀ (j:Nat) (o:Oper),ops[j]? = some o→∃ i,is[j]? = some i∧compAI P N ops (barOf B ops.size j) o=some i
  step:∀ (j:Nat) (i:AI),is[j]? = some i→evID call i (E j) (H j)=some (E (j + 1),H (j + 1))
  reads:∀ (j:Nat) (i:AI) (o:Oper),is[j]? = some i→ops[j]? = some o→∀ t ∈ i.reads,t ∈ readsOf ops o
  after:∀ (j:Nat) (o:Oper),ops[j]? = some o→∀ e ∈ o.after.toList,Region.binds .any e=true→e.on < j
  bcl:∀ (i j:Nat) (o:Oper),ops[j]? = some o→i ∈ B.getD j []→∃ e ∈ o.after.toList,Region.binds .any e=true∧(e.on=i∨i ∈ B.getD e.on [])
  conf:∀ (i j:Nat) (p o:Oper),i < j→ops[i]? = some p→ops[j]? = some o→i ∈ B.getD j [] ∨
    ((∀ d,p.dst=some d→d ∉ readsOf ops o∧o.dst≠some d)∧(∀ d,o.dst=some d→d ∉ readsOf ops p))
  ext:CallExt call

theorem edgesOk_inv {ops:Array Oper} (he:edgesOk ops=true) (j:Nat) (o:Oper) (ho:ops[j]? = some o) :
    (∀ e ∈ o.after.toList,Region.binds .any e=true→e.on < j)∧(∀ i,i ∈ (beforeL ops.toList).getD j []→∃ e ∈ o.after.toList,Region.binds .any e=true∧(e.on=i∨i ∈ (beforeL ops.toList).getD e.on [])) ∧
    (∀ i p,i < j→ops[i]? = some p→i ∈ (beforeL ops.toList).getD j []∨((∀ d,p.dst=some d→d ∉ readsOf ops o∧o.dst≠some d)∧(∀ d,o.dst=some d→d ∉ readsOf ops p))):=by
  unfold edgesOk at he
  simp only [List.all_eq_true] at he
  have:=he (o,j) (List.mem_zipIdx_iff_getElem?.2 (by simpa using ho))
  simp only [Bool.and_eq_true,List.all_eq_true,decide_eq_true_eq,List.any_eq_true,Bool.or_eq_true,beq_iff_eq,List.contains_iff_mem,List.mem_range] at this
  obtain ⟨⟨⟨h1,_⟩,h3⟩,h4⟩:=this
  refine ⟨fun e he hb=>by have:=h1 e he;simp [hb] at this;exact this,fun i hi=>?_,fun i p hi hp=>?_⟩
  · obtain ⟨e,he1,he2,he3⟩:=h3 i hi
    exact ⟨e,he1,he2,he3⟩
  · have:=h4 i hi
    rw [hp] at this
    simp only [Bool.or_eq_true,Bool.and_eq_true,List.contains_iff_mem] at this
    rcases this with ⟨g1,g2⟩|g
    · right
      refine ⟨fun d hd=>?_,fun d hd=>?_⟩
      · rw [hd] at g1;simp at g1;exact g1
      · rw [hd] at g2;simpa using g2
    · exact .inl g

theorem Stat.of {ops:Array Oper} {is:List AI} (hc:compR P N ops true=some is) (hx:CallExt call) (hr:evL call true is e h=some (e',h')) :
    P.follows .mixedOrders=true∧∃ B E H,Stat P N call ops is B E H∧E 0=e∧H 0=h∧E ops.size=e'∧H ops.size=h':=by
  simp only [compR,if_true] at hc
  split at hc
  · rename_i hed
    simp only [Bool.and_eq_true] at hed
    refine ⟨hed.2,?_⟩
    split at hc
    · rename_i l hl
      split at hc
      · rename_i hro
        cases hc
        obtain ⟨E,H,a1,a2,a3,a4,a5⟩:=trace hr
        obtain ⟨c1,c2⟩:=compL_get hl
        have hlen:is.length=ops.size:=by simpa using c1
        refine ⟨beforeL ops.toList,E,H,⟨hlen,fun j o ho=>?_,a5,fun j i o hi ho t ht=>?_,fun j o ho=>(edgesOk_inv hed.1 j o ho).1,fun i j o ho=>(edgesOk_inv hed.1 j o ho).2.1 i,fun i j p o hij hp ho=>(edgesOk_inv hed.1 j o ho).2.2 i p hij hp,hx⟩,a1,a2,hlen ▸ a3,hlen ▸ a4⟩
        · obtain ⟨i,h1,h2⟩:=c2 j o (by simpa using ho)
          exact ⟨i,h1,by simpa using h2⟩
        · unfold readsOk at hro
          simp only [List.all_eq_true] at hro
          have:=hro (i,j) (List.mem_zipIdx_iff_getElem?.2 hi)
          simp only [ho,List.all_eq_true,List.contains_iff_mem] at this
          exact this t ht
      · cases hc
    · cases hc
  · cases hc

section
variable {ops:Array Oper} {is:List AI} {B:List (List Nat)} {E:Nat→Env} {H:Nat→Heap}

theorem Stat.oper (st:Stat P N call ops is B E H) {j:Nat} (hj:j < ops.size):∃ o i,ops[j]? = some o∧is[j]? = some i∧compAI P N ops (barOf B ops.size j) o=some i∧i.bar=barOf B ops.size j∧i.dst=o.dst:=by
  have ho:=Array.getElem?_eq_getElem hj
  obtain ⟨i,h1,h2⟩:=st.ai j _ ho
  obtain ⟨_,_,k1,k2,_⟩:=compAI_inv h2
  exact ⟨_,i,ho,h1,h2,k2,k1⟩

theorem Stat.hext (st:Stat P N call ops is B E H) {i j:Nat} (hij:i≤j) (hj:j≤ops.size):Ext (H i) (H j):=by
  induction j with
  | zero => have : i = 0 := by omega
            subst this;exact Ext.refl _
  | succ j ih =>
    by_cases q:i=j + 1
    · subst q;exact Ext.refl _
    · obtain ⟨o,k,_,hk,_⟩:=st.oper (j:=j) (by omega)
      exact (ih (by omega) (by omega)).trans (evID_ext st.ext (st.step j k hk)).1

theorem Stat.keep (st:Stat P N call ops is B E H) {i j:Nat} (hij:i≤j) (hj:j≤ops.size) (hb:∀ k,i≤k→k < j→barOf B ops.size k=false):∀ b,b < (H i).size→(H j).get b=(H i).get b:=by
  induction j with
  | zero => have : i = 0 := by omega
            subst this;intro b _;rfl
  | succ j ih =>
    by_cases q:i=j + 1
    · subst q;intro b _;rfl
    · intro b hbs
      obtain ⟨o,k,_,hk,_,hbar,_⟩:=st.oper (j:=j) (by omega)
      have:=(evID_ext st.ext (st.step j k hk)).2 (by rw [hbar];exact hb j (by omega) (by omega))
      rw [this b (Nat.lt_of_lt_of_le hbs (st.hext (by omega) (by omega)).size)]
      exact ih (by omega) (by omega) (fun k h1 h2=>hb k h1 (by omega)) b hbs

/-- Slots that nobody writes between. -/
theorem Stat.env (st:Stat P N call ops is B E H) {i j t:Nat} (hij:i≤j) (hj:j≤ops.size) (hb:∀ k o,i≤k→k < j→ops[k]? = some o→o.dst≠some t):Env.get (E j) t=Env.get (E i) t:=by
  induction j with
  | zero => have : i = 0 := by omega
            subst this;rfl
  | succ j ih =>
    by_cases q:i=j + 1
    · subst q;rfl
    · obtain ⟨o,k,ho,hk,_,hbar,hdst⟩:=st.oper (j:=j) (by omega)
      obtain ⟨v,hv⟩:=evID_env (st.step j k hk)
      rw [hv,get_put,if_neg (by rw [hdst];exact hb j o (by omega) (by omega) ho)]
      exact ih (by omega) (by omega) (fun k o h1 h2 h3=>hb k o h1 (by omega) h3)

theorem bar_inv {m j i:Nat} (hb:barOf B m j=true) (hi:i < m):(i < j→i ∈ B.getD j [])∧(j < i→j ∈ B.getD i []):=by
  unfold barOf at hb
  simp only [List.all_eq_true,List.mem_range] at hb
  have:=hb i hi
  refine ⟨fun h=>?_,fun h=>?_⟩
  · rw [if_pos h] at this;simpa using this
  · rw [if_neg (by omega),if_pos h] at this;simpa using this

theorem next_bar (m:Nat):∀ (d s:Nat),s + d=m→∃ e,s≤e∧e≤m∧(∀ k,s≤k→k < e→barOf B ops.size k=false)∧(e=m∨(e < m∧barOf B ops.size e=true)):=by
  intro d
  induction d with
  | zero=>intro s hs;exact ⟨s,Nat.le_refl _,by omega,fun k h1 h2=>by omega,.inl (by omega)⟩
  | succ d ih =>
    intro s hs
    cases hb:barOf B ops.size s with
    | true=>exact ⟨s,Nat.le_refl _,by omega,fun k h1 h2=>by omega,.inr ⟨by omega,hb⟩⟩
    | false =>
      obtain ⟨e,h1,h2,h3,h4⟩:=ih (s + 1) (by omega)
      refine ⟨e,by omega,h2,fun k k1 k2=>?_,h4⟩
      by_cases q:k=s
      · subst q;exact hb
      · exact h3 k (by omega) k2

theorem Sim.up {ι:Inj} {h h2:Heap} {w:World} (s:Sim P ι h w) (hs:h.size≤h2.size) (hk:∀ b,b < h.size→h2.get b=h.get b):Sim P (res ι h2.size) h2 w:=by
  have hle:Le ι (res ι h2.size):=fun b i e=>res_of (Nat.lt_of_lt_of_le (s.dom b i e).1 hs) e
  have hown:∀ b i,ι b=some i→(owned h2 b ↔ owned h b):=fun b i e=>by unfold owned;rw [hk b (s.dom b i e).1]
  have hlive:∀ b i,ι b=some i→(live h2 b ↔ live h b):=fun b i e=>by unfold live;rw [hk b (s.dom b i e).1]
  refine ⟨fun b i e=>?_,fun b i o e ho=>?_,fun b b' i i' hne e e' ho hl=>?_,fun B hB=>⟨(s.pin B hB).1,fun c j e ho=>(s.pin B hB).2 c j (res_some e).2 ((hown c j (res_some e).2).1 ho)⟩⟩
  · obtain ⟨h1,e⟩:=res_some e;exact ⟨h1,(s.dom b i e).2⟩
  · obtain ⟨h1,e⟩:=res_some e
    rw [hk b (s.dom b i e).1] at ho
    obtain ⟨O,k1,k2⟩:=s.obj b i o e ho
    exact ⟨O,k1,k2.mono hle⟩
  · obtain ⟨_,e⟩:=res_some e
    obtain ⟨_,e'⟩:=res_some e'
    exact s.inj b b' i i' hne e e' ((hown b i e).1 ho) ((hlive b' i' e').1 hl)

/-- The places that have been done. -/
def Don (l:Array Bool) (i:Nat):Prop:=l[i]? = some true

structure Inv (P:Program) (N:Nat) (call:CallT) (ops:Array Oper) (is:List AI) (B:List (List Nat)) (E:Nat→Env) (H:Nat→Heap) (ι0:Inj) (w0:World) (df:List Deferred) (l:Array Bool) (a:Act) (w:World) (s e:Nat) (ιs:Inj) (ws:World) (ι:Inj):Prop where
  lsize:l.size=ops.size
  se:s≤e
  en:e≤ops.size
  low:∀ i,i < s→Don l i
  high:∀ i,Don l i→i < e
  nobar:∀ i,s≤i→i < e→barOf B ops.size i=false
  ebar:e=ops.size∨(e < ops.size∧barOf B ops.size e=true)
  dc:∀ j,Don l j→∀ i,i ∈ B.getD j []→Don l i
  s0:Sim P ι0 (H 0) w0
  r0:Rel P ι0 (H 0) w0 ιs (H s) ws
  sim:∀ k,s≤k→k≤e→Sim P (res ι (H k).size) (H k) w
  dom:∀ b i,ι b=some i→b < (H s).size∨∃ k,Don l k∧s≤k∧(H k).size≤b∧b < (H (k + 1)).size
  les:Le ιs ι
  os:w.os=ws.os
  tape:w.tape=ws.tape
  output:w.output=ws.output
  size:ws.heap.size≤w.heap.size∧ws.drawn≤w.drawn
  block:∀ Bk,Bk < ws.heap.size→w.heap[Bk]? = ws.heap[Bk]?
  fresh:∀ b i,ι b=some i→ιs b=none→(H s).size≤b∧ws.heap.size≤i.blk
  tsize:a.tmps.size=N
  defers:a.defers=df
  slot0:∀ t v,(∀ k o,Don l k→s≤k→ops[k]? = some o→o.dst≠some t)→Env.get (E s) t=some v→∃ v',a.tmps[t]? = some v'∧V (res ι (H s).size) v v'
  slot:∀ t v k o,Don l k→s≤k→ops[k]? = some o→o.dst=some t→(∀ k' o',Don l k'→ops[k']? = some o'→o'.dst=some t→k'≤k)→Env.get (E (k + 1)) t=some v→∃ v',a.tmps[t]? = some v'∧V (res ι (H (k + 1)).size) v v'

/-- The greatest place below j of a kind. -/
theorem greatest (p:Nat→Prop):∀ j,(∀ k,k < j→¬ p k)∨∃ k,k < j∧p k∧∀ k',k' < j→p k'→k'≤k:=by
  intro j
  induction j with
  | zero=>exact .inl (fun k hk=>absurd hk (Nat.not_lt_zero _))
  | succ j ih =>
    by_cases hj:p j
    · exact .inr ⟨j,by omega,hj,fun k' h1 _=>by omega⟩
    · rcases ih with h|⟨k,h1,h2,h3⟩
      · exact .inl (fun k hk=>by
          by_cases q:k=j
          · subst q;exact hj
          · exact h k (by omega))
      · exact .inr ⟨k,by omega,h2,fun k' h4 h5=>by
          by_cases q:k'=j
          · subst q;exact absurd h5 hj
          · exact h3 k' (by omega) h5⟩

variable {ι0:Inj} {w0:World} {df:List Deferred} {l:Array Bool} {s x:Nat} {ιs:Inj} {ws:World}

/-- What operation j reads is there. -/
theorem Inv.read (st:Stat P N call ops is B E H) (iv:Inv P N call ops is B E H ι0 w0 df l a w s x ιs ws ι) {j:Nat} {o:Oper} (ho:ops[j]? = some o) (hsj:s≤j) (hjx:j≤x) (hnd:¬ Don l j) (hbef:∀ i,i ∈ B.getD j []→Don l i)
    {t:Nat} {v:Value} (ht:t ∈ readsOf ops o) (hv:Env.get (E j) t=some v):∃ v',a.tmps[t]? = some v'∧V (res ι (H j).size) v v':=by
  have hjn:j < ops.size:=(Array.getElem?_eq_some_iff.1 ho).1
  have hnot:∀ k' o',Don l k'→ops[k']? = some o'→o'.dst=some t→j < k'→False:=by
    intro k' o' hd ho' hdst hlt
    rcases st.conf j k' o o' hlt ho ho' with hq|⟨_,hq⟩
    · exact hnd (iv.dc k' hd j hq)
    · exact hq t hdst ht
  have hlow:∀ k o',k < j→ops[k]? = some o'→o'.dst=some t→Don l k:=by
    intro k o' hlt ho' hdst
    rcases st.conf k j o' o hlt ho' ho with hq|⟨hq,_⟩
    · exact hbef k hq
    · exact absurd ht (hq t hdst).1
  rcases greatest (fun k=>s≤k∧∃ o',ops[k]? = some o'∧o'.dst=some t) j with hno|⟨k,hkj,⟨hsk,o',ho',hdst⟩,hmax⟩
  · have hv0:Env.get (E s) t=some v:=by
      rw [← st.env hsj (by omega) (fun k o' h1 h2 h3 h4=>hno k h2 ⟨h1,o',h3,h4⟩)];exact hv
    obtain ⟨v',k1,k2⟩:=iv.slot0 t v (fun k o' hd h1 ho' hdst=>by
      rcases Nat.lt_trichotomy k j with q|q|q
      · exact hno k q ⟨h1,o',ho',hdst⟩
      · subst q;exact hnd hd
      · exact hnot k o' hd ho' hdst q) hv0
    exact ⟨v',k1,k2.mono (res_mono (fun _ _ _ e=>e) (st.hext hsj (by omega)).size)⟩
  · have hd:=hlow k o' hkj ho' hdst
    have hv0:Env.get (E (k + 1)) t=some v:=by
      rw [← st.env (i:=k + 1) (j:=j) (by omega) (by omega) (fun k2 o2 h1 h2 h3 h4=>by have:=hmax k2 h2 ⟨by omega,o2,h3,h4⟩;omega)];exact hv
    obtain ⟨v',k1,k2⟩:=iv.slot t v k o' hd hsk ho' hdst (fun k' o2 hd' ho2 hdst2=>by
      rcases Nat.lt_trichotomy k' j with q|q|q
      · by_cases hs':s≤k'
        · exact hmax k' q ⟨hs',o2,ho2,hdst2⟩
        · omega
      · subst q;exact absurd hd' hnd
      · exact (hnot k' o2 hd' ho2 hdst2 q).elim) hv0
    exact ⟨v',k1,k2.mono (res_mono (fun _ _ _ e=>e) (st.hext (i:=k + 1) (j:=j) (by omega) (by omega)).size)⟩

/-- All that came ahead of the next fixed place is there. -/
theorem Inv.full (st:Stat P N call ops is B E H) (iv:Inv P N call ops is B E H ι0 w0 df l a w s x ιs ws ι) (hall:∀ i,i < x→Don l i) :
    Rel P ι0 (H 0) w0 (res ι (H x).size) (H x) w∧FR N (res ι (H x).size) (E x) a.tmps:=by
  have hx:=iv.en
  have hsx:=iv.se
  have xt:=st.hext hsx hx
  refine ⟨Rel.trans (h1:=H s) (w1:=ws) iv.s0 iv.r0 ⟨fun b i e=>?_,iv.sim x hsx (Nat.le_refl _),⟨iv.os,iv.tape,iv.output,iv.size.1,fun Bk h1 _=>iv.block Bk h1,iv.size.2⟩,fun b i e e0=>?_,xt.own,xt.prot,xt.keep,xt.size⟩,iv.tsize,fun t v hv=>?_⟩
  · exact res_of (Nat.lt_of_lt_of_le (iv.r0.sim.dom b i e).1 xt.size) (iv.les b i e)
  · obtain ⟨_,e⟩:=res_some e
    obtain ⟨k1,k2⟩:=iv.fresh b i e e0
    exact ⟨k1,.inl k2⟩
  · rcases greatest (fun k=>s≤k∧∃ o',ops[k]? = some o'∧o'.dst=some t) x with hno|⟨k,hkj,⟨hsk,o',ho',hdst⟩,hmax⟩
    · have hv0:Env.get (E s) t=some v:=by
        rw [← st.env hsx hx (fun k o' h1 h2 h3 h4=>hno k h2 ⟨h1,o',h3,h4⟩)];exact hv
      obtain ⟨v',k1,k2⟩:=iv.slot0 t v (fun k o' hd h1 ho' hdst=>hno k (iv.high k hd) ⟨h1,o',ho',hdst⟩) hv0
      exact ⟨v',k1,k2.mono (res_mono (fun _ _ _ e=>e) xt.size)⟩
    · have hv0:Env.get (E (k + 1)) t=some v:=by
        rw [← st.env (i:=k + 1) (j:=x) (by omega) hx (fun k2 o2 h1 h2 h3 h4=>by have:=hmax k2 h2 ⟨by omega,o2,h3,h4⟩;omega)];exact hv
      obtain ⟨v',k1,k2⟩:=iv.slot t v k o' (hall k hkj) hsk ho' hdst (fun k' o2 hd' ho2 hdst2=>by
        by_cases hs':s≤k'
        · exact hmax k' (iv.high k' hd') ⟨hs',o2,ho2,hdst2⟩
        · omega) hv0
      exact ⟨v',k1,k2.mono (res_mono (fun _ _ _ e=>e) (st.hext (i:=k + 1) (j:=x) (by omega) hx).size)⟩

theorem don_set {l:Array Bool} {i j:Nat} (hj:j < l.size):Don (l.setIfInBounds j true) i ↔ i=j∨Don l i:=by
  unfold Don
  rw [Array.getElem?_setIfInBounds]
  by_cases h:j=i
  · subst h;simp [hj]
  · have:i≠j:=fun q=>h q.symm
    simp [h,this]

/-- An operation whose place is open. -/
theorem Inv.stepOpen (st:Stat P N call ops is B E H) (hW:Wide F) (hcs:CallSound P call) (iv:Inv P N call ops is B E H ι0 w0 df l a w s x ιs ws ι) {j:Nat} (hsj:s≤j) (hjx:j < x) (hnd:¬ Don l j)
    (hbef:∀ i,i ∈ B.getD j []→Don l i) {K:Act→World→Prop} {Q:Exit→Act→World→Prop}
    (hK:∀ a1 w1 ι1,Inv P N call ops is B E H ι0 w0 df (l.setIfInBounds j true) a1 w1 s x ιs ws ι1→K a1 w1):wpOpIn F n P ops Q j K a w:=by
  have hen:=iv.en
  have hjn:j < ops.size:=by omega
  have hlj:j < l.size:=by rw [iv.lsize];exact hjn
  obtain ⟨o,i,ho,hi,hco,hbar,hdst⟩:=st.oper hjn
  have hb:=iv.nobar j hsj hjx
  rw [hb] at hbar
  obtain ⟨hd,hop,_,_,hg⟩:=compAI_inv hco
  have hstep:=st.step j i hi
  unfold evID at hstep
  rw [hbar] at hstep
  simp only [cond_false] at hstep
  obtain ⟨⟨e1,h1⟩,hev,he⟩:=Option.map_eq_some_iff.1 hstep
  simp only [Prod.mk.injEq] at he
  obtain ⟨he1,he2⟩:=he
  obtain ⟨v0,hp0,hev2⟩:=evI_keep (l:=i.reads) (fun t ht=>ht) hev
  have hsimj:=iv.sim j hsj (by omega)
  have hS:Sim P (res ι (H j).size) ((H j).withProt (H j).size) w:=⟨hsimj.dom,fun b q ob e1 e2=>hsimj.obj b q ob e1 (by simpa using e2),fun b b' q q' hne e1 e2 ho hl=>hsimj.inj b b' q q' hne e1 e2 ho hl,hsimj.pin⟩
  have hF:FR N (res ι (H j).size) (keepE (E j) i.reads) a.tmps:=by
    refine ⟨iv.tsize,fun t v hv=>?_⟩
    rw [keepE_get] at hv
    split at hv
    · rename_i ht
      exact iv.read st ho hsj (by omega) hnd hbef (st.reads j i o hi ho t ht) hv
    · cases hv
  refine ai_sound hW hcs ho hco hS hF hev2 (fun v v' w' ι' hput k1 k2=>hK _ w' (fun b=>if b < (H j).size then ι b else if b < (H (j + 1)).size then ι' b else ι b) ?_)
  have hvv:Env.get (put (keepE (E j) i.reads) i.dst v0)=Env.get (put (keepE (E j) i.reads) i.dst v):=by rw [hput]
  have hH1:∀ b,(H (j + 1)).get b=h1.get b:=fun b=>by rw [← he2];simp
  have hH1s:(H (j + 1)).size=h1.size:=by rw [← he2];simp
  have hjj:(H j).size≤(H (j + 1)).size:=(st.hext (i:=j) (j:=j + 1) (by omega) (by omega)).size
  -- nothing that was there is written
  have hblk:∀ Bk,Bk < w.heap.size→w'.heap[Bk]? = w.heap[Bk]?:=fun Bk hB=>k2.fr.block Bk hB (fun b q e1 e2 e3=>by
    have:=(res_some e1).1
    simp at e3;omega)
  have hnew:∀ b q,ι' b=some q→(b < (H j).size∧ι b=some q)∨((H j).size≤b∧b < (H (j + 1)).size∧w.heap.size≤q.blk):=by
    intro b q hq
    have hdm:=(k2.sim.dom b q hq).1
    cases hr:res ι (H j).size b with
    | some q2 =>
      have:=k2.le b q2 hr
      rw [this] at hq;cases hq
      exact .inl (res_some hr)
    | none =>
      obtain ⟨g1,g2⟩:=k2.new b q hq hr
      simp at g1
      refine .inr ⟨g1,by rw [hH1s];exact hdm,?_⟩
      rcases g2 with g2|⟨b0,i0,g3,_,g4,_⟩
      · exact g2
      · have:=(res_some g3).1;simp at g4;omega
  have hnodom:∀ b,(H j).size≤b→b < (H (j + 1)).size→ι b=none:=by
    intro b hb1 hb2
    cases hq:ι b with
    | none=>rfl
    | some q =>
      rcases iv.dom b q hq with g|⟨k,g1,g2,g3,g4⟩
      · have:=(st.hext hsj (by omega)).size;omega
      · exfalso
        have hkx:=iv.high k g1
        rcases Nat.lt_trichotomy k j with q1|q1|q1
        · have:=(st.hext (i:=k + 1) (j:=j) (by omega) (by omega)).size;omega
        · subst q1;exact hnd g1
        · have:=(st.hext (i:=j + 1) (j:=k) (by omega) (by omega)).size;omega
  generalize hκ:(fun b=>if b < (H j).size then ι b else if b < (H (j + 1)).size then ι' b else ι b)=κ
  have hκ1:∀ b,b < (H j).size→κ b=ι b:=fun b hb=>by rw [← hκ];simp [hb]
  have hκ2:∀ b,(H j).size≤b→b < (H (j + 1)).size→κ b=ι' b:=fun b hb1 hb2=>by rw [← hκ];simp [hb2,Nat.not_lt.2 hb1]
  have hκ3:∀ b,(H (j + 1)).size≤b→κ b=ι b:=fun b hb=>by
    rw [← hκ];simp only [if_neg (show ¬ b < (H j).size by omega),if_neg (show ¬ b < (H (j + 1)).size by omega)]
  have hικ:Le ι κ:=fun b q hq=>by
    by_cases h1:b < (H j).size
    · rw [hκ1 b h1];exact hq
    · by_cases h2:b < (H (j + 1)).size
      · rw [hnodom b (by omega) h2] at hq;cases hq
      · rw [hκ3 b (by omega)];exact hq
  have hι'κ:Le ι' κ:=fun b q hq=>by
    rcases hnew b q hq with ⟨g1,g2⟩|⟨g1,g2,_⟩
    · rw [hκ1 b g1];exact g2
    · rw [hκ2 b g1 g2];exact hq
  have hκinv:∀ b q,κ b=some q→ι b=some q∨(ι' b=some q∧(H j).size≤b∧b < (H (j + 1)).size∧w.heap.size≤q.blk):=by
    intro b q hq
    by_cases h1:b < (H j).size
    · rw [hκ1 b h1] at hq;exact .inl hq
    · by_cases h2:b < (H (j + 1)).size
      · rw [hκ2 b (by omega) h2] at hq
        rcases hnew b q hq with ⟨g1,_⟩|⟨g1,g2,g3⟩
        · omega
        · exact .inr ⟨hq,g1,g2,g3⟩
      · rw [hκ3 b (by omega)] at hq;exact .inl hq
  have hkeepJ:∀ k,j≤k→k≤x→∀ b,b < (H j).size→(H k).get b=(H j).get b:=fun k h1 h2=>st.keep h1 (by omega) (fun q g1 g2=>iv.nobar q (by omega) (by omega))
  refine ⟨by simp [iv.lsize],iv.se,iv.en,fun q hq=>(don_set hlj).2 (.inr (iv.low q hq)),fun q hq=>?_,iv.nobar,iv.ebar,fun q hq r hr=>?_,iv.s0,iv.r0,fun k hk1 hk2=>?_,fun b q hq=>?_,iv.les.trans hικ,k2.fr.os.trans iv.os,k2.fr.tape.trans iv.tape,k2.fr.output.trans iv.output,⟨Nat.le_trans iv.size.1 k2.fr.size,Nat.le_trans iv.size.2 k2.fr.drawn⟩,
    fun Bk hB=>by rw [hblk Bk (Nat.lt_of_lt_of_le hB iv.size.1)];exact iv.block Bk hB,fun b q hq hq0=>?_,?_,?_,fun t u hno hu=>?_,fun t u k o' hdk hsk ho' hdst' hmax hu=>?_⟩
  · rcases (don_set hlj).1 hq with rfl|hq
    · exact hjx
    · exact iv.high q hq
  · rcases (don_set hlj).1 hq with rfl|hq
    · exact (don_set hlj).2 (.inr (hbef r hr))
    · exact (don_set hlj).2 (.inr (iv.dc q hq r hr))
  · -- the heaps
    have hsk:=iv.sim k hk1 hk2
    have hdm':∀ b q,res κ (H k).size b=some q→q.blk < w'.heap.size:=fun b q hq=>by
      rcases hκinv b q (res_some hq).2 with g|⟨g,_⟩
      · have:=(hsk.dom b q (res_of (res_some hq).1 g)).2;have:=k2.fr.size;omega
      · exact (k2.sim.dom b q g).2
    refine ⟨fun b q hq=>⟨(res_some hq).1,hdm' b q hq⟩,fun b q ob hq hob=>?_,fun b b' q q' hne hq hq' hown hlive=>?_,fun b0 hb0=>⟨(hsk.pin b0 hb0).1.of (hblk b0 (hsk.pin b0 hb0).1.lt),fun c q hq hown=>by
      obtain ⟨hck,hq⟩:=res_some hq
      rcases hκinv c q hq with g|⟨g,g1,g2,g3⟩
      · exact (hsk.pin b0 hb0).2 c q (res_of hck g) hown
      · have:=(hsk.pin b0 hb0).1.lt;omega⟩⟩
    · obtain ⟨hbk,hq⟩:=res_some hq
      rcases hκinv b q hq with g|⟨g,g1,g2,_⟩
      · obtain ⟨O,o1,o2⟩:=hsk.obj b q ob (res_of hbk g) hob
        exact ⟨O,by rw [hblk _ (hsk.dom b q (res_of hbk g)).2];exact o1,o2.mono (res_mono (fun b' q' _ hq'=>hικ b' q' hq') (Nat.le_refl _))⟩
      · have hjk:j + 1≤k:=by
          rcases Nat.lt_or_ge j k with q1|q1
          · exact q1
          · have:=(st.hext (i:=k) (j:=j) q1 (by omega)).size;omega
        have hkj1:(H k).get b=h1.get b:=by
          rw [← hH1]
          exact st.keep hjk (by omega) (fun q g1 g2=>iv.nobar q (by omega) (by omega)) b g2
        obtain ⟨O,o1,o2⟩:=k2.sim.obj b q ob g (by rw [← hkj1];exact hob)
        refine ⟨O,o1,o2.mono (fun b' q' hq'=>res_of ?_ (hι'κ b' q' hq'))⟩
        have:=(k2.sim.dom b' q' hq').1
        have:=(st.hext hjk (by omega)).size
        omega
    · obtain ⟨hbk,hq⟩:=res_some hq
      obtain ⟨hbk',hq'⟩:=res_some hq'
      rcases hκinv b q hq with g|⟨g,g1,g2,g3⟩ <;> rcases hκinv b' q' hq' with g'|⟨g',g1',g2',g3'⟩
      · exact hsk.inj b b' q q' hne (res_of hbk g) (res_of hbk' g') hown hlive
      · have:=(hsk.dom b q (res_of hbk g)).2;omega
      · have:=(hsk.dom b' q' (res_of hbk' g')).2;omega
      · have hjk:j + 1≤k:=by
          rcases Nat.lt_or_ge j k with q1|q1
          · exact q1
          · have:=(st.hext (i:=k) (j:=j) q1 (by omega)).size;omega
        have hkk:∀ b,b < (H (j + 1)).size→(H k).get b=h1.get b:=fun b hb=>by
          rw [← hH1]
          exact st.keep hjk (by omega) (fun q g1 g2=>iv.nobar q (by omega) (by omega)) b hb
        refine k2.sim.inj b b' q q' hne g g' ?_ ?_
        · unfold owned at hown ⊢;rw [← hkk b g2];exact hown
        · unfold live at hlive ⊢;rw [← hkk b' g2'];exact hlive
  · rcases hκinv b q hq with g|⟨g,g1,g2,_⟩
    · rcases iv.dom b q g with g|⟨k,g1,g2,g3,g4⟩
      · exact .inl g
      · exact .inr ⟨k,(don_set hlj).2 (.inr g1),g2,g3,g4⟩
    · exact .inr ⟨j,(don_set hlj).2 (.inl rfl),hsj,g1,g2⟩
  · rcases hκinv b q hq with g|⟨g,g1,g2,g3⟩
    · exact iv.fresh b q g hq0
    · exact ⟨Nat.le_trans (st.hext hsj (by omega)).size g1,Nat.le_trans iv.size.1 g3⟩
  · cases o.dst <;> simp [Act.put,iv.tsize]
  · cases o.dst <;> exact iv.defers
  · -- a slot that was never written
    have hnj:o.dst≠some t:=hno j o ((don_set hlj).2 (.inl rfl)) hsj ho
    obtain ⟨u',g1,g2⟩:=iv.slot0 t u (fun k o' hd' h1 ho'=>hno k o' ((don_set hlj).2 (.inr hd')) h1 ho') hu
    refine ⟨u',?_,g2.mono (res_mono (fun b q _ hq=>hικ b q hq) (Nat.le_refl _))⟩
    cases hq:o.dst with
    | none=>exact g1
    | some d =>
      have:d≠t:=fun q=>hnj (by rw [hq,q])
      simp only [Act.put]
      rw [Array.getElem?_setIfInBounds_ne this];exact g1
  · by_cases hkj:k=j
    · subst hkj
      rw [ho] at ho';cases ho'
      have huv:u=v0:=by
        have:Env.get (E (k + 1)) t=some v0:=by
          rw [← he1,hp0,get_put,if_pos (by rw [hdst];exact hdst')]
        rw [hu] at this;exact Option.some.inj this
      have hv0v:v0=v:=by
        have:=congrFun hvv t
        rw [get_put,get_put,if_pos (by rw [hdst];exact hdst'),if_pos (by rw [hdst];exact hdst')] at this
        exact Option.some.inj this
      subst huv;subst hv0v
      refine ⟨v',?_,?_⟩
      · rw [hdst']
        simp only [Act.put,Array.getElem?_setIfInBounds]
        have:=hd t hdst'
        simp [iv.tsize,this]
      · refine k1.mono (fun b q hq=>res_of ?_ (hι'κ b q hq))
        rw [hH1s];exact (k2.sim.dom b q hq).1
    · have hdk':Don l k:=by
        rcases (don_set hlj).1 hdk with q|q
        · exact absurd q hkj
        · exact q
      have hne:o.dst≠some t:=by
        intro hq
        have h1:=hmax j o ((don_set hlj).2 (.inl rfl)) ho hq
        have hlt:j < k:=by omega
        rcases st.conf j k o o' hlt ho ho' with g|⟨g,_⟩
        · exact hnd (iv.dc k hdk' j g)
        · exact (g t hq).2 hdst'
      obtain ⟨u',g1,g2⟩:=iv.slot t u k o' hdk' hsk ho' hdst' (fun k' o2 hd2 ho2 hdst2=>hmax k' o2 ((don_set hlj).2 (.inr hd2)) ho2 hdst2) hu
      refine ⟨u',?_,g2.mono (res_mono (fun b q _ hq=>hικ b q hq) (Nat.le_refl _))⟩
      cases hq:o.dst with
      | none=>exact g1
      | some d =>
        have:d≠t:=fun q=>hne (by rw [hq,q])
        simp only [Act.put]
        rw [Array.getElem?_setIfInBounds_ne this];exact g1

/-- An operation whose place is fixed. -/
theorem Inv.stepBar (st:Stat P N call ops is B E H) (hW:Wide F) (hcs:CallSound P call) (iv:Inv P N call ops is B E H ι0 w0 df l a w s x ιs ws ι) (hxn:x < ops.size) (hall:∀ i,i < x→Don l i)
    {K:Act→World→Prop} {Q:Exit→Act→World→Prop}
    (hK:∀ a1 w1 e1 ι1,Inv P N call ops is B E H ι0 w0 df (l.setIfInBounds x true) a1 w1 (x + 1) e1 ι1 w1 ι1→K a1 w1):wpOpIn F n P ops Q x K a w:=by
  obtain ⟨hrel,hF⟩:=iv.full st hall
  have hlx:x < l.size:=by rw [iv.lsize];exact hxn
  obtain ⟨o,i,ho,hi,hco,hbar,hdst⟩:=st.oper hxn
  have hb:barOf B ops.size x=true:=by
    rcases iv.ebar with q|q
    · omega
    · exact q.2
  rw [hb] at hbar
  obtain ⟨hd,hop,_,_,hg⟩:=compAI_inv hco
  have hstep:=st.step x i hi
  unfold evID at hstep
  rw [hbar] at hstep
  simp only [cond_true] at hstep
  refine ai_sound hW hcs ho hco (iv.sim x iv.se (Nat.le_refl _)) hF hstep (fun v v' w' ι' hput k1 k2=>?_)
  obtain ⟨e1,g1,g2,g3,g4⟩:=next_bar (ops:=ops) (B:=B) ops.size (ops.size - (x + 1)) (x + 1) (by omega)
  have hdon:∀ q,Don (l.setIfInBounds x true) q ↔ q < x + 1:=by
    intro q
    rw [don_set hlx]
    constructor
    · rintro (rfl|hq)
      · omega
      · have:=iv.high q hq;omega
    · intro hq
      rcases Nat.lt_or_ge q x with h1|h1
      · exact .inr (hall q h1)
      · exact .inl (by omega)
  have hsm:=k2.sim
  refine hK _ w' e1 ι' ⟨by simp [iv.lsize],g1,g2,fun q hq=>(hdon q).2 hq,fun q hq=>by have:=(hdon q).1 hq;omega,g3,g4,fun q hq r hr=>?_,iv.s0,Rel.trans iv.s0 hrel k2,fun k h1 h2=>?_,fun b q hq=>.inl (hsm.dom b q hq).1,Le.rfl _,rfl,rfl,rfl,⟨Nat.le_refl _,Nat.le_refl _⟩,fun _ _=>rfl,
    fun b q hq hq0=>(by rw [hq] at hq0;cases hq0),?_,?_,fun t u _ hu=>?_,fun t u k o' hdk hsk=>?_⟩
  · have hqx:=(hdon q).1 hq
    have hqn:q < ops.size:=by omega
    obtain ⟨e,he1,heb,he2⟩:=st.bcl r q _ (Array.getElem?_eq_getElem hqn) hr
    have hlt:=st.after q _ (Array.getElem?_eq_getElem hqn) e he1 heb
    rcases he2 with he2|he2
    · exact (hdon r).2 (by omega)
    · have:Don l r:=by
        have he:e.on < x:=by omega
        exact iv.dc e.on (hall _ he) r he2
      exact (don_set hlx).2 (.inr this)
  · exact hsm.up (st.hext (i:=x + 1) (j:=k) h1 (by omega)).size (st.keep (i:=x + 1) (j:=k) h1 (by omega) (fun q k1 k2=>g3 q k1 (by omega)))
  · cases o.dst <;> simp [Act.put,iv.tsize]
  · cases o.dst <;> exact iv.defers
  · have hF':FR N ι' (E (x + 1)) (a.put o.dst v').tmps:=by
      rw [hput,hdst];exact (hF.mono k2.le).put hd k1
    obtain ⟨u',h1,h2⟩:=hF'.2 t u hu
    exact ⟨u',h1,h2.mono (fun b q hq=>res_of (hsm.dom b q hq).1 hq)⟩
  · have:=(hdon k).1 hdk;omega

theorem count_set {l:Array Bool} {j:Nat} (hj:l[j]? = some false):(l.setIfInBounds j true).toList.count false + 1=l.toList.count false:=by
  have hlt:j < l.size:=(Array.getElem?_eq_some_iff.1 hj).1
  have hv:l.toList[j]'(by simpa using hlt)=false:=by
    have:=(Array.getElem?_eq_some_iff.1 hj).2;simpa using this
  rw [Array.toList_setIfInBounds]
  rw [List.count_set (by simpa using hlt)]
  have hm:l.toList[j]'(by simpa using hlt) ∈ l.toList:=List.getElem_mem _
  rw [hv] at hm
  have hp:=List.count_pos_iff.2 hm
  rw [hv]
  have e1:((false:Bool) == false)=true:=rfl
  have e2:((true:Bool) == false)=false:=rfl
  rw [e1,e2]
  simp only [if_true,Bool.false_eq_true,if_false]
  omega

theorem inv_sound (st:Stat P N call ops is B E H) (hW:Wide F) (hcs:CallSound P call) {Q:Exit→Act→World→Prop}
    (hQ:∀ a' w' ι',Rel P ι0 (H 0) w0 ι' (H ops.size) w'→FR N ι' (E ops.size) a'.tmps→a'.defers=df→Q .normal a' w'):∀ (fuel:Nat) (l:Array Bool) (a:Act) (w:World) (s x:Nat) (ιs:Inj) (ws:World) (ι:Inj),
    l.toList.count false=fuel→Inv P N call ops is B E H ι0 w0 df l a w s x ιs ws ι→wpAnyIn F n P .any ops Q fuel l a w:=by
  have ready_iff:∀ (l:Array Bool) (j:Nat),l.size=ops.size→(j ∈ Region.ready .any ops l ↔ ∃ o,ops[j]? = some o∧l[j]? = some false∧∀ e ∈ o.after.toList,Region.binds .any e=true→Don l e.on):=by
    intro l j hl
    unfold Region.ready
    simp only [List.mem_filter,List.mem_range,Bool.and_eq_true,Bool.not_eq_true']
    constructor
    · rintro ⟨h1,h2,h3⟩
      have h1':j < l.size:=by omega
      refine ⟨_,Array.getElem?_eq_getElem h1,?_,fun e he hb=>?_⟩
      · rw [Array.getD_eq_getD_getElem?,Array.getElem?_eq_getElem h1'] at h2
        rw [Array.getElem?_eq_getElem h1'];exact congrArg some h2
      · rw [Array.getElem?_eq_getElem h1] at h3
        simp only [Option.map_some,Option.getD_some,Array.all_eq_true'] at h3
        have:=h3 e (by simpa using he)
        rw [hb] at this
        simp only [Bool.not_true,Bool.false_or] at this
        unfold Don
        rw [Array.getD_eq_getD_getElem?] at this
        cases hq:l[e.on]? with
        | none=>rw [hq] at this;cases this
        | some b=>rw [hq] at this;exact congrArg some this
    · rintro ⟨o,h1,h2,h3⟩
      have hj:=(Array.getElem?_eq_some_iff.1 h1).1
      refine ⟨hj,by rw [Array.getD_eq_getD_getElem?,h2];rfl,?_⟩
      rw [h1]
      simp only [Option.map_some,Option.getD_some,Array.all_eq_true']
      intro e he
      cases hb:Region.binds .any e with
      | false=>rfl
      | true =>
        simp only [Bool.not_true,Bool.false_or]
        rw [Array.getD_eq_getD_getElem?,h3 e (by simpa using he) hb];rfl
  -- nobody is ready: all is done
  have alldone:∀ (l:Array Bool),l.size=ops.size→Region.ready .any ops l=[]→∀ i,i < ops.size→Don l i:=by
    intro l hl hnil i
    induction i using Nat.strongRecOn with
    | _ i ih =>
      intro hi
      cases hq:l[i]? with
      | none=>rw [Array.getElem?_eq_none_iff] at hq;omega
      | some b =>
        cases b with
        | true=>exact hq
        | false =>
          exfalso
          have:i ∈ Region.ready .any ops l:=(ready_iff l i hl).2 ⟨_,Array.getElem?_eq_getElem hi,hq,fun e he hb=>by
            have:=st.after i _ (Array.getElem?_eq_getElem hi) e he hb
            exact ih e.on this (by omega)⟩
          rw [hnil] at this;cases this
  have fin:∀ (l:Array Bool) (a:Act) (w:World) (s x:Nat) (ιs:Inj) (ws:World) (ι:Inj),Inv P N call ops is B E H ι0 w0 df l a w s x ιs ws ι→(∀ i,i < ops.size→Don l i)→Q .normal a w:=by
    intro l a w s x ιs ws ι iv hall
    have hx:x=ops.size:=by
      rcases iv.ebar with q|⟨q,_⟩
      · exact q
      · have:=iv.high x (hall x q);omega
    subst hx
    obtain ⟨h1,h2⟩:=iv.full st hall
    exact hQ a w _ h1 h2 iv.defers
  intro fuel
  induction fuel with
  | zero =>
    intro l a w s x ιs ws ι hc iv
    have hall:∀ i,i < ops.size→Don l i:=by
      intro i hi
      have hi':i < l.size:=by rw [iv.lsize];exact hi
      cases hq:l[i]? with
      | none=>rw [Array.getElem?_eq_none_iff] at hq;omega
      | some b =>
        cases b with
        | true=>exact hq
        | false =>
          exfalso
          have hm:false ∈ l.toList:=List.mem_of_getElem? (by simpa using hq)
          have:=List.count_pos_iff.2 hm
          omega
    refine ⟨?_,fin l a w s x ιs ws ι iv hall⟩
    cases hr:Region.ready .any ops l with
    | nil=>rfl
    | cons j r =>
      exfalso
      obtain ⟨o,h1,h2,_⟩:=(ready_iff l j iv.lsize).1 (by rw [hr];simp)
      have:=hall j (Array.getElem?_eq_some_iff.1 h1).1
      unfold Don at this
      rw [h2] at this;cases this
  | succ fuel ih =>
    intro l a w s x ιs ws ι hc iv
    refine ⟨fun hnil=>fin l a w s x ιs ws ι iv (alldone l iv.lsize hnil),fun j hj=>?_⟩
    obtain ⟨o,ho,hlj,hdeps⟩:=(ready_iff l j iv.lsize).1 hj
    have hnd:¬ Don l j:=fun h=>by unfold Don at h;rw [hlj] at h;cases h
    have hcount:∀ k,k=j→(l.setIfInBounds k true).toList.count false=fuel:=fun k hk=>by subst hk;have:=count_set hlj;omega
    have hbef:∀ i,i ∈ B.getD j []→Don l i:=by
      intro i hi
      obtain ⟨e,he1,he2,he3⟩:=st.bcl i j o ho hi
      have:=hdeps e he1 he2
      rcases he3 with rfl|he3
      · exact this
      · exact iv.dc _ this i he3
    have hjs:s≤j:=by
      rcases Nat.lt_or_ge j s with q|q
      · exact absurd (iv.low j q) hnd
      · exact q
    have hjn:=(Array.getElem?_eq_some_iff.1 ho).1
    have hbarx:∀ i,i < ops.size→barOf B ops.size x=true→x < ops.size→(i < x→i ∈ B.getD x [])∧(x < i→x ∈ B.getD i []):=fun i hi hb _=>bar_inv hb hi
    rcases Nat.lt_trichotomy j x with q|q|q
    · exact iv.stepOpen st hW hcs hjs q hnd hbef (fun a1 w1 ι1 iv1=>ih _ a1 w1 s x ιs ws ι1 (hcount j rfl) iv1)
    · subst q
      have hb:barOf B ops.size j=true:=by
        rcases iv.ebar with q|q
        · omega
        · exact q.2
      exact iv.stepBar st hW hcs hjn (fun i hi=>hbef i ((bar_inv hb (by omega)).1 hi)) (fun a1 w1 e1 ι1 iv1=>ih _ a1 w1 (j + 1) e1 ι1 w1 ι1 (hcount j rfl) iv1)
    · exfalso
      rcases iv.ebar with q2|⟨q1,q2⟩
      · omega
      · have:=hbef x ((bar_inv q2 hjn).2 q)
        have:=iv.high x this;omega

end

/-- A region whose order is open. -/
theorem draw_sound (hW:Wide F) (hcs:CallSound P call) {id:Nat} {ops:Array Oper} {is:List AI} {Q:Exit→Act→World→Prop} (hc:compR P N ops true=some is) (hr:evL call true is e h=some (e',h')) (hS:Sim P ι h w) (hF:FR N ι e a.tmps)
    (hQ:∀ a' w' ι',Rel P ι h w ι' h' w'→FR N ι' e' a'.tmps→a'.defers=a.defers→Q .normal a' w'):(Code.region id ops true).wpIn F n P Q a w:=by
  obtain ⟨hm,B,E,H,st,rfl,rfl,rfl,rfl⟩:=Stat.of hc hcs.ext hr
  refine wpIn_region_any hm ?_
  have hS1:Sim P ι (H 0) { w with drawn:=w.drawn + 1 }:=hS.congr rfl
  obtain ⟨x,g1,g2,g3,g4⟩:=next_bar (ops:=ops) (B:=B) ops.size (ops.size - 0) 0 (by omega)
  have hnone:∀ i,¬ Don (Array.replicate ops.size false) i:=by
    intro i hi
    unfold Don at hi
    rw [Array.getElem?_replicate] at hi
    split at hi <;> cases hi
  refine inv_sound (ι0:=ι) (w0:={ w with drawn:=w.drawn + 1 }) (df:=a.defers) st hW hcs (fun a' w' ι' r f d=>hQ a' w' ι' ?_ f d) _ _ _ _ 0 x ι { w with drawn:=w.drawn + 1 } ι (by simp) ⟨by simp,g1,g2,fun i hi=>absurd hi (Nat.not_lt_zero _),fun i hi=>absurd hi (hnone i),g3,g4,fun j hj=>absurd hj (hnone j),hS1,Rel.refl hS1,fun k h1 h2=>?_,
    fun b i hb=>.inl (hS.dom b i hb).1,Le.rfl _,rfl,rfl,rfl,⟨Nat.le_refl _,Nat.le_refl _⟩,fun _ _=>rfl,fun b i hb hb0=>(by rw [hb] at hb0;cases hb0),hF.1,rfl,fun t u _ hu=>?_,fun t u k o hk=>absurd hk (hnone k)⟩
  · exact ⟨r.le,r.sim,⟨r.fr.os,r.fr.tape,r.fr.output,r.fr.size,fun Bk h1 h2=>r.fr.block Bk h1 h2,Nat.le_trans (Nat.le_succ _) r.fr.drawn⟩,r.new,r.own,r.prot,r.keep,r.hsize⟩
  · exact hS1.up (st.hext h1 (by omega)).size (st.keep h1 (by omega) (fun q k1 k2=>g3 q k1 (by omega)))
  · obtain ⟨u',h1,h2⟩:=hF.2 t u hu
    exact ⟨u',h1,h2.mono (fun b q hq=>res_of (hS.dom b q hq).1 hq)⟩

end Go.AM

