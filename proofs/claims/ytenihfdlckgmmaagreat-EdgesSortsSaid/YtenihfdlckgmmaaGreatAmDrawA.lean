/- A part of the abstract machine, or of what is proved of the program by it. -/
import Derived.Test.YtenihfdlckgmmaaGreatAmDraw
import Derived.Test.YtenihfdlckgmmaaGreatAmDef
namespace Go.AM.DA
open Go.AM
set_option linter.unusedVariables false
set_option linter.unusedSimpArgs false
variable {P:Program} {w:World} {ι:Inj} {h h':Heap} {e e':Env} {a:Act} {N:Nat} {v:Value} {op:AOp} {call:CallT} {F:Fence} {n:Nat}

theorem soft_aop (hs:soft op=true) (hr:aop op e h=some (v,h')):h'=h∧∀ g:Heap,(∀ t p,ldSlot op=some t→Env.get e t=some (.pointer (some p))→g.get p.block=h.get p.block)→aop op e g=some (v,g):=by
  cases ht:touches op with
  | false =>
    obtain ⟨p,hp⟩:=heapFree (op:=op) (e:=e) ht
    rw [hp] at hr
    cases p with
    | none=>cases hr
    | some p=>cases hr;exact ⟨rfl,fun g _=>by rw [hp];rfl⟩
  | true =>
    cases op <;> first|(exact Bool.noConfusion ht)|(exact Bool.noConfusion hs)|skip
    case load1 x =>
      cases x <;> first|(exact Bool.noConfusion hs)|skip
      rename_i t
      simp only [aop,ev] at hr ⊢
      split at hr
      · rename_i b o he
        obtain ⟨u,hu,he2⟩:=Option.map_eq_some_iff.1 hr
        cases he2
        refine ⟨rfl,fun g hg=>?_⟩
        have:=hg t _ rfl he
        unfold Heap.cell at hu ⊢
        simp only at this
        simp only [he,this,hu,Option.map_some]
      · cases hr
    case loadN n x =>
      cases x <;> first|(exact Bool.noConfusion hs)|skip
      rename_i t
      simp only [aop,ev] at hr ⊢
      split at hr
      · rename_i b o he
        obtain ⟨u,hu,he2⟩:=Option.map_eq_some_iff.1 hr
        cases he2
        refine ⟨rfl,fun g hg=>?_⟩
        have:=hg t _ rfl he
        unfold Heap.rd at hu ⊢
        simp only at this
        simp only [he,this,hu,Option.map_some]
      · cases hr
    case len k x =>
      simp only [aop] at hr ⊢
      split at hr
      · cases hr;exact ⟨rfl,fun _ _=>rfl⟩
      · cases hr;exact ⟨rfl,fun _ _=>rfl⟩
      · exact Bool.noConfusion hs
      · exact Bool.noConfusion hs
      · cases hr

theorem soft_ne_call (hs:soft op=true):opV call op e h=aop op e h:=by
  cases op <;> first|rfl|exact Bool.noConfusion hs

theorem soft_evI {i:AI} (hs:soft i.op=true) (hr:evI call i e h=some (e',h')):h'=h∧∀ g:Heap,(∀ t p,ldSlot i.op=some t→Env.get e t=some (.pointer (some p))→g.get p.block=h.get p.block)→evI call i e g=some (e',g):=by
  unfold evI at hr ⊢
  split at hr
  · obtain ⟨⟨v,h2⟩,h1,he⟩:=Option.map_eq_some_iff.1 hr
    simp only [Prod.mk.injEq] at he;obtain ⟨rfl,rfl⟩:=he
    rw [soft_ne_call hs] at h1
    obtain ⟨rfl,k⟩:=soft_aop hs h1
    exact ⟨rfl,fun g hg=>by rw [soft_ne_call hs,k g hg];rfl⟩
  · simp only [Option.some.injEq,Prod.mk.injEq] at hr;obtain ⟨rfl,rfl⟩:=hr
    exact ⟨rfl,fun _ _=>rfl⟩
  · cases hr

/-- A store leaves the other blocks as they are. -/
theorem store_keep {i:AI} {ta:Nat} (hs:stSlot i.op=some ta) (hr:evI call i e h=some (e',h')) {b:Nat} (hb:∀ q,Env.get e ta=some (.pointer (some q))→b≠q.block):h'.get b=h.get b:=by
  unfold evI at hr
  split at hr
  · obtain ⟨⟨v,h2⟩,h1,he⟩:=Option.map_eq_some_iff.1 hr
    simp only [Prod.mk.injEq] at he;obtain ⟨rfl,rfl⟩:=he
    revert h1 hs
    cases i.op <;> intro hs h1 <;> first|(cases hs;done)|skip
    rename_i n x y
    cases x <;> first|(cases hs;done)|skip
    rename_i t
    cases hs
    simp only [opV,aop,ev] at h1
    split at h1
    · rename_i bb o u he1 he2
      split at h1
      · obtain ⟨h3,hw,he⟩:=Option.map_eq_some_iff.1 h1
        simp only [Prod.mk.injEq] at he;obtain ⟨rfl,rfl⟩:=he
        have hne:=hb _ he1
        unfold Heap.wr at hw
        split at hw
        · split at hw
          · cases hw;rw [Heap.get_set,if_neg hne]
          · cases hw
        · cases hw
      · cases h1
    · cases h1
  · simp only [Option.some.injEq,Prod.mk.injEq] at hr;obtain ⟨_,rfl⟩:=hr;rfl
  · cases hr

/-- What two slots point to are unlike blocks, the one there from the beginning. -/
def Apart (e:Env) (m tl ta:Nat):Prop:=∀ p,Env.get e tl=some (.pointer (some p))→p.block < m∧(∀ q,Env.get e ta=some (.pointer (some q))→p.block≠q.block)∧∀ q n c,Env.get e ta=some (.slice (some q) n c)→p.block≠q.block

theorem apartE_inv {m:Nat}:∀ {l:List (Nat × Nat)},apartE m e l=true→∀ x ∈ l,Apart e m x.1 x.2:=by
  intro l
  induction l with
  | nil=>intro _ x hx;cases hx
  | cons y l ih =>
    obtain ⟨a,b⟩:=y
    intro h x hx
    simp only [apartE,Bool.and_eq_true] at h
    rcases List.mem_cons.1 hx with rfl|hx
    · intro p hp
      have h1:=h.1
      simp only at hp
      rw [hp] at h1
      simp only [Bool.and_eq_true,decide_eq_true_eq] at h1
      refine ⟨h1.1,fun q hq=>?_,fun q n c hq=>?_⟩
      · have h2:=h1.2
        simp only at hq
        rw [hq] at h2
        simpa using h2
      · have h2:=h1.2
        simp only at hq
        rw [hq] at h2
        simpa using h2
    · exact ih h.2 x hx

structure StatA (P:Program) (N:Nat) (call:CallT) (ops:Array Oper) (is:List AI) (B:List (List Nat)) (E:Nat→Env) (H:Nat→Heap):Prop where
  len:is.length=ops.size
  ai:∀ (j:Nat) (o:Oper),ops[j]? = some o→∃ i b,is[j]? = some i∧compAI P N ops b o=some i
  step:∀ (j:Nat) (i:AI),is[j]? = some i→evID call i (E j) (H j)=some (E (j + 1),H (j + 1))
  reads:∀ (j:Nat) (i:AI) (o:Oper),is[j]? = some i→ops[j]? = some o→∀ t ∈ i.reads,t ∈ readsOf ops o
  after:∀ (j:Nat) (o:Oper),ops[j]? = some o→∀ e ∈ o.after.toList,Region.binds .any e=true→e.on < j
  bcl:∀ (i j:Nat) (o:Oper),ops[j]? = some o→i ∈ B.getD j []→∃ e ∈ o.after.toList,Region.binds .any e=true∧(e.on=i∨i ∈ B.getD e.on [])
  conf:∀ (i j:Nat) (p o:Oper),i < j→ops[i]? = some p→ops[j]? = some o→i ∈ B.getD j [] ∨
    ((∀ d,p.dst=some d→d ∉ readsOf ops o∧o.dst≠some d)∧(∀ d,o.dst=some d→d ∉ readsOf ops p))
  ext:CallExt call
  soft:∀ (j:Nat) (i:AI),is[j]? = some i→i.bar=true→soft i.op=false
  hard:∀ (j k:Nat) (i p:AI),is[j]? = some i→i.bar=true→is[k]? = some p→k≠j→((k < j→k ∈ B.getD j [])∧(j < k→j ∈ B.getD k [])) ∨
    (AM.soft p.op=true∧∀ tl q,ldSlot p.op=some tl→Env.get (E k) tl=some (.pointer (some q))→q.block < (H 0).size∧(H (j + 1)).get q.block=(H j).get q.block)

theorem late_inv {l:List AI} {i t:Nat} (hl:late l i t=true):∀ q (x:AI),i≤q→l[q]? = some x→x.dst≠some t:=by
  intro q x hq hx
  unfold late at hl
  simp only [List.all_eq_true] at hl
  have:=hl (x,q) (List.mem_zipIdx_iff_getElem?.2 hx)
  simp only [Bool.or_eq_true,decide_eq_true_eq,bne_iff_ne,ne_eq] at this
  rcases this with h|h
  · omega
  · exact h

theorem setBars_get (f:Nat→Bool):∀ (l:List AI) (j k:Nat),(setBars f j l)[k]? = (l[k]?).map fun i=>{ i with bar:=f (j + k) }:=by
  intro l
  induction l with
  | nil=>intro j k;simp [setBars]
  | cons i l ih =>
    intro j k
    cases k with
    | zero=>simp [setBars]
    | succ k=>simp only [setBars,List.getElem?_cons_succ,ih];congr 1;funext x;rw [show j + 1 + k=j + (k + 1) by omega]

theorem unord_inv {b:List (List Nat)} {i j:Nat} (hne:i≠j) (h:unord b i j=false):(i < j→i ∈ b.getD j [])∧(j < i→j ∈ b.getD i []):=by
  unfold unord at h
  have:(i != j)=true:=by simpa using hne
  rw [this] at h
  simp only [Bool.true_and,Bool.not_eq_false'] at h
  refine ⟨fun hlt=>?_,fun hlt=>?_⟩
  · rw [if_pos hlt] at h;simpa using h
  · rw [if_neg (by omega)] at h;simpa using h

theorem compAI_bar {ops:Array Oper} {b b':Bool} {o:Oper} {i:AI} (h:compAI P N ops b o=some i):compAI P N ops b' o=some { i with bar:=b' }:=by
  unfold compAI at h ⊢
  by_cases h1:dstOk N o.dst=true
  · rw [if_pos h1] at h ⊢
    cases hO:compOp P (wantsNo ops o) o.op with
    | none=>rw [hO] at h;cases h
    | some op =>
      rw [hO] at h
      cases hg:o.guard with
      | none=>rw [hg] at h;cases h;rfl
      | some g =>
        obtain ⟨g,w⟩:=g
        rw [hg] at h
        simp only at h ⊢
        cases hd:(ops[g]?).bind (·.dst) with
        | none=>rw [hd] at h;cases h
        | some d=>rw [hd] at h;cases h;rfl
  · rw [if_neg h1] at h;cases h

theorem tr_env {is:List AI} {E:Nat→Env} {H:Nat→Heap} (hst:∀ (j:Nat) (i:AI),is[j]? = some i→evID call i (E j) (H j)=some (E (j + 1),H (j + 1))) {t a:Nat}:∀ {b:Nat},a≤b→b≤is.length→(∀ k (x:AI),a≤k→is[k]? = some x→x.dst≠some t)→Env.get (E b) t=Env.get (E a) t
  | 0,hab,_,_=>by rw [show a=0 by omega]
  | b + 1,hab,hb,hw=>by
    by_cases q:a=b + 1
    · rw [q]
    · have hi:is[b]? = some is[b]:=List.getElem?_eq_getElem (by omega)
      obtain ⟨v,hv⟩:=evID_env (hst b _ hi)
      rw [hv,get_put,if_neg (hw b _ (by omega) hi)]
      exact tr_env hst (b:=b) (by omega) (by omega) hw
/-- A store keeps what a slot points to that points elsewhere. -/
theorem hard_store {is:List AI} {E:Nat→Env} {H:Nat→Heap} (hst:∀ (j:Nat) (i:AI),is[j]? = some i→evID call i (E j) (H j)=some (E (j + 1),H (j + 1))) {j k tl ta:Nat} {i:AI} (hi:is[j]? = some i) (hb:i.bar=true) (hk:k≤is.length) (hta:stSlot i.op=some ta)
    (hap:Apart (E is.length) (H 0).size tl ta) (h1:∀ q (x:AI),k≤q→is[q]? = some x→x.dst≠some tl) (h2:∀ q (x:AI),j≤q→is[q]? = some x→x.dst≠some ta) {q:Addr} (hq:Env.get (E k) tl=some (.pointer (some q))) :
    q.block < (H 0).size∧(H (j + 1)).get q.block=(H j).get q.block:=by
  have hj:j < is.length:=(List.getElem?_eq_some_iff.1 hi).1
  have hE:=tr_env hst hk (Nat.le_refl _) h1
  have hA:=hap q (by rw [hE];exact hq)
  refine ⟨hA.1,?_⟩
  have hstep:=hst j i hi
  unfold evID at hstep
  rw [hb] at hstep
  simp only [cond_true] at hstep
  exact store_keep hta hstep (fun r hr=>hA.2.1 r (by rw [tr_env hst (Nat.le_of_lt hj) (Nat.le_refl _) h2];exact hr))

/-- An append leaves the other blocks as they are. -/
theorem app_keep {i:AI} {ta:Nat} (hs:baseSlot i.op=some ta) (hr:evI call i e h=some (e',h')) {b:Nat} (hlt:b < h.size) (hb:∀ q n c,Env.get e ta=some (.slice (some q) n c)→b≠q.block):h'.get b=h.get b:=by
  unfold evI at hr
  split at hr
  · obtain ⟨⟨v,h2⟩,h1,he⟩:=Option.map_eq_some_iff.1 hr
    simp only [Prod.mk.injEq] at he;obtain ⟨rfl,rfl⟩:=he
    revert h1 hs
    cases i.op <;> intro hs h1 <;> first|(cases hs;done)|skip
    rename_i esz bytes x y
    cases x <;> first|(cases hs;done)|skip
    rename_i t
    cases hs
    simp only [opV,aop,ev] at h1
    repeat' split at h1
    all_goals first
      | (cases h1;done)
      | (cases h1;rfl)
      | (cases h1;rw [Heap.get_push,if_neg (by omega)])
      | (cases h1
         have h3:=hb _ _ _ (by assumption)
         rw [Heap.get_push,if_neg (by simp;omega),Heap.get_set,if_neg h3])
  · simp only [Option.some.injEq,Prod.mk.injEq] at hr;obtain ⟨_,rfl⟩:=hr;rfl
  · cases hr
theorem tr_size {is:List AI} {E:Nat→Env} {H:Nat→Heap} (hst:∀ (j:Nat) (i:AI),is[j]? = some i→evID call i (E j) (H j)=some (E (j + 1),H (j + 1))) (hx:CallExt call):∀ j,j≤is.length→(H 0).size≤(H j).size
  | 0,_=>Nat.le_refl _
  | j + 1,hj=>by
    have h1:=tr_size hst hx j (by omega)
    have h2:is[j]? = some (is[j]'(by omega)):=List.getElem?_eq_getElem (by omega)
    exact Nat.le_trans h1 (evID_ext hx (hst j _ h2)).1.size
theorem hard_app {is:List AI} {E:Nat→Env} {H:Nat→Heap} (hst:∀ (j:Nat) (i:AI),is[j]? = some i→evID call i (E j) (H j)=some (E (j + 1),H (j + 1))) {j k tl ta:Nat} {i:AI} (hi:is[j]? = some i) (hb:i.bar=true) (hk:k≤is.length) (hta:baseSlot i.op=some ta)
    (hsz:(H 0).size≤(H j).size) (hap:Apart (E is.length) (H 0).size tl ta) (h1:∀ q (x:AI),k≤q→is[q]? = some x→x.dst≠some tl) (h2:∀ q (x:AI),j≤q→is[q]? = some x→x.dst≠some ta) {q:Addr} (hq:Env.get (E k) tl=some (.pointer (some q))) :
    q.block < (H 0).size∧(H (j + 1)).get q.block=(H j).get q.block:=by
  have hj:j < is.length:=(List.getElem?_eq_some_iff.1 hi).1
  have hE:=tr_env hst hk (Nat.le_refl _) h1
  have hA:=hap q (by rw [hE];exact hq)
  refine ⟨hA.1,?_⟩
  have hstep:=hst j i hi
  unfold evID at hstep
  rw [hb] at hstep
  simp only [cond_true] at hstep
  exact app_keep hta hstep (Nat.lt_of_lt_of_le hA.1 hsz) (fun r n c hr=>hA.2.2 r n c (by rw [tr_env hst (Nat.le_of_lt hj) (Nat.le_refl _) h2];exact hr))

theorem StatA.of {ops:Array Oper} {is:List AI} {ap:List (Nat × Nat)} (hc:compRA P N ops=some (ap,is)) (hx:CallExt call) (hr:evL call true is e h=some (e',h')) (ha:apartE h.size e' ap=true) :
    P.follows .mixedOrders=true∧∃ B E H,StatA P N call ops is B E H∧E 0=e∧H 0=h∧E ops.size=e'∧H ops.size=h':=by
  simp only [compRA] at hc
  split at hc
  · rename_i hed
    simp only [Bool.and_eq_true] at hed
    refine ⟨hed.2,?_⟩
    split at hc
    · rename_i l hl
      split at hc
      · rename_i hro
        simp only [Bool.and_eq_true] at hro
        simp only [Option.some.injEq,Prod.mk.injEq] at hc
        obtain ⟨rfl,rfl⟩:=hc
        obtain ⟨E,H,a1,a2,a3,a4,a5⟩:=trace hr
        obtain ⟨c1,c2⟩:=compL_get hl
        have hlen0:l.length=ops.size:=by simpa using c1
        have hlen:(setBars (hardOf (beforeL ops.toList) l) 0 l).length=ops.size:=by
          rw [← hlen0]
          have:∀ (f:Nat→Bool) (l:List AI) (j:Nat),(setBars f j l).length=l.length:=by
            intro f l
            induction l with
            | nil=>intro j;rfl
            | cons i l ih=>intro j;simp only [setBars,List.length_cons,ih]
          exact this _ _ _
        have get:∀ {j:Nat} {i:AI},(setBars (hardOf (beforeL ops.toList) l) 0 l)[j]? = some i→∃ i0,l[j]? = some i0∧i={ i0 with bar:=hardOf (beforeL ops.toList) l j }:=by
          intro j i hi
          rw [setBars_get] at hi
          obtain ⟨i0,h1,h2⟩:=Option.map_eq_some_iff.1 hi
          exact ⟨i0,h1,by rw [← h2,Nat.zero_add]⟩
        have hap:=apartE_inv ha
        have hEn:E ops.size=e':=by rw [← hlen];exact a3
        refine ⟨beforeL ops.toList,E,H,⟨hlen,fun j o ho=>?_,a5,fun j i o hi ho t ht=>?_,fun j o ho=>(edgesOk_inv hed.1 j o ho).1,fun i j o ho=>(edgesOk_inv hed.1 j o ho).2.1 i,fun i j p o hij hp ho=>(edgesOk_inv hed.1 j o ho).2.2 i p hij hp,hx,fun j i hi hb=>?_,fun j k i p hi hb hp hne=>?_⟩,a1,a2,hEn,hlen ▸ a4⟩
        · obtain ⟨i,h1,h2⟩:=c2 j o (by simpa using ho)
          exact ⟨_,_,by rw [setBars_get,h1];rfl,compAI_bar h2⟩
        · obtain ⟨i0,g1,rfl⟩:=get hi
          have hro1:=hro.1
          unfold readsOk at hro1
          simp only [List.all_eq_true] at hro1
          have:=hro1 (i0,j) (List.mem_zipIdx_iff_getElem?.2 g1)
          simp only [ho,List.all_eq_true,List.contains_iff_mem] at this
          exact this t ht
        · obtain ⟨i0,g1,rfl⟩:=get hi
          simp only at hb ⊢
          unfold hardOf at hb
          rw [g1] at hb
          simp only [Bool.and_eq_true,Bool.not_eq_true'] at hb
          exact hb.1
        · obtain ⟨i0,g1,rfl⟩:=get hi
          obtain ⟨p0,g2,rfl⟩:=get hp
          simp only at hb ⊢
          have hb':=hb
          unfold hardOf at hb
          rw [g1] at hb
          simp only [Bool.and_eq_true,List.all_eq_true] at hb
          have:=hb.2 (p0,k) (List.mem_zipIdx_iff_getElem?.2 g2)
          simp only [Bool.or_eq_true,Bool.not_eq_true',Bool.and_eq_true,Option.isNone_iff_eq_none] at this
          rcases this with h1|⟨h1,h2⟩
          · exact .inl (unord_inv hne h1)
          · cases hu:unord (beforeL ops.toList) k j with
            | false=>exact .inl (unord_inv hne hu)
            | true =>
              refine .inr ⟨h1,fun tl q htl hq=>?_⟩
              rcases h2 with h2|h2
              · rw [htl] at h2;cases h2
              · obtain ⟨ta,hta⟩:=Option.isSome_iff_exists.1 h2
                have hmem:(tl,ta) ∈ apOf (beforeL ops.toList) l:=by
                  unfold apOf
                  refine List.mem_flatMap.2 ⟨(i0,j),List.mem_zipIdx_iff_getElem?.2 g1,List.mem_filterMap.2 ⟨(p0,k),List.mem_zipIdx_iff_getElem?.2 g2,?_⟩⟩
                  simp only [htl,hta,hu,hb',Bool.and_self,if_true]
                have hok:=hro.2
                unfold apOk at hok
                simp only [List.all_eq_true] at hok
                have h3:=hok (i0,j) (List.mem_zipIdx_iff_getElem?.2 g1) (p0,k) (List.mem_zipIdx_iff_getElem?.2 g2)
                simp only [htl,hta,hu,hb',Bool.and_self,Bool.not_true,Bool.false_or,Bool.and_eq_true] at h3
                refine hard_store a5 hi (by simpa using hb') (Nat.le_of_lt (List.getElem?_eq_some_iff.1 hp).1) hta (by rw [a3,a2];exact hap _ hmem) (fun q x hq hx=>?_) (fun q x hq hx=>?_) hq
                · obtain ⟨x0,g3,rfl⟩:=get hx;exact late_inv h3.1 q x0 hq g3
                · obtain ⟨x0,g3,rfl⟩:=get hx;exact late_inv h3.2 q x0 hq g3
      · cases hc
    · cases hc
  · cases hc
theorem veq_eq {a b:Value} (h:veq a b=true):a=b:=by
  unfold veq at h
  split at h <;> first|(simp only [Bool.and_eq_true,beq_iff_eq,decide_eq_true_eq] at h)|skip
  · rw [h]
  · rw [h.1,h.2]
  · rw [h]
  · rw [h.1.1,h.1.2,h.2]
  · rw [h]
  · rfl
  · rename_i k a b k' a' b'
    obtain ⟨⟨⟨⟨h1,h2⟩,h3⟩,h4⟩,h5⟩:=h
    have e:∀ {x:Array Value},x.toList.isEmpty=true→x=#[]:=fun {x} hx=>by
      apply Array.ext';simpa using hx
    rw [h1,e h2,e h3,e h4,e h5]
  · cases h
theorem veqL_eq:∀ {a b:List Value},veqL a b=true→a=b
  | [],[],_=>rfl
  | x::a,y::b,h=>by
    simp only [veqL,Bool.and_eq_true] at h
    rw [veq_eq h.1,veqL_eq h.2]
  | [],_::_,h=>by cases h
  | _::_,[],h=>by cases h
theorem sameObj_eq {a b:Option AObj} (h:sameObj a b=true):a=b:=by
  unfold sameObj at h
  split at h
  · simp only [Bool.and_eq_true,decide_eq_true_eq] at h
    rw [h.1,veqL_eq h.2]
  · cases h
theorem sameAt_inv {m t:Nat} {e:Env} {h h':Heap} (hs:sameAt m e t h h'=true) {q:Addr} (hq:Env.get e t=some (.pointer (some q))):q.block < m∧h'.get q.block=h.get q.block:=by
  unfold sameAt at hs
  rw [hq] at hs
  simp only [Bool.and_eq_true,decide_eq_true_eq] at hs
  exact ⟨hs.1,(sameObj_eq hs.2).symm⟩
theorem evL_snoc:∀ {l:List AI} {i:AI} {e e1:Env} {h h1:Heap} {r:Env × Heap},evL call true l e h=some (e1,h1)→evID call i e1 h1=some r→evL call true (l++[i]) e h=some r
  | [],i,e,e1,h,h1,r,hr,hi=>by
    simp only [evL,Option.some.injEq,Prod.mk.injEq] at hr;obtain ⟨rfl,rfl⟩:=hr
    simp only [List.nil_append,evL,cond_true,hi]
  | x::l,i,e,e1,h,h1,r,hr,hi=>by
    simp only [evL,cond_true] at hr
    simp only [List.cons_append,evL,cond_true]
    split at hr
    · rename_i e2 h2 he
      exact evL_snoc hr hi
    · cases hr
theorem tr_take {is:List AI} {E:Nat→Env} {H:Nat→Heap} (hst:∀ (j:Nat) (i:AI),is[j]? = some i→evID call i (E j) (H j)=some (E (j + 1),H (j + 1))):∀ {j:Nat},j≤is.length→evL call true (is.take j) (E 0) (H 0)=some (E j,H j)
  | 0,_=>rfl
  | j + 1,hj=>by
    have hi:is[j]? = some is[j]:=List.getElem?_eq_getElem (by omega)
    rw [List.take_succ_eq_append_getElem (by omega)]
    exact evL_snoc (tr_take hst (j:=j) (by omega)) (hst j _ hi)
theorem keepsE_inv {l:List AI} {e:Env} {h:Heap}:∀ {ks:List (Nat × Nat)},keepsE call l e h ks=true→∀ x ∈ ks,∃ e1 h1 e2 h2,evL call true (l.take x.1) e h=some (e1,h1)∧evL call true (l.take (x.1 + 1)) e h=some (e2,h2)∧sameAt h.size e1 x.2 h1 h2=true
  | [],_,x,hx=>by cases hx
  | (j,t)::r,hk,x,hx=>by
    simp only [keepsE,Bool.and_eq_true] at hk
    rcases List.mem_cons.1 hx with rfl|hx
    · have h1:=hk.1
      split at h1
      · rename_i e1 h1' e2 h2 q1 q2
        exact ⟨e1,h1',e2,h2,q1,q2,h1⟩
      · cases h1
    · exact keepsE_inv hk.2 x hx

theorem StatA.ofK {ops:Array Oper} {is:List AI} {ks ap:List (Nat × Nat)} (hc:compRK P N ops=some (ks,ap,is)) (hx:CallExt call) (hr:evL call true is e h=some (e',h')) (hkp:keepsE call is e h ks=true) (ha:apartE h.size e' ap=true) :
    P.follows .mixedOrders=true∧∃ B E H,StatA P N call ops is B E H∧E 0=e∧H 0=h∧E ops.size=e'∧H ops.size=h':=by
  simp only [compRK] at hc
  split at hc
  · rename_i hed
    simp only [Bool.and_eq_true] at hed
    refine ⟨hed.2,?_⟩
    split at hc
    · rename_i l hl
      split at hc
      · rename_i hro
        simp only [Bool.and_eq_true] at hro
        simp only [Option.some.injEq,Prod.mk.injEq] at hc
        obtain ⟨rfl,rfl,rfl⟩:=hc
        obtain ⟨E,H,a1,a2,a3,a4,a5⟩:=trace hr
        obtain ⟨c1,c2⟩:=compL_get hl
        have hlen0:l.length=ops.size:=by simpa using c1
        have hlen:(setBars (hardOfK (beforeL ops.toList) l) 0 l).length=ops.size:=by
          rw [← hlen0]
          have:∀ (f:Nat→Bool) (l:List AI) (j:Nat),(setBars f j l).length=l.length:=by
            intro f l
            induction l with
            | nil=>intro j;rfl
            | cons i l ih=>intro j;simp only [setBars,List.length_cons,ih]
          exact this _ _ _
        have get:∀ {j:Nat} {i:AI},(setBars (hardOfK (beforeL ops.toList) l) 0 l)[j]? = some i→∃ i0,l[j]? = some i0∧i={ i0 with bar:=hardOfK (beforeL ops.toList) l j }:=by
          intro j i hi
          rw [setBars_get] at hi
          obtain ⟨i0,h1,h2⟩:=Option.map_eq_some_iff.1 hi
          exact ⟨i0,h1,by rw [← h2,Nat.zero_add]⟩
        have hap:=apartE_inv ha
        have hEn:E ops.size=e':=by rw [← hlen];exact a3
        refine ⟨beforeL ops.toList,E,H,⟨hlen,fun j o ho=>?_,a5,fun j i o hi ho t ht=>?_,fun j o ho=>(edgesOk_inv hed.1 j o ho).1,fun i j o ho=>(edgesOk_inv hed.1 j o ho).2.1 i,fun i j p o hij hp ho=>(edgesOk_inv hed.1 j o ho).2.2 i p hij hp,hx,fun j i hi hb=>?_,fun j k i p hi hb hp hne=>?_⟩,a1,a2,hEn,hlen ▸ a4⟩
        · obtain ⟨i,h1,h2⟩:=c2 j o (by simpa using ho)
          exact ⟨_,_,by rw [setBars_get,h1];rfl,compAI_bar h2⟩
        · obtain ⟨i0,g1,rfl⟩:=get hi
          have hro1:=hro.1
          unfold readsOk at hro1
          simp only [List.all_eq_true] at hro1
          have:=hro1 (i0,j) (List.mem_zipIdx_iff_getElem?.2 g1)
          simp only [ho,List.all_eq_true,List.contains_iff_mem] at this
          exact this t ht
        · obtain ⟨i0,g1,rfl⟩:=get hi
          simp only at hb ⊢
          unfold hardOfK at hb
          rw [g1] at hb
          simp only [Bool.and_eq_true,Bool.not_eq_true'] at hb
          exact hb.1
        · obtain ⟨i0,g1,rfl⟩:=get hi
          obtain ⟨p0,g2,rfl⟩:=get hp
          simp only at hb ⊢
          have hb':=hb
          unfold hardOfK at hb
          rw [g1] at hb
          simp only [Bool.and_eq_true,List.all_eq_true] at hb
          have:=hb.2 (p0,k) (List.mem_zipIdx_iff_getElem?.2 g2)
          simp only [Bool.or_eq_true,Bool.not_eq_true',Bool.and_eq_true] at this
          rcases this with h1|⟨h1,h2⟩
          · exact .inl (unord_inv hne h1)
          · cases hu:unord (beforeL ops.toList) k j with
            | false=>exact .inl (unord_inv hne hu)
            | true =>
              refine .inr ⟨h1,fun tl q htl hq=>?_⟩
              rw [htl] at h2
              simp only [Bool.or_eq_true,Bool.and_eq_true,decide_eq_true_eq] at h2
              rcases h2 with (h2|⟨⟨h2,h4⟩,h5⟩)|h2
              · obtain ⟨ta,hta⟩:=Option.isSome_iff_exists.1 h2
                have hmem:(tl,ta) ∈ apOfK (beforeL ops.toList) l:=by
                  unfold apOfK
                  refine List.mem_flatMap.2 ⟨(i0,j),List.mem_zipIdx_iff_getElem?.2 g1,List.mem_filterMap.2 ⟨(p0,k),List.mem_zipIdx_iff_getElem?.2 g2,?_⟩⟩
                  simp only [htl,hta,hu,hb',Bool.and_self,if_true]
                have hok:=hro.2
                unfold apOkK at hok
                simp only [List.all_eq_true] at hok
                have h3:=hok (i0,j) (List.mem_zipIdx_iff_getElem?.2 g1) (p0,k) (List.mem_zipIdx_iff_getElem?.2 g2)
                simp only [htl,hta,hu,hb',Bool.and_self,Bool.not_true,Bool.false_or,Bool.and_eq_true] at h3
                refine hard_store a5 hi (by simpa using hb') (Nat.le_of_lt (List.getElem?_eq_some_iff.1 hp).1) hta (by rw [a3,a2];exact hap _ hmem) (fun q x hq hx=>?_) (fun q x hq hx=>?_) hq
                · obtain ⟨x0,g3,rfl⟩:=get hx;exact late_inv h3.1 q x0 hq g3
                · obtain ⟨x0,g3,rfl⟩:=get hx;exact late_inv h3.2 q x0 hq g3
              · have hmem:(j,tl) ∈ ksOf (beforeL ops.toList) l:=by
                  unfold ksOf
                  refine List.mem_flatMap.2 ⟨(i0,j),List.mem_zipIdx_iff_getElem?.2 g1,List.mem_filterMap.2 ⟨(p0,k),List.mem_zipIdx_iff_getElem?.2 g2,?_⟩⟩
                  simp only [htl,h2,hu,hb',Bool.and_self,if_true]
                obtain ⟨e1,h1',e2,h2',q1,q2,q3⟩:=keepsE_inv hkp _ hmem
                have hjl:j < (setBars (hardOfK (beforeL ops.toList) l) 0 l).length:=(List.getElem?_eq_some_iff.1 hi).1
                rw [← a1,← a2] at q1 q2
                have t1:=tr_take a5 (j:=j) (by omega)
                have t2:=tr_take a5 (j:=j + 1) (by omega)
                have q1':=q1.symm.trans t1
                have q2':=q2.symm.trans t2
                simp only [Option.some.injEq,Prod.mk.injEq] at q1' q2'
                obtain ⟨rfl,rfl⟩:=q1'
                obtain ⟨rfl,rfl⟩:=q2'
                have hEj:Env.get (E j) tl=some (.pointer (some q)):=by
                  rw [tr_env a5 (a:=k) (b:=j) (by omega) (by omega) (fun q x hq hx=>by
                    obtain ⟨x0,g3,rfl⟩:=get hx;exact late_inv h5 q x0 hq g3)]
                  exact hq
                have:=sameAt_inv q3 hEj
                rw [← a2] at this
                exact this
              · cases hbs:baseSlot i0.op with
                | none=>rw [hbs] at h2;cases h2
                | some ta =>
                  rw [hbs] at h2
                  simp only [Bool.and_eq_true,decide_eq_true_eq] at h2
                  obtain ⟨⟨h2,h4⟩,h5⟩:=h2
                  have hss:stSlot i0.op=none:=by
                    revert hbs
                    cases i0.op <;> intro hbs <;> first|rfl|(cases hbs;done)
                  have hmem:(tl,ta) ∈ apOfK (beforeL ops.toList) l:=by
                    unfold apOfK
                    refine List.mem_flatMap.2 ⟨(i0,j),List.mem_zipIdx_iff_getElem?.2 g1,List.mem_filterMap.2 ⟨(p0,k),List.mem_zipIdx_iff_getElem?.2 g2,?_⟩⟩
                    simp only [htl,hss,hbs,hu,hb',h2,decide_true,Bool.and_self,if_true]
                  refine hard_app a5 hi (by simpa using hb') (Nat.le_of_lt (List.getElem?_eq_some_iff.1 hp).1) hbs ?_ (by rw [a3,a2];exact hap _ hmem) (fun q x hq hx=>?_) (fun q x hq hx=>?_) hq
                  · exact tr_size a5 hx j (Nat.le_of_lt (List.getElem?_eq_some_iff.1 hi).1)
                  · obtain ⟨x0,g3,rfl⟩:=get hx;exact late_inv h4 q x0 hq g3
                  · obtain ⟨x0,g3,rfl⟩:=get hx;exact late_inv h5 q x0 hq g3
      · cases hc
    · cases hc
  · cases hc
section
variable {ops:Array Oper} {is:List AI} {B:List (List Nat)} {E:Nat→Env} {H:Nat→Heap}

theorem StatA.oper (st:StatA P N call ops is B E H) {j:Nat} (hj:j < ops.size):∃ o i b,ops[j]? = some o∧is[j]? = some i∧compAI P N ops b o=some i∧i.dst=o.dst:=by
  have ho:=Array.getElem?_eq_getElem hj
  obtain ⟨i,b,h1,h2⟩:=st.ai j _ ho
  obtain ⟨_,_,k1,k2,_⟩:=compAI_inv h2
  exact ⟨_,i,b,ho,h1,h2,k1⟩
theorem StatA.at (st:StatA P N call ops is B E H) {j:Nat} (hj:j < ops.size):∃ i,is[j]? = some i:=⟨_,List.getElem?_eq_getElem (by rw [st.len];exact hj)⟩
theorem StatA.lt (st:StatA P N call ops is B E H) {j:Nat} {i:AI} (hi:is[j]? = some i):j < ops.size:=by rw [← st.len];exact (List.getElem?_eq_some_iff.1 hi).1

theorem StatA.hext (st:StatA P N call ops is B E H) {i j:Nat} (hij:i≤j) (hj:j≤ops.size):Ext (H i) (H j):=by
  induction j with
  | zero => have : i = 0 := by omega
            subst this;exact Ext.refl _
  | succ j ih =>
    by_cases q:i=j + 1
    · subst q;exact Ext.refl _
    · obtain ⟨k,hk⟩:=st.at (j:=j) (by omega)
      exact (ih (by omega) (by omega)).trans (evID_ext st.ext (st.step j k hk)).1

theorem StatA.keep1 (st:StatA P N call ops is B E H) {k:Nat} {i:AI} (hi:is[k]? = some i) (hb:i.bar=false):∀ b,b < (H k).size→(H (k + 1)).get b=(H k).get b :=
  (evID_ext st.ext (st.step k i hi)).2 hb

theorem StatA.keep (st:StatA P N call ops is B E H) {i j:Nat} (hij:i≤j) (hj:j≤ops.size) (hb:∀ k p,i≤k→k < j→is[k]? = some p→p.bar=false):∀ b,b < (H i).size→(H j).get b=(H i).get b:=by
  induction j with
  | zero => have : i = 0 := by omega
            subst this;intro b _;rfl
  | succ j ih =>
    by_cases q:i=j + 1
    · subst q;intro b _;rfl
    · intro b hbs
      obtain ⟨k,hk⟩:=st.at (j:=j) (by omega)
      rw [st.keep1 hk (hb j k (by omega) (by omega) hk) b (Nat.lt_of_lt_of_le hbs (st.hext (by omega) (by omega)).size)]
      exact ih (by omega) (by omega) (fun k p h1 h2=>hb k p h1 (by omega)) b hbs

/-- A block that what is soft reads stays, past those that are not ordered with it. -/
theorem StatA.past (st:StatA P N call ops is B E H) {j tl:Nat} {p:AI} {q:Addr} (hj:is[j]? = some p) (hsoft:AM.soft p.op=true) (htl:ldSlot p.op=some tl) (hv:Env.get (E j) tl=some (.pointer (some q)))
    (hconst:∀ {a b:Nat},a≤b→b≤ops.size→(∀ k x,a≤k→k < b→is[k]? = some x→x.dst≠some tl)→Env.get (E b) tl=Env.get (E a) tl)
    {a b:Nat} (hab:a≤b) (hb:b≤ops.size) (hun:∀ c i,a≤c→c < b→is[c]? = some i→i.bar=true→¬ ((c < j→c ∈ B.getD j [])∧(j < c→j ∈ B.getD c [])))
    (hsz:∀ c,a≤c→c < b→q.block < (H c).size)
    (hconst2:∀ {ta c:Nat},c≤ops.size→(∀ k x,c≤k→is[k]? = some x→x.dst≠some ta)→Env.get (E ops.size) ta=Env.get (E c) ta):(H b).get q.block=(H a).get q.block:=by
  induction b with
  | zero => have : a = 0 := by omega
            subst this;rfl
  | succ b ih =>
    by_cases hq:a=b + 1
    · subst hq;rfl
    · rw [← ih (by omega) (by omega) (fun c i h1 h2=>hun c i h1 (by omega)) (fun c h1 h2=>hsz c h1 (by omega))]
      obtain ⟨i,hi⟩:=st.at (j:=b) (by omega)
      cases hbar:i.bar with
      | false=>exact st.keep1 hi hbar _ (hsz b (by omega) (by omega))
      | true =>
        have hne:j≠b:=by
          intro hjb;subst hjb
          rw [hi] at hj;cases hj
          have:=st.soft _ _ hi hbar
          rw [hsoft] at this;cases this
        rcases st.hard b j i p hi hbar hj hne with h1|⟨_,h1⟩
        · exfalso
          refine hun b i (by omega) (by omega) hi hbar ⟨fun h=>h1.2 h,fun h=>h1.1 h⟩
        · exact (h1 tl q htl hv).2

theorem StatA.env (st:StatA P N call ops is B E H) {i j t:Nat} (hij:i≤j) (hj:j≤ops.size) (hb:∀ k o,i≤k→k < j→ops[k]? = some o→o.dst≠some t):Env.get (E j) t=Env.get (E i) t:=by
  induction j with
  | zero => have : i = 0 := by omega
            subst this;rfl
  | succ j ih =>
    by_cases q:i=j + 1
    · subst q;rfl
    · obtain ⟨o,k,b,ho,hk,_,hdst⟩:=st.oper (j:=j) (by omega)
      obtain ⟨v,hv⟩:=evID_env (st.step j k hk)
      rw [hv,get_put,if_neg (by rw [hdst];exact hb j o (by omega) (by omega) ho)]
      exact ih (by omega) (by omega) (fun k o h1 h2 h3=>hb k o h1 (by omega) h3)

theorem StatA.envI (st:StatA P N call ops is B E H) {t a b:Nat} (hab:a≤b) (hb:b≤ops.size) (hw:∀ k x,a≤k→k < b→is[k]? = some x→x.dst≠some t):Env.get (E b) t=Env.get (E a) t :=
  st.env hab hb (fun k o h1 h2 ho hd=>by
    obtain ⟨o',i,b',ho',hi,_,hdst⟩:=st.oper (j:=k) (by omega)
    rw [ho] at ho';cases ho'
    exact hw k i h1 h2 hi (by rw [hdst];exact hd))

theorem next_hard (st:StatA P N call ops is B E H):∀ (d s:Nat),s + d=ops.size→∃ e,s≤e∧e≤ops.size∧(∀ k p,s≤k→k < e→is[k]? = some p→p.bar=false)∧(e=ops.size∨∃ p,is[e]? = some p∧p.bar=true):=by
  intro d
  induction d with
  | zero=>intro s hs;exact ⟨s,Nat.le_refl _,by omega,fun k p h1 h2=>by omega,.inl (by omega)⟩
  | succ d ih =>
    intro s hs
    obtain ⟨i,hi⟩:=st.at (j:=s) (by omega)
    cases hb:i.bar with
    | true=>exact ⟨s,Nat.le_refl _,by omega,fun k p h1 h2=>by omega,.inr ⟨i,hi,hb⟩⟩
    | false =>
      obtain ⟨e,h1,h2,h3,h4⟩:=ih (s + 1) (by omega)
      refine ⟨e,by omega,h2,fun k p k1 k2 hp=>?_,h4⟩
      by_cases q:k=s
      · subst q;rw [hi] at hp;cases hp;exact hb
      · exact h3 k p (by omega) k2 hp

structure InvA (P:Program) (N:Nat) (call:CallT) (ops:Array Oper) (is:List AI) (B:List (List Nat)) (E:Nat→Env) (H:Nat→Heap) (ι0:Inj) (w0:World) (df:List Deferred) (l:Array Bool) (a:Act) (w:World) (s x:Nat) (ιs:Inj) (ws:World) (ι:Inj):Prop where
  lsize:l.size=ops.size
  se:s≤x
  en:x≤ops.size
  low:∀ i p,i < s→is[i]? = some p→AM.soft p.op=false→Don l i
  high:∀ i p,Don l i→is[i]? = some p→AM.soft p.op=false→i < x
  nobar:∀ i p,s≤i→i < x→is[i]? = some p→p.bar=false
  ebar:x=ops.size∨∃ p,is[x]? = some p∧p.bar=true
  sbar:s=0∨∃ p,is[s - 1]? = some p∧p.bar=true
  dc:∀ j,Don l j→∀ i,i ∈ B.getD j []→Don l i
  s0:Sim P ι0 (H 0) w0
  r0:Rel P ι0 (H 0) w0 ιs (H s) ws
  sim:∀ k,s≤k→k≤x→Sim P (res ι (H k).size) (H k) w
  dom:∀ b i,ι b=some i→b < (H s).size∨∃ k,Don l k∧s≤k∧k < x∧(H k).size≤b∧b < (H (k + 1)).size
  les:Le ιs ι
  os:w.os=ws.os
  tape:w.tape=ws.tape
  output:w.output=ws.output
  size:ws.heap.size≤w.heap.size∧ws.drawn≤w.drawn
  block:∀ Bk,Bk < ws.heap.size→w.heap[Bk]? = ws.heap[Bk]?
  fresh:∀ b i,ι b=some i→ιs b=none→(H s).size≤b∧ws.heap.size≤i.blk
  tsize:a.tmps.size=N
  defers:a.defers=df
  slot0:∀ t v,(∀ k o,Don l k→ops[k]? = some o→o.dst≠some t)→Env.get (E 0) t=some v→∃ v',a.tmps[t]? = some v'∧V (res ι (H s).size) v v'
  slot:∀ t v k o,Don l k→ops[k]? = some o→o.dst=some t→(∀ k' o',Don l k'→ops[k']? = some o'→o'.dst=some t→k'≤k)→Env.get (E (k + 1)) t=some v→∃ v',a.tmps[t]? = some v'∧V (res ι (H (Nat.max s (k + 1))).size) v v'

variable {ι0:Inj} {w0:World} {df:List Deferred} {l:Array Bool} {s x:Nat} {ιs:Inj} {ws:World}

theorem InvA.domx (st:StatA P N call ops is B E H) (iv:InvA P N call ops is B E H ι0 w0 df l a w s x ιs ws ι) {b:Nat} {i:BI} (hb:ι b=some i):b < (H x).size:=by
  have:=iv.en
  rcases iv.dom b i hb with g|⟨k,g1,g2,g3,g4,g5⟩
  · exact Nat.lt_of_lt_of_le g (st.hext iv.se iv.en).size
  · exact Nat.lt_of_lt_of_le g5 (st.hext (i:=k + 1) (j:=x) (by omega) iv.en).size

/-- What operation j reads is there. -/
theorem InvA.read (st:StatA P N call ops is B E H) (iv:InvA P N call ops is B E H ι0 w0 df l a w s x ιs ws ι) {j:Nat} {o:Oper} (ho:ops[j]? = some o) (hnd:¬ Don l j) (hbef:∀ i,i ∈ B.getD j []→Don l i)
    {t:Nat} {v:Value} (ht:t ∈ readsOf ops o) (hv:Env.get (E j) t=some v):∃ v',a.tmps[t]? = some v'∧V (res ι (H (Nat.max s j)).size) v v':=by
  have hjn:j < ops.size:=(Array.getElem?_eq_some_iff.1 ho).1
  have hsx:=iv.se
  have hxn:=iv.en
  have hnot:∀ k' o',Don l k'→ops[k']? = some o'→o'.dst=some t→j < k'→False:=by
    intro k' o' hd ho' hdst hlt
    rcases st.conf j k' o o' hlt ho ho' with hq|⟨_,hq⟩
    · exact hnd (iv.dc k' hd j hq)
    · exact hq t hdst ht
  have hlow:∀ k o',k < j→ops[k]? = some o'→o'.dst=some t→Don l k:=by
    intro k o' hlt ho' hdst
    rcases st.conf k j o' o hlt ho' ho with hq|⟨hq,_⟩
    · exact hbef k hq
    · exact absurd ht (hq t hdst).1
  have mx:∀ {p q:Nat},p≤q→q≤ops.size→(H p).size≤(H q).size:=fun h1 h2=>(st.hext h1 h2).size
  rcases greatest (fun k=>∃ o',ops[k]? = some o'∧o'.dst=some t) j with hno|⟨k,hkj,⟨o',ho',hdst⟩,hmax⟩
  · have hv0:Env.get (E 0) t=some v:=by
      rw [← st.env (Nat.zero_le j) (by omega) (fun k o' h1 h2 h3 h4=>hno k h2 ⟨o',h3,h4⟩)];exact hv
    obtain ⟨v',k1,k2⟩:=iv.slot0 t v (fun k o' hd ho' hdst=>by
      rcases Nat.lt_trichotomy k j with q|q|q
      · exact hno k q ⟨o',ho',hdst⟩
      · subst q;exact hnd hd
      · exact hnot k o' hd ho' hdst q) hv0
    exact ⟨v',k1,k2.mono (res_mono (fun _ _ _ e=>e) (mx (Nat.le_max_left _ _) (Nat.max_le.2 ⟨by omega,by omega⟩)))⟩
  · have hd:=hlow k o' hkj ho' hdst
    have hv0:Env.get (E (k + 1)) t=some v:=by
      rw [← st.env (i:=k + 1) (j:=j) (by omega) (by omega) (fun k2 o2 h1 h2 h3 h4=>by have:=hmax k2 h2 ⟨o2,h3,h4⟩;omega)];exact hv
    obtain ⟨v',k1,k2⟩:=iv.slot t v k o' hd ho' hdst (fun k' o2 hd' ho2 hdst2=>by
      rcases Nat.lt_trichotomy k' j with q|q|q
      · exact hmax k' q ⟨o2,ho2,hdst2⟩
      · subst q;exact absurd hd' hnd
      · exact (hnot k' o2 hd' ho2 hdst2 q).elim) hv0
    refine ⟨v',k1,k2.mono (res_mono (fun _ _ _ e=>e) (mx (Nat.max_le.2 ⟨Nat.le_max_left _ _,Nat.le_trans (by omega) (Nat.le_max_right _ _)⟩) (Nat.max_le.2 ⟨by omega,by omega⟩)))⟩

/-- All is done. -/
theorem InvA.full (st:StatA P N call ops is B E H) (iv:InvA P N call ops is B E H ι0 w0 df l a w s x ιs ws ι):Rel P ι0 (H 0) w0 (res ι (H x).size) (H x) w:=by
  have hx:=iv.en
  have hsx:=iv.se
  have xt:=st.hext hsx hx
  refine Rel.trans (h1:=H s) (w1:=ws) iv.s0 iv.r0 ⟨fun b i e=>?_,iv.sim x hsx (Nat.le_refl _),⟨iv.os,iv.tape,iv.output,iv.size.1,fun Bk h1 _=>iv.block Bk h1,iv.size.2⟩,fun b i e e0=>?_,xt.own,xt.prot,xt.keep,xt.size⟩
  · exact res_of (Nat.lt_of_lt_of_le (iv.r0.sim.dom b i e).1 xt.size) (iv.les b i e)
  · obtain ⟨_,e⟩:=res_some e
    obtain ⟨k1,k2⟩:=iv.fresh b i e e0
    exact ⟨k1,.inl k2⟩

theorem InvA.fullE (st:StatA P N call ops is B E H) (iv:InvA P N call ops is B E H ι0 w0 df l a w s ops.size ιs ws ι) (hall:∀ i,i < ops.size→Don l i):FR N (res ι (H ops.size).size) (E ops.size) a.tmps:=by
  have hsx:=iv.se
  refine ⟨iv.tsize,fun t v hv=>?_⟩
  rcases greatest (fun k=>∃ o',ops[k]? = some o'∧o'.dst=some t) ops.size with hno|⟨k,hkj,⟨o',ho',hdst⟩,hmax⟩
  · have hv0:Env.get (E 0) t=some v:=by
      rw [← st.env (Nat.zero_le _) (Nat.le_refl _) (fun k o' h1 h2 h3 h4=>hno k h2 ⟨o',h3,h4⟩)];exact hv
    obtain ⟨v',k1,k2⟩:=iv.slot0 t v (fun k o' hd ho' hdst=>hno k (Array.getElem?_eq_some_iff.1 ho').1 ⟨o',ho',hdst⟩) hv0
    exact ⟨v',k1,k2.mono (res_mono (fun _ _ _ e=>e) (st.hext hsx (Nat.le_refl _)).size)⟩
  · have hv0:Env.get (E (k + 1)) t=some v:=by
      rw [← st.env (i:=k + 1) (j:=ops.size) (by omega) (Nat.le_refl _) (fun k2 o2 h1 h2 h3 h4=>by have:=hmax k2 h2 ⟨o2,h3,h4⟩;omega)];exact hv
    obtain ⟨v',k1,k2⟩:=iv.slot t v k o' (hall k hkj) ho' hdst (fun k' o2 hd' ho2 hdst2=>hmax k' (Array.getElem?_eq_some_iff.1 ho2).1 ⟨o2,ho2,hdst2⟩) hv0
    exact ⟨v',k1,k2.mono (res_mono (fun _ _ _ e=>e) (st.hext (i:=Nat.max s (k + 1)) (j:=ops.size) (Nat.max_le.2 ⟨hsx,by omega⟩) (Nat.le_refl _)).size)⟩

/-- What is soft. -/
theorem InvA.stepSoft (st:StatA P N call ops is B E H) (hW:Wide F) (hcs:CallSound P call) (iv:InvA P N call ops is B E H ι0 w0 df l a w s x ιs ws ι) {j:Nat} {i:AI} (hi:is[j]? = some i) (hsoft:AM.soft i.op=true) (hnd:¬ Don l j)
    (hbef:∀ i,i ∈ B.getD j []→Don l i) {K:Act→World→Prop} {Q:Exit→Act→World→Prop}
    (hK:∀ a1 w1,InvA P N call ops is B E H ι0 w0 df (l.setIfInBounds j true) a1 w1 s x ιs ws ι→K a1 w1):wpOpIn F n P ops Q j K a w:=by
  have hen:=iv.en
  have hse:=iv.se
  have hjn:=st.lt hi
  have hlj:j < l.size:=by rw [iv.lsize];exact hjn
  obtain ⟨o,i',bb,ho,hi',hco,hdst⟩:=st.oper hjn
  rw [hi] at hi';cases hi'
  have hbar:i.bar=false:=by
    cases hb:i.bar with
    | false=>rfl
    | true=>have:=st.soft j i hi hb;rw [hsoft] at this;cases this
  obtain ⟨hd,hop,_,_,hg⟩:=compAI_inv hco
  have hstep:=st.step j i hi
  unfold evID at hstep
  rw [hbar] at hstep
  simp only [cond_false] at hstep
  obtain ⟨⟨e1,h1⟩,hev,he⟩:=Option.map_eq_some_iff.1 hstep
  simp only [Prod.mk.injEq] at he
  obtain ⟨he1,he2⟩:=he
  have mx:∀ {p q:Nat},p≤q→q≤ops.size→(H p).size≤(H q).size:=fun h1 h2=>(st.hext h1 h2).size
  -- where it runs
  obtain ⟨y,hy1,hy2,hy3⟩:∃ y,s≤y∧y≤x∧((j < s∧y=s)∨(x < j∧y=x)∨y=j):=by
    rcases Nat.lt_or_ge j s with q|q
    · exact ⟨s,Nat.le_refl _,hse,.inl ⟨q,rfl⟩⟩
    · rcases Nat.lt_or_ge x j with q2|q2
      · exact ⟨x,hse,Nat.le_refl _,.inr (.inl ⟨q2,rfl⟩)⟩
      · exact ⟨j,q,q2,.inr (.inr rfl)⟩
  have hys:y≤Nat.max s (j + 1):=by
    rcases hy3 with ⟨_,e⟩|⟨q,e⟩|e
    · rw [e];exact Nat.le_max_left _ _
    · exact Nat.le_trans (by omega) (Nat.le_max_right _ _)
    · exact Nat.le_trans (by omega) (Nat.le_max_right _ _)
  have hF:FR N (res ι (H y).size) (keepE (E j) i.reads) a.tmps:=by
    refine ⟨iv.tsize,fun t v hv=>?_⟩
    rw [keepE_get] at hv
    split at hv
    · rename_i ht
      obtain ⟨v',k1,k2⟩:=iv.read st ho hnd hbef (st.reads j i o hi ho t ht) hv
      refine ⟨v',k1,k2.mono (fun b q hq=>?_)⟩
      obtain ⟨g1,g2⟩:=res_some hq
      refine res_of ?_ g2
      rcases hy3 with ⟨q,e⟩|⟨q,e⟩|e
      · have:Nat.max s j=s:=Nat.max_eq_left (by omega)
        rw [this] at g1;rw [e];exact g1
      · rw [e];exact iv.domx st g2
      · have:Nat.max s j=j:=Nat.max_eq_right (by omega)
        rw [this] at g1;rw [e];exact g1
    · cases hv
  obtain ⟨v0,hp0,hev2⟩:=evI_keep (l:=i.reads) (fun t ht=>ht) hev
  obtain ⟨_,hat⟩:=soft_evI hsoft hev2
  have hev3:evI call i (keepE (E j) i.reads) ((H y).withProt (H y).size)=some (put (keepE (E j) i.reads) i.dst v0,(H y).withProt (H y).size):=by
    refine hat _ (fun t q hld hq=>?_)
    have htr:t ∈ i.reads:=by
      unfold AI.reads
      refine List.mem_append_left _ (List.mem_filterMap.2 ⟨.tmp t,?_,rfl⟩)
      revert hld
      cases i.op <;> intro hld <;> first|(cases hld;done)|skip
      all_goals
        rename_i x
        cases x <;> first|(cases hld;done)|skip
        cases hld
        simp [AOp.opnds]
    have hqE:Env.get (E j) t=some (.pointer (some q)):=by
      rw [keepE_get,if_pos htr] at hq;exact hq
    obtain ⟨v',k1,k2⟩:=iv.read st ho hnd hbef (st.reads j i o hi ho t htr) hqE
    have hbx:q.block < (H x).size:=by
      cases k2 with
      | ptr hb=>exact iv.domx st (res_some hb).2
    show (H y).get q.block=(H j).get q.block
    have hc1:∀ {a b:Nat},a≤b→b≤ops.size→(∀ k x,a≤k→k < b→is[k]? = some x→x.dst≠some t)→Env.get (E b) t=Env.get (E a) t:=fun h1 h2 h3=>st.envI h1 h2 h3
    have hc2:∀ {ta c:Nat},c≤ops.size→(∀ k x,c≤k→is[k]? = some x→x.dst≠some ta)→Env.get (E ops.size) ta=Env.get (E c) ta:=fun h1 h3=>st.envI h1 (Nat.le_refl _) (fun k x g1 _ g3=>h3 k x g1 g3)
    rcases hy3 with ⟨g,e⟩|⟨g,e⟩|e
    · -- late
      have hun:∀ c p,j≤c→c < s→is[c]? = some p→p.bar=true→¬ ((c < j→c ∈ B.getD j [])∧(j < c→j ∈ B.getD c [])):=by
        intro c p g1 g2 g3 g4 ⟨_,g6⟩
        have hcj:j≠c:=by
          intro e2;subst e2;rw [hi] at g3;cases g3;rw [hbar] at g4;cases g4
        have hdc:=iv.low c p g2 g3 (st.soft c p g3 g4)
        exact hnd (iv.dc c hdc j (g6 (by omega)))
      rw [e]
      refine st.past hi hsoft hld hqE hc1 (by omega) (by omega) hun (fun c g1 g2=>?_) hc2
      rcases iv.sbar with g3|⟨p,g3,g4⟩
      · omega
      · have hpl:=iv.low (s - 1) p (by omega) g3 (st.soft _ p g3 g4)
        have hjs:j≠s - 1:=by
          intro e2;rw [← e2,hi] at g3;cases g3;rw [hbar] at g4;cases g4
        rcases st.hard (s - 1) j p i g3 g4 hi hjs with g5|⟨_,g5⟩
        · exact absurd (iv.dc _ hpl j (g5.1 (by omega))) hnd
        · exact Nat.lt_of_lt_of_le (g5 t q hld hqE).1 (mx (Nat.zero_le _) (by omega))
    · -- early
      have hun:∀ c p,x≤c→c < j→is[c]? = some p→p.bar=true→¬ ((c < j→c ∈ B.getD j [])∧(j < c→j ∈ B.getD c [])):=by
        intro c p g1 g2 g3 g4 ⟨g5,_⟩
        have:=iv.high c p (hbef c (g5 g2)) g3 (st.soft c p g3 g4)
        omega
      rw [e]
      exact (st.past hi hsoft hld hqE hc1 (by omega) (by omega) hun (fun c g1 g2=>Nat.lt_of_lt_of_le hbx (mx g1 (by omega))) hc2).symm
    · rw [e]
  have hsimy:=iv.sim y hy1 hy2
  have hS:Sim P (res ι (H y).size) ((H y).withProt (H y).size) w:=⟨hsimy.dom,fun b q ob e1 e2=>hsimy.obj b q ob e1 (by simpa using e2),fun b b' q q' hne e1 e2 ho hl=>hsimy.inj b b' q q' hne e1 e2 ho hl,hsimy.pin⟩
  refine ai_sound hW hcs ho hco hS hF hev3 (fun v v' w' ι' hput k1 k2=>hK _ w' ?_)
  have hvv:Env.get (put (keepE (E j) i.reads) i.dst v0)=Env.get (put (keepE (E j) i.reads) i.dst v):=by rw [hput]
  have hblk:∀ Bk,Bk < w.heap.size→w'.heap[Bk]? = w.heap[Bk]?:=fun Bk hB=>k2.fr.block Bk hB (fun b q e1 e2 e3=>by
    have:=(res_some e1).1
    simp at e3;omega)
  have hι':Le ι' (res ι (H y).size):=by
    intro b q hq
    cases hr:res ι (H y).size b with
    | some q2 =>
      have:=k2.le b q2 hr
      rw [this] at hq;cases hq;rfl
    | none =>
      obtain ⟨g1,_⟩:=k2.new b q hq hr
      have:=(k2.sim.dom b q hq).1
      simp at g1 this;omega
  have hsz:=k2.fr.size
  refine ⟨by simp [iv.lsize],iv.se,iv.en,fun q p h1 h2 h3=>(don_set hlj).2 (.inr (iv.low q p h1 h2 h3)),fun q p hq h2 h3=>?_,iv.nobar,iv.ebar,iv.sbar,fun q hq r hr=>?_,iv.s0,iv.r0,fun k hk1 hk2=>?_,fun b q hq=>?_,iv.les,k2.fr.os.trans iv.os,k2.fr.tape.trans iv.tape,k2.fr.output.trans iv.output,⟨Nat.le_trans iv.size.1 hsz,Nat.le_trans iv.size.2 k2.fr.drawn⟩,
    fun Bk hB=>by rw [hblk Bk (Nat.lt_of_lt_of_le hB iv.size.1)];exact iv.block Bk hB,iv.fresh,?_,?_,fun t u hno hu=>?_,fun t u k o' hdk ho' hdst' hmax hu=>?_⟩
  · rcases (don_set hlj).1 hq with rfl|hq
    · rw [hi] at h2;cases h2;rw [hsoft] at h3;cases h3
    · exact iv.high q p hq h2 h3
  · rcases (don_set hlj).1 hq with rfl|hq
    · exact (don_set hlj).2 (.inr (hbef r hr))
    · exact (don_set hlj).2 (.inr (iv.dc q hq r hr))
  · have hsk:=iv.sim k hk1 hk2
    refine ⟨fun b q hq=>⟨(hsk.dom b q hq).1,Nat.lt_of_lt_of_le (hsk.dom b q hq).2 hsz⟩,fun b q ob hq hob=>?_,hsk.inj,fun b0 hb0=>⟨(hsk.pin b0 hb0).1.of (hblk b0 (hsk.pin b0 hb0).1.lt),(hsk.pin b0 hb0).2⟩⟩
    obtain ⟨O,o1,o2⟩:=hsk.obj b q ob hq hob
    exact ⟨O,by rw [hblk _ (hsk.dom b q hq).2];exact o1,o2⟩
  · rcases iv.dom b q hq with g|⟨k,g1,g2⟩
    · exact .inl g
    · exact .inr ⟨k,(don_set hlj).2 (.inr g1),g2⟩
  · cases o.dst <;> simp [Act.put,iv.tsize]
  · cases o.dst <;> exact iv.defers
  · have hnj:o.dst≠some t:=hno j o ((don_set hlj).2 (.inl rfl)) ho
    obtain ⟨u',g1,g2⟩:=iv.slot0 t u (fun k o' hd' ho'=>hno k o' ((don_set hlj).2 (.inr hd')) ho') hu
    refine ⟨u',?_,g2⟩
    cases hq:o.dst with
    | none=>exact g1
    | some d =>
      have:d≠t:=fun q=>hnj (by rw [hq,q])
      simp only [Act.put]
      rw [Array.getElem?_setIfInBounds_ne this];exact g1
  · by_cases hkj:k=j
    · subst hkj
      rw [ho] at ho';cases ho'
      have huv:u=v0:=by
        have:Env.get (E (k + 1)) t=some v0:=by
          rw [← he1,hp0,get_put,if_pos (by rw [hdst];exact hdst')]
        rw [hu] at this;exact Option.some.inj this
      have hv0v:v0=v:=by
        have:=congrFun hvv t
        rw [get_put,get_put,if_pos (by rw [hdst];exact hdst'),if_pos (by rw [hdst];exact hdst')] at this
        exact Option.some.inj this
      subst huv;subst hv0v
      refine ⟨v',?_,?_⟩
      · rw [hdst']
        simp only [Act.put,Array.getElem?_setIfInBounds]
        have:=hd t hdst'
        simp [iv.tsize,this]
      · exact (k1.mono hι').mono (res_mono (fun _ _ _ e=>e) (mx hys (Nat.max_le.2 ⟨by omega,by omega⟩)))
    · have hdk':Don l k:=by
        rcases (don_set hlj).1 hdk with q|q
        · exact absurd q hkj
        · exact q
      have hne:o.dst≠some t:=by
        intro hq
        have h1:=hmax j o ((don_set hlj).2 (.inl rfl)) ho hq
        have hlt:j < k:=by omega
        rcases st.conf j k o o' hlt ho ho' with g|⟨g,_⟩
        · exact hnd (iv.dc k hdk' j g)
        · exact (g t hq).2 hdst'
      obtain ⟨u',g1,g2⟩:=iv.slot t u k o' hdk' ho' hdst' (fun k' o2 hd2 ho2 hdst2=>hmax k' o2 ((don_set hlj).2 (.inr hd2)) ho2 hdst2) hu
      refine ⟨u',?_,g2⟩
      cases hq:o.dst with
      | none=>exact g1
      | some d =>
        have:d≠t:=fun q=>hne (by rw [hq,q])
        simp only [Act.put]
        rw [Array.getElem?_setIfInBounds_ne this];exact g1

/-- An operation whose place is open. -/
theorem InvA.stepOpen (st:StatA P N call ops is B E H) (hW:Wide F) (hcs:CallSound P call) (iv:InvA P N call ops is B E H ι0 w0 df l a w s x ιs ws ι) {j:Nat} {i:AI} (hi:is[j]? = some i) (hns:AM.soft i.op=false) (hsj:s≤j) (hjx:j < x) (hnd:¬ Don l j)
    (hbef:∀ i,i ∈ B.getD j []→Don l i) {K:Act→World→Prop} {Q:Exit→Act→World→Prop}
    (hK:∀ a1 w1 ι1,InvA P N call ops is B E H ι0 w0 df (l.setIfInBounds j true) a1 w1 s x ιs ws ι1→K a1 w1):wpOpIn F n P ops Q j K a w:=by
  have hen:=iv.en
  have hjn:j < ops.size:=by omega
  have hlj:j < l.size:=by rw [iv.lsize];exact hjn
  obtain ⟨o,i',bb,ho,hi',hco,hdst⟩:=st.oper hjn
  rw [hi] at hi';cases hi'
  have hbar:=iv.nobar j i hsj hjx hi
  obtain ⟨hd,hop,_,_,hg⟩:=compAI_inv hco
  have hstep:=st.step j i hi
  unfold evID at hstep
  rw [hbar] at hstep
  simp only [cond_false] at hstep
  obtain ⟨⟨e1,h1⟩,hev,he⟩:=Option.map_eq_some_iff.1 hstep
  simp only [Prod.mk.injEq] at he
  obtain ⟨he1,he2⟩:=he
  obtain ⟨v0,hp0,hev2⟩:=evI_keep (l:=i.reads) (fun t ht=>ht) hev
  have hsimj:=iv.sim j hsj (by omega)
  have hS:Sim P (res ι (H j).size) ((H j).withProt (H j).size) w:=⟨hsimj.dom,fun b q ob e1 e2=>hsimj.obj b q ob e1 (by simpa using e2),fun b b' q q' hne e1 e2 ho hl=>hsimj.inj b b' q q' hne e1 e2 ho hl,hsimj.pin⟩
  have hF:FR N (res ι (H j).size) (keepE (E j) i.reads) a.tmps:=by
    refine ⟨iv.tsize,fun t v hv=>?_⟩
    rw [keepE_get] at hv
    split at hv
    · rename_i ht
      have:=iv.read st ho hnd hbef (st.reads j i o hi ho t ht) hv
      rw [show Nat.max s j=j from Nat.max_eq_right hsj] at this;exact this
    · cases hv
  refine ai_sound hW hcs ho hco hS hF hev2 (fun v v' w' ι' hput k1 k2=>hK _ w' (fun b=>if b < (H j).size then ι b else if b < (H (j + 1)).size then ι' b else ι b) ?_)
  have hvv:Env.get (put (keepE (E j) i.reads) i.dst v0)=Env.get (put (keepE (E j) i.reads) i.dst v):=by rw [hput]
  have hH1:∀ b,(H (j + 1)).get b=h1.get b:=fun b=>by rw [← he2];simp
  have hH1s:(H (j + 1)).size=h1.size:=by rw [← he2];simp
  have hjj:(H j).size≤(H (j + 1)).size:=(st.hext (i:=j) (j:=j + 1) (by omega) (by omega)).size
  -- nothing that was there is written
  have hblk:∀ Bk,Bk < w.heap.size→w'.heap[Bk]? = w.heap[Bk]?:=fun Bk hB=>k2.fr.block Bk hB (fun b q e1 e2 e3=>by
    have:=(res_some e1).1
    simp at e3;omega)
  have hnew:∀ b q,ι' b=some q→(b < (H j).size∧ι b=some q)∨((H j).size≤b∧b < (H (j + 1)).size∧w.heap.size≤q.blk):=by
    intro b q hq
    have hdm:=(k2.sim.dom b q hq).1
    cases hr:res ι (H j).size b with
    | some q2 =>
      have:=k2.le b q2 hr
      rw [this] at hq;cases hq
      exact .inl (res_some hr)
    | none =>
      obtain ⟨g1,g2⟩:=k2.new b q hq hr
      simp at g1
      refine .inr ⟨g1,by rw [hH1s];exact hdm,?_⟩
      rcases g2 with g2|⟨b0,i0,g3,_,g4,_⟩
      · exact g2
      · have:=(res_some g3).1;simp at g4;omega
  have hnodom:∀ b,(H j).size≤b→b < (H (j + 1)).size→ι b=none:=by
    intro b hb1 hb2
    cases hq:ι b with
    | none=>rfl
    | some q =>
      rcases iv.dom b q hq with g|⟨k,g1,g2,hkx,g3,g4⟩
      · have:=(st.hext hsj (by omega)).size;omega
      · exfalso
        rcases Nat.lt_trichotomy k j with q1|q1|q1
        · have:=(st.hext (i:=k + 1) (j:=j) (by omega) (by omega)).size;omega
        · subst q1;exact hnd g1
        · have:=(st.hext (i:=j + 1) (j:=k) (by omega) (by omega)).size;omega
  generalize hκ:(fun b=>if b < (H j).size then ι b else if b < (H (j + 1)).size then ι' b else ι b)=κ
  have hκ1:∀ b,b < (H j).size→κ b=ι b:=fun b hb=>by rw [← hκ];simp [hb]
  have hκ2:∀ b,(H j).size≤b→b < (H (j + 1)).size→κ b=ι' b:=fun b hb1 hb2=>by rw [← hκ];simp [hb2,Nat.not_lt.2 hb1]
  have hκ3:∀ b,(H (j + 1)).size≤b→κ b=ι b:=fun b hb=>by
    rw [← hκ];simp only [if_neg (show ¬ b < (H j).size by omega),if_neg (show ¬ b < (H (j + 1)).size by omega)]
  have hικ:Le ι κ:=fun b q hq=>by
    by_cases h1:b < (H j).size
    · rw [hκ1 b h1];exact hq
    · by_cases h2:b < (H (j + 1)).size
      · rw [hnodom b (by omega) h2] at hq;cases hq
      · rw [hκ3 b (by omega)];exact hq
  have hι'κ:Le ι' κ:=fun b q hq=>by
    rcases hnew b q hq with ⟨g1,g2⟩|⟨g1,g2,_⟩
    · rw [hκ1 b g1];exact g2
    · rw [hκ2 b g1 g2];exact hq
  have hκinv:∀ b q,κ b=some q→ι b=some q∨(ι' b=some q∧(H j).size≤b∧b < (H (j + 1)).size∧w.heap.size≤q.blk):=by
    intro b q hq
    by_cases h1:b < (H j).size
    · rw [hκ1 b h1] at hq;exact .inl hq
    · by_cases h2:b < (H (j + 1)).size
      · rw [hκ2 b (by omega) h2] at hq
        rcases hnew b q hq with ⟨g1,_⟩|⟨g1,g2,g3⟩
        · omega
        · exact .inr ⟨hq,g1,g2,g3⟩
      · rw [hκ3 b (by omega)] at hq;exact .inl hq
  have hkeepJ:∀ k,j≤k→k≤x→∀ b,b < (H j).size→(H k).get b=(H j).get b:=fun k h1 h2=>st.keep h1 (by omega) (fun q p g1 g2 g3=>iv.nobar q p (by omega) (by omega) g3)
  refine ⟨by simp [iv.lsize],iv.se,iv.en,fun q p h1 h2 h3=>(don_set hlj).2 (.inr (iv.low q p h1 h2 h3)),fun q p hq h2 h3=>?_,iv.nobar,iv.ebar,iv.sbar,fun q hq r hr=>?_,iv.s0,iv.r0,fun k hk1 hk2=>?_,fun b q hq=>?_,iv.les.trans hικ,k2.fr.os.trans iv.os,k2.fr.tape.trans iv.tape,k2.fr.output.trans iv.output,⟨Nat.le_trans iv.size.1 k2.fr.size,Nat.le_trans iv.size.2 k2.fr.drawn⟩,
    fun Bk hB=>by rw [hblk Bk (Nat.lt_of_lt_of_le hB iv.size.1)];exact iv.block Bk hB,fun b q hq hq0=>?_,?_,?_,fun t u hno hu=>?_,fun t u k o' hdk ho' hdst' hmax hu=>?_⟩
  · rcases (don_set hlj).1 hq with rfl|hq
    · exact hjx
    · exact iv.high q p hq h2 h3
  · rcases (don_set hlj).1 hq with rfl|hq
    · exact (don_set hlj).2 (.inr (hbef r hr))
    · exact (don_set hlj).2 (.inr (iv.dc q hq r hr))
  · -- the heaps
    have hsk:=iv.sim k hk1 hk2
    have hdm':∀ b q,res κ (H k).size b=some q→q.blk < w'.heap.size:=fun b q hq=>by
      rcases hκinv b q (res_some hq).2 with g|⟨g,_⟩
      · have:=(hsk.dom b q (res_of (res_some hq).1 g)).2;have:=k2.fr.size;omega
      · exact (k2.sim.dom b q g).2
    refine ⟨fun b q hq=>⟨(res_some hq).1,hdm' b q hq⟩,fun b q ob hq hob=>?_,fun b b' q q' hne hq hq' hown hlive=>?_,fun b0 hb0=>⟨(hsk.pin b0 hb0).1.of (hblk b0 (hsk.pin b0 hb0).1.lt),fun c q hq hown=>by
      obtain ⟨hck,hq⟩:=res_some hq
      rcases hκinv c q hq with g|⟨g,g1,g2,g3⟩
      · exact (hsk.pin b0 hb0).2 c q (res_of hck g) hown
      · have:=(hsk.pin b0 hb0).1.lt;omega⟩⟩
    · obtain ⟨hbk,hq⟩:=res_some hq
      rcases hκinv b q hq with g|⟨g,g1,g2,_⟩
      · obtain ⟨O,o1,o2⟩:=hsk.obj b q ob (res_of hbk g) hob
        exact ⟨O,by rw [hblk _ (hsk.dom b q (res_of hbk g)).2];exact o1,o2.mono (res_mono (fun b' q' _ hq'=>hικ b' q' hq') (Nat.le_refl _))⟩
      · have hjk:j + 1≤k:=by
          rcases Nat.lt_or_ge j k with q1|q1
          · exact q1
          · have:=(st.hext (i:=k) (j:=j) q1 (by omega)).size;omega
        have hkj1:(H k).get b=h1.get b:=by
          rw [← hH1]
          exact st.keep hjk (by omega) (fun q p g1 g2 g3=>iv.nobar q p (by omega) (by omega) g3) b g2
        obtain ⟨O,o1,o2⟩:=k2.sim.obj b q ob g (by rw [← hkj1];exact hob)
        refine ⟨O,o1,o2.mono (fun b' q' hq'=>res_of ?_ (hι'κ b' q' hq'))⟩
        have:=(k2.sim.dom b' q' hq').1
        have:=(st.hext hjk (by omega)).size
        omega
    · obtain ⟨hbk,hq⟩:=res_some hq
      obtain ⟨hbk',hq'⟩:=res_some hq'
      rcases hκinv b q hq with g|⟨g,g1,g2,g3⟩ <;> rcases hκinv b' q' hq' with g'|⟨g',g1',g2',g3'⟩
      · exact hsk.inj b b' q q' hne (res_of hbk g) (res_of hbk' g') hown hlive
      · have:=(hsk.dom b q (res_of hbk g)).2;omega
      · have:=(hsk.dom b' q' (res_of hbk' g')).2;omega
      · have hjk:j + 1≤k:=by
          rcases Nat.lt_or_ge j k with q1|q1
          · exact q1
          · have:=(st.hext (i:=k) (j:=j) q1 (by omega)).size;omega
        have hkk:∀ b,b < (H (j + 1)).size→(H k).get b=h1.get b:=fun b hb=>by
          rw [← hH1]
          exact st.keep hjk (by omega) (fun q p g1 g2 g3=>iv.nobar q p (by omega) (by omega) g3) b hb
        refine k2.sim.inj b b' q q' hne g g' ?_ ?_
        · unfold owned at hown ⊢;rw [← hkk b g2];exact hown
        · unfold live at hlive ⊢;rw [← hkk b' g2'];exact hlive
  · rcases hκinv b q hq with g|⟨g,g1,g2,_⟩
    · rcases iv.dom b q g with g|⟨k,g1,g2,g3,g4,g5⟩
      · exact .inl g
      · exact .inr ⟨k,(don_set hlj).2 (.inr g1),g2,g3,g4,g5⟩
    · exact .inr ⟨j,(don_set hlj).2 (.inl rfl),hsj,hjx,g1,g2⟩
  · rcases hκinv b q hq with g|⟨g,g1,g2,g3⟩
    · exact iv.fresh b q g hq0
    · exact ⟨Nat.le_trans (st.hext hsj (by omega)).size g1,Nat.le_trans iv.size.1 g3⟩
  · cases o.dst <;> simp [Act.put,iv.tsize]
  · cases o.dst <;> exact iv.defers
  · -- a slot that was never written
    have hnj:o.dst≠some t:=hno j o ((don_set hlj).2 (.inl rfl)) ho
    obtain ⟨u',g1,g2⟩:=iv.slot0 t u (fun k o' hd' ho'=>hno k o' ((don_set hlj).2 (.inr hd')) ho') hu
    refine ⟨u',?_,g2.mono (res_mono (fun b q _ hq=>hικ b q hq) (Nat.le_refl _))⟩
    cases hq:o.dst with
    | none=>exact g1
    | some d =>
      have:d≠t:=fun q=>hnj (by rw [hq,q])
      simp only [Act.put]
      rw [Array.getElem?_setIfInBounds_ne this];exact g1
  · by_cases hkj:k=j
    · subst hkj
      rw [ho] at ho';cases ho'
      have huv:u=v0:=by
        have:Env.get (E (k + 1)) t=some v0:=by
          rw [← he1,hp0,get_put,if_pos (by rw [hdst];exact hdst')]
        rw [hu] at this;exact Option.some.inj this
      have hv0v:v0=v:=by
        have:=congrFun hvv t
        rw [get_put,get_put,if_pos (by rw [hdst];exact hdst'),if_pos (by rw [hdst];exact hdst')] at this
        exact Option.some.inj this
      subst huv;subst hv0v
      refine ⟨v',?_,?_⟩
      · rw [hdst']
        simp only [Act.put,Array.getElem?_setIfInBounds]
        have:=hd t hdst'
        simp [iv.tsize,this]
      · refine k1.mono (fun b q hq=>res_of ?_ (hι'κ b q hq))
        rw [show Nat.max s (k + 1)=k + 1 from Nat.max_eq_right (by omega),hH1s];exact (k2.sim.dom b q hq).1
    · have hdk':Don l k:=by
        rcases (don_set hlj).1 hdk with q|q
        · exact absurd q hkj
        · exact q
      have hne:o.dst≠some t:=by
        intro hq
        have h1:=hmax j o ((don_set hlj).2 (.inl rfl)) ho hq
        have hlt:j < k:=by omega
        rcases st.conf j k o o' hlt ho ho' with g|⟨g,_⟩
        · exact hnd (iv.dc k hdk' j g)
        · exact (g t hq).2 hdst'
      obtain ⟨u',g1,g2⟩:=iv.slot t u k o' hdk' ho' hdst' (fun k' o2 hd2 ho2 hdst2=>hmax k' o2 ((don_set hlj).2 (.inr hd2)) ho2 hdst2) hu
      refine ⟨u',?_,g2.mono (res_mono (fun b q _ hq=>hικ b q hq) (Nat.le_refl _))⟩
      cases hq:o.dst with
      | none=>exact g1
      | some d =>
        have:d≠t:=fun q=>hne (by rw [hq,q])
        simp only [Act.put]
        rw [Array.getElem?_setIfInBounds_ne this];exact g1

/-- One that has its place. -/
theorem InvA.stepHard (st:StatA P N call ops is B E H) (hW:Wide F) (hcs:CallSound P call) (iv:InvA P N call ops is B E H ι0 w0 df l a w s x ιs ws ι) {i:AI} (hi:is[x]? = some i) (hib:i.bar=true) (hnd:¬ Don l x) (hbef:∀ i,i ∈ B.getD x []→Don l i)
    {K:Act→World→Prop} {Q:Exit→Act→World→Prop}
    (hK:∀ a1 w1 e1 ι1,InvA P N call ops is B E H ι0 w0 df (l.setIfInBounds x true) a1 w1 (x + 1) e1 ι1 w1 ι1→K a1 w1):wpOpIn F n P ops Q x K a w:=by
  have hrel:=iv.full st
  have hxn:=st.lt hi
  have hse:=iv.se
  have hlx:x < l.size:=by rw [iv.lsize];exact hxn
  obtain ⟨o,i',bb,ho,hi',hco,hdst⟩:=st.oper hxn
  rw [hi] at hi';cases hi'
  obtain ⟨hd,hop,_,_,hg⟩:=compAI_inv hco
  have hstep:=st.step x i hi
  unfold evID at hstep
  rw [hib] at hstep
  simp only [cond_true] at hstep
  have mx:∀ {p q:Nat},p≤q→q≤ops.size→(H p).size≤(H q).size:=fun h1 h2=>(st.hext h1 h2).size
  obtain ⟨v0,hp0,hev2⟩:=evI_keep (l:=i.reads) (fun t ht=>ht) hstep
  have hF:FR N (res ι (H x).size) (keepE (E x) i.reads) a.tmps:=by
    refine ⟨iv.tsize,fun t v hv=>?_⟩
    rw [keepE_get] at hv
    split at hv
    · rename_i ht
      have:=iv.read st ho hnd hbef (st.reads x i o hi ho t ht) hv
      rw [show Nat.max s x=x from Nat.max_eq_right hse] at this;exact this
    · cases hv
  refine ai_sound hW hcs ho hco (iv.sim x iv.se (Nat.le_refl _)) hF hev2 (fun v v' w' ι' hput k1 k2=>?_)
  have hvv:Env.get (put (keepE (E x) i.reads) i.dst v0)=Env.get (put (keepE (E x) i.reads) i.dst v):=by rw [hput]
  obtain ⟨e1,g1,g2,g3,g4⟩:=next_hard st (ops.size - (x + 1)) (x + 1) (by omega)
  have hsm:=k2.sim
  have hle:∀ {m:Nat},Le (res ι m) ι':=fun b q hq=>by
    obtain ⟨_,hq⟩:=res_some hq
    exact k2.le b q (res_of (iv.domx st hq) hq)
  have hdom1:∀ b q,ι' b=some q→b < (H (x + 1)).size:=fun b q hq=>(hsm.dom b q hq).1
  refine hK _ w' e1 ι' ⟨by simp [iv.lsize],g1,g2,fun q p hq hp hs=>?_,fun q p hq hp hs=>?_,g3,g4,.inr ⟨i,by rw [Nat.add_sub_cancel];exact hi,hib⟩,fun q hq r hr=>?_,iv.s0,Rel.trans iv.s0 hrel k2,fun k h1 h2=>?_,fun b q hq=>.inl (hdom1 b q hq),Le.rfl _,rfl,rfl,rfl,⟨Nat.le_refl _,Nat.le_refl _⟩,fun _ _=>rfl,
    fun b q hq hq0=>(by rw [hq] at hq0;cases hq0),?_,?_,fun t u hno hu=>?_,fun t u k o' hdk ho' hdst' hmax hu=>?_⟩
  · -- all ahead that is not soft is done
    by_cases hqx:q=x
    · subst hqx;exact (don_set hlx).2 (.inl rfl)
    · refine (don_set hlx).2 (.inr ?_)
      rcases st.hard x q i p hi hib hp hqx with h|⟨h,_⟩
      · exact hbef q (h.1 (by omega))
      · rw [hs] at h;cases h
  · rcases (don_set hlx).1 hq with rfl|hq
    · omega
    · have:=iv.high q p hq hp hs;omega
  · rcases (don_set hlx).1 hq with rfl|hq
    · exact (don_set hlx).2 (.inr (hbef r hr))
    · exact (don_set hlx).2 (.inr (iv.dc q hq r hr))
  · exact hsm.up (st.hext (i:=x + 1) (j:=k) h1 (by omega)).size (st.keep (i:=x + 1) (j:=k) h1 (by omega) (fun q p k1 k2 k3=>g3 q p k1 (by omega) k3))
  · cases o.dst <;> simp [Act.put,iv.tsize]
  · cases o.dst <;> exact iv.defers
  · have hnj:o.dst≠some t:=hno x o ((don_set hlx).2 (.inl rfl)) ho
    obtain ⟨u',q1,q2⟩:=iv.slot0 t u (fun k o' hd' ho'=>hno k o' ((don_set hlx).2 (.inr hd')) ho') hu
    refine ⟨u',?_,(q2.mono hle).mono (fun b q hq=>res_of (hdom1 b q hq) hq)⟩
    cases hq:o.dst with
    | none=>exact q1
    | some d =>
      have:d≠t:=fun q=>hnj (by rw [hq,q])
      simp only [Act.put]
      rw [Array.getElem?_setIfInBounds_ne this];exact q1
  · have hkn:k < ops.size:=(Array.getElem?_eq_some_iff.1 ho').1
    have hbig:∀ b q,ι' b=some q→res ι' (H (Nat.max (x + 1) (k + 1))).size b=some q:=fun b q hq=>res_of (Nat.lt_of_lt_of_le (hdom1 b q hq) (mx (Nat.le_max_left _ _) (Nat.max_le.2 ⟨by omega,by omega⟩))) hq
    by_cases hkj:k=x
    · subst hkj
      rw [ho] at ho';cases ho'
      have huv:u=v0:=by
        have:Env.get (E (k + 1)) t=some v0:=by
          rw [hp0,get_put,if_pos (by rw [hdst];exact hdst')]
        rw [hu] at this;exact Option.some.inj this
      have hv0v:v0=v:=by
        have:=congrFun hvv t
        rw [get_put,get_put,if_pos (by rw [hdst];exact hdst'),if_pos (by rw [hdst];exact hdst')] at this
        exact Option.some.inj this
      subst huv;subst hv0v
      refine ⟨v',?_,k1.mono hbig⟩
      rw [hdst']
      simp only [Act.put,Array.getElem?_setIfInBounds]
      have:=hd t hdst'
      simp [iv.tsize,this]
    · have hdk':Don l k:=by
        rcases (don_set hlx).1 hdk with q|q
        · exact absurd q hkj
        · exact q
      have hne:o.dst≠some t:=by
        intro hq
        have h1:=hmax x o ((don_set hlx).2 (.inl rfl)) ho hq
        have hlt:x < k:=by omega
        rcases st.conf x k o o' hlt ho ho' with g|⟨g,_⟩
        · exact hnd (iv.dc k hdk' x g)
        · exact (g t hq).2 hdst'
      obtain ⟨u',q1,q2⟩:=iv.slot t u k o' hdk' ho' hdst' (fun k' o2 hd2 ho2 hdst2=>hmax k' o2 ((don_set hlx).2 (.inr hd2)) ho2 hdst2) hu
      refine ⟨u',?_,(q2.mono hle).mono hbig⟩
      cases hq:o.dst with
      | none=>exact q1
      | some d =>
        have:d≠t:=fun q=>hne (by rw [hq,q])
        simp only [Act.put]
        rw [Array.getElem?_setIfInBounds_ne this];exact q1

theorem invA_sound (st:StatA P N call ops is B E H) (hW:Wide F) (hcs:CallSound P call) {Q:Exit→Act→World→Prop}
    (hQ:∀ a' w' ι',Rel P ι0 (H 0) w0 ι' (H ops.size) w'→FR N ι' (E ops.size) a'.tmps→a'.defers=df→Q .normal a' w'):∀ (fuel:Nat) (l:Array Bool) (a:Act) (w:World) (s x:Nat) (ιs:Inj) (ws:World) (ι:Inj),
    l.toList.count false=fuel→InvA P N call ops is B E H ι0 w0 df l a w s x ιs ws ι→wpAnyIn F n P .any ops Q fuel l a w:=by
  have ready_iff:∀ (l:Array Bool) (j:Nat),l.size=ops.size→(j ∈ Region.ready .any ops l ↔ ∃ o,ops[j]? = some o∧l[j]? = some false∧∀ e ∈ o.after.toList,Region.binds .any e=true→Don l e.on):=by
    intro l j hl
    unfold Region.ready
    simp only [List.mem_filter,List.mem_range,Bool.and_eq_true,Bool.not_eq_true']
    constructor
    · rintro ⟨h1,h2,h3⟩
      have h1':j < l.size:=by omega
      refine ⟨_,Array.getElem?_eq_getElem h1,?_,fun e he hb=>?_⟩
      · rw [Array.getD_eq_getD_getElem?,Array.getElem?_eq_getElem h1'] at h2
        rw [Array.getElem?_eq_getElem h1'];exact congrArg some h2
      · rw [Array.getElem?_eq_getElem h1] at h3
        simp only [Option.map_some,Option.getD_some,Array.all_eq_true'] at h3
        have:=h3 e (by simpa using he)
        rw [hb] at this
        simp only [Bool.not_true,Bool.false_or] at this
        unfold Don
        rw [Array.getD_eq_getD_getElem?] at this
        cases hq:l[e.on]? with
        | none=>rw [hq] at this;cases this
        | some b=>rw [hq] at this;exact congrArg some this
    · rintro ⟨o,h1,h2,h3⟩
      have hj:=(Array.getElem?_eq_some_iff.1 h1).1
      refine ⟨hj,by rw [Array.getD_eq_getD_getElem?,h2];rfl,?_⟩
      rw [h1]
      simp only [Option.map_some,Option.getD_some,Array.all_eq_true']
      intro e he
      cases hb:Region.binds .any e with
      | false=>rfl
      | true =>
        simp only [Bool.not_true,Bool.false_or]
        rw [Array.getD_eq_getD_getElem?,h3 e (by simpa using he) hb];rfl
  -- nobody is ready: all is done
  have alldone:∀ (l:Array Bool),l.size=ops.size→Region.ready .any ops l=[]→∀ i,i < ops.size→Don l i:=by
    intro l hl hnil i
    induction i using Nat.strongRecOn with
    | _ i ih =>
      intro hi
      cases hq:l[i]? with
      | none=>rw [Array.getElem?_eq_none_iff] at hq;omega
      | some b =>
        cases b with
        | true=>exact hq
        | false =>
          exfalso
          have:i ∈ Region.ready .any ops l:=(ready_iff l i hl).2 ⟨_,Array.getElem?_eq_getElem hi,hq,fun e he hb=>by
            have:=st.after i _ (Array.getElem?_eq_getElem hi) e he hb
            exact ih e.on this (by omega)⟩
          rw [hnil] at this;cases this
  have fin:∀ (l:Array Bool) (a:Act) (w:World) (s x:Nat) (ιs:Inj) (ws:World) (ι:Inj),InvA P N call ops is B E H ι0 w0 df l a w s x ιs ws ι→(∀ i,i < ops.size→Don l i)→Q .normal a w:=by
    intro l a w s x ιs ws ι iv hall
    have hx:x=ops.size:=by
      rcases iv.ebar with q|⟨p,q1,q2⟩
      · exact q
      · have:=iv.high x p (hall x (st.lt q1)) q1 (st.soft x p q1 q2);omega
    subst hx
    exact hQ a w _ (iv.full st) (iv.fullE st hall) iv.defers
  intro fuel
  induction fuel with
  | zero =>
    intro l a w s x ιs ws ι hc iv
    have hall:∀ i,i < ops.size→Don l i:=by
      intro i hi
      have hi':i < l.size:=by rw [iv.lsize];exact hi
      cases hq:l[i]? with
      | none=>rw [Array.getElem?_eq_none_iff] at hq;omega
      | some b =>
        cases b with
        | true=>exact hq
        | false =>
          exfalso
          have hm:false ∈ l.toList:=List.mem_of_getElem? (by simpa using hq)
          have:=List.count_pos_iff.2 hm
          omega
    refine ⟨?_,fin l a w s x ιs ws ι iv hall⟩
    cases hr:Region.ready .any ops l with
    | nil=>rfl
    | cons j r =>
      exfalso
      obtain ⟨o,h1,h2,_⟩:=(ready_iff l j iv.lsize).1 (by rw [hr];simp)
      have:=hall j (Array.getElem?_eq_some_iff.1 h1).1
      unfold Don at this
      rw [h2] at this;cases this
  | succ fuel ih =>
    intro l a w s x ιs ws ι hc iv
    refine ⟨fun hnil=>fin l a w s x ιs ws ι iv (alldone l iv.lsize hnil),fun j hj=>?_⟩
    obtain ⟨o,ho,hlj,hdeps⟩:=(ready_iff l j iv.lsize).1 hj
    have hnd:¬ Don l j:=fun h=>by unfold Don at h;rw [hlj] at h;cases h
    have hcount:∀ k,k=j→(l.setIfInBounds k true).toList.count false=fuel:=fun k hk=>by subst hk;have:=count_set hlj;omega
    have hbef:∀ i,i ∈ B.getD j []→Don l i:=by
      intro i hi
      obtain ⟨e,he1,he2,he3⟩:=st.bcl i j o ho hi
      have:=hdeps e he1 he2
      rcases he3 with rfl|he3
      · exact this
      · exact iv.dc _ this i he3
    have hjn:=(Array.getElem?_eq_some_iff.1 ho).1
    obtain ⟨i,hi⟩:=st.at hjn
    cases hs:AM.soft i.op with
    | true=>exact iv.stepSoft st hW hcs hi hs hnd hbef (fun a1 w1 iv1=>ih _ a1 w1 s x ιs ws ι (hcount j rfl) iv1)
    | false =>
      have hjs:s≤j:=by
        rcases Nat.lt_or_ge j s with q|q
        · exact absurd (iv.low j i q hi hs) hnd
        · exact q
      rcases Nat.lt_trichotomy j x with q|q|q
      · exact iv.stepOpen st hW hcs hi hs hjs q hnd hbef (fun a1 w1 ι1 iv1=>ih _ a1 w1 s x ιs ws ι1 (hcount j rfl) iv1)
      · subst q
        have hb:i.bar=true:=by
          rcases iv.ebar with q|⟨p,q1,q2⟩
          · omega
          · rw [hi] at q1;cases q1;exact q2
        exact iv.stepHard st hW hcs hi hb hnd hbef (fun a1 w1 e1 ι1 iv1=>ih _ a1 w1 (j + 1) e1 ι1 w1 ι1 (hcount j rfl) iv1)
      · exfalso
        rcases iv.ebar with q2|⟨p,q1,q2⟩
        · omega
        · rcases st.hard x j p i q1 q2 hi (by omega) with h|⟨h,_⟩
          · have:=iv.high x p (hbef x (h.2 q)) q1 (st.soft x p q1 q2);omega
          · rw [hs] at h;cases h
end

/-- The whole. -/
theorem drawA_sound (hW:Wide F) (hcs:CallSound P call) {id:Nat} {ops:Array Oper} {is:List AI} {ap:List (Nat × Nat)} {Q:Exit→Act→World→Prop} (hc:compRA P N ops=some (ap,is)) (hr:evL call true is e h=some (e',h')) (ha:apartE h.size e' ap=true) (hS:Sim P ι h w) (hF:FR N ι e a.tmps)
    (hQ:∀ a' w' ι',Rel P ι h w ι' h' w'→FR N ι' e' a'.tmps→a'.defers=a.defers→Q .normal a' w'):(Code.region id ops true).wpIn F n P Q a w:=by
  obtain ⟨hm,B,E,H,st,rfl,rfl,rfl,rfl⟩:=StatA.of hc hcs.ext hr ha
  refine wpIn_region_any hm ?_
  have hS1:Sim P ι (H 0) { w with drawn:=w.drawn + 1 }:=hS.congr rfl
  obtain ⟨x,g1,g2,g3,g4⟩:=next_hard st (ops.size - 0) 0 (by omega)
  have hnone:∀ i,¬ Don (Array.replicate ops.size false) i:=by
    intro i hi
    unfold Don at hi
    rw [Array.getElem?_replicate] at hi
    split at hi <;> cases hi
  refine invA_sound (ι0:=ι) (w0:={ w with drawn:=w.drawn + 1 }) (df:=a.defers) st hW hcs (fun a' w' ι' r f d=>hQ a' w' ι' ?_ f d) _ _ _ _ 0 x ι { w with drawn:=w.drawn + 1 } ι (by simp) ⟨by simp,g1,g2,fun i p hi=>absurd hi (Nat.not_lt_zero _),fun i p hi=>absurd hi (hnone i),g3,g4,.inl rfl,fun j hj=>absurd hj (hnone j),hS1,Rel.refl hS1,fun k h1 h2=>?_,
    fun b i hb=>.inl (hS.dom b i hb).1,Le.rfl _,rfl,rfl,rfl,⟨Nat.le_refl _,Nat.le_refl _⟩,fun _ _=>rfl,fun b i hb hb0=>(by rw [hb] at hb0;cases hb0),hF.1,rfl,fun t u _ hu=>?_,fun t u k o hk=>absurd hk (hnone k)⟩
  · exact ⟨r.le,r.sim,⟨r.fr.os,r.fr.tape,r.fr.output,r.fr.size,fun Bk h1 h2=>r.fr.block Bk h1 h2,Nat.le_trans (Nat.le_succ _) r.fr.drawn⟩,r.new,r.own,r.prot,r.keep,r.hsize⟩
  · exact hS1.up (st.hext h1 (by omega)).size (st.keep h1 (by omega) (fun q p k1 k2 k3=>g3 q p k1 (by omega) k3))
  · obtain ⟨u',h1,h2⟩:=hF.2 t u hu
    exact ⟨u',h1,h2.mono (fun b q hq=>res_of (hS.dom b q hq).1 hq)⟩
/-- The whole, where calls have their places too. -/
theorem drawK_sound (hW:Wide F) (hcs:CallSound P call) {id:Nat} {ops:Array Oper} {is:List AI} {ks ap:List (Nat × Nat)} {Q:Exit→Act→World→Prop} (hc:compRK P N ops=some (ks,ap,is)) (hr:evL call true is e h=some (e',h')) (hkp:keepsE call is e h ks=true) (ha:apartE h.size e' ap=true) (hS:Sim P ι h w) (hF:FR N ι e a.tmps)
    (hQ:∀ a' w' ι',Rel P ι h w ι' h' w'→FR N ι' e' a'.tmps→a'.defers=a.defers→Q .normal a' w'):(Code.region id ops true).wpIn F n P Q a w:=by
  obtain ⟨hm,B,E,H,st,rfl,rfl,rfl,rfl⟩:=StatA.ofK hc hcs.ext hr hkp ha
  refine wpIn_region_any hm ?_
  have hS1:Sim P ι (H 0) { w with drawn:=w.drawn + 1 }:=hS.congr rfl
  obtain ⟨x,g1,g2,g3,g4⟩:=next_hard st (ops.size - 0) 0 (by omega)
  have hnone:∀ i,¬ Don (Array.replicate ops.size false) i:=by
    intro i hi
    unfold Don at hi
    rw [Array.getElem?_replicate] at hi
    split at hi <;> cases hi
  refine invA_sound (ι0:=ι) (w0:={ w with drawn:=w.drawn + 1 }) (df:=a.defers) st hW hcs (fun a' w' ι' r f d=>hQ a' w' ι' ?_ f d) _ _ _ _ 0 x ι { w with drawn:=w.drawn + 1 } ι (by simp) ⟨by simp,g1,g2,fun i p hi=>absurd hi (Nat.not_lt_zero _),fun i p hi=>absurd hi (hnone i),g3,g4,.inl rfl,fun j hj=>absurd hj (hnone j),hS1,Rel.refl hS1,fun k h1 h2=>?_,
    fun b i hb=>.inl (hS.dom b i hb).1,Le.rfl _,rfl,rfl,rfl,⟨Nat.le_refl _,Nat.le_refl _⟩,fun _ _=>rfl,fun b i hb hb0=>(by rw [hb] at hb0;cases hb0),hF.1,rfl,fun t u _ hu=>?_,fun t u k o hk=>absurd hk (hnone k)⟩
  · exact ⟨r.le,r.sim,⟨r.fr.os,r.fr.tape,r.fr.output,r.fr.size,fun Bk h1 h2=>r.fr.block Bk h1 h2,Nat.le_trans (Nat.le_succ _) r.fr.drawn⟩,r.new,r.own,r.prot,r.keep,r.hsize⟩
  · exact hS1.up (st.hext h1 (by omega)).size (st.keep h1 (by omega) (fun q p k1 k2 k3=>g3 q p k1 (by omega) k3))
  · obtain ⟨u',h1,h2⟩:=hF.2 t u hu
    exact ⟨u',h1,h2.mono (fun b q hq=>res_of (hS.dom b q hq).1 hq)⟩
end Go.AM.DA

