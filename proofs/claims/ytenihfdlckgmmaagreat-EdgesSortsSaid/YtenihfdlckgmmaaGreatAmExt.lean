/- A part of the abstract machine, or of what is proved of the program by it. -/
import Derived.Test.YtenihfdlckgmmaaGreatAmOp5
namespace Go.AM
set_option linter.unusedVariables false
set_option linter.unusedSimpArgs false

structure Ext (h h':Heap):Prop where
  size:h.size≤h'.size
  prot:h'.prot=h.prot
  keep:∀ b,b < h.prot→b < h.size→h'.get b=h.get b
  own:∀ b,b < h.size→owned h' b→owned h b

theorem Ext.refl (h:Heap):Ext h h:=⟨Nat.le_refl _,rfl,fun _ _ _=>rfl,fun _ _ h=>h⟩
theorem Ext.trans {a b c:Heap} (h:Ext a b) (k:Ext b c):Ext a c :=
  ⟨Nat.le_trans h.size k.size,k.prot.trans h.prot,fun x hx hs=>by rw [k.keep x (by rw [h.prot];exact hx) (Nat.lt_of_lt_of_le hs h.size),h.keep x hx hs],
   fun x hx ho=>h.own x hx (k.own x (Nat.lt_of_lt_of_le hx h.size) ho)⟩
theorem Ext.push (h:Heap) (o:AObj):Ext h (h.push o) :=
  ⟨by simp,rfl,fun b _ hb=>by rw [Heap.get_push,if_neg (by omega)],fun b hb ho=>(owned_push (by omega)).1 ho⟩
theorem Ext.set {h:Heap} {b:Nat} (o:AObj) (hp:h.prot≤b) (ho:owned h b):Ext h (h.set b o) :=
  ⟨Nat.le_refl _,rfl,fun c hc _=>by rw [Heap.get_set,if_neg (by omega)],fun c hc hown=>by
    by_cases e:c=b
    · subst e;exact ho
    · exact (owned_set e).1 hown⟩
theorem Ext.kill {h:Heap} {b:Nat} (hp:h.prot≤b):Ext h (h.set b .dead) :=
  ⟨Nat.le_refl _,rfl,fun c hc _=>by rw [Heap.get_set,if_neg (by omega)],fun c hc hown=>by
    by_cases e:c=b
    · subst e;unfold owned at hown;rw [Heap.get_set,if_pos rfl] at hown;exact hown.elim
    · exact (owned_set e).1 hown⟩
theorem Ext.wr {h h':Heap} {b o:Nat} {vs:List Value} (hr:h.wr b o vs=some h'):Ext h h':=by
  unfold Heap.wr at hr
  split at hr
  · rename_i c z hg
    split at hr
    · rename_i hc
      cases hr
      exact Ext.set _ hc.1 (by unfold owned;rw [hg];trivial)
    · cases hr
  · cases hr

theorem aop_ext {op:AOp} {e:Env} {h h':Heap} {v:Value} (hr:aop op e h=some (v,h')):Ext h h':=by
  cases op <;> simp only [aop] at hr
  case store=>
    split at hr
    · split at hr
      · rename_i b o u _ _ _
        cases hw:h.wr b o (vcells u) with
        | none=>simp [hw] at hr
        | some h2=>simp only [hw,Option.map_some,Option.some.injEq,Prod.mk.injEq] at hr;obtain ⟨_,rfl⟩:=hr;exact Ext.wr hw
      · cases hr
    · cases hr
  case mapupd =>
    split at hr
    · split at hr
      · rename_i r k u _ _ _ _ es hg
        split at hr
        · rename_i hc
          cases hu:updM ‹KS› k u es with
          | none=>simp [hu] at hr
          | some es'=>simp only [hu,Option.map_some,Option.some.injEq,Prod.mk.injEq] at hr;obtain ⟨_,rfl⟩:=hr;exact Ext.set _ hc.1 (by unfold owned;rw [hg];trivial)
        · cases hr
      · cases hr
    · cases hr
  case mapent =>
    split at hr
    · split at hr
      · rename_i es hg
        split at hr
        · rename_i hc
          obtain ⟨⟨i0,v0,es'⟩,_,heq⟩:=Option.map_eq_some_iff.1 hr
          simp only [Prod.mk.injEq] at heq;obtain ⟨_,rfl⟩:=heq
          exact Ext.set _ hc.1 (by unfold owned;rw [hg];trivial)
        · cases hr
      · cases hr
    · cases hr
  case entst =>
    split at hr
    · split at hr
      · rename_i es hg
        split at hr
        · split at hr
          · rename_i hc
            simp only [Option.some.injEq,Prod.mk.injEq] at hr;obtain ⟨_,rfl⟩:=hr
            exact Ext.set _ hc (by unfold owned;rw [hg];trivial)
          · cases hr
        · cases hr
      · cases hr
    · cases hr
  case copy =>
    split at hr
    · split at hr
      · simp only [Option.some.injEq,Prod.mk.injEq] at hr;obtain ⟨_,rfl⟩:=hr;exact Ext.refl _
      · split at hr
        · split at hr
          · obtain ⟨h2,hw,he⟩:=Option.map_eq_some_iff.1 hr
            simp only [Prod.mk.injEq] at he;obtain ⟨_,rfl⟩:=he;exact Ext.wr hw
          · cases hr
        · cases hr
    · cases hr
  case clear =>
    split at hr
    · split at hr
      · simp only [Option.some.injEq,Prod.mk.injEq] at hr;obtain ⟨_,rfl⟩:=hr;exact Ext.refl _
      · split at hr
        · obtain ⟨h2,hw,he⟩:=Option.map_eq_some_iff.1 hr
          simp only [Prod.mk.injEq] at he;obtain ⟨_,rfl⟩:=he;exact Ext.wr hw
        · cases hr
    · cases hr
  case append =>
    split at hr
    · split at hr
      · simp only [Option.some.injEq,Prod.mk.injEq] at hr;obtain ⟨_,rfl⟩:=hr;exact Ext.refl _
      · split at hr
        · split at hr
          · split at hr
            · split at hr
              · split at hr
                · split at hr
                  · simp only [Option.some.injEq,Prod.mk.injEq] at hr;obtain ⟨_,rfl⟩:=hr;exact Ext.push _ _
                  · cases hr
                · split at hr
                  · split at hr
                    · rename_i hc
                      simp only [Option.some.injEq,Prod.mk.injEq] at hr;obtain ⟨_,rfl⟩:=hr
                      exact (Ext.kill hc.2.2.1).trans (Ext.push _ _)
                    · cases hr
                  · cases hr
                · split at hr
                  · simp only [Option.some.injEq,Prod.mk.injEq] at hr;obtain ⟨_,rfl⟩:=hr;exact Ext.push _ _
                  · cases hr
                · cases hr
              · cases hr
            · cases hr
          · cases hr
        · cases hr
    · cases hr
  case appS =>
    split at hr
    · unfold appTo at hr
      split at hr
      · simp only [Option.some.injEq,Prod.mk.injEq] at hr;obtain ⟨_,rfl⟩:=hr;exact Ext.refl _
      · split at hr
        · split at hr
          · split at hr
            · simp only [Option.some.injEq,Prod.mk.injEq] at hr;obtain ⟨_,rfl⟩:=hr;exact Ext.push _ _
            · cases hr
          · split at hr
            · split at hr
              · rename_i hc
                simp only [Option.some.injEq,Prod.mk.injEq] at hr;obtain ⟨_,rfl⟩:=hr
                exact (Ext.kill hc.2.2.1).trans (Ext.push _ _)
              · cases hr
            · cases hr
          · cases hr
        · cases hr
    · cases hr
  case alloc=>simp only [Option.some.injEq,Prod.mk.injEq] at hr;obtain ⟨_,rfl⟩:=hr;exact Ext.push _ _
  case mkmap=>simp only [Option.some.injEq,Prod.mk.injEq] at hr;obtain ⟨_,rfl⟩:=hr;exact Ext.push _ _
  case box =>
    split at hr
    · simp only [Option.some.injEq,Prod.mk.injEq] at hr;obtain ⟨_,rfl⟩:=hr;exact Ext.push _ _
    · cases hr
  case convSB =>
    split at hr
    · simp only [Option.some.injEq,Prod.mk.injEq] at hr;obtain ⟨_,rfl⟩:=hr;exact Ext.push _ _
    · cases hr
  case bslice z ps =>
    cases h1:evps e ps with
    | none=>simp [h1] at hr
    | some vs =>
      cases h2:fillA z vs with
      | none=>simp [h1,h2] at hr
      | some c=>simp only [h1,h2,Option.bind_some,Option.map_some,Option.some.injEq,Prod.mk.injEq] at hr;obtain ⟨_,rfl⟩:=hr;exact Ext.push _ _
  case mkslice =>
    split at hr
    · split at hr
      · simp only [Option.some.injEq,Prod.mk.injEq] at hr;obtain ⟨_,rfl⟩:=hr;exact Ext.push _ _
      · cases hr
    · cases hr
  case call=>cases hr
  all_goals
    have:h'=h:=by
      revert hr
      repeat' split
      all_goals first
        | (intro hr;cases hr;rfl)
        | (simp only [Option.map_eq_some_iff,Option.bind_eq_some_iff,Prod.mk.injEq,reduceCtorEq,false_implies,forall_exists_index,and_imp];try intros)
        | skip
      all_goals (try subst_vars)
      all_goals first|rfl|simp_all|skip
    subst this;exact Ext.refl _

def CallExt (call:CallT):Prop:=∀ fn args h v h',call fn args h=some (v,h')→Ext h h'

variable {call:CallT}

theorem opV_ext (hc:CallExt call) {op:AOp} {e:Env} {h h':Heap} {v:Value} (hr:opV call op e h=some (v,h')):Ext h h':=by
  unfold opV at hr
  split at hr
  · split at hr
    · exact hc _ _ _ _ _ hr
    · cases hr
  · exact aop_ext hr

theorem evI_ext (hc:CallExt call) {i:AI} {e e':Env} {h h':Heap} (hr:evI call i e h=some (e',h')):Ext h h':=by
  unfold evI at hr
  split at hr
  · obtain ⟨⟨v,h2⟩,h1,he⟩:=Option.map_eq_some_iff.1 hr
    simp only [Prod.mk.injEq] at he;obtain ⟨_,rfl⟩:=he
    exact opV_ext hc h1
  · simp only [Option.some.injEq,Prod.mk.injEq] at hr;obtain ⟨_,rfl⟩:=hr;exact Ext.refl _
  · cases hr

theorem evID_ext (hc:CallExt call) {i:AI} {e e':Env} {h h':Heap} (hr:evID call i e h=some (e',h')):Ext h h'∧(i.bar=false→∀ b,b < h.size→h'.get b=h.get b):=by
  unfold evID at hr
  cases hb:i.bar with
  | true=>rw [hb] at hr;exact ⟨evI_ext hc hr,fun h=>by cases h⟩
  | false =>
    rw [hb] at hr
    simp only [cond_false] at hr
    obtain ⟨⟨e2,h2⟩,h1,he⟩:=Option.map_eq_some_iff.1 hr
    simp only [Prod.mk.injEq] at he;obtain ⟨_,rfl⟩:=he
    have x:=evI_ext hc h1
    have k:∀ b,b < h.size→h2.get b=h.get b:=fun b hb=>x.keep b hb hb
    exact ⟨⟨x.size,rfl,fun b _ hb=>k b hb,fun b hb ho=>by
      unfold owned at ho ⊢
      rw [Heap.get_withProt,k b hb] at ho;exact ho⟩,fun _ b hb=>by rw [Heap.get_withProt];exact k b hb⟩

theorem evL_ext (hc:CallExt call) {d:Bool}:∀ {l:List AI} {e e':Env} {h h':Heap},evL call d l e h=some (e',h')→Ext h h':=by
  intro l
  induction l with
  | nil=>intro e e' h h' hr;simp only [evL,Option.some.injEq,Prod.mk.injEq] at hr;obtain ⟨_,rfl⟩:=hr;exact Ext.refl _
  | cons i l ih =>
    intro e e' h h' hr
    simp only [evL] at hr
    split at hr
    · rename_i e1 h1 he
      refine Ext.trans ?_ (ih hr)
      cases d
      · exact evI_ext hc he
      · exact (evID_ext hc he).1
    · cases hr

theorem loopN_ext {f:Env→Heap→Option (AX × Env × Heap)} (hf:∀ e h x e' h',f e h=some (x,e',h')→Ext h h'):∀ (n:Nat) {e e':Env} {h h':Heap} {x:AX},loopN f n e h=some (x,e',h')→Ext h h':=by
  intro n
  induction n with
  | zero=>intro e e' h h' x hr;simp [loopN] at hr
  | succ n ih =>
    intro e e' h h' x hr
    simp only [loopN] at hr
    split at hr
    · rename_i e1 h1 he;exact (hf _ _ _ _ _ he).trans (ih hr)
    · exact hf _ _ _ _ _ hr

theorem evC_ext (hc:CallExt call) {n:Nat} {ro:Option Nat}:∀ {c:ACode} {e e':Env} {h h':Heap} {x:AX},evC call n ro c e h=some (x,e',h')→Ext h h':=by
  intro c
  induction c with
  | skip=>intro e e' h h' x hr;simp only [evC,Option.some.injEq,Prod.mk.injEq] at hr;obtain ⟨_,_,rfl⟩:=hr;exact Ext.refl _
  | ops d l =>
    intro e e' h h' x hr
    simp only [evC] at hr
    obtain ⟨⟨e2,h2⟩,h1,he⟩:=Option.map_eq_some_iff.1 hr
    simp only [Prod.mk.injEq] at he;obtain ⟨_,_,rfl⟩:=he
    exact evL_ext hc h1
  | opsA ap l =>
    intro e e' h h' x hr
    simp only [evC] at hr
    split at hr
    · rename_i e1 h1 he
      cases ha:apartE h.size e1 ap with
      | false=>rw [ha] at hr;cases hr
      | true=>rw [ha] at hr;simp only [cond_true,Option.some.injEq,Prod.mk.injEq] at hr;obtain ⟨_,_,rfl⟩:=hr;exact evL_ext hc he
    · cases hr
  | opsK ks ap l =>
    intro e e' h h' x hr
    simp only [evC] at hr
    split at hr
    · rename_i e1 h1 he
      cases ha:(keepsE call l e h ks && apartE h.size e1 ap) with
      | false=>rw [ha] at hr;cases hr
      | true=>rw [ha] at hr;simp only [cond_true,Option.some.injEq,Prod.mk.injEq] at hr;obtain ⟨_,_,rfl⟩:=hr;exact evL_ext hc he
    · cases hr
  | seq a b iha ihb =>
    intro e e' h h' x hr
    simp only [evC] at hr
    split at hr
    · rename_i e1 h1 he;exact (iha he).trans (ihb hr)
    · exact iha hr
  | cond c t f iht ihf =>
    intro e e' h h' x hr
    simp only [evC] at hr
    split at hr
    · exact iht hr
    · exact ihf hr
    · cases hr
  | block id b ih =>
    intro e e' h h' x hr
    simp only [evC] at hr
    split at hr
    · rename_i i e1 h1 he
      cases hi:(i == id) with
      | true=>rw [hi] at hr;simp only [cond_true,Option.some.injEq,Prod.mk.injEq] at hr;obtain ⟨_,_,rfl⟩:=hr;exact ih he
      | false=>rw [hi] at hr;simp only [cond_false,Option.some.injEq,Prod.mk.injEq] at hr;obtain ⟨_,_,rfl⟩:=hr;exact ih he
    · exact ih hr
  | loop b ih=>intro e e' h h' x hr;exact loopN_ext (fun _ _ _ _ _ h=>ih h) n hr
  | rfun f ps asg body _ _ =>
    intro e e' h h' x hr
    simp only [evC] at hr
    split at hr
    · split at hr
      · rename_i hp
        split at hr
        · rename_i v h1 hcall
          split at hr
          · rename_i r hg
            split at hr
            · cases hr
            · simp only [Option.some.injEq,Prod.mk.injEq] at hr;obtain ⟨_,_,rfl⟩:=hr
              have x1:=(Ext.push h (.loop ⟨ps,asg,body,e,.ready,none⟩)).trans (hc _ _ _ _ _ hcall)
              exact x1.trans (Ext.kill (by rw [x1.prot];exact hp.1))
          · cases hr
        · cases hr
      · cases hr
    · cases hr
  | exit id=>intro e e' h h' x hr;simp only [evC,Option.some.injEq,Prod.mk.injEq] at hr;obtain ⟨_,_,rfl⟩:=hr;exact Ext.refl _
  | ret=>intro e e' h h' x hr;simp only [evC,Option.some.injEq,Prod.mk.injEq] at hr;obtain ⟨_,_,rfl⟩:=hr;exact Ext.refl _
  | keep l=>intro e e' h h' x hr;simp only [evC,Option.some.injEq,Prod.mk.injEq] at hr;obtain ⟨_,_,rfl⟩:=hr;exact Ext.refl _

theorem runF_ext (hc:CallExt call) {n:Nat} {f:AFn} {args:List Value} {h h':Heap} {v:Value} (hr:runF call n f args h=some (v,h')):Ext h h':=by
  unfold runF at hr
  split at hr
  · split at hr
    · cases hr
    · rename_i x e h1 _ he
      obtain ⟨vs,_,he2⟩:=Option.map_eq_some_iff.1 hr
      simp only [Prod.mk.injEq] at he2;obtain ⟨_,rfl⟩:=he2
      exact evC_ext hc he
    · cases hr
  · cases hr

theorem runY_ext (hc:CallExt call) {n l:Nat} {args:List Value} {h h':Heap} {v:Value} (hr:runY call n l args h=some (v,h')):Ext h h':=by
  unfold runY at hr
  split at hr
  · rename_i r hg
    split at hr
    · rename_i hpre
      split at hr
      · rename_i e1 h1 he1
        split at hr
        · rename_i r1 hg1
          split at hr
          · rename_i hpre1
            split at hr
            · rename_i x e3 h3 he3
              split at hr
              · rename_i r3 hg3
                have x1:=evC_ext hc he1
                have x2:Ext h1 (h1.set l (.loop { r1 with st:=.busy })):=Ext.set _ hpre1.2 (by unfold owned;rw [hg1];trivial)
                have x3:=x1.trans (x2.trans (evC_ext hc he3))
                have fin:∀ o,Ext h3 (h3.set l o):=fun o=>Ext.set _ (by rw [x3.prot];exact hpre.2.1) (by unfold owned;rw [hg3];trivial)
                split at hr
                · simp only [Option.some.injEq,Prod.mk.injEq] at hr;obtain ⟨_,rfl⟩:=hr;exact x3.trans (fin _)
                · simp only [Option.some.injEq,Prod.mk.injEq] at hr;obtain ⟨_,rfl⟩:=hr;exact x3.trans (fin _)
              · cases hr
            · cases hr
          · cases hr
        · cases hr
      · cases hr
    · cases hr
  · cases hr

theorem callV_ext {prog:AProg} (ho:∀ k o,prog k=some (.oracle o)→∀ args h v h',o args h=some (v,h')→Ext h h'):∀ n,CallExt (callV prog n):=by
  intro n
  induction n with
  | zero=>intro fn args h v h' hr;simp [callV] at hr
  | succ n ih =>
    intro fn args h v h' hr
    cases fn with
    | func k =>
      simp only [callV] at hr
      split at hr
      · exact runF_ext ih hr
      · rename_i o hk;exact ho k o hk _ _ _ _ hr
      · cases hr
    | yield l=>simp only [callV] at hr;exact runY_ext ih hr
    | _=>simp [callV] at hr

def CallLe (c d:CallT):Prop:=∀ fn args h r,c fn args h=some r→d fn args h=some r

variable {call':CallT}

theorem opV_mono (hc:CallLe call call') {op:AOp} {e:Env} {h:Heap} {r:Value × Heap} (hr:opV call op e h=some r):opV call' op e h=some r:=by
  unfold opV at hr ⊢
  split at hr
  · split at hr
    · exact hc _ _ _ _ hr
    · cases hr
  · exact hr

theorem evI_mono (hc:CallLe call call') {i:AI} {e:Env} {h:Heap} {r:Env × Heap} (hr:evI call i e h=some r):evI call' i e h=some r:=by
  unfold evI at hr ⊢
  split at hr
  · obtain ⟨x,h1,he⟩:=Option.map_eq_some_iff.1 hr
    rw [opV_mono hc h1];exact congrArg some he
  · exact hr
  · cases hr

theorem evID_mono (hc:CallLe call call') {i:AI} {e:Env} {h:Heap} {r:Env × Heap} (hr:evID call i e h=some r):evID call' i e h=some r:=by
  unfold evID at hr ⊢
  cases hb:i.bar with
  | true=>rw [hb] at hr;exact evI_mono hc hr
  | false =>
    rw [hb] at hr
    simp only [cond_false] at hr ⊢
    obtain ⟨x,h1,he⟩:=Option.map_eq_some_iff.1 hr
    rw [evI_mono hc h1];exact congrArg some he

theorem evL_mono (hc:CallLe call call') {d:Bool}:∀ {l:List AI} {e:Env} {h:Heap} {r:Env × Heap},evL call d l e h=some r→evL call' d l e h=some r:=by
  intro l
  induction l with
  | nil=>intro e h r hr;exact hr
  | cons i l ih =>
    intro e h r hr
    simp only [evL] at hr ⊢
    cases d
    · simp only [cond_false] at hr ⊢
      split at hr
      · rename_i e1 h1 he;rw [evI_mono hc he];exact ih hr
      · cases hr
    · simp only [cond_true] at hr ⊢
      split at hr
      · rename_i e1 h1 he;rw [evID_mono hc he];exact ih hr
      · cases hr

theorem keepsE_mono (hc:CallLe call call') {l:List AI} {e:Env} {h:Heap}:∀ {ks:List (Nat × Nat)},keepsE call l e h ks=true→keepsE call' l e h ks=true
  | [],_=>rfl
  | (j,t)::r,hr=>by
    simp only [keepsE,Bool.and_eq_true] at hr ⊢
    refine ⟨?_,keepsE_mono hc hr.2⟩
    have h1:=hr.1
    split at h1
    · rename_i e1 h1' _ h2 q1 q2
      rw [evL_mono hc q1,evL_mono hc q2];exact h1
    · cases h1
theorem loopN_mono {f g:Env→Heap→Option (AX × Env × Heap)} (hf:∀ e h r,f e h=some r→g e h=some r):∀ {n m:Nat} {e:Env} {h:Heap} {r:AX × Env × Heap},n≤m→loopN f n e h=some r→loopN g m e h=some r:=by
  intro n
  induction n with
  | zero=>intro m e h r _ hr;simp [loopN] at hr
  | succ n ih =>
    intro m e h r hm hr
    obtain ⟨m,rfl⟩:∃ k,m=k + 1:=⟨m - 1,by omega⟩
    simp only [loopN] at hr ⊢
    split at hr
    · rename_i e1 h1 he;rw [hf _ _ _ he];exact ih (by omega) hr
    · rename_i hno
      rw [hf _ _ _ hr]
      obtain ⟨x,e1,h1⟩:=r
      cases x with
      | norm=>exact absurd hr (fun q=>hno _ _ q)
      | _=>rfl

theorem evC_mono (hc:CallLe call call') {n m:Nat} (hnm:n≤m) {ro:Option Nat}:∀ {c:ACode} {e:Env} {h:Heap} {r:AX × Env × Heap},evC call n ro c e h=some r→evC call' m ro c e h=some r:=by
  intro c
  induction c with
  | skip=>intro e h r hr;exact hr
  | ops d l =>
    intro e h r hr
    simp only [evC] at hr ⊢
    obtain ⟨x,h1,he⟩:=Option.map_eq_some_iff.1 hr
    rw [evL_mono hc h1];exact congrArg some he
  | opsA ap l =>
    intro e h r hr
    simp only [evC] at hr ⊢
    split at hr
    · rename_i e1 h1 he
      rw [evL_mono hc he];exact hr
    · cases hr
  | opsK ks ap l =>
    intro e h r hr
    simp only [evC] at hr ⊢
    split at hr
    · rename_i e1 h1 he
      rw [evL_mono hc he]
      cases ha:(keepsE call l e h ks && apartE h.size e1 ap) with
      | false=>rw [ha] at hr;cases hr
      | true =>
        rw [ha] at hr
        simp only [Bool.and_eq_true] at ha
        simp only [keepsE_mono hc ha.1,ha.2,Bool.and_self];exact hr
    · cases hr
  | seq a b iha ihb =>
    intro e h r hr
    simp only [evC] at hr ⊢
    split at hr
    · rename_i e1 h1 he;rw [iha he];exact ihb hr
    · rename_i hno
      rw [iha hr]
      obtain ⟨x,e1,h1⟩:=r
      cases x with
      | norm=>exact absurd hr (fun q=>hno _ _ q)
      | _=>rfl
  | cond c t f iht ihf =>
    intro e h r hr
    simp only [evC] at hr ⊢
    split at hr
    · exact iht hr
    · exact ihf hr
    · cases hr
  | block id b ih =>
    intro e h r hr
    simp only [evC] at hr ⊢
    split at hr
    · rename_i i e1 h1 he;rw [ih he];exact hr
    · rename_i hno
      rw [ih hr]
      obtain ⟨x,e1,h1⟩:=r
      cases x with
      | exit i=>exact absurd hr (fun q=>hno _ _ _ q)
      | _=>rfl
  | loop b ih=>intro e h r hr;exact loopN_mono (fun _ _ _ h=>ih h) hnm hr
  | rfun f ps asg body _ _ =>
    intro e h r hr
    simp only [evC] at hr ⊢
    split at hr
    · split at hr
      · rename_i hp
        rw [if_pos hp]
        split at hr
        · rename_i v h1 hcall
          rw [hc _ _ _ _ hcall]
          exact hr
        · cases hr
      · cases hr
    · cases hr
  | exit id=>intro e h r hr;exact hr
  | ret=>intro e h r hr;exact hr
  | keep l=>intro e h r hr;exact hr

theorem runF_mono (hc:CallLe call call') {n m:Nat} (hnm:n≤m) {f:AFn} {args:List Value} {h:Heap} {r:Value × Heap} (hr:runF call n f args h=some r):runF call' m f args h=some r:=by
  unfold runF at hr ⊢
  split at hr
  · rename_i ha
    rw [if_pos ha]
    split at hr
    · cases hr
    · rename_i x e h1 hno he
      rw [evC_mono hc hnm he]
      cases x with
      | exit i=>exact absurd rfl (hno i)
      | _=>exact hr
    · cases hr
  · cases hr

theorem runY_mono (hc:CallLe call call') {n m:Nat} (hnm:n≤m) {l:Nat} {args:List Value} {h:Heap} {r:Value × Heap} (hr:runY call n l args h=some r):runY call' m l args h=some r:=by
  unfold runY at hr ⊢
  split at hr
  · rename_i rc hg
    split at hr
    · rename_i hpre
      rw [if_pos hpre]
      split at hr
      · rename_i e1 h1 he1
        rw [evC_mono hc hnm he1]
        simp only
        split at hr
        · rename_i r1 hg1
          split at hr
          · rename_i hpre1
            rw [if_pos hpre1]
            split at hr
            · rename_i x e3 h3 he3
              rw [evC_mono hc hnm he3]
              exact hr
            · cases hr
          · cases hr
        · cases hr
      · cases hr
    · cases hr
  · cases hr

theorem callV_mono (prog:AProg):∀ {n m:Nat},n≤m→CallLe (callV prog n) (callV prog m):=by
  intro n
  induction n with
  | zero=>intro m _ fn args h r hr;simp [callV] at hr
  | succ n ih =>
    intro m hm fn args h r hr
    obtain ⟨m,rfl⟩:∃ k,m=k + 1:=⟨m - 1,by omega⟩
    cases fn with
    | func k =>
      simp only [callV] at hr ⊢
      split at hr
      · exact runF_mono (ih (by omega)) (by omega) hr
      · exact hr
      · cases hr
    | yield l=>simp only [callV] at hr ⊢;exact runY_mono (ih (by omega)) (by omega) hr
    | _=>simp [callV] at hr

end Go.AM

