/- A part of the abstract machine, or of what is proved of the program by it. -/
import Derived.Test.YtenihfdlckgmmaaGreatAmLogic
import Derived.Test.YtenihfdlckgmmaaGreatAmDef
namespace Go.AM.G
open Go.AM hiding Kt At WP WL Runs RunsY
set_option linter.unusedVariables false
set_option linter.unusedSectionVars false
set_option linter.unusedSimpArgs false

def objLe (a b:Option AObj):Prop:=a=b∨∃ c z,a=some (.cells c none)∧b=some (.cells c (some z))

structure Less (g h:Heap):Prop where
  size:g.size=h.size
  prot:h.prot≤g.prot
  obj:∀ b,objLe (g.get b) (h.get b)

theorem objLe.refl (a:Option AObj):objLe a a:=.inl rfl
theorem objLe.trans {a b c:Option AObj} (h:objLe a b) (k:objLe b c):objLe a c:=by
  rcases h with rfl|⟨x,z,rfl,rfl⟩
  · exact k
  · rcases k with rfl|⟨y,w,h1,h2⟩
    · exact .inr ⟨x,z,rfl,rfl⟩
    · cases h1
theorem Less.refl (h:Heap):Less h h:=⟨rfl,Nat.le_refl _,fun b=>.inl rfl⟩
theorem Less.trans {a b c:Heap} (h:Less a b) (k:Less b c):Less a c:=⟨h.size.trans k.size,Nat.le_trans k.prot h.prot,fun x=>(h.obj x).trans (k.obj x)⟩

variable {g h g' h' H H':Heap}

theorem Less.push (k:Less g h) (o:AObj):Less (g.push o) (h.push o) :=
  ⟨by simp [k.size],k.prot,fun b=>by rw [Heap.get_push,Heap.get_push,k.size];split;exact .inl rfl;exact k.obj b⟩
theorem Less.set (k:Less g h) (b:Nat) (o:AObj):Less (g.set b o) (h.set b o) :=
  ⟨k.size,k.prot,fun c=>by rw [Heap.get_set,Heap.get_set];split;exact .inl rfl;exact k.obj c⟩
theorem Less.wp (k:Less g h):Less (g.withProt g.size) (h.withProt h.size):=⟨k.size,by simp [k.size],k.obj⟩
theorem Less.back {g0 h0:Heap} (k:Less g h) (k0:h0.prot≤g0.prot):Less (g.withProt g0.prot) (h.withProt h0.prot):=⟨k.size,k0,k.obj⟩
theorem Less.map (k:Less g h) {r:Nat} {es:List (Value × Value)} (hg:g.get r=some (.map es)):h.get r=some (.map es):=by
  rcases k.obj r with e|⟨c,z,e,_⟩
  · rw [← e];exact hg
  · rw [hg] at e;cases e
theorem Less.cells (k:Less g h) {r:Nat} {c:List Value} {own:Option Nat} (hg:g.get r=some (.cells c own)):∃ own',h.get r=some (.cells c own')∧(own'=own∨own=none):=by
  rcases k.obj r with e|⟨c,z,e,e2⟩
  · exact ⟨own,by rw [← e];exact hg,.inl rfl⟩
  · rw [hg] at e;cases e;exact ⟨_,e2,.inr rfl⟩
theorem Less.cell (k:Less g h) {b o:Nat}:g.cell b o=h.cell b o:=by
  unfold Heap.cell
  rcases k.obj b with e|⟨c,z,e,e2⟩
  · rw [e]
  · rw [e,e2]
theorem Less.rd (k:Less g h) {b o n:Nat}:g.rd b o n=h.rd b o n:=by
  unfold Heap.rd
  rcases k.obj b with e|⟨c,z,e,e2⟩
  · rw [e]
  · rw [e,e2]
theorem Less.wr (k:Less g h) {b o:Nat} {vs:List Value} (hr:g.wr b o vs=some g'):∃ h',h.wr b o vs=some h'∧Less g' h':=by
  unfold Heap.wr at hr
  split at hr
  · rename_i c z hg
    split at hr
    · rename_i hc
      cases hr
      obtain ⟨own',e,e2⟩:=k.cells hg
      rcases e2 with rfl|e2
      · exact ⟨_,by unfold Heap.wr;simp only [e];rw [if_pos ⟨Nat.le_trans k.prot hc.1,hc.2⟩],k.set _ _⟩
      · cases e2
    · cases hr
  · cases hr

theorem heapFree_mono {op:AOp} {e:Env} {v:Value} (hf:HeapFree op e) (k:Less g h) (hr:aop op e g=some (v,g')):∃ h',aop op e h=some (v,h')∧Less g' h':=by
  obtain ⟨p,hp⟩:=hf
  rw [hp] at hr
  cases p with
  | none=>cases hr
  | some p=>cases hr;exact ⟨h,by rw [hp];rfl,k⟩

theorem aop_mono {op:AOp} {e:Env} {v:Value} (k:Less g h) (hr:aop op e g=some (v,g')):∃ h',aop op e h=some (v,h')∧Less g' h':=by
  cases ht:touches op with
  | false=>exact heapFree_mono (heapFree ht) k hr
  | true =>
    cases op <;> first|(exact Bool.noConfusion ht)|skip
    case alloc z=>simp only [aop,Option.some.injEq,Prod.mk.injEq] at hr ⊢;obtain ⟨rfl,rfl⟩:=hr;exact ⟨_,⟨by rw [k.size],rfl⟩,k.push _⟩
    case box x =>
      simp only [aop] at hr ⊢
      split at hr
      · simp only [Option.some.injEq,Prod.mk.injEq] at hr ⊢;obtain ⟨rfl,rfl⟩:=hr;exact ⟨_,⟨by rw [k.size],rfl⟩,k.push _⟩
      · cases hr
    case convSB x =>
      simp only [aop] at hr ⊢
      split at hr
      · simp only [Option.some.injEq,Prod.mk.injEq] at hr ⊢;obtain ⟨rfl,rfl⟩:=hr;exact ⟨_,⟨by rw [k.size],rfl⟩,k.push _⟩
      · cases hr
    case bslice esz len z ps =>
      simp only [aop] at hr ⊢
      cases h1:evps e ps with
      | none=>simp [h1] at hr
      | some vs =>
        cases h2:fillA z vs with
        | none=>simp [h1,h2] at hr
        | some c=>simp only [h1,h2,Option.bind_some,Option.map_some,Option.some.injEq,Prod.mk.injEq] at hr ⊢;obtain ⟨rfl,rfl⟩:=hr;exact ⟨_,⟨by rw [k.size],rfl⟩,k.push _⟩
    case load1 a =>
      simp only [aop] at hr ⊢
      split at hr
      · rw [k.cell] at hr
        rename_i b o _
        cases hc:h.cell b o with
        | none=>simp [hc] at hr
        | some u=>simp only [hc,Option.map_some,Option.some.injEq,Prod.mk.injEq] at hr ⊢;obtain ⟨rfl,rfl⟩:=hr;exact ⟨_,⟨rfl,rfl⟩,k⟩
      · cases hr
    case loadN n a =>
      simp only [aop] at hr ⊢
      split at hr
      · rw [k.rd] at hr
        rename_i b o _
        cases hc:h.rd b o n with
        | none=>simp [hc] at hr
        | some u=>simp only [hc,Option.map_some,Option.some.injEq,Prod.mk.injEq] at hr ⊢;obtain ⟨rfl,rfl⟩:=hr;exact ⟨_,⟨rfl,rfl⟩,k⟩
      · cases hr
    case store n a x =>
      simp only [aop] at hr ⊢
      split at hr
      · split at hr
        · rename_i hl
          obtain ⟨g2,hw,he⟩:=Option.map_eq_some_iff.1 hr
          simp only [Prod.mk.injEq] at he;obtain ⟨rfl,rfl⟩:=he
          obtain ⟨h2,hw2,k2⟩:=k.wr hw
          exact ⟨h2,by rw [if_pos hl,hw2];rfl,k2⟩
        · cases hr
      · cases hr
    case mkmap=>simp only [aop,Option.some.injEq,Prod.mk.injEq] at hr ⊢;obtain ⟨rfl,rfl⟩:=hr;exact ⟨_,⟨by rw [k.size],rfl⟩,k.push _⟩
    case mkslice esz bytes z l c =>
      simp only [aop] at hr ⊢
      split at hr
      · split at hr
        · rename_i hc
          simp only [Option.some.injEq,Prod.mk.injEq] at hr;obtain ⟨rfl,rfl⟩:=hr
          exact ⟨_,by rw [if_pos hc,k.size],k.push _⟩
        · cases hr
      · cases hr
    case lookup s z ok m kk =>
      simp only [aop] at hr ⊢
      split at hr
      · rename_i r key _ _
        split at hr
        · rename_i hk
          rw [if_pos hk]
          have fin : ∀ es, (match findM s key es with
                | some (some v)=>some (bif ok then .tuple #[v,.bool true] else v,g)
                | some none=>some (bif ok then .tuple #[z,.bool false] else z,g)
                | none=>none)=some (v,g')→∃ h',(match findM s key es with
                | some (some v)=>some (bif ok then .tuple #[v,.bool true] else v,h)
                | some none=>some (bif ok then .tuple #[z,.bool false] else z,h)
                | none=>none)=some (v,h')∧Less g' h':=by
            intro es hr
            split at hr
            · simp only [Option.some.injEq,Prod.mk.injEq] at hr;obtain ⟨rfl,rfl⟩:=hr;exact ⟨_,rfl,k⟩
            · simp only [Option.some.injEq,Prod.mk.injEq] at hr;obtain ⟨rfl,rfl⟩:=hr;exact ⟨_,rfl,k⟩
            · cases hr
          cases r with
          | none=>exact fin [] hr
          | some r =>
            dsimp only at hr ⊢
            rcases k.obj r with e1|⟨c,z1,e1,e2⟩
            · rw [← e1]
              revert hr
              cases g.get r with
              | none=>intro hr;cases hr
              | some ob=>cases ob with
                | map es=>intro hr;exact fin es hr
                | _=>intro hr;cases hr
            · rw [e1] at hr;cases hr
        · cases hr
      · cases hr
    case mapent s z m kk =>
      simp only [aop] at hr ⊢
      split at hr
      · rename_i r key _ _
        split at hr
        · rename_i es hg
          split at hr
          · rename_i hc
            simp only [k.map hg]
            rw [if_pos ⟨Nat.le_trans k.prot hc.1,hc.2⟩]
            obtain ⟨⟨i0,v0,es'⟩,h1,he⟩:=Option.map_eq_some_iff.1 hr
            simp only [Prod.mk.injEq] at he;obtain ⟨rfl,rfl⟩:=he
            exact ⟨_,by rw [h1];rfl,k.set _ _⟩
          · cases hr
        · cases hr
      · cases hr
    case entst m t u =>
      simp only [aop] at hr ⊢
      split at hr
      · rename_i r n x _ _ _
        split at hr
        · rename_i es hg
          split at hr
          · rename_i y hy
            split at hr
            · rename_i hc
              simp only [k.map hg,hy]
              rw [if_pos (Nat.le_trans k.prot hc)]
              simp only [Option.some.injEq,Prod.mk.injEq] at hr;obtain ⟨rfl,rfl⟩:=hr
              exact ⟨_,rfl,k.set _ _⟩
            · cases hr
          · cases hr
        · cases hr
      · cases hr
    case mapupd s m kk u =>
      simp only [aop] at hr ⊢
      split at hr
      · rename_i r key x _ _ _
        split at hr
        · rename_i es hg
          split at hr
          · rename_i hc
            simp only [k.map hg]
            rw [if_pos ⟨Nat.le_trans k.prot hc.1,hc.2⟩]
            obtain ⟨es',h1,he⟩:=Option.map_eq_some_iff.1 hr
            simp only [Prod.mk.injEq] at he;obtain ⟨rfl,rfl⟩:=he
            exact ⟨_,by rw [h1];rfl,k.set _ _⟩
          · cases hr
        · cases hr
      · cases hr
    case len n x =>
      simp only [aop] at hr ⊢
      split at hr
      · cases hr;exact ⟨_,rfl,k⟩
      · cases hr;exact ⟨_,rfl,k⟩
      · cases hr;exact ⟨_,rfl,k⟩
      · split at hr
        · rename_i r _ _ es hg
          cases hr;exact ⟨h,by rw [k.map hg],k⟩
        · cases hr
      · cases hr
    case convBS x =>
      simp only [aop] at hr ⊢
      split at hr
      · rename_i p n c _
        split at hr
        · rename_i h0;cases hr;exact ⟨h,by rw [if_pos h0],k⟩
        · rename_i h0
          rw [if_neg h0]
          split at hr
          · rename_i b o _
            rw [k.rd] at hr
            cases hrd:h.rd b o n with
            | none=>simp [hrd] at hr
            | some cs =>
              simp only [hrd] at hr ⊢
              cases hu:u8s cs with
              | none=>simp [hu] at hr
              | some ns=>simp only [hu,Option.map_some,Option.some.injEq,Prod.mk.injEq] at hr ⊢;obtain ⟨rfl,rfl⟩:=hr;exact ⟨_,⟨rfl,rfl⟩,k⟩
          · cases hr
      · cases hr
    case slcV n esz x lo hi =>
      simp only [aop] at hr ⊢
      split at hr
      · split at hr
        · rename_i c z hg
          split at hr
          · split at hr
            · rename_i hc
              cases hr
              obtain ⟨own',e1,e2⟩:=k.cells hg
              rcases e2 with rfl|e2
              · exact ⟨h,by simp only [e1];rw [if_pos hc],k⟩
              · cases e2
            · cases hr
          · cases hr
        · cases hr
      · cases hr
    case appS bytes s x =>
      simp only [aop] at hr ⊢
      split at hr
      · unfold appTo at hr ⊢
        split at hr
        · rename_i hm;cases hr;exact ⟨h,by rw [if_pos hm],k⟩
        · rename_i hm
          rw [if_neg hm]
          split at hr
          · rename_i hlim
            rw [if_pos hlim]
            split at hr
            · split at hr
              · rename_i hn
                simp only [Option.some.injEq,Prod.mk.injEq] at hr;obtain ⟨rfl,rfl⟩:=hr
                exact ⟨_,by rw [if_pos hn,k.size],k.push _⟩
              · cases hr
            · rename_i b
              split at hr
              · rename_i old z hg
                split at hr
                · rename_i hc
                  simp only [Option.some.injEq,Prod.mk.injEq] at hr;obtain ⟨rfl,rfl⟩:=hr
                  obtain ⟨own',e1,e2⟩:=k.cells hg
                  rcases e2 with rfl|e2
                  · exact ⟨_,by simp only [e1];rw [if_pos ⟨hc.1,hc.2.1,Nat.le_trans k.prot hc.2.2.1,hc.2.2.2⟩,k.size],(k.set _ _).push _⟩
                  · cases e2
                · cases hr
              · cases hr
            · cases hr
          · cases hr
      · cases hr
    case append esz bytes s x =>
      simp only [aop] at hr ⊢
      split at hr
      · rename_i p n c q m c' _ _
        split at hr
        · rename_i hm;cases hr;exact ⟨h,by rw [if_pos hm],k⟩
        · rename_i hm
          rw [if_neg hm]
          split at hr
          · rename_i hlim
            rw [if_pos hlim]
            split at hr
            · rename_i qb qo _
              rw [k.rd] at hr
              skip
              cases hrd:h.rd qb qo (m * esz) with
              | none=>simp [hrd] at hr
              | some new =>
                simp only [hrd] at hr ⊢
                split at hr
                · rename_i hok
                  rw [if_pos hok]
                  split at hr
                  · split at hr
                    · rename_i hn
                      simp only [Option.some.injEq,Prod.mk.injEq] at hr;obtain ⟨rfl,rfl⟩:=hr
                      exact ⟨_,by rw [if_pos hn,k.size],k.push _⟩
                    · cases hr
                  · rename_i b
                    split at hr
                    · rename_i old z hg
                      split at hr
                      · rename_i hc
                        simp only [Option.some.injEq,Prod.mk.injEq] at hr;obtain ⟨rfl,rfl⟩:=hr
                        obtain ⟨own',e1,e2⟩:=k.cells hg
                        rcases e2 with rfl|e2
                        · exact ⟨_,by simp only [e1];rw [if_pos ⟨hc.1,hc.2.1,Nat.le_trans k.prot hc.2.2.1,hc.2.2.2⟩,k.size],(k.set _ _).push _⟩
                        · cases e2
                      · cases hr
                    · cases hr
                  · split at hr
                    · rename_i hn
                      simp only [Option.some.injEq,Prod.mk.injEq] at hr;obtain ⟨rfl,rfl⟩:=hr
                      exact ⟨_,by rw [if_pos hn,k.size],k.push _⟩
                    · cases hr
                  · cases hr
                · cases hr
            · cases hr
          · cases hr
      · cases hr
    case copy esz d s =>
      simp only [aop] at hr ⊢
      split at hr
      · split at hr
        · rename_i hm;cases hr;exact ⟨h,by rw [if_pos hm],k⟩
        · rename_i hm
          rw [if_neg hm]
          split at hr
          · rw [k.rd] at hr
            split at hr
            · rename_i cc hrd
              obtain ⟨g2,hw,he⟩:=Option.map_eq_some_iff.1 hr
              simp only [Prod.mk.injEq] at he;obtain ⟨rfl,rfl⟩:=he
              obtain ⟨h2,hw2,k2⟩:=k.wr hw
              exact ⟨h2,by simp only [hrd,hw2];rfl,k2⟩
            · cases hr
          · cases hr
      · cases hr
    case clear z x =>
      simp only [aop] at hr ⊢
      split at hr
      · split at hr
        · rename_i hm;cases hr;exact ⟨h,by rw [if_pos hm],k⟩
        · rename_i hm
          rw [if_neg hm]
          split at hr
          · obtain ⟨g2,hw,he⟩:=Option.map_eq_some_iff.1 hr
            simp only [Prod.mk.injEq] at he;obtain ⟨rfl,rfl⟩:=he
            obtain ⟨h2,hw2,k2⟩:=k.wr hw
            exact ⟨h2,by simp only [hw2];rfl,k2⟩
          · cases hr
      · cases hr
    case call=>cases hr

def frz (g:Heap) (b:Nat):Prop:=b < g.size∧(b < g.prot∨∃ c,g.get b=some (.cells c none))

structure St (g h:Heap):Prop where
  size:g.size≤h.size
  fr:∀ b,frz g b→frz h b∧h.get b=g.get b

theorem St.refl (h:Heap):St h h:=⟨Nat.le_refl _,fun b hb=>⟨hb,rfl⟩⟩
theorem St.trans {a b c:Heap} (h:St a b) (k:St b c):St a c:=⟨Nat.le_trans h.size k.size,fun x hx=>by
  obtain ⟨h1,h2⟩:=h.fr x hx
  obtain ⟨h3,h4⟩:=k.fr x h1
  exact ⟨h3,h4.trans h2⟩⟩
theorem St.of_eq (hs:g.size≤h.size) (hp:h.prot=g.prot) (he:∀ b,frz g b→h.get b=g.get b):St g h :=
  ⟨hs,fun b hb=>⟨⟨Nat.lt_of_lt_of_le hb.1 hs,by rcases hb.2 with h1|⟨c,h1⟩;exact .inl (by omega);exact .inr ⟨c,by rw [he b hb];exact h1⟩⟩,he b hb⟩⟩
theorem St.push (h:Heap) (o:AObj):St h (h.push o):=.of_eq (by simp) rfl fun b hb=>by rw [Heap.get_push,if_neg (by have:=hb.1;omega)]
theorem St.set {h:Heap} {b:Nat} (o:AObj) (hp:h.prot≤b) (ho:∀ c,h.get b≠some (.cells c none)):St h (h.set b o):=.of_eq (Nat.le_refl _) rfl fun c hc=>by
  rw [Heap.get_set]
  split
  · rename_i e;subst e
    rcases hc.2 with h1|⟨x,h1⟩
    · omega
    · exact absurd h1 (ho x)
  · rfl
theorem St.wr {b o:Nat} {vs:List Value} (hr:h.wr b o vs=some h'):St h h':=by
  unfold Heap.wr at hr
  split at hr
  · rename_i c z hg
    split at hr
    · rename_i hc;cases hr;exact .set _ hc.1 (fun x hx=>by rw [hg] at hx;cases hx)
    · cases hr
  · cases hr

theorem aop_st {op:AOp} {e:Env} {v:Value} (hr:aop op e h=some (v,h')):St h h'∧h'.prot=h.prot:=by
  refine ⟨?_,(aop_ext hr).prot⟩
  cases ht:touches op with
  | false =>
    obtain ⟨p,hp⟩:=heapFree (op:=op) (e:=e) ht
    rw [hp] at hr
    cases p with
    | none=>cases hr
    | some p=>cases hr;exact .refl _
  | true =>
    cases op <;> first|(exact Bool.noConfusion ht)|skip
    case alloc z=>simp only [aop,Option.some.injEq,Prod.mk.injEq] at hr;obtain ⟨rfl,rfl⟩:=hr;exact .push _ _
    case mkmap=>simp only [aop,Option.some.injEq,Prod.mk.injEq] at hr;obtain ⟨rfl,rfl⟩:=hr;exact .push _ _
    case box x =>
      simp only [aop] at hr
      split at hr
      · simp only [Option.some.injEq,Prod.mk.injEq] at hr;obtain ⟨rfl,rfl⟩:=hr;exact .push _ _
      · cases hr
    case convSB x =>
      simp only [aop] at hr
      split at hr
      · simp only [Option.some.injEq,Prod.mk.injEq] at hr;obtain ⟨rfl,rfl⟩:=hr;exact .push _ _
      · cases hr
    case bslice esz len z ps =>
      simp only [aop] at hr
      cases h1:evps e ps with
      | none=>simp [h1] at hr
      | some vs =>
        cases h2:fillA z vs with
        | none=>simp [h1,h2] at hr
        | some c=>simp only [h1,h2,Option.bind_some,Option.map_some,Option.some.injEq,Prod.mk.injEq] at hr;obtain ⟨rfl,rfl⟩:=hr;exact .push _ _
    case load1 a =>
      simp only [aop] at hr
      split at hr
      · obtain ⟨u,_,he⟩:=Option.map_eq_some_iff.1 hr;cases he;exact .refl _
      · cases hr
    case loadN n a =>
      simp only [aop] at hr
      split at hr
      · obtain ⟨u,_,he⟩:=Option.map_eq_some_iff.1 hr;cases he;exact .refl _
      · cases hr
    case store n a x =>
      simp only [aop] at hr
      split at hr
      · split at hr
        · obtain ⟨g2,hw,he⟩:=Option.map_eq_some_iff.1 hr
          simp only [Prod.mk.injEq] at he;obtain ⟨rfl,rfl⟩:=he
          exact .wr hw
        · cases hr
      · cases hr
    case mkslice esz bytes z l c =>
      simp only [aop] at hr
      split at hr
      · split at hr
        · simp only [Option.some.injEq,Prod.mk.injEq] at hr;obtain ⟨rfl,rfl⟩:=hr;exact .push _ _
        · cases hr
      · cases hr
    case lookup s z ok m kk =>
      simp only [aop] at hr
      repeat' split at hr
      all_goals first|(cases hr;done)|(cases hr;exact .refl _)
    case mapent s z m kk =>
      simp only [aop] at hr
      split at hr
      · split at hr
        · rename_i es hg
          split at hr
          · rename_i hc
            obtain ⟨⟨i0,v0,es'⟩,h1,he⟩:=Option.map_eq_some_iff.1 hr
            simp only [Prod.mk.injEq] at he;obtain ⟨rfl,rfl⟩:=he
            exact .set _ hc.1 (fun x hx=>by rw [hg] at hx;cases hx)
          · cases hr
        · cases hr
      · cases hr
    case entst m t u =>
      simp only [aop] at hr
      split at hr
      · split at hr
        · rename_i es hg
          split at hr
          · split at hr
            · rename_i hc
              simp only [Option.some.injEq,Prod.mk.injEq] at hr;obtain ⟨rfl,rfl⟩:=hr
              exact .set _ hc (fun x hx=>by rw [hg] at hx;cases hx)
            · cases hr
          · cases hr
        · cases hr
      · cases hr
    case mapupd s m kk u =>
      simp only [aop] at hr
      split at hr
      · split at hr
        · rename_i es hg
          split at hr
          · rename_i hc
            obtain ⟨es',h1,he⟩:=Option.map_eq_some_iff.1 hr
            simp only [Prod.mk.injEq] at he;obtain ⟨rfl,rfl⟩:=he
            exact .set _ hc.1 (fun x hx=>by rw [hg] at hx;cases hx)
          · cases hr
        · cases hr
      · cases hr
    case len n x =>
      simp only [aop] at hr
      repeat' split at hr
      all_goals first|(cases hr;done)|(cases hr;exact .refl _)
    case convBS x =>
      simp only [aop] at hr
      split at hr
      · split at hr
        · cases hr;exact .refl _
        · split at hr
          · split at hr
            · obtain ⟨u,_,he⟩:=Option.map_eq_some_iff.1 hr;cases he;exact .refl _
            · cases hr
          · cases hr
      · cases hr
    case slcV n esz x lo hi =>
      simp only [aop] at hr
      repeat' split at hr
      all_goals first|(cases hr;done)|(cases hr;exact .refl _)
    case appS bytes s x =>
      simp only [aop] at hr
      split at hr
      · unfold appTo at hr
        split at hr
        · cases hr;exact .refl _
        · split at hr
          · split at hr
            · split at hr
              · cases hr;exact .push _ _
              · cases hr
            · split at hr
              · rename_i old z hg
                split at hr
                · rename_i hc;cases hr;exact (St.set _ hc.2.2.1 (fun x hx=>by rw [hg] at hx;cases hx)).trans (.push _ _)
                · cases hr
              · cases hr
            · cases hr
          · cases hr
      · cases hr
    case append esz bytes s x =>
      simp only [aop] at hr
      split at hr
      · split at hr
        · cases hr;exact .refl _
        · split at hr
          · split at hr
            · split at hr
              · split at hr
                · split at hr
                  · split at hr
                    · cases hr;exact .push _ _
                    · cases hr
                  · split at hr
                    · rename_i old z hg
                      split at hr
                      · rename_i hc;cases hr;exact (St.set _ hc.2.2.1 (fun x hx=>by rw [hg] at hx;cases hx)).trans (.push _ _)
                      · cases hr
                    · cases hr
                  · split at hr
                    · cases hr;exact .push _ _
                    · cases hr
                  · cases hr
                · cases hr
              · cases hr
            · cases hr
          · cases hr
      · cases hr
    case copy esz d s =>
      simp only [aop] at hr
      split at hr
      · split at hr
        · cases hr;exact .refl _
        · split at hr
          · split at hr
            · obtain ⟨g2,hw,he⟩:=Option.map_eq_some_iff.1 hr
              simp only [Prod.mk.injEq] at he;obtain ⟨rfl,rfl⟩:=he
              exact .wr hw
            · cases hr
          · cases hr
      · cases hr
    case clear z x =>
      simp only [aop] at hr
      split at hr
      · split at hr
        · cases hr;exact .refl _
        · split at hr
          · obtain ⟨g2,hw,he⟩:=Option.map_eq_some_iff.1 hr
            simp only [Prod.mk.injEq] at he;obtain ⟨rfl,rfl⟩:=he
            exact .wr hw
          · cases hr
      · cases hr
    case call=>cases hr

inductive Kt where
  | c (b:ACode)
  | o (d:Bool) (l:List AI)
  | ap (n:Nat) (l:List (Nat × Nat))
  | blk (id:Nat)

section
variable {prog:AProg} {ro:Option Nat} {e e':Env} {Q:Pst} {k:List Kt}

def Runs (prog:AProg) (f:FuncId) (args:List Value) (h:Heap) (Q:Value→Heap→Prop):Prop :=
  ∀ H,Less h H→∃ n v H' h',callV prog n (.func f) args H=some (v,H')∧H'.prot=H.prot∧Less h' H'∧St h h'∧h'.prot=h.prot∧Q v h'

def RunsY (prog:AProg) (l:Nat) (args:List Value) (h:Heap) (Q:Value→Heap→Prop):Prop :=
  ∀ H,Less h H→∃ n v H' h',callV prog n (.yield l) args H=some (v,H')∧H'.prot=H.prot∧Less h' H'∧St h h'∧h'.prot=h.prot∧Q v h'

def WP (prog:AProg) (ro:Option Nat) (c:ACode) (e:Env) (h:Heap) (Q:Pst):Prop :=
  ∀ H,Less h H→∃ n x e' H' h',evC (callV prog n) n ro c e H=some (x,e',H')∧H'.prot=H.prot∧Less h' H'∧St h h'∧Q x e' h'

def WL (prog:AProg) (d:Bool) (l:List AI) (e:Env) (h:Heap) (Q:Env→Heap→Prop):Prop :=
  ∀ H,Less h H→∃ n e' H' h',evL (callV prog n) d l e H=some (e',H')∧H'.prot=H.prot∧Less h' H'∧St h h'∧Q e' h'

def At (prog:AProg) (ro:Option Nat):List Kt→AX→Env→Heap→Pst→Prop
  | [],x,e,h,Q=>Q x e h
  | .c b::k,.norm,e,h,Q=>WP prog ro b e h (fun x e h=>At prog ro k x e h Q)
  | .o d l::k,.norm,e,h,Q=>WL prog d l e h (fun e h=>At prog ro k .norm e h Q)
  | .ap n l::k,.norm,e,h,Q=>apartE n e l=true∧At prog ro k .norm e h Q
  | .blk id::k,.exit i,e,h,Q=>At prog ro k (if i=id then .norm else .exit i) e h Q
  | _::k,x,e,h,Q=>At prog ro k x e h Q

/-- What runs from a heap alone, of all that have more rights, runs at last from that heap. -/
theorem Runs.run {f:FuncId} {args:List Value} {R:Value→Heap→Prop} (hr:Runs prog f args h R):∃ n v H' h',callV prog n (.func f) args h=some (v,H')∧Less h' H'∧R v h' :=
  let ⟨n,v,H',h',h1,_,h2,_,_,h3⟩:=hr h (.refl h);⟨n,v,H',h',h1,h2,h3⟩

theorem Runs.mono {f:FuncId} {args:List Value} {R R':Value→Heap→Prop} (hr:Runs prog f args h R) (hq:∀ v h',St h h'→h'.prot=h.prot→R v h'→R' v h'):Runs prog f args h R':=fun H hH =>
  let ⟨n,v,H',h',h1,h2,h3,h4,h5,h6⟩:=hr H hH;⟨n,v,H',h',h1,h2,h3,h4,h5,hq _ _ h4 h5 h6⟩

theorem WP.mono {c:ACode} {Q':Pst} (hw:WP prog ro c e h Q) (hq:∀ x e h',St h h'→Q x e h'→Q' x e h'):WP prog ro c e h Q':=fun H hH =>
  let ⟨n,x,e',H',h',h1,h2,h3,h4,h5⟩:=hw H hH;⟨n,x,e',H',h',h1,h2,h3,h4,hq _ _ _ h4 h5⟩

theorem WP.less {c:ACode} (hl:Less g h) (hs:St h g) (hw:WP prog ro c e g Q):WP prog ro c e h Q:=fun H hH =>
  let ⟨n,x,e',H',h',h1,h2,h3,h4,h5⟩:=hw H (hl.trans hH);⟨n,x,e',H',h',h1,h2,h3,hs.trans h4,h5⟩
theorem WL.less {d:Bool} {l:List AI} {Q:Env→Heap→Prop} (hl:Less g h) (hs:St h g) (hw:WL prog d l e g Q):WL prog d l e h Q:=fun H hH =>
  let ⟨n,e',H',h',h1,h2,h3,h4,h5⟩:=hw H (hl.trans hH);⟨n,e',H',h',h1,h2,h3,hs.trans h4,h5⟩

theorem up {n m:Nat} (hnm:n≤m) {c:ACode} {r} (hr:evC (callV prog n) n ro c e H=some r):evC (callV prog m) m ro c e H=some r:=evC_mono (callV_mono prog hnm) hnm hr

theorem WP.seq {a b:ACode} (hw:WP prog ro a e h (fun x e h=>match x with|.norm=>WP prog ro b e h Q|x=>Q x e h)):WP prog ro (.seq a b) e h Q:=by
  intro H hH
  obtain ⟨n,x,e1,H1,h1,hr,hp,hl,hs,hq⟩:=hw H hH
  cases x with
  | norm =>
    obtain ⟨m,x,e2,H2,h2,hr2,hp2,hl2,hs2,hq2⟩:=hq H1 hl
    refine ⟨Nat.max n m,x,e2,H2,h2,?_,hp2.trans hp,hl2,hs.trans hs2,hq2⟩
    simp only [evC]
    rw [up (Nat.le_max_left n m) hr]
    exact up (Nat.le_max_right n m) hr2
  | exit i=>exact ⟨n,.exit i,e1,H1,h1,by simp only [evC];rw [hr],hp,hl,hs,hq⟩
  | ret=>exact ⟨n,.ret,e1,H1,h1,by simp only [evC];rw [hr],hp,hl,hs,hq⟩

theorem at_seq {a b:ACode} (hw:At prog ro (.c a::.c b::k) .norm e h Q):At prog ro (.c (.seq a b)::k) .norm e h Q:=by
  refine WP.seq (WP.mono hw ?_)
  intro x e h _ hq
  cases x <;> exact hq

theorem at_ops {d:Bool} {l:List AI} (hw:At prog ro (.o d l::k) .norm e h Q):At prog ro (.c (.ops d l)::k) .norm e h Q:=by
  intro H hH
  obtain ⟨n,e1,H1,h1,hr,hp,hl,hs,hq⟩:=hw H hH
  exact ⟨n,.norm,e1,H1,h1,by simp only [evC,hr,Option.map_some],hp,hl,hs,hq⟩

theorem at_opsA {ap:List (Nat × Nat)} {l:List AI} (hw:At prog ro (.o true l::.ap h.size ap::k) .norm e h Q):At prog ro (.c (.opsA ap l)::k) .norm e h Q:=by
  intro H hH
  obtain ⟨n,e1,H1,h1,hr,hp,hl,hs,ha,hq⟩:=hw H hH
  exact ⟨n,.norm,e1,H1,h1,by simp only [evC,hr];rw [← hH.size,ha];rfl,hp,hl,hs,hq⟩
theorem at_apart {n:Nat} {ap:List (Nat × Nat)} (ha:apartE n e ap=true) (hw:At prog ro k .norm e h Q):At prog ro (.ap n ap::k) .norm e h Q:=⟨ha,hw⟩
theorem at_block {id:Nat} {b:ACode} (hw:At prog ro (.c b::.blk id::k) .norm e h Q):At prog ro (.c (.block id b)::k) .norm e h Q:=by
  intro H hH
  obtain ⟨n,x,e1,H1,h1,hr,hp,hl,hs,hq⟩:=hw H hH
  cases x with
  | norm=>exact ⟨n,.norm,e1,H1,h1,by simp only [evC];rw [hr],hp,hl,hs,hq⟩
  | ret=>exact ⟨n,.ret,e1,H1,h1,by simp only [evC];rw [hr],hp,hl,hs,hq⟩
  | exit i =>
    by_cases hi:i=id
    · subst hi
      refine ⟨n,.norm,e1,H1,h1,by simp only [evC];rw [hr];simp,hp,hl,hs,?_⟩
      simpa [At] using hq
    · refine ⟨n,.exit i,e1,H1,h1,by simp only [evC];rw [hr];simp only;rw [show (i == id)=false by simpa using hi];rfl,hp,hl,hs,?_⟩
      simpa [At,hi] using hq

theorem here (h:Heap) (c:ACode) (x:AX) (e0:Env) {Q:Pst} (hr:∀ n H,evC (callV prog n) n ro c e H=some (x,e0,H)) (hq:Q x e0 h):WP prog ro c e h Q :=
  fun H hH=>⟨0,x,e0,H,h,hr 0 H,rfl,hH,.refl h,hq⟩

theorem at_skip (hw:At prog ro k .norm e h Q):At prog ro (.c .skip::k) .norm e h Q:=here h _ _ _ (fun _ _=>rfl) hw
theorem at_exit {id:Nat} (hw:At prog ro k (.exit id) e h Q):At prog ro (.c (.exit id)::k) .norm e h Q:=here h _ _ _ (fun _ _=>rfl) hw
theorem at_ret (hw:At prog ro k .ret e h Q):At prog ro (.c .ret::k) .norm e h Q:=here h _ _ _ (fun _ _=>rfl) hw
theorem at_keep {l:List Nat} (hw:At prog ro k .norm (keepE e l) h Q):At prog ro (.c (.keep l)::k) .norm e h Q:=here h _ _ _ (fun _ _=>rfl) hw
theorem at_kp {l:List Nat} (he:keepE e l=e') (hw:At prog ro k .norm e' h Q):At prog ro (.c (.keep l)::k) .norm e h Q:=at_keep (by rw [he];exact hw)
theorem at_blk {id:Nat} (hw:At prog ro k .norm e h Q):At prog ro (.blk id::k) .norm e h Q:=hw
theorem at_blk_exit {id:Nat} (hw:At prog ro k .norm e h Q):At prog ro (.blk id::k) (.exit id) e h Q:=by simpa [At] using hw
theorem at_blk_pass {id i:Nat} (hne:(i == id)=false) (hw:At prog ro k (.exit i) e h Q):At prog ro (.blk id::k) (.exit i) e h Q:=by
  have:i≠id:=by simpa using hne
  simpa [At,this] using hw
theorem at_c_exit {i:Nat} {b:ACode} (hw:At prog ro k (.exit i) e h Q):At prog ro (.c b::k) (.exit i) e h Q:=hw
theorem at_c_ret {b:ACode} (hw:At prog ro k .ret e h Q):At prog ro (.c b::k) .ret e h Q:=hw
theorem at_o_ret {d:Bool} {l:List AI} (hw:At prog ro k .ret e h Q):At prog ro (.o d l::k) .ret e h Q:=hw
theorem at_blk_ret {id:Nat} (hw:At prog ro k .ret e h Q):At prog ro (.blk id::k) .ret e h Q:=hw
theorem at_nil {d:Bool} (hw:At prog ro k .norm e h Q):At prog ro (.o d []::k) .norm e h Q:=fun H hH=>⟨0,e,H,h,rfl,rfl,hH,.refl h,hw⟩

theorem at_true {c:Operand} {t f:ACode} (hc:ev e c=some (.bool true)) (ht:At prog ro (.c t::k) .norm e h Q):At prog ro (.c (.cond c t f)::k) .norm e h Q:=by
  intro H hH
  obtain ⟨n,x,e1,H1,h1,hr,hq⟩:=ht H hH;exact ⟨n,x,e1,H1,h1,by simp only [evC];rw [hc];exact hr,hq⟩
theorem at_false {c:Operand} {t f:ACode} (hc:ev e c=some (.bool false)) (ht:At prog ro (.c f::k) .norm e h Q):At prog ro (.c (.cond c t f)::k) .norm e h Q:=by
  intro H hH
  obtain ⟨n,x,e1,H1,h1,hr,hq⟩:=ht H hH;exact ⟨n,x,e1,H1,h1,by simp only [evC];rw [hc];exact hr,hq⟩
theorem at_cond {c:Operand} {t f:ACode} {b:Bool} (hc:ev e c=some (.bool b)) (ht:b=true→At prog ro (.c t::k) .norm e h Q) (hf:b=false→At prog ro (.c f::k) .norm e h Q):At prog ro (.c (.cond c t f)::k) .norm e h Q:=by
  cases b with
  | true=>exact at_true hc (ht rfl)
  | false=>exact at_false hc (hf rfl)

/-- In a region whose order is open nothing that was there is written. -/
def opD (o:Bool) (op:AOp) (e:Env) (h:Heap):Option (Value × Heap) :=
  bif o then (aop op e (h.withProt h.size)).map (fun p=>(p.1,p.2.withProt h.prot)) else aop op e h

theorem St.wp (h:Heap):St h (h.withProt h.size):=⟨Nat.le_refl _,fun b hb=>⟨⟨hb.1,.inl hb.1⟩,rfl⟩⟩
theorem opD_st {o:Bool} {op:AOp} {v:Value} (hr:opD o op e h=some (v,h')):St h h'∧h'.prot=h.prot:=by
  cases o with
  | false=>exact aop_st hr
  | true =>
    simp only [opD,cond_true] at hr
    obtain ⟨⟨u,h1⟩,h2,he⟩:=Option.map_eq_some_iff.1 hr
    simp only [Prod.mk.injEq] at he;obtain ⟨rfl,rfl⟩:=he
    obtain ⟨s,p⟩:=aop_st h2
    refine ⟨.of_eq s.size rfl fun b hb=>?_,rfl⟩
    exact (s.fr b ⟨hb.1,.inl hb.1⟩).2
theorem opD_mono {o:Bool} {op:AOp} {v:Value} (k:Less g h) (hr:opD o op e g=some (v,g')):∃ h',opD o op e h=some (v,h')∧h'.prot=h.prot∧Less g' h':=by
  cases o with
  | false =>
    obtain ⟨h',h1,h2⟩:=aop_mono k hr
    exact ⟨h',h1,(aop_st h1).2,h2⟩
  | true =>
    simp only [opD,cond_true] at hr ⊢
    obtain ⟨⟨u,h1⟩,h2,he⟩:=Option.map_eq_some_iff.1 hr
    simp only [Prod.mk.injEq] at he;obtain ⟨rfl,rfl⟩:=he
    obtain ⟨h3,h4,h5⟩:=aop_mono k.wp h2
    exact ⟨h3.withProt h.prot,by rw [h4];rfl,rfl,h5.back k.prot⟩

theorem opV_op {call:CallT} {op:AOp} {v:Value} (hr:aop op e h=some (v,h')):opV call op e h=some (v,h'):=by
  cases op <;> first|exact hr|cases hr

theorem at_one {d bar:Bool} {dst:Option Nat} {op:AOp} {r:List AI} {v:Value} (hv:opD (d && !bar) op e h=some (v,h')) (hw:At prog ro (.o d r::k) .norm (put e dst v) h' Q):At prog ro (.o d (⟨dst,op,none,bar⟩::r)::k) .norm e h Q:=by
  intro H hH
  obtain ⟨H1,h1,hp1,hl1⟩:=opD_mono hH hv
  obtain ⟨n,e2,H2,h2,hr,hp,hl,hs,hq⟩:=hw H1 hl1
  refine ⟨n,e2,H2,h2,?_,hp.trans hp1,hl,(opD_st hv).1.trans hs,hq⟩
  simp only [evL]
  have h4:(bif d then evID (callV prog n) ⟨dst,op,none,bar⟩ e H else evI (callV prog n) ⟨dst,op,none,bar⟩ e H)=some (put e dst v,H1):=by
    cases d with
    | false =>
      simp only [Bool.false_and,opD,cond_false] at h1
      simp only [cond_false,evI,wanted,opV_op h1,Option.map_some]
    | true =>
      cases bar with
      | true =>
        simp only [Bool.not_true,Bool.and_false,opD,cond_false] at h1
        simp only [cond_true,evID,evI,wanted,opV_op h1,Option.map_some]
      | false =>
        simp only [Bool.not_false,Bool.and_true,opD,cond_true] at h1
        obtain ⟨⟨u,h5⟩,h6,he⟩:=Option.map_eq_some_iff.1 h1
        simp only [Prod.mk.injEq] at he;obtain ⟨rfl,rfl⟩:=he
        simp only [cond_true,cond_false,evID,evI,wanted,opV_op h6,Option.map_some]
  rw [h4]
  exact hr

theorem evI_guard_true {call:CallT} {i:AI} {s:Nat} {b:Bool} (hg:Env.get e s=some (.bool b)) (h:Heap) (dst:Option Nat) (op:AOp) (bar:Bool):evI call ⟨dst,op,some (s,b),bar⟩ e h=evI call ⟨dst,op,none,bar⟩ e h:=by
  simp only [evI,wanted,hg,BEq.rfl]

/-- A guard that is so. -/
theorem at_guard_t {d bar:Bool} {dst:Option Nat} {op:AOp} {r:List AI} {s:Nat} {b:Bool} (hg:Env.get e s=some (.bool b)) (hw:At prog ro (.o d (⟨dst,op,none,bar⟩::r)::k) .norm e h Q):At prog ro (.o d (⟨dst,op,some (s,b),bar⟩::r)::k) .norm e h Q:=by
  intro H hH
  obtain ⟨n,e2,H2,h2,hr,hq⟩:=hw H hH
  refine ⟨n,e2,H2,h2,?_,hq⟩
  rw [← hr]
  simp only [evL,evID]
  have:=fun h=>evI_guard_true (call:=callV prog n) (i:=⟨dst,op,none,bar⟩) hg h dst op bar
  simp only [this]

/-- One that is not. -/
theorem at_guard_f {d bar:Bool} {dst:Option Nat} {op:AOp} {r:List AI} {s:Nat} {b:Bool} (hg:Env.get e s=some (.bool (!b))) (hw:At prog ro (.o d r::k) .norm (put e dst undef) h Q):At prog ro (.o d (⟨dst,op,some (s,b),bar⟩::r)::k) .norm e h Q:=by
  intro H hH
  obtain ⟨n,e2,H2,h2,hr,hq⟩:=hw H hH
  refine ⟨n,e2,H2,h2,?_,hq⟩
  rw [← hr]
  have h3:∀ h,evI (callV prog n) ⟨dst,op,some (s,b),bar⟩ e h=some (put e dst undef,h):=fun h=>by
    simp only [evI,wanted,hg]
    cases b <;> rfl
  simp only [evL]
  have h4:(bif d then evID (callV prog n) ⟨dst,op,some (s,b),bar⟩ e H else evI (callV prog n) ⟨dst,op,some (s,b),bar⟩ e H)=some (put e dst undef,H):=by
    cases d with
    | false=>exact h3 H
    | true =>
      simp only [cond_true,evID]
      cases bar with
      | true=>exact h3 H
      | false=>simp only [cond_false,h3,Option.map_some];rfl
  rw [h4]
theorem at_guard_u {d bar:Bool} {dst:Option Nat} {op:AOp} {r:List AI} {s:Nat} {b:Bool} (hg:Env.get e s=some undef) (hw:At prog ro (.o d r::k) .norm (put e dst undef) h Q):At prog ro (.o d (⟨dst,op,some (s,b),bar⟩::r)::k) .norm e h Q:=by
  intro H hH
  obtain ⟨n,e2,H2,h2,hr,hq⟩:=hw H hH
  refine ⟨n,e2,H2,h2,?_,hq⟩
  rw [← hr]
  have h3:∀ h,evI (callV prog n) ⟨dst,op,some (s,b),bar⟩ e h=some (put e dst undef,h):=fun h=>by
    simp only [evI,wanted,hg,undef]
  simp only [evL]
  have h4:(bif d then evID (callV prog n) ⟨dst,op,some (s,b),bar⟩ e H else evI (callV prog n) ⟨dst,op,some (s,b),bar⟩ e H)=some (put e dst undef,H):=by
    cases d with
    | false=>exact h3 H
    | true =>
      simp only [cond_true,evID]
      cases bar with
      | true=>exact h3 H
      | false=>simp only [cond_false,h3,Option.map_some];rfl
  rw [h4]

/-- A call. -/
theorem at_call {d:Bool} {dst:Option Nat} {r:List AI} {f:Operand} {as:List Operand} {fn:FuncId} {first captured:Array Value} {vs:List Value} (hf:ev e f=some (.func (.func fn) first captured)) (hvs:evs e as=some vs)
    (hc:Runs prog fn (first.toList++vs++captured.toList) h (fun v h'=>At prog ro (.o d r::k) .norm (put e dst v) h' Q)):At prog ro (.o d (⟨dst,.call f as,none,true⟩::r)::k) .norm e h Q:=by
  intro H hH
  obtain ⟨n,v,H1,h1,hr,hp,hl,hs,hp',hq⟩:=hc H hH
  obtain ⟨m,e2,H2,h2,hr2,hp2,hl2,hs2,hq2⟩:=hq H1 hl
  refine ⟨Nat.max n m,e2,H2,h2,?_,hp2.trans hp,hl2,hs.trans hs2,hq2⟩
  have h3:evI (callV prog (Nat.max n m)) ⟨dst,.call f as,none,true⟩ e H=some (put e dst v,H1):=by
    unfold evI
    simp only [wanted,opV,hf,hvs]
    rw [callV_mono prog (Nat.le_max_left n m) _ _ _ _ hr];rfl
  have h4:(bif d then evID (callV prog (Nat.max n m)) ⟨dst,.call f as,none,true⟩ e H else evI (callV prog (Nat.max n m)) ⟨dst,.call f as,none,true⟩ e H)=some (put e dst v,H1):=by
    cases d with
    | false=>exact h3
    | true=>simp only [cond_true,evID];exact h3
  simp only [evL]
  rw [h4]
  exact evL_mono (callV_mono prog (Nat.le_max_right n m)) hr2
theorem at_call0 {dst:Option Nat} {r:List AI} {f:Operand} {as:List Operand} {fn:FuncId} {first captured:Array Value} {vs:List Value} (hf:ev e f=some (.func (.func fn) first captured)) (hvs:evs e as=some vs)
    (hc:Runs prog fn (first.toList++vs++captured.toList) h (fun v h'=>At prog ro (.o false r::k) .norm (put e dst v) h' Q)):At prog ro (.o false (⟨dst,.call f as,none,false⟩::r)::k) .norm e h Q:=by
  intro H hH
  obtain ⟨n,v,H1,h1,hr,hp,hl,hs,hp',hq⟩:=hc H hH
  obtain ⟨m,e2,H2,h2,hr2,hp2,hl2,hs2,hq2⟩:=hq H1 hl
  refine ⟨Nat.max n m,e2,H2,h2,?_,hp2.trans hp,hl2,hs.trans hs2,hq2⟩
  simp only [evL,cond_false,evI,wanted,opV,hf,hvs]
  rw [callV_mono prog (Nat.le_max_left n m) _ _ _ _ hr]
  exact evL_mono (callV_mono prog (Nat.le_max_right n m)) hr2

/-- A loop: a law that holds at its head, a number that falls, and a law behind it. -/
theorem at_loop2 {b:ACode} (I:Nat→Env→Heap→Prop) (O:AX→Env→Heap→Prop) {m:Nat} (h0:I m e h) (round:∀ m e h1,St h h1→I m e h1→At prog ro [.c b] .norm e h1 (fun x e' h'=>match x with
    | .norm=>∃ j,j < m∧I j e' h'
    | x=>O x e' h')) (out:∀ x e h1,St h h1→O x e h1→At prog ro k x e h1 Q):At prog ro (.c (.loop b)::k) .norm e h Q:=by
  have key:∀ m e h1,St h h1→I m e h1→∀ H,Less h1 H→∃ n x e' H' h',loopN (evC (callV prog n) n ro b) n e H=some (x,e',H')∧H'.prot=H.prot∧Less h' H'∧St h h'∧At prog ro k x e' h' Q:=by
    intro m
    induction m using Nat.strongRecOn with
    | _ m ih =>
      intro e h1 hst hI H hH
      obtain ⟨n,x,e1,H1,h2,hr,hp,hl,hs,hq⟩:=round m e h1 hst hI H hH
      have hst':=hst.trans hs
      cases x with
      | norm =>
        obtain ⟨j,hj,hI'⟩:=hq
        obtain ⟨n2,x2,e2,H2,h3,hr2,hp2,hl2,hs2,hq2⟩:=ih j hj e1 h2 hst' hI' H1 hl
        refine ⟨Nat.max n n2 + 1,x2,e2,H2,h3,?_,hp2.trans hp,hl2,hs2,hq2⟩
        simp only [loopN]
        rw [up (Nat.le_succ_of_le (Nat.le_max_left n n2)) hr]
        exact loopN_mono (fun e h r hr=>up (Nat.le_succ_of_le (Nat.le_max_right n n2)) hr) (Nat.le_max_right n n2) hr2
      | exit i =>
        refine ⟨n + 1,.exit i,e1,H1,h2,?_,hp,hl,hst',out _ _ _ hst' hq⟩
        simp only [loopN]
        rw [up (Nat.le_succ n) hr]
      | ret =>
        refine ⟨n + 1,.ret,e1,H1,h2,?_,hp,hl,hst',out _ _ _ hst' hq⟩
        simp only [loopN]
        rw [up (Nat.le_succ n) hr]
  intro H hH
  obtain ⟨n,x,e',H',h',hr,hp,hl,hs,hq⟩:=key m e h (.refl h) h0 H hH
  exact ⟨n,x,e',H',h',hr,hp,hl,hs,hq⟩

/-- A call, by the body. -/
theorem runs_code {fn:FuncId} {f:AFn} {args:List Value} {R:Value→Heap→Prop} (hp:prog fn=some (.code f)) (hn:args.length=f.np) {g:Heap} (hg:Less g h) (hgs:St h g)
    (hw:At prog none [.c f.body] .norm (argEnv 0 args) g (fun x e h1=>(∀ i,x≠.exit i)∧∃ vs,resL e h1 f.res=some vs∧R (tupV vs) (h1.withProt h.prot))):Runs prog fn args h R:=by
  intro H hH
  obtain ⟨n,x,e1,H1,h1,hr,hp1,hl,hs,hne,vs,hvs,hq⟩:=hw H (hg.trans hH)
  have hst:=hgs.trans hs
  have hvs':resL e1 H1 f.res=some vs:=by
    rw [← hvs]
    have:∀ r,resV e1 H1 r=resV e1 h1 r:=by
      intro r
      cases r with
      | tmp t=>rfl
      | cell1 a=>unfold resV;simp only [hl.cell]
      | cellN a n=>unfold resV;simp only [hl.rd]
    generalize f.res=rs
    induction rs with
    | nil=>rfl
    | cons r rs ih=>simp only [resL,this,ih]
  refine ⟨n + 1,tupV vs,H1,h1.withProt h.prot,?_,hp1,⟨hl.size,by rw [hp1];exact hH.prot,hl.obj⟩,⟨hst.size,fun b hb=>?_⟩,rfl,hq⟩
  · simp only [callV,hp,runF,hn,if_true]
    rw [hr]
    cases x with
    | exit i=>exact absurd rfl (hne i)
    | norm=>simp [hvs']
    | ret=>simp [hvs']
  · have h2:=(hst.fr b hb).2
    refine ⟨⟨Nat.lt_of_lt_of_le hb.1 hst.size,?_⟩,h2⟩
    rcases hb.2 with h3|⟨c,h3⟩
    · exact .inl h3
    · exact .inr ⟨c,by rw [Heap.get_withProt,h2,h3]⟩

/-- One that leaves the heap's rights as they are. -/
theorem runs_here {fn:FuncId} {f:AFn} {args:List Value} {R:Value→Heap→Prop} (hp:prog fn=some (.code f)) (hn:args.length=f.np)
    (hw:At prog none [.c f.body] .norm (argEnv 0 args) h (fun x e h1=>(∀ i,x≠.exit i)∧∃ vs,resL e h1 f.res=some vs∧R (tupV vs) (h1.withProt h.prot))):Runs prog fn args h R :=
  runs_code hp hn (.refl h) (.refl h) hw

theorem Less.raise (h:Heap) (hp:h.prot≤h.size):Less (h.withProt h.size) h:=⟨rfl,hp,fun b=>.inl rfl⟩

theorem runs_oracle {fn:FuncId} {o:List Value→Heap→Option (Value × Heap)} {args:List Value} {R:Value→Heap→Prop} {v:Value} (hp:prog fn=some (.oracle o)) (hr:∀ H,o args H=some (v,H)) (hq:R v h):Runs prog fn args h R :=
  fun H hH=>⟨1,v,H,h,by simp only [callV,hp];exact hr H,rfl,hH,.refl h,rfl,hq⟩
end
end Go.AM.G

