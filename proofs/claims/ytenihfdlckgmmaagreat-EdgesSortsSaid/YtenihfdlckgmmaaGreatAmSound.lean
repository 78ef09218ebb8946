/- A part of the abstract machine, or of what is proved of the program by it. -/
import Derived.Test.YtenihfdlckgmmaaGreatAmDrawA
namespace Go.AM
set_option linter.unusedVariables false
set_option linter.unusedSimpArgs false
variable {P:Program} {w:World} {ι:Inj} {h h':Heap} {e e':Env} {a:Act} {N:Nat} {v:Value} {op:AOp} {call:CallT} {F:Fence} {n m:Nat} {ro:Option Nat}

def toExit:AX→Exit
  | .norm=>.normal
  | .exit id=>.exit id
  | .ret=>.ret

/-- Which fence, in which round. -/
def In (ι:Inj) (F:Fence):Option Nat→Prop
  | none=>F=Fence.wide
  | some l=>∃ i,ι l=some i∧F=Fence.wide.inRound i.blk

theorem In.wide (hI:In ι F ro):Wide F:=by
  cases ro with
  | none=>exact .inl hI
  | some l=>obtain ⟨i,_,h⟩:=hI;exact .inr ⟨_,h⟩
theorem In.mono {κ:Inj} (hk:Le ι κ) (hI:In ι F ro):In κ F ro:=by
  cases ro with
  | none=>exact hI
  | some l=>obtain ⟨i,h1,h2⟩:=hI;exact ⟨i,hk _ _ h1,h2⟩

/-- The marks of loops that have been gone through. -/
structure Marks (W0:Nat) (ι:Inj) (h:Heap) (w:World) (ds:List Deferred):Prop where
  nodup:(ds.map (·.target)).Pairwise (fun x y=>∀ r s,x=.collected r→y=.collected s→r≠s)
  mark:∀ d ∈ ds,∃ D,d.target=.collected D∧W0≤D∧w.heap[D]? = some (.deferred (some []))∧∀ b i,ι b=some i→owned h b→i.blk≠D

theorem Marks.nil {W0:Nat}:Marks W0 ι h w []:=⟨List.Pairwise.nil,fun d hd=>by cases hd⟩

theorem Marks.step {W0:Nat} {ι':Inj} {w':World} {ds:List Deferred} (hS:Sim P ι h w) (r:Rel P ι h w ι' h' w') (hm:Marks W0 ι h w ds):Marks W0 ι' h' w' ds:=by
  refine ⟨hm.nodup,fun d hd=>?_⟩
  obtain ⟨D,h1,h2,h3,h4⟩:=hm.mark d hd
  have hlt:D < w.heap.size:=(Array.getElem?_eq_some_iff.1 h3).1
  refine ⟨D,h1,h2,by rw [r.fr.block D hlt (fun b i e1 e2 _=>h4 b i e1 e2)];exact h3,fun b i hb ho=>?_⟩
  cases hq:ι b with
  | some i2 =>
    have:=r.le b i2 hq
    rw [this] at hb;cases hb
    exact h4 b i hq (r.own b (hS.dom b i hq).1 ho)
  | none =>
    obtain ⟨_,g|⟨b0,i0,g1,g2,_,g4⟩⟩:=r.new b i hb hq
    · omega
    · rw [← g4];exact h4 b0 i0 g1 g2

/-- A scope that no goto leaves. -/
def noGoto (Q:Exit→Act→World→Prop):Exit→Act→World→Prop
  | .goto _,_,_=>False
  | e,a,w=>Q e a w
theorem stepR_scope {P:Program} {b:Frame} {a:Act} {k:List Item} {cs:List Frame} {w:World} {c:Code}:step P (lone (b.atR a (.code (.scope c)::k)) cs w)=.next (lone (b.atR a (.code c::.inScope c::k)) cs w) :=
  step_lone_go (by simp [stepG,stepG.exec,Frame.atR])
theorem stepR_inScope {P:Program} {b:Frame} {a:Act} {k:List Item} {cs:List Frame} {w:World} {c:Code}:step P (lone (b.atR a (.inScope c::k)) cs w)=.next (lone (b.atR a k) cs w) :=
  step_lone_go (by simp [stepG,stepG.exec,Frame.atR])
theorem wpIn_scope {F:Fence} {n:Nat} {P:Program} {a:Act} {w:World} {Q:Exit→Act→World→Prop} {c:Code} (h:c.wpIn F n P (noGoto Q) a w):(Code.scope c).wpIn F n P Q a w:=by
  intro b k cs hro hb hr
  have h0:(lone (b.atR a (.code (.scope c)::k)) cs w).fenced P F:=fenced_calm hb hr rfl
  obtain ⟨e,a₁,w₁,hq,harr⟩:=h b (.inScope c::k) cs hro hb hr
  cases e with
  | normal=>exact ⟨.normal,a₁,w₁,hq,.head h0 stepR_scope (StepsIn.trans harr (.one (fenced_calm hb hr rfl) stepR_inScope))⟩
  | exit id' =>
    have hx:exitTo id' (.inScope c::k)=exitTo id' k:=by simp [exitTo]
    exact ⟨.exit id',a₁,w₁,hq,fun k' hk=>.head h0 stepR_scope (harr.1 k' (by rw [hx];exact hk)),
      fun hr' hk=>let ⟨k₁,h1,h2⟩:=harr.2 hr' (by rw [hx];exact hk);⟨k₁,h1,.head h0 stepR_scope h2⟩⟩
  | goto l=>exact hq.elim
  | ret=>exact ⟨_,a₁,w₁,hq,.of_steps (.one h0 stepR_scope) harr⟩
  | panic ch=>exact ⟨_,a₁,w₁,hq,.of_steps (.one h0 stepR_scope) harr⟩
  | outgrown=>exact ⟨_,a₁,w₁,hq,.of_steps (.one h0 stepR_scope) harr⟩
theorem noGoto_to {Q:Exit→Act→World→Prop} {x:AX} {a:Act} {w:World} (h:Q (toExit x) a w):noGoto Q (toExit x) a w:=by cases x <;> exact h

section
variable {c:Code}
theorem compC_skip (hc:compC P N c=some .skip):c=.skip∨∃ l,c=.label l:=by
  cases c <;> simp only [compC,reduceCtorEq,Option.some.injEq,Option.map_eq_some_iff,and_false,exists_false] at hc
  case skip=>exact .inl rfl
  case label l=>exact .inr ⟨l,rfl⟩
  case region id ops dr =>
    split at hc
    · split at hc
      · obtain ⟨⟨ks,ap,l2⟩,_,h2⟩:=Option.map_eq_some_iff.1 hc;cases h2
      · split at hc
        · obtain ⟨⟨ap,l2⟩,_,h2⟩:=Option.map_eq_some_iff.1 hc;cases h2
        · cases hc
    · cases hc
  all_goals exact absurd hc (by first|(split <;> first|(split <;> first|(split <;> simp)|simp)|simp)|simp)
theorem compC_ops {d:Bool} {l:List AI} (hc:compC P N c=some (.ops d l)):∃ id ops,c=.region id ops d∧compR P N ops d=some l:=by
  cases c <;> simp only [compC,reduceCtorEq,Option.some.injEq,Option.map_eq_some_iff,and_false,exists_false] at hc
  case region id ops dr =>
    split at hc
    · rename_i l' h1
      split at hc
      · obtain ⟨⟨ks,ap,l2⟩,_,h2⟩:=Option.map_eq_some_iff.1 hc;cases h2
      · split at hc
        · obtain ⟨⟨ap,l2⟩,_,h2⟩:=Option.map_eq_some_iff.1 hc;cases h2
        · cases hc;exact ⟨id,ops,rfl,h1⟩
    · cases hc
  all_goals exact absurd hc (by first|(split <;> first|(split <;> first|(split <;> simp)|simp)|simp)|simp)
theorem compC_opsA {ap:List (Nat × Nat)} {l:List AI} (hc:compC P N c=some (.opsA ap l)):∃ id ops,c=.region id ops true∧compRA P N ops=some (ap,l):=by
  cases c <;> simp only [compC,reduceCtorEq,Option.some.injEq,Option.map_eq_some_iff,and_false,exists_false] at hc
  case region id ops dr =>
    split at hc
    · rename_i l' h1
      split at hc
      · obtain ⟨⟨ks,ap,l2⟩,_,h2⟩:=Option.map_eq_some_iff.1 hc;cases h2
      · split at hc
        · rename_i hd
          obtain ⟨⟨ap,l2⟩,h3,h2⟩:=Option.map_eq_some_iff.1 hc;cases h2
          simp only [Bool.and_eq_true] at hd
          obtain rfl:=hd.1
          exact ⟨id,ops,rfl,h3⟩
        · cases hc
    · cases hc
  all_goals exact absurd hc (by first|(split <;> first|(split <;> first|(split <;> simp)|simp)|simp)|simp)
theorem compC_opsK {ks ap:List (Nat × Nat)} {l:List AI} (hc:compC P N c=some (.opsK ks ap l)):∃ id ops,c=.region id ops true∧compRK P N ops=some (ks,ap,l):=by
  cases c <;> simp only [compC,reduceCtorEq,Option.some.injEq,Option.map_eq_some_iff,and_false,exists_false] at hc
  case region id ops dr =>
    split at hc
    · rename_i l' h1
      split at hc
      · rename_i hd
        obtain ⟨⟨ks,ap,l2⟩,h3,h2⟩:=Option.map_eq_some_iff.1 hc;cases h2
        simp only [Bool.and_eq_true] at hd
        obtain rfl:=hd.1
        exact ⟨id,ops,rfl,h3⟩
      · split at hc
        · obtain ⟨⟨ap,l2⟩,_,h2⟩:=Option.map_eq_some_iff.1 hc;cases h2
        · cases hc
    · cases hc
  all_goals exact absurd hc (by first|(split <;> first|(split <;> first|(split <;> simp)|simp)|simp)|simp)
theorem compC_seq {x y:ACode} (hc:compC P N c=some (.seq x y)):∃ p q,c=.seq p q∧compC P N p=some x∧compC P N q=some y:=by
  cases c <;> simp only [compC,reduceCtorEq,Option.some.injEq,Option.map_eq_some_iff,and_false,exists_false] at hc
  case seq p q =>
    split at hc
    · rename_i x' y' h1 h2;simp only [Option.some.injEq,ACode.seq.injEq] at hc;obtain ⟨rfl,rfl⟩:=hc;exact ⟨p,q,rfl,h1,h2⟩
    · cases hc
  all_goals exact absurd hc (by first|(split <;> first|(split <;> first|(split <;> simp)|simp)|simp)|simp)
theorem compC_cond {o:Operand} {x y:ACode} (hc:compC P N c=some (.cond o x y)):(∃ p q,c=.cond o p q∧okO o=true∧compC P N p=some x∧compC P N q=some y)∨∃ p,c=.scope p∧o=.const (.bool true)∧compC P N p=some x:=by
  cases c <;> simp only [compC,reduceCtorEq,Option.some.injEq,Option.map_eq_some_iff,and_false,exists_false] at hc
  case cond o' p q =>
    split at hc
    · rename_i ho
      split at hc
      · rename_i x' y' h1 h2;simp only [Option.some.injEq,ACode.cond.injEq] at hc;obtain ⟨rfl,rfl,rfl⟩:=hc;exact .inl ⟨p,q,rfl,ho,h1,h2⟩
      · cases hc
    · cases hc
  case scope p =>
    obtain ⟨x',h1,h2⟩:=hc
    simp only [ACode.cond.injEq] at h2
    obtain ⟨rfl,rfl,_⟩:=h2
    exact .inr ⟨p,rfl,rfl,h1⟩
  all_goals exact absurd hc (by first|(split <;> first|(split <;> first|(split <;> simp)|simp)|simp)|simp)
theorem compC_block {id:Nat} {x:ACode} (hc:compC P N c=some (.block id x)):∃ p,c=.block id p∧compC P N p=some x:=by
  cases c <;> simp only [compC,reduceCtorEq,Option.some.injEq,Option.map_eq_some_iff,and_false,exists_false] at hc
  case block id' p=>obtain ⟨y,h1,h2⟩:=hc;cases h2;exact ⟨p,rfl,h1⟩
  all_goals exact absurd hc (by first|(split <;> first|(split <;> first|(split <;> simp)|simp)|simp)|simp)
theorem compC_loop {x:ACode} (hc:compC P N c=some (.loop x)):∃ p,c=.loop p∧compC P N p=some x:=by
  cases c <;> simp only [compC,reduceCtorEq,Option.some.injEq,Option.map_eq_some_iff,and_false,exists_false] at hc
  case loop p=>obtain ⟨y,h1,h2⟩:=hc;cases h2;exact ⟨p,rfl,h1⟩
  all_goals exact absurd hc (by first|(split <;> first|(split <;> first|(split <;> simp)|simp)|simp)|simp)
theorem compC_rfun {f:Operand} {ps:List Nat} {x y:ACode} (hc:compC P N c=some (.rfun f ps x y)):∃ qs p q,c=.rangeFunc f qs p q∧qs.toList=ps∧okO f=true∧(∀ t ∈ ps,t < N)∧compC P N p=some x∧compC P N q=some y:=by
  cases c <;> simp only [compC,reduceCtorEq,Option.some.injEq,Option.map_eq_some_iff,and_false,exists_false] at hc
  case rangeFunc f' qs p q =>
    split at hc
    · rename_i ho
      simp only [Bool.and_eq_true,List.all_eq_true,decide_eq_true_eq] at ho
      split at hc
      · rename_i x' y' h1 h2;simp only [Option.some.injEq,ACode.rfun.injEq] at hc;obtain ⟨rfl,rfl,rfl,rfl⟩:=hc;exact ⟨qs,p,q,rfl,rfl,ho.1,ho.2,h1,h2⟩
      · cases hc
    · cases hc
  all_goals exact absurd hc (by first|(split <;> first|(split <;> first|(split <;> simp)|simp)|simp)|simp)
theorem compC_exit {id:Nat} (hc:compC P N c=some (.exit id)):c=.exit id:=by
  cases c <;> simp only [compC,reduceCtorEq,Option.some.injEq,Option.map_eq_some_iff,and_false,exists_false,ACode.exit.injEq] at hc
  case exit id'=>rw [hc]
  all_goals exact absurd hc (by first|(split <;> first|(split <;> first|(split <;> simp)|simp)|simp)|simp)
theorem compC_ret (hc:compC P N c=some .ret):c=.ret:=by
  cases c <;> simp only [compC,reduceCtorEq,Option.some.injEq,Option.map_eq_some_iff,and_false,exists_false] at hc
  case ret=>rfl
  all_goals exact absurd hc (by first|(split <;> first|(split <;> first|(split <;> simp)|simp)|simp)|simp)
theorem compC_keep {l:List Nat} (hc:compC P N c=some (.keep l)):False:=by
  cases c <;> simp only [compC,reduceCtorEq,Option.some.injEq,Option.map_eq_some_iff,and_false,exists_false] at hc
  all_goals exact absurd hc (by first|(split <;> first|(split <;> first|(split <;> simp)|simp)|simp)|simp)
end

theorem erase_seq (x y:ACode):(∃ l,x=.keep l∧erase (.seq x y)=erase y)∨(∃ l,y=.keep l∧erase (.seq x y)=erase x)∨erase (.seq x y)=.seq (erase x) (erase y):=by
  cases x <;> first|exact .inl ⟨_,rfl,rfl⟩|skip
  all_goals (cases y <;> first|exact .inr (.inl ⟨_,rfl,rfl⟩)|exact .inr (.inr rfl))

/-- What is asked behind a run. -/
def After (P:Program) (N W0:Nat) (ι:Inj) (h:Heap) (w:World) (ro:Option Nat) (df:List Deferred) (e':Env) (h':Heap) (K:Act→World→Prop):Prop :=
  ∀ a' w' ι',Rel P ι h w ι' h' w'→FR N ι' e' a'.tmps→Marks W0 ι' h' w' a'.defers→(ro.isSome=true→a'.defers=df)→K a' w'

theorem seq_then {Q:Exit→Act→World→Prop} {K:Act→World→Prop} {x:AX} {a':Act} {w':World} (h1:x=.norm→K a' w') (h2:x≠.norm→Q (toExit x) a' w'):Exit.then K Q (toExit x) a' w':=by
  cases x with
  | norm=>exact h1 rfl
  | exit id=>exact h2 (by simp)
  | ret=>exact h2 (by simp)

theorem r_getObj {r:Nat} {O:Obj} (h:w.heap[r]? = some O) (hc:∀ c T fz,O≠.cells c T fz):(getObj r).run P w=.ok O w:=by
  cases O <;> first|exact absurd rfl (hc _ _ _)|simp [getObj,Sem.run,h]
theorem r_setObj {r:Nat} {O O':Obj} (h:w.heap[r]? = some O) (hc:∀ c T fz,O≠.cells c T fz):(setObj r O').run P w=.ok () { w with heap:=w.heap.setIfInBounds r O' }:=by
  cases O <;> first|exact absurd rfl (hc _ _ _)|simp [setObj,Sem.run,h]
theorem r_getLoop {r:Nat} {L:Loop} (h:w.heap[r]? = some (.loop L)):(Instr.getLoop r).run P w=.ok L w:=by
  simp only [Instr.getLoop,Sem.run_bind,r_getObj h (by simp),Result.andThen_ok,Sem.run_pure]

/-- A range over a function. -/
theorem rfun_sound {W0:Nat} (hcs:CallSound P call) (hI:In ι F ro) {f:Operand} {ps:List Nat} {asg body:ACode} {qs:Array Tmp} {p q:Code} (hqs:qs.toList=ps) (hf:okO f=true) (hps:∀ t ∈ ps,t < N) (hp:compC P N p=some (erase asg)) (hq:compC P N q=some (erase body))
    {x:AX} (hr:evC call n ro (.rfun f ps asg body) e h=some (x,e',h')) (hS:Sim P ι h w) (hF:FR N ι e a.tmps) (hM:Marks W0 ι h w a.defers) (hW0:W0≤w.heap.size) {Q:Exit→Act→World→Prop} (hQ:After P N W0 ι h w ro a.defers e' h' (Q (toExit x))) :
    (Code.rangeFunc f qs p q).wpIn F m P Q a w:=by
  have hW:=hI.wide
  simp only [evC] at hr
  split at hr
  · rename_i k first captured hev
    split at hr
    · rename_i hpre
      split at hr
      · rename_i v1 h1 hcall
        split at hr
        · rename_i r hg
          split at hr
          · cases hr
          · rename_i hst
            simp only [Option.some.injEq,Prod.mk.injEq] at hr;obtain ⟨rfl,rfl,rfl⟩:=hr
            obtain ⟨⟨fnc,g1,g2,g3⟩,g4⟩:=hcs.fn _ _ _ _ _ hcall
            have vf:=hF.ev hf hev
            -- the record
            obtain ⟨w1,wl,l,mark,D,hl,hent,hrel1,hmark,hmarkD⟩:∃ (w1 wl:World) (l:Nat) (mark:List Deferred) (D:Nat),l=wl.heap.size ∧
                (∀ fn,(Instr.enterLoop fn a.tmps qs p q F.round).run P w=.ok (l,mark) (wl.alloc (.loop { state:=.ready,pending:=none,fn,tmps:=a.tmps,params:=qs,assign:=p,body:=q,defers:=D }))) ∧
                Rel P ι h w ι h wl∧(ro.isSome=true→mark=[])∧(mark=[]∨(mark=[{ target:=.collected D,args:=#[] }]∧D=w.heap.size∧wl.heap[D]? = some (.deferred (some [])))):=by
              cases ro with
              | none =>
                have hFr:F.round=none:=by rw [show F=Fence.wide from hI];rfl
                refine ⟨w,w.alloc (.deferred (some [])),_,[{ target:=.collected w.heap.size,args:=#[] }],w.heap.size,rfl,fun fn=>?_,Rel.other hS (.deferred (some [])) rfl rfl rfl rfl,(fun hq=>by cases hq),.inr ⟨rfl,rfl,?_⟩⟩
                · simp only [hFr,Instr.enterLoop,Sem.run_bind,r_newObj,Result.andThen_ok,Sem.run_pure]
                · rw [heap_alloc_get,if_pos rfl]
              | some l0 =>
                obtain ⟨i,hi,hFi⟩:=hI
                have hFr:F.round=some i.blk:=by rw [hFi];rfl
                have hro:=hpre.2
                simp only [roOk] at hro
                split at hro
                · rename_i r0 hg0
                  obtain ⟨O,o1,L0,rfl,_⟩:=hS.obj l0 i _ hi hg0
                  refine ⟨w,w,_,[],L0.defers,rfl,fun fn=>?_,Rel.refl hS,fun _=>rfl,.inl rfl⟩
                  simp only [hFr,Instr.enterLoop,Sem.run_bind,r_getLoop o1,Result.andThen_ok,Sem.run_pure,r_newObj]
                · cases hro
            have hSl:=hrel1.sim
            have hF1:FR N ι e a.tmps:=hF
            let ι1:=upd ι h.size ⟨wl.heap.size,0,0⟩
            have hle1:Le ι ι1:=upd_le (hS.none (Nat.le_refl _))
            refine wpIn_rangeFunc (fun fn _=>?_)
            have hrelp:Rel P ι h wl ι1 (h.push (.loop ⟨ps,asg,body,e,.ready,none⟩)) (wl.alloc (.loop { state:=.ready,pending:=none,fn,tmps:=a.tmps,params:=qs,assign:=p,body:=q,defers:=D })) :=
              Rel.push hSl (O:=.loop { state:=.ready,pending:=none,fn,tmps:=a.tmps,params:=qs,assign:=p,body:=q,defers:=D }) rfl ⟨_,rfl,hqs,N,hp,hq,hF1.mono hle1,hps,rfl,rfl⟩ rfl rfl rfl rfl
            generalize hw2:wl.alloc (.loop { state:=.ready,pending:=none,fn,tmps:=a.tmps,params:=qs,assign:=p,body:=q,defers:=D })=w2 at hrelp
            generalize hfv:a.eval f=fv at vf
            cases vf with
            | fn h1' h2' h3' h4' =>
              rename_i f1 f1' c1 c1'
              have vy:V ι1 (.func (.yield h.size) #[] #[]) (.func (.yield l) #[] #[]):=by rw [hl];exact V.yield (i:=⟨wl.heap.size,0,0⟩) (upd_same _ _ _)
              have vargs:VL ι1 (f1.toArray.toList++[.func (.yield h.size) #[] #[]]++c1.toArray.toList) (f1'++[.func (.yield l) #[] #[]]++c1'):=by
                have:=VL.append (VL.append ((show VL ι f1 f1' from ⟨h1',h2'⟩).mono hle1) (VL.single vy)) ((show VL ι c1 c1' from ⟨h3',h4'⟩).mono hle1)
                simpa using this
              have hcallS:=g4 ι1 w2 _ hrelp.sim vargs
              have hres:(resolve a.eval (rangeCall f l) 0).run P w2=.ok { target:=.fn (.func k) c1'.toArray,args:=f1'.toArray++#[.func (.yield l) #[] #[]] } w2:=by
                simp only [rangeCall,resolve,hfv,Deferred.ofValue,Sem.run_pure]
                simp [Act.eval]
              have earr:(f1'.toArray++#[Value.func (.yield l) #[] #[]])++c1'.toArray=(f1'++[Value.func (.yield l) #[] #[]]++c1').toArray:=by
                apply Array.ext';simp
              have hinv:(invoke (.fn (.func k) c1'.toArray) (f1'.toArray++#[.func (.yield l) #[] #[]])).run P w2=.ok (.enter k (f1'++[Value.func (.yield l) #[] #[]]++c1').toArray) w2:=by
                simp only [invoke,callFunc,Sem.run_bind,r_program,Result.andThen_ok,g1,g2,g3,Bool.false_eq_true,if_false,Sem.run_pure,earr]
              refine ⟨l,mark,w2,_,w2,k,_,w2,by rw [hent fn,hw2],hres,fun f' _=>hW.fn f',hinv,hW.depth,(hW.calls hcallS).mono ?_⟩
              rintro e1 w3 ⟨v',ι2,rfl,k1,k2⟩
              -- behind the loop
              have hrel2:Rel P ι h w ι2 h1 w3:=Rel.trans hS hrel1 (Rel.trans hSl hrelp k2)
              have hιl:ι2 h.size=some ⟨wl.heap.size,0,0⟩:=k2.le _ _ (upd_same _ _ _)
              obtain ⟨O,o1,L,rfl,lr⟩:=k2.sim.obj h.size _ _ hιl hg
              have o1':w3.heap[l]? = some (.loop L):=by rw [hl];exact o1
              obtain ⟨_,N',_,_,_,_,lst,lpend⟩:=lr
              have hnb:(L.state == .busy)=false:=by
                rw [lst]
                cases hs:r.st with
                | ready=>rfl
                | busy=>exact absurd hs hst
                | done=>rfl
              have hrel3:Rel P ι2 h1 w3 ι2 (h1.set h.size .dead) { w3 with heap:=w3.heap.setIfInBounds l (.loop { L with state:=.exhausted }) } :=
                Rel.set k2.sim hιl (by unfold owned;rw [hg];trivial) (by rw [hrel2.prot];exact hpre.1) trivial (by rw [hl]) rfl rfl rfl
              generalize hw4:({ w3 with heap:=w3.heap.setIfInBounds l (.loop { L with state:=.exhausted }) }:World)=w4 at hrel3
              have hend:(Instr.endLoop l).run P w3=.ok L.pending w4:=by
                simp only [Instr.endLoop,Sem.run_bind,r_getLoop o1',Result.andThen_ok,hnb,Bool.false_eq_true,if_false,r_setObj o1' (by simp),Sem.run_pure,hw4]
              have hrel4:Rel P ι h w ι2 (h1.set h.size .dead) w4:=Rel.trans hS hrel2 hrel3
              have hMa:Marks W0 ι2 (h1.set h.size .dead) w4 (mark++a.defers):=by
                have hMold:Marks W0 ι2 (h1.set h.size .dead) w4 a.defers:=Marks.step hS hrel4 hM
                rcases hmarkD with rfl|⟨rfl,hD,hDl⟩
                · exact hMold
                · have hM1:Marks W0 ι h wl [{ target:=.collected D,args:=#[] }]:=by
                    refine ⟨List.pairwise_singleton _ _,fun d hd=>?_⟩
                    rw [List.mem_singleton] at hd;subst hd
                    exact ⟨D,rfl,by omega,hDl,fun b i hb _=>by have:=(hS.dom b i hb).2;omega⟩
                  have hM2:=Marks.step hSl (Rel.trans hSl hrelp (Rel.trans hrelp.sim k2 hrel3)) hM1
                  refine ⟨?_,fun d hd=>?_⟩
                  · simp only [List.singleton_append,List.map_cons,List.pairwise_cons]
                    refine ⟨fun t ht r' s' e1 e2=>?_,hMold.nodup⟩
                    obtain ⟨d,hd,rfl⟩:=List.mem_map.1 ht
                    obtain ⟨D',d1,_,d3,_⟩:=hM.mark d hd
                    cases e1
                    rw [d1] at e2;cases e2
                    have:=(Array.getElem?_eq_some_iff.1 d3).1;omega
                  · rcases List.mem_append.1 hd with hd|hd
                    · exact hM2.mark d hd
                    · exact hMold.mark d hd
              have hfin:Q (toExit (r.pend.getD .norm)) { a with defers:=mark++a.defers } w4 :=
                hQ _ w4 ι2 hrel4 (hF.mono hrel4.le) hMa (fun hq=>by show mark++a.defers=a.defers;rw [hmark hq];rfl)
              refine ⟨L.pending,w4,hend,?_⟩
              rw [lpend]
              cases hpd:r.pend with
              | none=>rw [hpd] at hfin;exact hfin
              | some x =>
                rw [hpd] at hfin
                cases x with
                | norm=>exact hfin
                | exit id=>exact wpIn_exit hfin
                | ret=>exact wpIn_ret hfin
        · cases hr
      · cases hr
    · cases hr
  · cases hr

/-- A loop in its round. -/
def Turn (F:Fence) (n:Nat) (P:Program) (c:Code) (Q:Exit→Act→World→Prop) (a:Act) (w:World):Prop :=
  ∀ (b:Frame) (k:List Item) (cs:List Frame),b.roundOf=F.round→F.fn b.fn→F.room (cs.length + 1 + n) →
    ∃ e a' w',Q e a' w'∧ArrivesIn (Machine.fenced P F) P (lone (b.atR a (.code c::.inLoop c::k)) cs w) b k cs e a' w'

theorem turn_step {c:Code} {Q:Exit→Act→World→Prop} (h:c.wpIn F m P (Exit.then (Turn F m P c Q) Q) a w):Turn F m P c Q a w:=by
  intro b k cs hro hb hr
  obtain ⟨e,a₁,w₁,hq,harr⟩:=h b (.inLoop c::k) cs hro hb hr
  cases e with
  | normal =>
    obtain ⟨e₂,a₂,w₂,hq₂,harr₂⟩:=hq b k cs hro hb hr
    exact ⟨e₂,a₂,w₂,hq₂,.of_steps (StepsIn.trans harr (.one (fenced_calm hb hr rfl) stepR_inLoop)) harr₂⟩
  | exit id=>exact ⟨_,a₁,w₁,hq,.pass (x:=.inLoop c) rfl (fun _ _=>.inl (by simp)) harr⟩
  | goto l=>exact ⟨_,a₁,w₁,hq,.pass (x:=.inLoop c) rfl (fun _ _=>.inl (by simp)) harr⟩
  | ret=>exact ⟨_,a₁,w₁,hq,.pass (x:=.inLoop c) rfl (fun _ _=>.inl (by simp)) harr⟩
  | panic ch=>exact ⟨_,a₁,w₁,hq,.pass (x:=.inLoop c) rfl (fun _ _=>.inl (by simp)) harr⟩
  | outgrown=>exact ⟨_,a₁,w₁,hq,.pass (x:=.inLoop c) rfl (fun _ _=>.inl (by simp)) harr⟩

theorem loop_of_turn {c:Code} {Q:Exit→Act→World→Prop} (h:Turn F m P c Q a w):(Code.loop c).wpIn F m P Q a w:=by
  intro b k cs hro hb hr
  obtain ⟨e,a',w',hq,harr⟩:=h b k cs hro hb hr
  exact ⟨e,a',w',hq,.of_steps (.one (fenced_calm hb hr rfl) stepR_loop) harr⟩

theorem turns_sound {W0:Nat} {c:Code} {x:ACode}
    (body:∀ {ι:Inj} {e e':Env} {h h':Heap} {a:Act} {w:World} {z:AX} {Q:Exit→Act→World→Prop},evC call n ro x e h=some (z,e',h')→In ι F ro →
      Sim P ι h w→FR N ι e a.tmps→Marks W0 ι h w a.defers→W0≤w.heap.size→After P N W0 ι h w ro a.defers e' h' (Q (toExit z))→c.wpIn F m P Q a w) :
    ∀ (j:Nat) {ι:Inj} {e e':Env} {h h':Heap} {a:Act} {w:World} {z:AX} {Q:Exit→Act→World→Prop},loopN (evC call n ro x) j e h=some (z,e',h')→In ι F ro →
      Sim P ι h w→FR N ι e a.tmps→Marks W0 ι h w a.defers→W0≤w.heap.size→After P N W0 ι h w ro a.defers e' h' (Q (toExit z))→Turn F m P c Q a w:=by
  intro j
  induction j with
  | zero=>intro ι e e' h h' a w z Q hr;cases hr
  | succ j ih =>
    intro ι e e' h h' a w z Q hr hI hS hF hM hW0 hQ
    simp only [loopN] at hr
    apply turn_step
    split at hr
    · rename_i e1 h1 hx
      refine body hx hI hS hF hM hW0 (fun a' w' ι' r f mm d=>?_)
      exact ih hr (hI.mono r.le) r.sim f mm (Nat.le_trans hW0 r.fr.size) (fun a2 w2 ι2 r2 f2 m2 d2=>hQ a2 w2 ι2 (Rel.trans hS r r2) f2 m2 (fun hs=>(d2 hs).trans (d hs)))
    · rename_i hno
      refine body hr hI hS hF hM hW0 (fun a' w' ι' r f mm d=>seq_then (fun hz=>?_) (fun _=>hQ a' w' ι' r f mm d))
      subst hz;exact absurd hr (hno _ _)

/-- **Code.** -/
theorem code_sound {W0:Nat} (hcs:CallSound P call):∀ (c:ACode) (code:Code) {ι:Inj} {e e':Env} {h h':Heap} {a:Act} {w:World} {x:AX} {Q:Exit→Act→World→Prop},compC P N code=some (erase c)→evC call n ro c e h=some (x,e',h')→In ι F ro →
    Sim P ι h w→FR N ι e a.tmps→Marks W0 ι h w a.defers→W0≤w.heap.size→After P N W0 ι h w ro a.defers e' h' (Q (toExit x))→code.wpIn F m P Q a w:=by
  intro c
  induction c with
  | skip =>
    intro code ι e e' h h' a w x Q hc hr hI hS hF hM hW0 hQ
    simp only [evC,Option.some.injEq,Prod.mk.injEq] at hr;obtain ⟨rfl,rfl,rfl⟩:=hr
    rcases compC_skip hc with rfl|⟨l,rfl⟩
    · exact wpIn_skip (hQ a w ι (Rel.refl hS) hF hM (fun _=>rfl))
    · exact wpIn_label (hQ a w ι (Rel.refl hS) hF hM (fun _=>rfl))
  | ops d l =>
    intro code ι e e' h h' a w x Q hc hr hI hS hF hM hW0 hQ
    obtain ⟨id,ops,rfl,hcr⟩:=compC_ops hc
    simp only [evC] at hr
    obtain ⟨⟨e2,h2⟩,h1,he⟩:=Option.map_eq_some_iff.1 hr
    simp only [Prod.mk.injEq] at he;obtain ⟨rfl,rfl,rfl⟩:=he
    have fin:∀ a' w' ι',Rel P ι h w ι' h2 w'→FR N ι' e2 a'.tmps→a'.defers=a.defers→Q .normal a' w':=fun a' w' ι' r f d=>hQ a' w' ι' r f (by rw [d];exact Marks.step hS r hM) (fun _=>d)
    cases d with
    | true=>exact draw_sound hI.wide hcs hcr h1 hS hF fin
    | false =>
      have hcr':compL P N ops (fun _=>false) 0 ops.toList=some l:=hcr
      obtain ⟨c1,c2⟩:=compL_get hcr'
      refine wpIn_region ?_
      rw [List.range_eq_range',show ops.size=l.length by simpa using c1.symm]
      refine ops_sound hI.wide hcs (bars:=fun _=>false) l 0 (fun k i hk=>?_) h1 hS hF fin
      have hlt:k < ops.size:=by have:=(List.getElem?_eq_some_iff.1 hk).1;simp at c1;omega
      obtain ⟨i',g1,g2⟩:=c2 k ops[k] (by simp [hlt])
      rw [hk] at g1;cases g1
      exact ⟨ops[k],by simp [hlt],g2⟩
  | opsA ap l =>
    intro code ι e e' h h' a w x Q hc hr hI hS hF hM hW0 hQ
    obtain ⟨id,ops,rfl,hcr⟩:=compC_opsA hc
    simp only [evC] at hr
    split at hr
    · rename_i e2 h2 h1
      cases ha:apartE h.size e2 ap with
      | false=>rw [ha] at hr;cases hr
      | true =>
        rw [ha] at hr
        simp only [cond_true,Option.some.injEq,Prod.mk.injEq] at hr;obtain ⟨rfl,rfl,rfl⟩:=hr
        exact DA.drawA_sound hI.wide hcs hcr h1 ha hS hF (fun a' w' ι' r f d=>hQ a' w' ι' r f (by rw [d];exact Marks.step hS r hM) (fun _=>d))
    · cases hr
  | opsK ks ap l =>
    intro code ι e e' h h' a w x Q hc hr hI hS hF hM hW0 hQ
    obtain ⟨id,ops,rfl,hcr⟩:=compC_opsK hc
    simp only [evC] at hr
    split at hr
    · rename_i e2 h2 h1
      cases ha:(keepsE call l e h ks && apartE h.size e2 ap) with
      | false=>rw [ha] at hr;cases hr
      | true =>
        rw [ha] at hr
        simp only [Bool.and_eq_true] at ha
        simp only [cond_true,Option.some.injEq,Prod.mk.injEq] at hr;obtain ⟨rfl,rfl,rfl⟩:=hr
        exact DA.drawK_sound hI.wide hcs hcr h1 ha.1 ha.2 hS hF (fun a' w' ι' r f d=>hQ a' w' ι' r f (by rw [d];exact Marks.step hS r hM) (fun _=>d))
    · cases hr
  | seq x y ihx ihy =>
    intro code ι e e' h h' a w z Q hc hr hI hS hF hM hW0 hQ
    simp only [evC] at hr
    rcases erase_seq x y with ⟨l,rfl,he⟩|⟨l,rfl,he⟩|he
    · rw [he] at hc
      simp only [evC] at hr
      exact ihy code hc hr hI hS (hF.keep l) hM hW0 hQ
    · rw [he] at hc
      split at hr
      · rename_i e1 h1 hx
        simp only [evC,Option.some.injEq,Prod.mk.injEq] at hr;obtain ⟨rfl,rfl,rfl⟩:=hr
        exact ihx code hc hx hI hS hF hM hW0 (fun a' w' ι' r f mm d=>hQ a' w' ι' r (f.keep l) mm d)
      · exact ihx code hc hr hI hS hF hM hW0 hQ
    · rw [he] at hc
      obtain ⟨p,q,rfl,hp,hq⟩:=compC_seq hc
      refine wpIn_seq ?_
      split at hr
      · rename_i e1 h1 hx
        refine ihx p hp hx hI hS hF hM hW0 (fun a' w' ι' r f mm d=>?_)
        exact ihy q hq hr (hI.mono r.le) r.sim f mm (Nat.le_trans hW0 r.fr.size) (fun a2 w2 ι2 r2 f2 m2 d2=>hQ a2 w2 ι2 (Rel.trans hS r r2) f2 m2 (fun hs=>(d2 hs).trans (d hs)))
      · rename_i hno
        refine ihx p hp hr hI hS hF hM hW0 (fun a' w' ι' r f mm d=>seq_then (fun hz=>?_) (fun _=>hQ a' w' ι' r f mm d))
        subst hz;exact absurd hr (hno _ _)
  | cond o x y ihx ihy =>
    intro code ι e e' h h' a w z Q hc hr hI hS hF hM hW0 hQ
    rcases compC_cond (by simpa [erase] using hc) with ⟨p,q,rfl,ho,hp,hq⟩|⟨p,rfl,rfl,hp⟩
    · simp only [evC] at hr
      split at hr
      · rename_i he
        have:=(hF.ev ho he).scal rfl
        exact wpIn_cond_true this (ihx p hp hr hI hS hF hM hW0 hQ)
      · rename_i he
        have:=(hF.ev ho he).scal rfl
        exact wpIn_cond_false this (ihy q hq hr hI hS hF hM hW0 hQ)
      · cases hr
    · simp only [evC,ev] at hr
      refine wpIn_scope (ihx p hp hr hI hS hF hM hW0 (fun a' w' ι' r f mm d=>noGoto_to (hQ a' w' ι' r f mm d)))
  | block id x ih =>
    intro code ι e e' h h' a w z Q hc hr hI hS hF hM hW0 hQ
    obtain ⟨p,rfl,hp⟩:=compC_block (by simpa [erase] using hc)
    refine wpIn_block ?_
    simp only [evC] at hr
    split at hr
    · rename_i i e1 h1 hx
      cases hi:(i == id) with
      | true =>
        rw [hi] at hr
        simp only [cond_true,Option.some.injEq,Prod.mk.injEq] at hr;obtain ⟨rfl,rfl,rfl⟩:=hr
        have:i=id:=by simpa using hi
        subst this
        exact ih p hp hx hI hS hF hM hW0 (fun a' w' ι' r f mm d=>by show (if i=i then _ else _);rw [if_pos rfl];exact hQ a' w' ι' r f mm d)
      | false =>
        rw [hi] at hr
        simp only [cond_false,Option.some.injEq,Prod.mk.injEq] at hr;obtain ⟨rfl,rfl,rfl⟩:=hr
        have:¬ i=id:=by simpa using hi
        exact ih p hp hx hI hS hF hM hW0 (fun a' w' ι' r f mm d=>by show (if i=id then _ else _);rw [if_neg this];exact hQ a' w' ι' r f mm d)
    · rename_i hno
      refine ih p hp hr hI hS hF hM hW0 (fun a' w' ι' r f mm d=>?_)
      cases z with
      | exit i=>exact absurd hr (hno _ _ _)
      | norm=>exact hQ a' w' ι' r f mm d
      | ret=>exact hQ a' w' ι' r f mm d
  | loop x ih =>
    intro code ι e e' h h' a w z Q hc hr hI hS hF hM hW0 hQ
    obtain ⟨p,rfl,hp⟩:=compC_loop (by simpa [erase] using hc)
    simp only [evC] at hr
    exact loop_of_turn (turns_sound (c:=p) (fun hx hI hS hF hM hW0 hQ=>ih p hp hx hI hS hF hM hW0 hQ) n hr hI hS hF hM hW0 hQ)
  | rfun f ps asg body _ _ =>
    intro code ι e e' h h' a w z Q hc hr hI hS hF hM hW0 hQ
    obtain ⟨qs,p,q,rfl,hqs,hf,hps,hp,hq⟩:=compC_rfun (by simpa [erase] using hc)
    exact rfun_sound hcs hI hqs hf hps hp hq hr hS hF hM hW0 hQ
  | exit id =>
    intro code ι e e' h h' a w z Q hc hr hI hS hF hM hW0 hQ
    obtain rfl:=compC_exit (by simpa [erase] using hc)
    simp only [evC,Option.some.injEq,Prod.mk.injEq] at hr;obtain ⟨rfl,rfl,rfl⟩:=hr
    exact wpIn_exit (hQ a w ι (Rel.refl hS) hF hM (fun _=>rfl))
  | ret =>
    intro code ι e e' h h' a w z Q hc hr hI hS hF hM hW0 hQ
    obtain rfl:=compC_ret (by simpa [erase] using hc)
    simp only [evC,Option.some.injEq,Prod.mk.injEq] at hr;obtain ⟨rfl,rfl,rfl⟩:=hr
    exact wpIn_ret (hQ a w ι (Rel.refl hS) hF hM (fun _=>rfl))
  | keep l =>
    intro code ι e e' h h' a w z Q hc hr hI hS hF hM hW0 hQ
    exact (compC_keep (by simpa [erase] using hc)).elim

end Go.AM

