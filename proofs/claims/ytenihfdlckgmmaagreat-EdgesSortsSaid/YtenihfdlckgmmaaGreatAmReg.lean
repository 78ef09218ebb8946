/- A part of the abstract machine, or of what is proved of the program by it. -/
import Derived.Test.YtenihfdlckgmmaaGreatAmExt
namespace Go.AM
set_option linter.unusedVariables false
set_option linter.unusedSimpArgs false
variable {P:Program} {w:World} {ι:Inj} {h h':Heap} {e e':Env} {a:Act} {N:Nat} {v:Value} {op:AOp} {call:CallT}

theorem aop_sound {o:Oper} {nr:Bool} (hc:compOp P nr o.op=some op) (hn:∀ f as,op≠.call f as) (hS:Sim P ι h w) (hF:FR N ι e a.tmps)
    (hr:aop op e h=some (v,h')):OpRes P ι h w ((execOp a.eval o).run P w) v h':=by
  generalize ho:o.op=oo at hc
  cases oo <;> simp only [compOp,reduceCtorEq] at hc
  case move x=>split at hc <;> cases hc;rename_i hx;exact s_move (.inl ho) hx hS hF hr
  case assign x=>split at hc <;> cases hc;rename_i hx;exact s_move (.inr ho) hx hS hF hr
  case pick c x y=>split at hc <;> cases hc;rename_i hx;simp only [Bool.and_eq_true] at hx;exact s_pick ho hx.1.1 hx.1.2 hx.2 hS hF hr
  case alloc T =>
    obtain ⟨z,hz,rfl⟩:=Option.map_eq_some_iff.1 hc
    exact s_alloc ho hz hS hF hr
  case box T x=>split at hc <;> cases hc;rename_i hx;exact s_box ho hx hS hF hr
  case build T ps =>
    split at hc
    · rename_i z fs hz hd
      split at hc
      · rename_i pl hpl
        obtain ⟨q,hq,rfl⟩:=Option.map_eq_some_iff.1 hc
        exact s_build ho hz hd hpl hq hS hF hr
      · cases hc
    · rename_i z len E hz hd
      split at hc
      · rename_i s hs
        obtain ⟨q,hq,rfl⟩:=Option.map_eq_some_iff.1 hc
        exact s_buildA ho hz hd hs hq hS hF hr
      · cases hc
    · cases hc
  case buildSlice T len ps =>
    split at hc
    · rename_i E hd
      split at hc
      · rename_i s z hs hz
        split at hc
        · rename_i hle
          obtain ⟨q,hq,rfl⟩:=Option.map_eq_some_iff.1 hc
          cases hb:nr && len == 0 && q.isEmpty with
          | true =>
            rw [hb] at hr
            simp only [Bool.and_eq_true,beq_iff_eq,List.isEmpty_iff] at hb
            obtain ⟨⟨_,rfl⟩,rfl⟩:=hb
            exact s_norow ho hd hs hq hS hr
          | false=>rw [hb] at hr;exact s_bslice ho hz hd hs hle hq hS hF hr
        · cases hc
      · cases hc
    · cases hc
  case load T x =>
    split at hc
    · rename_i hx
      split at hc
      · rename_i n hg hn';cases hc;exact s_loadN ho hx hg hn' hS hF hr
      · rename_i n hg hn';cases hc;exact s_load1 ho hx hg hS hF hr
      · cases hc
    · cases hc
  case store T x y =>
    split at hc
    · rename_i hx
      simp only [Bool.and_eq_true] at hx
      obtain ⟨n,hn',rfl⟩:=Option.map_eq_some_iff.1 hc
      exact s_store ho hx.1 hx.2 hn' hS hF hr
    · cases hc
  case nilCheck x=>split at hc <;> cases hc;rename_i hx;exact s_nilc ho hx hS hF hr
  case binOp bo T x y U =>
    split at hc
    · rename_i hx
      simp only [Bool.and_eq_true] at hx
      split at hc
      · cases hc;exact s_bin ho hx.1 hx.2 hS hF hr
      · cases hc;exact s_bin ho hx.1 hx.2 hS hF hr
      · split at hc
        · rename_i k hk
          split at hc
          · cases hc;exact s_eqv ho (.inl ⟨rfl,rfl⟩) hk hx.1 hx.2 hS hF hr
          · cases hc;exact s_eqv ho (.inr ⟨rfl,rfl⟩) hk hx.1 hx.2 hS hF hr
          · cases hc
        · split at hc
          · rename_i ks hk
            split at hc
            · cases hc
            · rename_i hg
              simp only [Bool.not_eq_true] at hg
              split at hc
              · cases hc;exact s_eqA ho (.inl ⟨rfl,rfl⟩) hk hg hx.1 hx.2 hS hF hr
              · cases hc;exact s_eqA ho (.inr ⟨rfl,rfl⟩) hk hg hx.1 hx.2 hS hF hr
              · cases hc
          · cases hc
    · cases hc
  case unOp uo T x=>split at hc <;> cases hc;rename_i hx;exact s_un ho hx hS hF hr
  case convert S D x =>
    split at hc
    · rename_i hx
      split at hc
      · rename_i k' k h1 h2;cases hc;exact s_conv ho hx h1 h2 hS hF hr
      · rename_i h1 h2;cases hc;exact s_convS ho hx h1 h2 hS hF hr
      · rename_i h1 h2
        split at hc
        · rename_i h3;cases hc;exact s_convSB ho hx h1 h2 h3 hS hF hr
        · cases hc
      · rename_i h1 h2
        split at hc
        · rename_i h3;cases hc;exact s_convBS ho hx h1 h2 h3 hS hF hr
        · cases hc
      · cases hc
    · cases hc
  case makeFunc fn x y =>
    cases fn with
    | func f =>
      simp only at hc
      split at hc
      · rename_i hx
        simp only [Bool.and_eq_true] at hx
        cases hc;exact s_mkf ho hx.1 hx.2 hS hF hr
      · cases hc
    | _=>simp at hc
  case makeMap T r =>
    cases r with
    | none=>simp only at hc;cases hc;exact s_mkmap ho hS hF hr
    | some r=>simp at hc
  case makeSlice T x y =>
    split at hc
    · rename_i E hd
      split at hc
      · rename_i ti z hti hz
        split at hc
        · rename_i hx
          simp only [Bool.and_eq_true] at hx
          cases hc;exact s_mkslice ho hz hd hti hx.1 hx.2 hS hF hr
        · cases hc
      · cases hc
    · cases hc
  case slice T x lo hi mx =>
    cases mx with
    | none =>
      simp only at hc
      split at hc
      · rename_i hx
        simp only [Bool.and_eq_true] at hx
        split at hc
        · rename_i hd;cases hc;exact s_slcS ho hx.1.1 hx.1.2 hx.2 hd hS hF hr
        · rename_i E hd
          obtain ⟨s,hs,rfl⟩:=Option.map_eq_some_iff.1 hc
          exact s_slc ho hx.1.1 hx.1.2 hx.2 hd hs hS hF hr
        · rename_i n E hd
          obtain ⟨s,hs,rfl⟩:=Option.map_eq_some_iff.1 hc
          exact s_slcV ho hx.1.1 hx.1.2 hx.2 hd hs hS hF hr
        · cases hc
      · cases hc
    | some m=>simp at hc
  case fieldAddr T x f =>
    split at hc
    · rename_i hx
      split at hc
      · rename_i fs hd
        split at hc
        · rename_i fl hf
          split at hc
          · rename_i s hs;cases hc;exact s_faddr ho hx hd hf hs hS hF hr
          · cases hc
        · cases hc
      · cases hc
    · cases hc
  case field T x f =>
    split at hc
    · rename_i hx
      split at hc
      · rename_i fs hd
        split at hc
        · rename_i fl hf
          split at hc
          · rename_i s hg hs;cases hc;exact s_fieldN ho hx hd hf hg hs hS hF hr
          · rename_i s hg hs;cases hc;exact s_field1 ho hx hd hf hg hS hF hr
          · cases hc
        · cases hc
      · cases hc
    · cases hc
  case indexAddr T x i =>
    split at hc
    · rename_i hx
      simp only [Bool.and_eq_true] at hx
      split at hc
      · rename_i n E hd
        obtain ⟨s,hs,rfl⟩:=Option.map_eq_some_iff.1 hc
        exact s_iaddrA ho hx.1 hx.2 hd hs hS hF hr
      · rename_i E hd
        obtain ⟨s,hs,rfl⟩:=Option.map_eq_some_iff.1 hc
        exact s_iaddr ho hx.1 hx.2 hd hs hS hF hr
      · cases hc
    · cases hc
  case index T x i =>
    split at hc
    · rename_i hx
      simp only [Bool.and_eq_true] at hx
      split at hc
      · rename_i hd;cases hc;exact s_idxS ho hx.1 hx.2 hd hS hF hr
      · rename_i n E hd
        split at hc
        · rename_i s hg hs;cases hc;exact s_idxAN ho hx.1 hx.2 hd hg hs hS hF hr
        · rename_i hg hs;cases hc;exact s_idxA1 ho hx.1 hx.2 hd hg hs hS hF hr
        · cases hc
      · cases hc
    · cases hc
  case lookup T x k ok =>
    split at hc
    · rename_i hx
      simp only [Bool.and_eq_true] at hx
      split at hc
      · rename_i KT E hd
        split at hc
        · rename_i z hz
          obtain ⟨s,hs,rfl⟩:=Option.map_eq_some_iff.1 hc
          exact s_lookup ho hd hz hs hx.1 hx.2 hS hF hr
        · cases hc
      · cases hc
    · cases hc
  case mapUpdate T x k y =>
    split at hc
    · rename_i hx
      simp only [Bool.and_eq_true] at hx
      split at hc
      · rename_i KT E hd
        obtain ⟨s,hs,rfl⟩:=Option.map_eq_some_iff.1 hc
        exact s_mapupd (.inl ho) hd hs hx.1.1 hx.1.2 hx.2 hS hF hr
      · cases hc
    · cases hc
  case insert T x k y =>
    split at hc
    · rename_i hx
      simp only [Bool.and_eq_true] at hx
      split at hc
      · rename_i KT E hd
        obtain ⟨s,hs,rfl⟩:=Option.map_eq_some_iff.1 hc
        exact s_mapupd (.inr ho) hd hs hx.1.1 hx.1.2 hx.2 hS hF hr
      · cases hc
    · cases hc
  case mapEntry T x k =>
    split at hc
    · rename_i hx
      simp only [Bool.and_eq_true] at hx
      split at hc
      · rename_i KT E hd
        split at hc
        · rename_i z hz
          obtain ⟨s,hs,rfl⟩:=Option.map_eq_some_iff.1 hc
          exact s_mapent ho hd hz hs hx.1 hx.2 hS hF hr
        · cases hc
      · cases hc
    · cases hc
  case entryStore T x k y =>
    split at hc
    · rename_i hx
      simp only [Bool.and_eq_true] at hx
      cases hc
      exact s_entst ho hx.1.1 hx.1.2 hx.2 hS hF hr
    · cases hc
  case extract x i=>split at hc <;> cases hc;rename_i hx;exact s_extract ho hx hS hF hr
  case call c =>
    obtain ⟨callee,args,ts⟩:=c
    cases callee with
    | value f =>
      simp only at hc
      split at hc
      · cases hc;exact absurd rfl (hn _ _)
      · cases hc
    | invoke r m=>simp at hc
    | builtin b =>
      simp only at hc
      split at hc
      · rename_i hx
        split at hc
        · rename_i x t hx1 ht
          simp only [hx1,List.all_cons,List.all_nil,Bool.and_true] at hx
          split at hc
          · rename_i hd;cases hc;exact s_len ho hx1 ht hx (.inl ⟨rfl,hd⟩) hS hF hr
          · rename_i E hd;cases hc;exact s_len ho hx1 ht hx (.inr (.inl ⟨rfl,E,hd⟩)) hS hF hr
          · rename_i E E' hd;cases hc;exact s_len ho hx1 ht hx (.inr (.inr ⟨rfl,E,E',hd⟩)) hS hF hr
          · cases hc
        · rename_i s x t u hx1 ht
          simp only [hx1,List.all_cons,List.all_nil,Bool.and_true,Bool.and_eq_true] at hx
          split at hc
          · rename_i E E' hd hu
            split at hc
            · rename_i ti z hti hz
              cases hc;exact s_append ho hx1 ht hx.1 hx.2 hd hu hti hz hS hF hr
            · cases hc
          · rename_i E hd hu
            split at hc
            · rename_i ti z hti hz
              split at hc
              · rename_i h1;cases hc;exact s_appS ho hx1 ht hx.1 hx.2 hd hu hti hz h1 hS hF hr
              · cases hc
            · cases hc
          · cases hc
        · rename_i d s t rest hx1 ht
          simp only [hx1,List.all_cons,List.all_nil,Bool.and_true,Bool.and_eq_true] at hx
          split at hc
          · rename_i E hd
            obtain ⟨sz,hs,rfl⟩:=Option.map_eq_some_iff.1 hc
            exact s_copy ho hx1 ht hx.1 hx.2 hd hs hS hF hr
          · cases hc
        · rename_i x t hx1 ht
          simp only [hx1,List.all_cons,List.all_nil,Bool.and_true] at hx
          split at hc
          · rename_i E hd
            obtain ⟨z,hz,rfl⟩:=Option.map_eq_some_iff.1 hc
            exact s_clear ho hx1 ht hx hd hz hS hF hr
          · cases hc
        · cases hc;exact s_max ho hx hS hF hr
        · cases hc;exact s_min ho hx hS hF hr
        · cases hc
      · cases hc
  all_goals (try cases hc)

theorem evs_congr:∀ {l:List Operand},(∀ x ∈ l,ev e x=ev e' x)→evs e l=evs e' l:=by
  intro l
  induction l with
  | nil=>intro _;rfl
  | cons x l ih=>intro hx;simp only [evs,hx x (by simp),ih (fun y hy=>hx y (by simp [hy]))]

theorem evps_congr:∀ {l:List (Nat × Nat × Operand)},(∀ x ∈ l.map (·.2.2),ev e x=ev e' x)→evps e l=evps e' l:=by
  intro l
  induction l with
  | nil=>intro _;rfl
  | cons x l ih =>
    obtain ⟨o,s,x⟩:=x
    intro hx;simp only [evps,hx x (by simp),ih (fun y hy=>hx y (by simp only [List.map_cons,List.mem_cons];exact .inr hy))]

theorem boundI_congr {d:Nat} {x:Option Operand} (hx:∀ y ∈ x.toList,ev e y=ev e' y):boundI e d x=boundI e' d x:=by
  cases x with
  | none=>rfl
  | some x=>simp only [boundI,hx x (by simp)]

theorem aop_congr (hx:∀ x ∈ op.opnds,ev e x=ev e' x):aop op e h=aop op e' h:=by
  cases op <;> simp only [AOp.opnds,List.mem_cons,List.not_mem_nil,or_false,forall_eq_or_imp,forall_eq,List.mem_append] at hx <;> simp only [aop]
  case build z ps=>rw [evps_congr hx]
  case bslice z ps=>rw [evps_congr hx]
  case mkf f x y=>rw [evs_congr (fun z hz=>hx z (.inl hz)),evs_congr (fun z hz=>hx z (.inr hz))]
  case slc s x lo hi=>rw [hx.1,boundI_congr (x:=lo) (fun z hz=>hx.2 z (.inl hz))];simp only [boundI_congr (x:=hi) (fun z hz=>hx.2 z (.inr hz))]
  case slcS x lo hi=>rw [hx.1,boundI_congr (x:=lo) (fun z hz=>hx.2 z (.inl hz))];simp only [boundI_congr (x:=hi) (fun z hz=>hx.2 z (.inr hz))]
  case slcV n s x lo hi=>rw [hx.1,boundI_congr (x:=lo) (fun z hz=>hx.2 z (.inl hz))];simp only [boundI_congr (x:=hi) (fun z hz=>hx.2 z (.inr hz))]
  case max l=>rw [evs_congr hx]
  case min l=>rw [evs_congr hx]
  all_goals first|rfl|(rw [hx])|(rw [hx.1,hx.2])|(rw [hx.1,hx.2.1,hx.2.2])

theorem opV_congr (hx:∀ x ∈ op.opnds,ev e x=ev e' x):opV call op e h=opV call op e' h:=by
  unfold opV
  split
  · rename_i f as
    simp only [AOp.opnds,List.mem_cons,forall_eq_or_imp] at hx
    rw [hx.1,evs_congr hx.2]
  · exact aop_congr hx

end Go.AM


namespace Go.AM
set_option linter.unusedVariables false
set_option linter.unusedSimpArgs false
variable {P:Program} {w:World} {ι:Inj} {h h':Heap} {e e':Env} {a:Act} {N:Nat} {v:Value} {op:AOp} {call:CallT} {F:Fence} {n:Nat}

/-- A fence that lets everything in. -/
def Wide (F:Fence):Prop:=F=Fence.wide∨∃ l,F=Fence.wide.inRound l

theorem Wide.calls (hW:Wide F) {k:FuncId} {args:Array Value} {R:Ending→World→Prop} (hc:CallsIn Fence.wide 0 P k args w R):CallsIn F n P k args w R:=by
  rcases hW with rfl|⟨l,rfl⟩
  · exact ⟨trivial,fun cs _=>hc.2 cs (room_wide _)⟩
  · exact ⟨trivial,fun cs _=>hc.2 cs (room_wide _)⟩
theorem Wide.round (hW:Wide F) {l:Nat} {f:FuncId} {tmps:Array Value} {asg body:Code} {R:Ending→World→Prop} (hc:RoundIn Fence.wide 0 P l f tmps asg body w R):RoundIn F n P l f tmps asg body w R:=by
  rcases hW with rfl|⟨l,rfl⟩
  · exact ⟨trivial,fun c cs _=>hc.2 c cs (room_wide _)⟩
  · exact ⟨trivial,fun c cs _=>hc.2 c cs (room_wide _)⟩
theorem Wide.fn (hW:Wide F) (f:FuncId):F.fn f:=by rcases hW with rfl|⟨l,rfl⟩ <;> trivial
theorem Wide.depth (hW:Wide F):F.depth.isSome=true→1≤n:=by rcases hW with rfl|⟨l,rfl⟩ <;> simp [Fence.wide]

/-- What a call leaves behind. -/
def Post (P:Program) (ι:Inj) (h:Heap) (w:World) (v:Value) (h':Heap):Ending→World→Prop :=
  fun e w'=>∃ v' ι',e=.returned v'∧V ι' v v'∧Rel P ι h w ι' h' w'

structure CallSound (P:Program) (call:CallT):Prop where
  fn : ∀ k args h v h', call (.func k) args h = some (v, h') → (∃ f, P.funcs[k]? = some f ∧ (f.name == "runtime.NumGoroutine") = false ∧ f.body.isNone = false) ∧
    ∀ ι w cargs,Sim P ι h w→VL ι args cargs→CallsIn Fence.wide 0 P k cargs.toArray w (Post P ι h w v h')
  yd:∀ l args h v h',call (.yield l) args h=some (v,h')→∀ ι w cargs i,ι l=some i→Sim P ι h w→VL ι args cargs →
    ∃ f tmps asg body,(Instr.yield i.blk cargs.toArray).run P w=.ok (.round i.blk f tmps asg body) w∧RoundIn Fence.wide 0 P i.blk f tmps asg body w (Post P ι h w v h')
  other:∀ fn args h r,call fn args h=some r→(∃ k,fn=.func k)∨∃ l,fn=.yield l
  ext:CallExt call

theorem compOp_call {o:Op} {f:Operand} {as:List Operand} {nr:Bool} (hc:compOp P nr o=some (.call f as)):∃ args ts,o=.call ⟨.value f,args,ts⟩∧args.toList=as∧okO f=true∧as.all okO=true:=by
  cases o <;> simp only [compOp,reduceCtorEq] at hc
  case call c =>
    obtain ⟨callee,args,ts⟩:=c
    cases callee with
    | value g =>
      simp only at hc
      split at hc
      · rename_i hx
        simp only [Option.some.injEq,AOp.call.injEq] at hc
        obtain ⟨rfl,rfl⟩:=hc
        simp only [Bool.and_eq_true] at hx
        exact ⟨args,ts,rfl,rfl,hx.1,hx.2⟩
      · cases hc
    | invoke r m=>simp at hc
    | builtin b =>
      exfalso
      simp only at hc
      revert hc
      repeat' split
      all_goals first|(simp only [reduceCtorEq,false_implies,Option.map_eq_some_iff,and_false,exists_false,Option.some.injEq,imp_self];done)|(intro;simp_all;done)
  all_goals
    exfalso
    revert hc
    repeat' split
    all_goals first|(simp only [reduceCtorEq,false_implies,Option.map_eq_some_iff,and_false,exists_false,Option.some.injEq,imp_self];done)|(intro hc;obtain ⟨q,_,h⟩:=Option.map_eq_some_iff.1 hc;simp only [cond_eq_ite] at h;split at h <;> cases h;done)|(intro;simp_all;done)

theorem compOp_defer {o:Op} {nr:Bool} (hc:compOp P nr o=some op):∀ c,o≠.defer c:=by
  intro c hq;subst hq;simp [compOp] at hc

/-- One operation, calls too. -/
theorem op_sound (hW:Wide F) (hcs:CallSound P call) {o:Oper} {nr:Bool} (hc:compOp P nr o.op=some op) (hS:Sim P ι h w) (hF:FR N ι e a.tmps) (hr:opV call op e h=some (v,h'))
    {K:Act→World→Prop} {Q:Exit→Act→World→Prop} (hK:∀ v' w' ι',V ι' v v'→Rel P ι h w ι' h' w'→K (a.put o.dst v') w'):o.wpIn F n P a w K Q:=by
  refine ⟨fun f _=>hW.fn f,?_⟩
  rw [Oper.semAt_eq _ _ _ (compOp_defer hc)]
  by_cases hcall:∃ f as,op=.call f as
  · obtain ⟨f,as,rfl⟩:=hcall
    obtain ⟨args,ts,ho,rfl,hf,has⟩:=compOp_call hc
    simp only [opV] at hr
    split at hr
    · rename_i fn first captured vs he hes
      have vf:=hF.ev hf he
      have vas:=hF.evs has hes
      generalize hfv:a.eval f=fv at vf
      have hres:∀ fn' first' captured',fv=.func fn' first' captured'→(execOp a.eval o).run P w=(invoke (.fn fn' captured') (first'++args.map a.eval)).run P w:=by
        intro fn' first' captured' hq
        simp only [execOp,ho,resolve,hfv,hq,Deferred.ofValue,Sem.run_bind,Sem.run_pure,Result.andThen_ok]
      cases vf with
      | fn h1 h2 h3 h4 =>
        rename_i k f1 f1' c1 c1'
        rw [hres _ _ _ rfl]
        obtain ⟨⟨fnc,g1,g2,g3⟩,g4⟩:=hcs.fn _ _ _ _ _ hr
        have vargs:VL ι (f1.toArray.toList++vs++c1.toArray.toList) (f1'++args.toList.map a.eval++c1'):=by
          simpa using (VL.append (VL.append ⟨h1,h2⟩ vas) ⟨h3,h4⟩)
        have g5:=g4 ι w _ hS vargs
        have earr:(f1'.toArray++args.map a.eval)++c1'.toArray=(f1'++args.toList.map a.eval++c1').toArray:=by
          apply Array.ext';simp
        have hrun:(invoke (.fn (.func k) c1'.toArray) (f1'.toArray++args.map a.eval)).run P w=.ok (.enter k (f1'++args.toList.map a.eval++c1').toArray) w:=by
          simp only [invoke,callFunc,Sem.run_bind,r_program,Result.andThen_ok,g1,g2,g3,Bool.false_eq_true,if_false,Sem.run_pure,earr]
        rw [hrun,Oper.uponIn_enter]
        refine ⟨hW.depth,(hW.calls g5).mono ?_⟩
        rintro e1 w1 ⟨v',ι',rfl,k1,k2⟩
        exact hK v' w1 ι' k1 k2
      | yield hl =>
        rename_i l i
        rw [hres _ _ _ rfl]
        have vargs:VL ι ((#[]:Array Value).toList++vs++(#[]:Array Value).toList) (args.toList.map a.eval):=by simpa using vas
        obtain ⟨f',tmps,asg,body,g1,g2⟩:=hcs.yd _ _ _ _ _ hr ι w _ i hl hS vargs
        have earr:(#[]:Array Value)++args.map a.eval=(args.toList.map a.eval).toArray:=by apply Array.ext';simp
        have hrun:(invoke (.fn (.yield i.blk) #[]) (#[]++args.map a.eval)).run P w=.ok (.round i.blk f' tmps asg body) w:=by
          rw [earr];exact g1
        rw [hrun,Oper.uponIn_round]
        refine ⟨hW.depth,(hW.round g2).mono ?_⟩
        rintro e1 w1 ⟨v',ι',rfl,k1,k2⟩
        exact hK v' w1 ι' k1 k2
    · cases hr
  · have hr':aop op e h=some (v,h'):=by
      unfold opV at hr
      split at hr
      · exact absurd ⟨_,_,rfl⟩ hcall
      · exact hr
    obtain ⟨v',w',ι',hrun,k1,k2⟩:=aop_sound hc (fun f as hq=>hcall ⟨f,as,hq⟩) hS hF hr'
    rcases hrun with hrun|⟨hrun,rfl⟩
    · rw [hrun,Oper.uponIn_value];exact hK v' w' ι' k1 k2
    · rw [hrun,Oper.uponIn_skip];exact hK undef w' ι' k1 k2

theorem compAI_inv {ops:Array Oper} {bar:Bool} {o:Oper} {i:AI} (hc:compAI P N ops bar o=some i) :
    (∀ d,o.dst=some d→d < N)∧compOp P (wantsNo ops o) o.op=some i.op∧i.dst=o.dst∧i.bar=bar ∧
    ((o.guard=none∧i.guard=none)∨∃ g wn d,o.guard=some (g,wn)∧i.guard=some (d,wn)∧(ops[g]?).bind (·.dst)=some d):=by
  unfold compAI at hc
  split at hc
  · rename_i hd
    split at hc
    · rename_i op hop
      have hd':∀ d,o.dst=some d→d < N:=fun d hq=>by rw [hq] at hd;simpa [dstOk] using hd
      split at hc
      · rename_i hg;cases hc;exact ⟨hd',hop,rfl,rfl,.inl ⟨hg,rfl⟩⟩
      · rename_i g wn hg
        split at hc
        · rename_i d hq;cases hc;exact ⟨hd',hop,rfl,rfl,.inr ⟨g,wn,d,hg,rfl,hq⟩⟩
        · cases hc
    · cases hc
  · cases hc

theorem wanted_sound {ops:Array Oper} {o:Oper} {ig:Option (Nat × Bool)} {b:Bool} (hg:(o.guard=none∧ig=none)∨∃ g wn d,o.guard=some (g,wn)∧ig=some (d,wn)∧(ops[g]?).bind (·.dst)=some d)
    (hF:FR N ι e a.tmps) (hw:wanted e ig=some b):Region.wanted o (yielded ops a.tmps)=b:=by
  rcases hg with ⟨h1,h2⟩|⟨g,wn,d,h1,h2,h3⟩
  · rw [h2] at hw;simp only [wanted,Option.some.injEq] at hw;subst hw
    simp [Region.wanted,h1]
  · rw [h2] at hw
    simp only [wanted] at hw
    simp only [Region.wanted,h1,yielded,h3,Option.bind_some]
    cases hx:Env.get e d with
    | none=>simp [hx] at hw
    | some x =>
      obtain ⟨v',k1,k2⟩:=hF.2 d _ hx
      rw [k1]
      rw [hx] at hw
      cases x with
      | bool q =>
        cases k2
        simp only [Option.some.injEq] at hw;subst hw
        cases q <;> cases wn <;> rfl
      | _ =>
        simp only [Option.some.injEq] at hw;subst hw
        cases k2 <;> rfl

/-- One operation of a region. -/
theorem ai_sound (hW:Wide F) (hcs:CallSound P call) {ops:Array Oper} {j:Nat} {o:Oper} {i:AI} {bar:Bool} (hj:ops[j]? = some o) (hc:compAI P N ops bar o=some i) (hS:Sim P ι h w) (hF:FR N ι e a.tmps)
    (hr:evI call i e h=some (e',h')) {K:Act→World→Prop} {Q:Exit→Act→World→Prop}
    (hK:∀ v v' w' ι',e'=put e i.dst v→V ι' v v'→Rel P ι h w ι' h' w'→K (a.put o.dst v') w'):wpOpIn F n P ops Q j K a w:=by
  obtain ⟨hd,hop,hdst,_,hg⟩:=compAI_inv hc
  unfold wpOpIn
  rw [hj]
  simp only
  unfold evI at hr
  split at hr
  · rename_i hw
    obtain ⟨⟨v,h2⟩,h1,he⟩:=Option.map_eq_some_iff.1 hr
    simp only [Prod.mk.injEq] at he;obtain ⟨rfl,rfl⟩:=he
    rw [wanted_sound hg hF hw]
    simp only [if_true]
    exact op_sound hW hcs hop hS hF h1 (fun v' w' ι' k1 k2=>hK v v' w' ι' rfl k1 k2)
  · rename_i hw
    simp only [Option.some.injEq,Prod.mk.injEq] at hr;obtain ⟨rfl,rfl⟩:=hr
    rw [wanted_sound hg hF hw]
    simp only [Bool.false_eq_true,if_false]
    exact ⟨fun f _=>hW.fn f,hK undef undef w ι rfl V.undef (Rel.refl hS)⟩
  · cases hr

theorem compL_get {ops:Array Oper} {bars:Nat→Bool}:∀ {l:List Oper} {j:Nat} {is:List AI},compL P N ops bars j l=some is→is.length=l.length∧∀ k o,l[k]? = some o→∃ i,is[k]? = some i∧compAI P N ops (bars (j + k)) o=some i:=by
  intro l
  induction l with
  | nil=>intro j is hc;simp only [compL,Option.some.injEq] at hc;subst hc;exact ⟨rfl,fun k o h=>by simp at h⟩
  | cons o l ih =>
    intro j is hc
    simp only [compL] at hc
    split at hc
    · rename_i i hi
      obtain ⟨is',h1,rfl⟩:=Option.map_eq_some_iff.1 hc
      obtain ⟨g1,g2⟩:=ih h1
      refine ⟨by simp [g1],fun k o' hk=>?_⟩
      cases k with
      | zero=>simp at hk;subst hk;exact ⟨i,rfl,hi⟩
      | succ k =>
        obtain ⟨i',g3,g4⟩:=g2 k o' (by simpa using hk)
        exact ⟨i',by simpa using g3,by rw [show j + (k + 1)=j + 1 + k by omega];exact g4⟩
    · cases hc

/-- A region in its order. -/
theorem ops_sound (hW:Wide F) (hcs:CallSound P call) {ops:Array Oper} {bars:Nat→Bool} {Q:Exit→Act→World→Prop}:∀ (is:List AI) (j:Nat) {ι:Inj} {e e':Env} {h h':Heap} {a:Act} {w:World},
    (∀ k i,is[k]? = some i→∃ o,ops[j + k]? = some o∧compAI P N ops (bars (j + k)) o=some i)→evL call false is e h=some (e',h')→Sim P ι h w→FR N ι e a.tmps →
    (∀ a' w' ι',Rel P ι h w ι' h' w'→FR N ι' e' a'.tmps→a'.defers=a.defers→Q .normal a' w')→wpOpsIn F n P ops Q (List.range' j is.length) a w:=by
  intro is
  induction is with
  | nil =>
    intro j ι e e' h h' a w _ hr hS hF hQ
    simp only [evL,Option.some.injEq,Prod.mk.injEq] at hr;obtain ⟨rfl,rfl⟩:=hr
    exact hQ a w ι (Rel.refl hS) hF rfl
  | cons i is ih =>
    intro j ι e e' h h' a w hi hr hS hF hQ
    simp only [evL] at hr
    split at hr
    · rename_i e1 h1 he
      simp only [cond_false] at he
      obtain ⟨o,ho,hco⟩:=hi 0 i rfl
      simp only [Nat.add_zero] at ho hco
      simp only [List.length_cons,List.range'_succ]
      rw [wpOpsIn_cons]
      refine ai_sound hW hcs ho hco hS hF he (fun v v' w' ι' hput k1 k2=>?_)
      obtain ⟨hd,_,hdst,_,_⟩:=compAI_inv hco
      have hF1:FR N ι' e1 (a.put o.dst v').tmps:=by
        rw [hput,hdst];exact (hF.mono k2.le).put hd k1
      refine ih (j + 1) (fun k i' hk=>?_) hr k2.sim hF1 (fun a' w2 ι2 r2 f2 d2=>hQ a' w2 ι2 (Rel.trans hS k2 r2) f2 (d2.trans ?_))
      · obtain ⟨o',h1',h2'⟩:=hi (k + 1) i' (by simpa using hk)
        exact ⟨o',by rw [show j + 1 + k=j + (k + 1) by omega];exact h1',by rw [show j + 1 + k=j + (k + 1) by omega];exact h2'⟩
      · cases o.dst <;> rfl
    · cases hr

end Go.AM

