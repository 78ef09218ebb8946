/- A part of the abstract machine, or of what is proved of the program by it. -/
import Derived.Test.YtenihfdlckgmmaaGreatAmExt
namespace Go.AM
set_option linter.unusedVariables false
set_option linter.unusedSimpArgs false
variable {P:Program} {w:World} {ι:Inj} {h h':Heap} {e e':Env} {a:Act} {N:Nat} {v:Value} {op:AOp} {call:CallT}

theorem aop_sound {o:Oper} {nr:Bool} (hc:compOp P nr o.op=some op) (hn:∀ f as,op≠.call f as) (hS:Sim P ι h w) (hF:FR N ι e a.tmps)
    (hr:aop op e h=some (v,h')):OpRes P ι h w ((execOp a.eval o).run P w) v h':=by
  generalize ho:o.op=oo at hc
  cases oo <;> simp only [compOp,reduceCtorEq] at hc
  case move x=>split at hc <;> cases hc;rename_i hx;exact s_move (.inl ho) hx hS hF hr
  case assign x=>split at hc <;> cases hc;rename_i hx;exact s_move (.inr ho) hx hS hF hr
  case pick c x y=>split at hc <;> cases hc;rename_i hx;simp only [Bool.and_eq_true] at hx;exact s_pick ho hx.1.1 hx.1.2 hx.2 hS hF hr
  case alloc T =>
    obtain ⟨z,hz,rfl⟩:=Option.map_eq_some_iff.1 hc
    exact s_alloc ho hz hS hF hr
  case box T x=>split at hc <;> cases hc;rename_i hx;exact s_box ho hx hS hF hr
  case build T ps =>
    split at hc
    · rename_i z fs hz hd
      split at hc
      · rename_i pl hpl
        obtain ⟨q,hq,rfl⟩:=Option.map_eq_some_iff.1 hc
        exact s_build ho hz hd hpl hq hS hF hr
      · cases hc
    · rename_i z len E hz hd
      split at hc
      · rename_i s hs
        obtain ⟨q,hq,rfl⟩:=Option.map_eq_some_iff.1 hc
        exact s_buildA ho hz hd hs hq hS hF hr
      · cases hc
    · cases hc
  case buildSlice T len ps =>
    split at hc
    · rename_i E hd
      split at hc
      · rename_i s z hs hz
        split at hc
        · rename_i hle
          obtain ⟨q,hq,rfl⟩:=Option.map_eq_some_iff.1 hc
          cases hb:nr && len == 0 && q.isEmpty with
          | true =>
            rw [hb] at hr
            simp only [Bool.and_eq_true,beq_iff_eq,List.isEmpty_iff] at hb
            obtain ⟨⟨_,rfl⟩,rfl⟩:=hb
            exact s_norow ho hd hs hq hS hr
          | false=>rw [hb] at hr;exact s_bslice ho hz hd hs hle hq hS hF hr
        · cases hc
      · cases hc
    · cases hc
  case load T x =>
    split at hc
    · rename_i hx
      split at hc
      · rename_i n hg hn';cases hc;exact s_loadN ho hx hg hn' hS hF hr
      · rename_i n hg hn';cases hc;exact s_load1 ho hx hg hS hF hr
      · cases hc
    · cases hc
  case store T x y =>
    split at hc
    · rename_i hx
      simp only [Bool.and_eq_true] at hx
      obtain ⟨n,hn',rfl⟩:=Option.map_eq_some_iff.1 hc
      exact s_store ho hx.1 hx.2 hn' hS hF hr
    · cases hc
  case nilCheck x=>split at hc <;> cases hc;rename_i hx;exact s_nilc ho hx hS hF hr
  case binOp bo T x y U =>
    split at hc
    · rename_i hx
      simp only [Bool.and_eq_true] at hx
      split at hc
      · cases hc;exact s_bin ho hx.1 hx.2 hS hF hr
      · cases hc;exact s_bin ho hx.1 hx.2 hS hF hr
      · split at hc
        · rename_i k hk
          split at hc
          · cases hc;exact s_eqv ho (.inl ⟨rfl,rfl⟩) hk hx.1 hx.2 hS hF hr
          · cases hc;exact s_eqv ho (.inr ⟨rfl,rfl⟩) hk hx.1 hx.2 hS hF hr
          · cases hc
        · split at hc
          · rename_i ks hk
            split at hc
            · cases hc
            · rename_i hg
              simp only [Bool.not_eq_true] at hg
              split at hc
              · cases hc;exact s_eqA ho (.inl ⟨rfl,rfl⟩) hk hg hx.1 hx.2 hS hF hr
              · cases hc;exact s_eqA ho (.inr ⟨rfl,rfl⟩) hk hg hx.1 hx.2 hS hF hr
              · cases hc
          · cases hc
    · cases hc
  case unOp uo T x=>split at hc <;> cases hc;rename_i hx;exact s_un ho hx hS hF hr
  case convert S D x =>
    split at hc
    · rename_i hx
      split at hc
      · rename_i k' k h1 h2;cases hc;exact s_conv ho hx h1 h2 hS hF hr
      · rename_i h1 h2;cases hc;exact s_convS ho hx h1 h2 hS hF hr
      · rename_i h1 h2
        split at hc
        · rename_i h3;cases hc;exact s_convSB ho hx h1 h2 h3 hS hF hr
        · cases hc
      · rename_i h1 h2
        split at hc
        · rename_i h3;cases hc;exact s_convBS ho hx h1 h2 h3 hS hF hr
        · cases hc
      · cases hc
    · cases hc
  case makeFunc fn x y =>
    cases fn with
    | func f =>
      simp only at hc
      split at hc
      · rename_i hx
        simp only [Bool.and_eq_true] at hx
        cases hc;exact s_mkf ho hx.1 hx.2 hS hF hr
      · cases hc
    | _=>simp at hc
  case makeMap T r =>
    cases r with
    | none=>simp only at hc;cases hc;exact s_mkmap ho hS hF hr
    | some r=>simp at hc
  case makeSlice T x y =>
    split at hc
    · rename_i E hd
      split at hc
      · rename_i ti z hti hz
        split at hc
        · rename_i hx
          simp only [Bool.and_eq_true] at hx
          cases hc;exact s_mkslice ho hz hd hti hx.1 hx.2 hS hF hr
        · cases hc
      · cases hc
    · cases hc
  case slice T x lo hi mx =>
    cases mx with
    | none =>
      simp only at hc
      split at hc
      · rename_i hx
        simp only [Bool.and_eq_true] at hx
        split at hc
        · rename_i hd;cases hc;exact s_slcS ho hx.1.1 hx.1.2 hx.2 hd hS hF hr
        · rename_i E hd
          obtain ⟨s,hs,rfl⟩:=Option.map_eq_some_iff.1 hc
          exact s_slc ho hx.1.1 hx.1.2 hx.2 hd hs hS hF hr
        · rename_i n E hd
          obtain ⟨s,hs,rfl⟩:=Option.map_eq_some_iff.1 hc
          exact s_slcV ho hx.1.1 hx.1.2 hx.2 hd hs hS hF hr
        · cases hc
      · cases hc
    | some m=>simp at hc
  case fieldAddr T x f =>
    split at hc
    · rename_i hx
      split at hc
      · rename_i fs hd
        split at hc
        · rename_i fl hf
          split at hc
          · rename_i s hs;cases hc;exact s_faddr ho hx hd hf hs hS hF hr
          · cases hc
        · cases hc
      · cases hc
    · cases hc
  case field T x f =>
    split at hc
    · rename_i hx
      split at hc
      · rename_i fs hd
        split at hc
        · rename_i fl hf
          split at hc
          · rename_i s hg hs;cases hc;exact s_fieldN ho hx hd hf hg hs hS hF hr
          · rename_i s hg hs;cases hc;exact s_field1 ho hx hd hf hg hS hF hr
          · cases hc
        · cases hc
      · cases hc
    · cases hc
  case indexAddr T x i =>
    split at hc
    · rename_i hx
      simp only [Bool.and_eq_true] at hx
      split at hc
      · rename_i n E hd
        obtain ⟨s,hs,rfl⟩:=Option.map_eq_some_iff.1 hc
        exact s_iaddrA ho hx.1 hx.2 hd hs hS hF hr
      · rename_i E hd
        obtain ⟨s,hs,rfl⟩:=Option.map_eq_some_iff.1 hc
        exact s_iaddr ho hx.1 hx.2 hd hs hS hF hr
      · cases hc
    · cases hc
  case index T x i =>
    split at hc
    · rename_i hx
      simp only [Bool.and_eq_true] at hx
      split at hc
      · rename_i hd;cases hc;exact s_idxS ho hx.1 hx.2 hd hS hF hr
      · rename_i n E hd
        split at hc
        · rename_i s hg hs;cases hc;exact s_idxAN ho hx.1 hx.2 hd hg hs hS hF hr
        · rename_i hg hs;cases hc;exact s_idxA1 ho hx.1 hx.2 hd hg hs hS hF hr
        · cases hc
      · cases hc
    · cases hc
  case lookup T x k ok =>
    split at hc
    · rename_i hx
      simp only [Bool.and_eq_true] at hx
      split at hc
      · rename_i KT E hd
        split at hc
        · rename_i z hz
          obtain ⟨s,hs,rfl⟩:=Option.map_eq_some_iff.1 hc
          exact s_lookup ho hd hz hs hx.1 hx.2 hS hF hr
        · cases hc
      · cases hc
    · cases hc
  case mapUpdate T x k y =>
    split at hc
    · rename_i hx
      simp only [Bool.and_eq_true] at hx
      split at hc
      · rename_i KT E hd
        obtain ⟨s,hs,rfl⟩:=Option.map_eq_some_iff.1 hc
        exact s_mapupd (.inl ho) hd hs hx.1.1 hx.1.2 hx.2 hS hF hr
      · cases hc
    · cases hc
  case insert T x k y =>
    split at hc
    · rename_i hx
      simp only [Bool.and_eq_true] at hx
      split at hc
      · rename_i KT E hd
        obtain ⟨s,hs,rfl⟩:=Option.map_eq_some_iff.1 hc
        exact s_mapupd (.inr ho) hd hs hx.1.1 hx.1.2 hx.2 hS hF hr
      · cases hc
    · cases hc
  case mapEntry T x k =>
    split at hc
    · rename_i hx
      simp only [Bool.and_eq_true] at hx
      split at hc
      · rename_i KT E hd
        split at hc
        · rename_i z hz
          obtain ⟨s,hs,rfl⟩:=Option.map_eq_some_iff.1 hc
          exact s_mapent ho hd hz hs hx.1 hx.2 hS hF hr
        · cases hc
      · cases hc
    · cases hc
  case entryStore T x k y =>
    split at hc
    · rename_i hx
      simp only [Bool.and_eq_true] at hx
      cases hc
      exact s_entst ho hx.1.1 hx.1.2 hx.2 hS hF hr
    · cases hc
  case extract x i=>split at hc <;> cases hc;rename_i hx;exact s_extract ho hx hS hF hr
  case call c =>
    obtain ⟨callee,args,ts⟩:=c
    cases callee with
    | value f =>
      simp only at hc
      split at hc
      · cases hc;exact absurd rfl (hn _ _)
      · cases hc
    | invoke r m=>simp at hc
    | builtin b =>
      simp only at hc
      split at hc
      · rename_i hx
        split at hc
        · rename_i x t hx1 ht
          simp only [hx1,List.all_cons,List.all_nil,Bool.and_true] at hx
          split at hc
          · rename_i hd;cases hc;exact s_len ho hx1 ht hx (.inl ⟨rfl,hd⟩) hS hF hr
          · rename_i E hd;cases hc;exact s_len ho hx1 ht hx (.inr (.inl ⟨rfl,E,hd⟩)) hS hF hr
          · rename_i E E' hd;cases hc;exact s_len ho hx1 ht hx (.inr (.inr ⟨rfl,E,E',hd⟩)) hS hF hr
          · cases hc
        · rename_i s x t u hx1 ht
          simp only [hx1,List.all_cons,List.all_nil,Bool.and_true,Bool.and_eq_true] at hx
          split at hc
          · rename_i E E' hd hu
            split at hc
            · rename_i ti z hti hz
              cases hc;exact s_append ho hx1 ht hx.1 hx.2 hd hu hti hz hS hF hr
            · cases hc
          · rename_i E hd hu
            split at hc
            · rename_i ti z hti hz
              split at hc
              · rename_i h1;cases hc;exact s_appS ho hx1 ht hx.1 hx.2 hd hu hti hz h1 hS hF hr
              · cases hc
            · cases hc
          · cases hc
        · rename_i d s t rest hx1 ht
          simp only [hx1,List.all_cons,List.all_nil,Bool.and_true,Bool.and_eq_true] at hx
          split at hc
          · rename_i E hd
            obtain ⟨sz,hs,rfl⟩:=Option.map_eq_some_iff.1 hc
            exact s_copy ho hx1 ht hx.1 hx.2 hd hs hS hF hr
          · cases hc
        · rename_i x t hx1 ht
          simp only [hx1,List.all_cons,List.all_nil,Bool.and_true] at hx
          split at hc
          · rename_i E hd
            obtain ⟨z,hz,rfl⟩:=Option.map_eq_some_iff.1 hc
            exact s_clear ho hx1 ht hx hd hz hS hF hr
          · cases hc
        · cases hc;exact s_max ho hx hS hF hr
        · cases hc;exact s_min ho hx hS hF hr
        · cases hc
      · cases hc
  all_goals (try cases hc)

theorem evs_congr:∀ {l:List Operand},(∀ x ∈ l,ev e x=ev e' x)→evs e l=evs e' l:=by
  intro l
  induction l with
  | nil=>intro _;rfl
  | cons x l ih=>intro hx;simp only [evs,hx x (by simp),ih (fun y hy=>hx y (by simp [hy]))]

theorem evps_congr:∀ {l:List (Nat × Nat × Operand)},(∀ x ∈ l.map (·.2.2),ev e x=ev e' x)→evps e l=evps e' l:=by
  intro l
  induction l with
  | nil=>intro _;rfl
  | cons x l ih =>
    obtain ⟨o,s,x⟩:=x
    intro hx;simp only [evps,hx x (by simp),ih (fun y hy=>hx y (by simp only [List.map_cons,List.mem_cons];exact .inr hy))]

theorem boundI_congr {d:Nat} {x:Option Operand} (hx:∀ y ∈ x.toList,ev e y=ev e' y):boundI e d x=boundI e' d x:=by
  cases x with
  | none=>rfl
  | some x=>simp only [boundI,hx x (by simp)]

theorem aop_congr (hx:∀ x ∈ op.opnds,ev e x=ev e' x):aop op e h=aop op e' h:=by
  cases op <;> simp only [AOp.opnds,List.mem_cons,List.not_mem_nil,or_false,forall_eq_or_imp,forall_eq,List.mem_append] at hx <;> simp only [aop]
  case build z ps=>rw [evps_congr hx]
  case bslice z ps=>rw [evps_congr hx]
  case mkf f x y=>rw [evs_congr (fun z hz=>hx z (.inl hz)),evs_congr (fun z hz=>hx z (.inr hz))]
  case slc s x lo hi=>rw [hx.1,boundI_congr (x:=lo) (fun z hz=>hx.2 z (.inl hz))];simp only [boundI_congr (x:=hi) (fun z hz=>hx.2 z (.inr hz))]
  case slcS x lo hi=>rw [hx.1,boundI_congr (x:=lo) (fun z hz=>hx.2 z (.inl hz))];simp only [boundI_congr (x:=hi) (fun z hz=>hx.2 z (.inr hz))]
  case slcV n s x lo hi=>rw [hx.1,boundI_congr (x:=lo) (fun z hz=>hx.2 z (.inl hz))];simp only [boundI_congr (x:=hi) (fun z hz=>hx.2 z (.inr hz))]
  case max l=>rw [evs_congr hx]
  case min l=>rw [evs_congr hx]
  all_goals first|rfl|(rw [hx])|(rw [hx.1,hx.2])|(rw [hx.1,hx.2.1,hx.2.2])

theorem opV_congr (hx:∀ x ∈ op.opnds,ev e x=ev e' x):opV call op e h=opV call op e' h:=by
  unfold opV
  split
  · rename_i f as
    simp only [AOp.opnds,List.mem_cons,forall_eq_or_imp] at hx
    rw [hx.1,evs_congr hx.2]
  · exact aop_congr hx

end Go.AM

