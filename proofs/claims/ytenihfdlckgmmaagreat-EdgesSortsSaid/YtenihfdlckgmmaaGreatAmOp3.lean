/- A part of the abstract machine, or of what is proved of the program by it. -/
import Derived.Test.YtenihfdlckgmmaaGreatAmOp2
import Derived.Laws.StructEq
import Derived.Laws.Tables
namespace Go.AM
set_option linter.unusedVariables false
set_option linter.unusedSimpArgs false
variable {P:Program} {w:World} {ι:Inj} {h h':Heap} {e:Env} {a:Act} {N:Nat} {v:Value} {op:AOp}

theorem kindT_inv {T:TypeId} {k:Nat} (hk:kindT P T=some k) :
    ((k=0∧P.underlying T=some .bool)∨(k=1∧∃ E,P.underlying T=some (.pointer E))∨(k=2∧∃ E,P.underlying T=some (.slice E))∨(k=3∧∃ E F,P.underlying T=some (.map E F))∨(k=4∧∃ E F G,P.underlying T=some (.func E F G))):=by
  unfold kindT at hk
  split at hk <;> simp_all

section
variable {n:Nat} {T E E':TypeId}
theorem eqIn_bool (hd:P.underlying T=some .bool) (p q:Bool):(Op.equalIn (n + 1) T (.bool p) (.bool q)).run P w=.ok (p == q) w:=by
  simp only [Op.equalIn,Sem.run_bind,r_underlying hd,Result.andThen_ok,Sem.run_pure]
theorem eqIn_ptr (hd:P.underlying T=some (.pointer E)) (q:Option Addr):(Op.equalIn (n + 1) T (.pointer none) (.pointer q)).run P w=.ok q.isNone w:=by
  simp only [Op.equalIn,Sem.run_bind,r_underlying hd,Result.andThen_ok,Sem.run_pure]
theorem eqIn_ptr' (hd:P.underlying T=some (.pointer E)) (q:Addr):(Op.equalIn (n + 1) T (.pointer (some q)) (.pointer none)).run P w=.ok false w:=by
  simp only [Op.equalIn,Sem.run_bind,r_underlying hd,Result.andThen_ok,Sem.run_pure]
theorem eqIn_sl (hd:P.underlying T=some (.slice E)) (q:Option Addr) (l c l' c':Nat):(Op.equalIn (n + 1) T (.slice none l c) (.slice q l' c')).run P w=.ok q.isNone w:=by
  simp only [Op.equalIn,Sem.run_bind,r_underlying hd,Result.andThen_ok,Sem.run_pure]
theorem eqIn_sl' (hd:P.underlying T=some (.slice E)) (q:Addr) (l c l' c':Nat):(Op.equalIn (n + 1) T (.slice (some q) l c) (.slice none l' c')).run P w=.ok false w:=by
  simp only [Op.equalIn,Sem.run_bind,r_underlying hd,Result.andThen_ok,Sem.run_pure]
theorem eqIn_map (hd:P.underlying T=some (.map E E')) (q:Option Nat):(Op.equalIn (n + 1) T (.map none) (.map q)).run P w=.ok q.isNone w:=by
  simp only [Op.equalIn,Sem.run_bind,r_underlying hd,Result.andThen_ok,Sem.run_pure]
theorem eqIn_map' (hd:P.underlying T=some (.map E E')) (q:Nat):(Op.equalIn (n + 1) T (.map (some q)) (.map none)).run P w=.ok false w:=by
  simp only [Op.equalIn,Sem.run_bind,r_underlying hd,Result.andThen_ok,Sem.run_pure]
theorem eqIn_fn0 {A B:Array TypeId} {vr:Bool} (hd:P.underlying T=some (.func A B vr)):(Op.equalIn (n + 1) T .nilFunc .nilFunc).run P w=.ok true w:=by
  simp only [Op.equalIn,Sem.run_bind,r_underlying hd,Result.andThen_ok,Sem.run_pure]
theorem eqIn_fn {A B:Array TypeId} {vr:Bool} (hd:P.underlying T=some (.func A B vr)) (f:Fn) (x y:Array Value):(Op.equalIn (n + 1) T .nilFunc (.func f x y)).run P w=.ok false w:=by
  simp only [Op.equalIn,Sem.run_bind,r_underlying hd,Result.andThen_ok,Sem.run_pure]
theorem eqIn_fn' {A B:Array TypeId} {vr:Bool} (hd:P.underlying T=some (.func A B vr)) (f:Fn) (x y:Array Value):(Op.equalIn (n + 1) T (.func f x y) .nilFunc).run P w=.ok false w:=by
  simp only [Op.equalIn,Sem.run_bind,r_underlying hd,Result.andThen_ok,Sem.run_pure]
theorem eqIn_int {k' k:IntKind} (hd:P.underlying T=some (.int k')) (p q:Int):(Op.equalIn (n + 1) T (.int k p) (.int k q)).run P w=.ok (p == q) w:=by
  simp only [Op.equalIn,Sem.run_bind,r_underlying hd,Result.andThen_ok,Sem.run_pure,if_true]
end

/-- What 'eq1' speaks of. -/
def eqAble:Value→Prop
  | .bool _|.pointer _|.slice _ _ _|.map _|.nilFunc|.func _ _ _=>True
  | _=>False

theorem eq1_sound {k n:Nat} {T:TypeId} {x y x' y':Value} {r:Bool} (hk:kindT P T=some k) (hx:V ι x x') (hy:V ι y y') (hr:eq1 k x y=some r) :
    (Op.equalIn (n + 1) T x' y').run P w=.ok r w∧eqAble x'∧(k=0∨eqAble y'):=by
  rcases kindT_inv hk with ⟨rfl,hd⟩|⟨rfl,E,hd⟩|⟨rfl,E,hd⟩|⟨rfl,E,F,hd⟩|⟨rfl,E,F,G,hd⟩
  · cases x <;> first|(simp only [eq1,reduceCtorEq] at hr;done)|skip
    cases y <;> first|(simp only [eq1,reduceCtorEq] at hr;done)|skip
    simp only [eq1,Option.some.injEq] at hr
    cases hx;cases hy
    subst hr;exact ⟨eqIn_bool hd _ _,trivial,.inl rfl⟩
  · cases x <;> first|(simp only [eq1,reduceCtorEq] at hr;done)|skip
    rename_i p
    cases y <;> first|(simp only [eq1,reduceCtorEq] at hr;done)|skip
    rename_i q
    cases p <;> cases q <;> first|(simp only [eq1,reduceCtorEq] at hr;done)|skip
    all_goals (simp only [eq1,Option.some.injEq] at hr;subst hr;cases hx;cases hy)
    · exact ⟨eqIn_ptr hd _,trivial,.inr trivial⟩
    · exact ⟨eqIn_ptr hd _,trivial,.inr trivial⟩
    · exact ⟨eqIn_ptr' hd _,trivial,.inr trivial⟩
  · cases x <;> first|(simp only [eq1,reduceCtorEq] at hr;done)|skip
    rename_i p _ _
    cases y <;> first|(simp only [eq1,reduceCtorEq] at hr;done)|skip
    rename_i q _ _
    cases p <;> cases q <;> first|(simp only [eq1,reduceCtorEq] at hr;done)|skip
    all_goals (simp only [eq1,Option.some.injEq] at hr;subst hr;cases hx <;> cases hy)
    all_goals first|exact ⟨eqIn_sl hd _ _ _ _ _,trivial,.inr trivial⟩|exact ⟨eqIn_sl' hd _ _ _ _ _,trivial,.inr trivial⟩
  · cases x <;> first|(simp only [eq1,reduceCtorEq] at hr;done)|skip
    rename_i p
    cases y <;> first|(simp only [eq1,reduceCtorEq] at hr;done)|skip
    rename_i q
    cases p <;> cases q <;> first|(simp only [eq1,reduceCtorEq] at hr;done)|skip
    all_goals (simp only [eq1,Option.some.injEq] at hr;subst hr;cases hx;cases hy)
    all_goals first|exact ⟨eqIn_map hd _,trivial,.inr trivial⟩|exact ⟨eqIn_map' hd _,trivial,.inr trivial⟩
  · cases x <;> first|(simp only [eq1,reduceCtorEq] at hr;done)|skip
    all_goals cases y <;> first|(simp only [eq1,reduceCtorEq] at hr;done)|skip
    all_goals (simp only [eq1,Option.some.injEq] at hr;subst hr;cases hx <;> cases hy)
    all_goals first|exact ⟨eqIn_fn0 hd,trivial,.inr trivial⟩|exact ⟨eqIn_fn hd _ _ _,trivial,.inr trivial⟩|exact ⟨eqIn_fn' hd _ _ _,trivial,.inr trivial⟩

theorem bin_eql {T:TypeId} {x y:Value} (hx:eqAble x):Go.binOp .eql T x y=(do pure (.bool (← Op.equal T x y))):=by
  cases x <;> first|exact hx.elim|skip
  all_goals (cases y <;> rfl)
theorem bin_neq {T:TypeId} {x y:Value} (hx:eqAble x):Go.binOp .neq T x y=(do pure (.bool (!(← Op.equal T x y)))):=by
  cases x <;> first|exact hx.elim|skip
  all_goals (cases y <;> rfl)

theorem guard_ok {op:BinOp} {T:TypeId} {x y:Operand} {p q:Value} (h1:p≠.nilIface) (h2:∀ z,p≠.agg z):(eqGuard op T x y p q).run P w=.ok () w:=by
  unfold eqGuard
  cases p <;> first|exact absurd rfl h1|exact absurd rfl (h2 _)|skip
  all_goals (split <;> first|rfl|(split <;> first|rfl|contradiction|skip))
  all_goals rfl

theorem skindT_inv {T:TypeId} {k:Nat} (hk:skindT P T=some k):(k=0∧P.underlying T=some .bool)∨(k=1∧∃ q,P.underlying T=some (.int q))∨(k=2∧P.underlying T=some .string):=by
  unfold skindT at hk
  split at hk <;> simp_all

theorem eqs_sound {k n:Nat} {T:TypeId} {x y:Value} {r:Bool} (hk:skindT P T=some k) (hr:eqs k x y=some r):(Op.equalIn (n + 1) T x y).run P w=.ok r w:=by
  rcases skindT_inv hk with ⟨rfl,hd⟩|⟨rfl,q,hd⟩|⟨rfl,hd⟩
  · cases x <;> first|(simp only [eqs,reduceCtorEq] at hr;done)|skip
    cases y <;> first|(simp only [eqs,reduceCtorEq] at hr;done)|skip
    simp only [eqs,Option.some.injEq] at hr
    subst hr;exact eqIn_bool hd _ _
  · cases x <;> first|(simp only [eqs,reduceCtorEq] at hr;done)|skip
    cases y <;> first|(simp only [eqs,reduceCtorEq] at hr;done)|skip
    simp only [eqs] at hr
    split at hr
    · rename_i hkk;cases hr;subst hkk;exact eqIn_int hd _ _
    · cases hr
  · cases x <;> first|(simp only [eqs,reduceCtorEq] at hr;done)|skip
    cases y <;> first|(simp only [eqs,reduceCtorEq] at hr;done)|skip
    simp only [eqs,Option.some.injEq] at hr
    subst hr;exact run_equalIn_string w n T _ _ hd

theorem r_part {T:TypeId} {C:Array Value} {j k:Nat} {u:Value} (hk:skindT P T=some k) (hu:C[j]? = some u):(part T C j).run P w=.ok u w:=by
  have:isAggT P T=some false:=by
    unfold isAggT
    rcases skindT_inv hk with ⟨rfl,hd⟩|⟨rfl,q,hd⟩|⟨rfl,hd⟩ <;> rw [hd]
  simp [part,r_isAgg this,hu]

theorem eqFields_sound {n:Nat} {X Y:Array Value}:∀ (fs:List Field) (j:Nat) (ks:List Nat) (r:Bool),flatFrom P j fs=some ks→eqCells ks (X.toList.drop j) (Y.toList.drop j)=some r →
    (Op.eqFields (n + 1) X Y fs).run P w=.ok r w:=by
  intro fs
  induction fs with
  | nil =>
    intro j ks r hf hr
    simp only [flatFrom,Option.some.injEq] at hf;subst hf
    have:r=true:=by
      cases hx:X.toList.drop j <;> cases hy:Y.toList.drop j <;> simp_all [eqCells]
    subst this;simp [Op.eqFields]
  | cons f fs ih =>
    intro j ks r hf hr
    simp only [flatFrom] at hf
    cases hk:skindT P f.type with
    | none=>simp [hk] at hf
    | some k =>
      simp only [hk] at hf
      split at hf
      · rename_i hc
        simp only [Bool.and_eq_true,bne_iff_ne,ne_eq,beq_iff_eq] at hc
        cases hrest:flatFrom P (j + 1) fs with
        | none=>simp [hrest] at hf
        | some ks' =>
          simp only [hrest,Option.map_some,Option.some.injEq] at hf;subst hf
          have hj:j < X.toList.length:=by
            rcases Nat.lt_or_ge j X.toList.length with q|q
            · exact q
            · rw [List.drop_eq_nil_of_le q] at hr;simp [eqCells] at hr
          have hj':j < Y.toList.length:=by
            rcases Nat.lt_or_ge j Y.toList.length with q|q
            · exact q
            · rw [List.drop_eq_nil_of_le q,List.drop_eq_getElem_cons hj] at hr;simp [eqCells] at hr
          obtain ⟨x0,ex0,ex⟩:∃ x0,X.toList.drop j=x0::X.toList.drop (j + 1)∧X[f.offset]? = some x0 :=
            ⟨_,List.drop_eq_getElem_cons hj,by rw [hc.2,← Array.getElem?_toList];exact List.getElem?_eq_getElem hj⟩
          obtain ⟨y0,ey0,ey⟩:∃ x0,Y.toList.drop j=x0::Y.toList.drop (j + 1)∧Y[f.offset]? = some x0 :=
            ⟨_,List.drop_eq_getElem_cons hj',by rw [hc.2,← Array.getElem?_toList];exact List.getElem?_eq_getElem hj'⟩
          rw [ex0,ey0] at hr
          simp only [eqCells] at hr
          cases h1:eqs k x0 y0 with
          | none=>simp [h1] at hr
          | some b =>
            cases h2:eqCells ks' (X.toList.drop (j + 1)) (Y.toList.drop (j + 1)) with
            | none=>simp [h1,h2] at hr
            | some c =>
              simp only [h1,h2,Option.bind_some,Option.map_some,Option.some.injEq] at hr
              subst hr
              have:=ih (j + 1) ks' c hrest h2
              have e1:=eqs_sound (P:=P) (w:=w) (n:=n) hk h1
              simp only [Op.eqFields,ne_eq,hc.1,not_false_eq_true,if_true,Sem.run_bind,r_part hk ex,r_part hk ey,Result.andThen_ok,e1]
              cases b
              · simp
              · simp [this]
      · cases hf

theorem flatT_inv {T:TypeId} {ks:List Nat} (hk:flatT P T=some ks):∃ fs,P.underlying T=some (.struct fs)∧P.stoodInHeld T=false∧flatFrom P 0 fs.toList=some ks:=by
  unfold flatT at hk
  split at hk
  · rename_i fs hd
    split at hk
    · cases hk
    · rename_i hs;exact ⟨fs,hd,by simpa using hs,hk⟩
  · cases hk

theorem eqA_sound {n:Nat} {T:TypeId} {ks:List Nat} {X Y:Array Value} {r:Bool} (hk:flatT P T=some ks) (hr:eqCells ks X.toList Y.toList=some r):(Op.equalIn (n + 2) T (.agg X) (.agg Y)).run P w=.ok r w:=by
  obtain ⟨fs,hd,hs,hf⟩:=flatT_inv hk
  have hfs:P.fieldsOf T=fs:=by simp [Program.fieldsOf,hd]
  rw [run_equalIn_struct w (n + 1) T X Y (by rw [hfs];exact hd) hs,hfs]
  exact eqFields_sound fs.toList 0 ks r hf (by simpa using hr)

theorem keyT_inv {T:TypeId} {s:KS} (hk:keyT P T=some s):(∃ k,s=.one k∧skindT P T=some k)∨(∃ ks,s=.many ks∧flatT P T=some ks∧skindT P T=none):=by
  unfold keyT at hk
  cases h1:skindT P T with
  | some k=>simp [h1] at hk;exact .inl ⟨k,hk.symm,rfl⟩
  | none =>
    simp only [h1] at hk
    cases h2:flatT P T with
    | none=>simp [h2] at hk
    | some ks=>simp [h2] at hk;exact .inr ⟨ks,hk.symm,rfl,rfl⟩

theorem eqK_sound {n:Nat} {T:TypeId} {s:KS} {x y:Value} {r:Bool} (hk:keyT P T=some s) (hr:eqK s x y=some r):(Op.equalIn (n + 2) T x y).run P w=.ok r w:=by
  rcases keyT_inv hk with ⟨k,rfl,h1⟩|⟨ks,rfl,h1,_⟩
  · exact eqs_sound h1 hr
  · simp only [eqK] at hr
    split at hr
    · exact eqA_sound h1 hr
    · cases hr

theorem s_eqv {o:Oper} {bo:BinOp} {T U:TypeId} {x y:Operand} {k:Nat} {neg:Bool} (ho:o.op=.binOp bo T x y U) (hb:(bo=.eql∧neg=false)∨(bo=.neq∧neg=true)) (hk:kindT P T=some k) (hx:okO x=true) (hy:okO y=true)
    (hS:Sim P ι h w) (hF:FR N ι e a.tmps) (hr:aop (.eqv k neg x y) e h=some (v,h')):OpRes P ι h w ((execOp a.eval o).run P w) v h':=by
  simp only [aop] at hr
  split at hr
  · rename_i p q hp hq
    cases he:eq1 k p q with
    | none=>simp [he] at hr
    | some r =>
      simp only [he,Option.map_some,Option.some.injEq,Prod.mk.injEq] at hr;obtain ⟨rfl,rfl⟩:=hr
      have v1:=hF.ev hx hp
      have v2:=hF.ev hy hq
      obtain ⟨e1,e3,_⟩:=eq1_sound (P:=P) (w:=w) (n:=9999) hk v1 v2 he
      have hg:(eqGuard bo T x y (a.eval x) (a.eval y)).run P w=.ok () w :=
        guard_ok (fun hz=>by rw [hz] at e3;exact e3) (fun z hz=>by rw [hz] at e3;exact e3)
      have e2:(Op.equal T (a.eval x) (a.eval y)).run P w=.ok r w:=e1
      refine .same hS (v':=.bool (bif neg then !r else r)) ?_ (.bool _)
      rcases hb with ⟨rfl,rfl⟩|⟨rfl,rfl⟩
      · simp only [execOp,ho,Sem.run_bind,hg,Result.andThen_ok,bin_eql e3,e2,Sem.run_pure,cond_false]
      · simp only [execOp,ho,Sem.run_bind,hg,Result.andThen_ok,bin_neq e3,e2,Sem.run_pure,cond_true]
  · cases hr

theorem s_eqA {o:Oper} {bo:BinOp} {T U:TypeId} {x y:Operand} {ks:List Nat} {neg:Bool} (ho:o.op=.binOp bo T x y U) (hb:(bo=.eql∧neg=false)∨(bo=.neq∧neg=true)) (hk:flatT P T=some ks) (hgt:P.eqGuardType P.depth T=false) (hx:okO x=true) (hy:okO y=true)
    (hS:Sim P ι h w) (hF:FR N ι e a.tmps) (hr:aop (.eqA ks neg x y) e h=some (v,h')):OpRes P ι h w ((execOp a.eval o).run P w) v h':=by
  simp only [aop] at hr
  split at hr
  · rename_i p q hp hq
    cases he:eqCells ks p.toList q.toList with
    | none=>simp [he] at hr
    | some r =>
      simp only [he,Option.map_some,Option.some.injEq,Prod.mk.injEq] at hr;obtain ⟨rfl,rfl⟩:=hr
      have v1:=hF.ev hx hp
      have v2:=hF.ev hy hq
      obtain ⟨s1,s2⟩:=eqCells_scal he
      have e1:a.eval x=.agg p:=by
        generalize a.eval x=ax at v1
        cases v1 with
        | @agg l l' hl hv=>rw [VL.scal ⟨hl,hv⟩ (by simpa using s1)]
      have e2:a.eval y=.agg q:=by
        generalize a.eval y=ay at v2
        cases v2 with
        | @agg l l' hl hv=>rw [VL.scal ⟨hl,hv⟩ (by simpa using s2)]
      have e3:(Op.equal T (.agg p) (.agg q)).run P w=.ok r w:=eqA_sound (n:=9998) hk he
      refine .same hS (v':=.bool (bif neg then !r else r)) ?_ (.bool _)
      rcases hb with ⟨rfl,rfl⟩|⟨rfl,rfl⟩ <;> simp [execOp,ho,e1,e2,eqGuard,r_program,hgt,Go.binOp,e3]
  · cases hr

theorem checkKey_scal {T:TypeId} {k n:Nat} {x:Value} {em:Bool} (hk:skindT P T=some k):(Instr.checkKey em (n + 1) T x).run P w=.ok () w:=by
  rcases skindT_inv hk with ⟨rfl,hd⟩|⟨rfl,q,hd⟩|⟨rfl,hd⟩ <;> simp [Instr.checkKey,r_underlying hd]

theorem checkKey_fields {n:Nat} {X:Array Value} {em:Bool}:∀ (fs:List Field) (j:Nat) (ks:List Nat),flatFrom P j fs=some ks→j + fs.length≤X.size →
    (forIn (m:=Sem) fs PUnit.unit fun f _=>do
      if f.name ≠ "_" then Instr.checkKey em (n + 1) f.type (← part f.type X f.offset)
      pure (ForInStep.yield PUnit.unit)).run P w=.ok PUnit.unit w:=by
  intro fs
  induction fs with
  | nil=>intro j ks _ _;simp
  | cons f fs ih =>
    intro j ks hf hn
    simp only [flatFrom] at hf
    cases hk:skindT P f.type with
    | none=>simp [hk] at hf
    | some k =>
      simp only [hk] at hf
      split at hf
      · rename_i hc
        simp only [Bool.and_eq_true,bne_iff_ne,ne_eq,beq_iff_eq] at hc
        cases hrest:flatFrom P (j + 1) fs with
        | none=>simp [hrest] at hf
        | some ks' =>
          simp only [List.length_cons] at hn
          have hj:j < X.size:=by omega
          have ex:X[f.offset]? = some X[j]:=by rw [hc.2];exact Array.getElem?_eq_getElem hj
          have:=ih (j + 1) ks' hrest (by omega)
          simp only [List.forIn_cons,Sem.run_bind]
          simp [hc.1,r_part hk ex,checkKey_scal hk]
          simpa using this
      · cases hf

theorem eqCells_len {ks:List Nat} {x y:List Value} {r:Bool} (hr:eqCells ks x y=some r):x.length=ks.length∧y.length=ks.length:=by
  induction ks generalizing x y r with
  | nil=>cases x <;> cases y <;> simp_all [eqCells]
  | cons k ks ih =>
    cases x with
    | nil=>simp [eqCells] at hr
    | cons a x =>
      cases y with
      | nil=>simp [eqCells] at hr
      | cons b y =>
        simp only [eqCells] at hr
        cases h1:eqs k a b with
        | none=>simp [h1] at hr
        | some q =>
          cases h2:eqCells ks x y with
          | none=>simp [h1,h2] at hr
          | some q2=>have:=ih h2;simp [this.1,this.2]

theorem flatFrom_len:∀ (fs:List Field) (j:Nat) (ks:List Nat),flatFrom P j fs=some ks→fs.length=ks.length:=by
  intro fs
  induction fs with
  | nil=>intro j ks h;simp [flatFrom] at h;subst h;rfl
  | cons f fs ih =>
    intro j ks hf
    simp only [flatFrom] at hf
    cases hk:skindT P f.type with
    | none=>simp [hk] at hf
    | some k =>
      simp only [hk] at hf
      split at hf
      · cases hrest:flatFrom P (j + 1) fs with
        | none=>simp [hrest] at hf
        | some ks'=>simp [hrest] at hf;subst hf;simp [ih _ _ hrest]
      · cases hf

theorem checkKey_sound {T:TypeId} {s:KS} {n:Nat} {x:Value} {em:Bool} (hk:keyT P T=some s) (hx:keyOk s x=true):(Instr.checkKey em (n + 2) T x).run P w=.ok () w:=by
  rcases keyT_inv hk with ⟨k,rfl,h1⟩|⟨ks,rfl,h1,_⟩
  · exact checkKey_scal h1
  · obtain ⟨fs,hd,hs,hf⟩:=flatT_inv h1
    unfold keyOk at hx
    cases hq:eqK (.many ks) x x with
    | none=>simp [hq] at hx
    | some r =>
      cases x with
      | agg X =>
        have hl:=(eqCells_len (show eqCells ks X.toList X.toList=some r from hq)).1
        have:=flatFrom_len _ _ _ hf
        have hcf:=checkKey_fields (P:=P) (w:=w) (n:=n) (X:=X) (em:=em) fs.toList 0 ks hf (by simp at hl this ⊢;omega)
        obtain ⟨m,hm⟩:∃ m,m=n + 1:=⟨_,rfl⟩
        rw [← hm] at hcf
        rw [show n + 2=m + 1 by omega]
        simp only [Instr.checkKey,Sem.run_bind,r_underlying hd,Result.andThen_ok]
        rw [← Array.forIn_toList]
        simp at hcf
        simp [hcf]
      | _=>simp [eqK] at hq

theorem findNow_or {T:TypeId} {s:KS} {d:TypeDesc} (hd:P.underlying T=some d) (hk:keyT P T=some s) (k:Value):∀ (es:List (Value × Value)) (ces:List MapEntry) (j:Nat) (r:Option Value),
    VM ι es ces→findM s k es=some r →
    (Instr.findNow d k ces j=none∨Instr.findNow d k ces j=some none∧r=none∨∃ i u x,Instr.findNow d k ces j=some (some (j + i,x))∧r=some u∧V ι u x∧(∃ ce,ces[i]? = some ce∧eqK s k ce.key=some true)∧∀ i' ce,i' < i→ces[i']? = some ce→eqK s k ce.key=some false) ∧
    ((Instr.findAsking T k ces j).run P w=.ok none w∧r=none∨∃ i u x,(Instr.findAsking T k ces j).run P w=.ok (some (j + i,x)) w∧r=some u∧V ι u x∧(∃ ce,ces[i]? = some ce∧eqK s k ce.key=some true)∧∀ i' ce,i' < i→ces[i']? = some ce→eqK s k ce.key=some false):=by
  intro es
  induction es with
  | nil =>
    intro ces j r hv hr
    have:ces=[]:=List.length_eq_zero_iff.1 hv.1.symm
    subst this
    simp only [findM,Option.some.injEq] at hr;subst hr
    exact ⟨.inr (.inl ⟨rfl,rfl⟩),.inl ⟨rfl,rfl⟩⟩
  | cons e0 es ih =>
    intro ces j r hv hr
    cases ces with
    | nil=>exact absurd hv.1 (by simp)
    | cons c0 ces =>
      obtain ⟨k',v'⟩:=e0
      have h0:=hv.2 0 _ _ rfl rfl
      simp only at h0
      have hv':VM ι es ces:=⟨by have:=hv.1;simpa using this,fun i x y hx hy=>hv.2 (i + 1) x y (by simpa using hx) (by simpa using hy)⟩
      simp only [findM] at hr
      have hnow:Instr.sameNow d k c0.key=none∨Instr.sameNow d k c0.key=eqK s k k':=by
        rw [← h0.1]
        rcases keyT_inv hk with ⟨q,rfl,h1⟩|⟨ks,rfl,h1,h2⟩
        · rcases skindT_inv h1 with ⟨rfl,h3⟩|⟨rfl,q',h3⟩|⟨rfl,h3⟩ <;> rw [hd] at h3 <;> cases h3
          · cases k <;> cases k' <;> simp [Instr.sameNow,eqK,eqs]
          · cases k <;> cases k' <;> simp [Instr.sameNow,eqK,eqs]
          · cases k <;> cases k' <;> simp [Instr.sameNow,eqK,eqs,beq_toListBytes]
        · obtain ⟨fs,hd',_⟩:=flatT_inv h1
          rw [hd] at hd';cases hd'
          left;cases k <;> cases k' <;> rfl
      cases hq:eqK s k k' with
      | none=>simp [hq] at hr
      | some b =>
        have hask:=eqK_sound (P:=P) (w:=w) (n:=9998) hk hq
        have hask:(Op.equal T k c0.key).run P w=.ok b w:=by rw [← h0.1];exact hask
        rw [hq] at hnow
        have hkey:eqK s k c0.key=some b:=by rw [← h0.1];exact hq
        cases b with
        | true =>
          simp only [hq,Option.some.injEq] at hr;subst hr
          refine ⟨?_,.inr ⟨0,v',c0.val,?_,rfl,h0.2,⟨c0,rfl,hkey⟩,fun i' ce hi=>absurd hi (Nat.not_lt_zero _)⟩⟩
          · rcases hnow with hn|hn
            · left;simp [Instr.findNow,hn]
            · right;right;exact ⟨0,v',c0.val,by simp [Instr.findNow,hn],rfl,h0.2,⟨c0,rfl,hkey⟩,fun i' ce hi=>absurd hi (Nat.not_lt_zero _)⟩
          · simp [Instr.findAsking,hask]
        | false =>
          simp only [hq] at hr
          obtain ⟨i1,i2⟩:=ih ces (j + 1) r hv' hr
          have lift:∀ (i:Nat),(∀ i' ce,i' < i→ces[i']? = some ce→eqK s k ce.key=some false)→∀ i' ce,i' < i + 1→(c0::ces)[i']? = some ce→eqK s k ce.key=some false:=by
            intro i hi i' ce hlt hce
            cases i' with
            | zero=>simp at hce;subst hce;exact hkey
            | succ i'=>exact hi i' ce (by omega) (by simpa using hce)
          refine ⟨?_,?_⟩
          · rcases hnow with hn|hn
            · left;simp [Instr.findNow,hn]
            · rcases i1 with h1|⟨h1,h2⟩|⟨i,u,x,h1,h2,h3,⟨ce,h4,h4'⟩,h5⟩
              · left;simp [Instr.findNow,hn,h1]
              · right;left;exact ⟨by simp [Instr.findNow,hn,h1],h2⟩
              · right;right;exact ⟨i + 1,u,x,by simp [Instr.findNow,hn,h1];omega,h2,h3,⟨ce,by simpa using h4,h4'⟩,lift i h5⟩
          · rcases i2 with ⟨h1,h2⟩|⟨i,u,x,h1,h2,h3,⟨ce,h4,h4'⟩,h5⟩
            · left;exact ⟨by simp [Instr.findAsking,hask,h1],h2⟩
            · right;exact ⟨i + 1,u,x,by simp [Instr.findAsking,hask,h1];omega,h2,h3,⟨ce,by simpa using h4,h4'⟩,lift i h5⟩

theorem findKey_sound {T:TypeId} {s:KS} (hk:keyT P T=some s) {k:Value} {es:List (Value × Value)} {ces:List MapEntry} {r:Option Value} (hv:VM ι es ces) (hr:findM s k es=some r) :
    (Instr.findKey T k ces).run P w=.ok none w∧r=none∨∃ i u x,(Instr.findKey T k ces).run P w=.ok (some (i,x)) w∧r=some u∧V ι u x∧(∃ ce,ces[i]? = some ce∧eqK s k ce.key=some true)∧∀ i' ce,i' < i→ces[i']? = some ce→eqK s k ce.key=some false:=by
  obtain ⟨d,hd⟩:∃ d,P.underlying T=some d:=by
    rcases keyT_inv hk with ⟨q,rfl,h1⟩|⟨ks,rfl,h1,h2⟩
    · rcases skindT_inv h1 with ⟨_,h3⟩|⟨_,q',h3⟩|⟨_,h3⟩ <;> exact ⟨_,h3⟩
    · obtain ⟨fs,hd',_⟩:=flatT_inv h1;exact ⟨_,hd'⟩
  obtain ⟨i1,i2⟩:=findNow_or (P:=P) (w:=w) (ι:=ι) hd hk k es ces 0 r hv hr
  rcases i1 with h1|⟨h1,h2⟩|⟨i,u,x,h1,h2,h3⟩
  · rcases i2 with ⟨h2,h3⟩|⟨i,u,x,h2,h3⟩
    · left;exact ⟨by simp [Instr.findKey,r_underlying hd,h1,h2],h3⟩
    · right;exact ⟨0 + i,u,x,by simp [Instr.findKey,r_underlying hd,h1,h2],by simpa using h3⟩
  · left;exact ⟨by simp [Instr.findKey,r_underlying hd,h1],h2⟩
  · right;exact ⟨0 + i,u,x,by simp [Instr.findKey,r_underlying hd,h1],by simpa using ⟨h2,h3⟩⟩

theorem s_lookup {o:Oper} {T KT E:TypeId} {x y:Operand} {s:KS} {z:Value} {ok:Bool} (ho:o.op=.lookup T x y ok) (hd:P.underlying T=some (.map KT E)) (hz:zeroT P E=some z) (hk:keyT P KT=some s) (hx:okO x=true) (hy:okO y=true)
    (hS:Sim P ι h w) (hF:FR N ι e a.tmps) (hr:aop (.lookup s z ok x y) e h=some (v,h')):OpRes P ι h w ((execOp a.eval o).run P w) v h':=by
  obtain ⟨_,_,_,hzc,_⟩:=zeroT_inv hz
  have vz:V ι z z:=V.closed 3 z hzc
  have fin:∀ (b:Bool) (u u':Value),V ι u u'→V ι (bif ok then .tuple #[u,.bool b] else u) (if ok then .tuple #[u',.bool b] else u'):=by
    intro b u u' hu
    cases ok
    · exact hu
    · exact .tup' (l:=[u,.bool b]) (l':=[u',.bool b]) (VL.cons hu (VL.cons (.bool b) (VL.nil ι)))
  simp only [aop] at hr
  split at hr
  · rename_i r k hp hq
    split at hr
    · rename_i hok
      have v1:=hF.ev hx hp
      have e2:=(hF.ev hy hq).key hok
      generalize hav:a.eval x=av at v1
      cases v1 with
      | map0 =>
        simp only [findM,Option.some.injEq,Prod.mk.injEq] at hr;obtain ⟨rfl,rfl⟩:=hr
        refine .same hS ?_ (fin false z z vz)
        have hfk:(Instr.findKey KT k []).run P w=.ok none w:=by
          rcases findKey_sound (P:=P) (w:=w) (ι:=ι) hk (k:=k) (es:=[]) (ces:=[]) (r:=none) ⟨rfl,fun _ _ _ h=>by simp at h⟩ rfl with ⟨h1,_⟩|⟨i,u,x,_,h2,_⟩
          · exact h1
          · cases h2
        simp [execOp,ho,Instr.lookup,r_underlying hd,hav,e2,checkKey_sound (n:=9998) hk hok,hfk,r_zeroValue hz]
      | map hb =>
        rename_i b i
        simp only at hr
        cases hg:h.get b with
        | none=>simp [hg] at hr
        | some ob =>
          cases ob with
          | map es =>
            simp only [hg] at hr
            obtain ⟨O,h1,ces,clk,rfl,hvm,hbn⟩:=hS.obj b i _ hb hg
            have hgo:(getObj i.blk).run P w=.ok (.map ces clk) w:=by simp [getObj,Sem.run,h1]
            cases hf:findM s k es with
            | none=>simp [hf] at hr
            | some res =>
              rcases findKey_sound (P:=P) (w:=w) hk hvm hf with ⟨h2,rfl⟩|⟨j,u,x',h2,rfl,h3,_⟩
              · simp only [hf,Option.some.injEq,Prod.mk.injEq] at hr;obtain ⟨rfl,rfl⟩:=hr
                refine .same hS ?_ (fin false z z vz)
                simp [execOp,ho,Instr.lookup,r_underlying hd,hav,e2,hgo,checkKey_sound (n:=9998) hk hok,h2,r_zeroValue hz]
              · simp only [hf,Option.some.injEq,Prod.mk.injEq] at hr;obtain ⟨rfl,rfl⟩:=hr
                refine .same hS ?_ (fin true u x' h3)
                simp [execOp,ho,Instr.lookup,r_underlying hd,hav,e2,hgo,checkKey_sound (n:=9998) hk hok,h2]
          | _=>simp [hg] at hr
    · cases hr
  · cases hr

end Go.AM

