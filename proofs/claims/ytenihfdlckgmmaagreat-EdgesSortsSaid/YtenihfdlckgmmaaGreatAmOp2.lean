/- A part of the abstract machine, or of what is proved of the program by it. -/
import Derived.Test.YtenihfdlckgmmaaGreatAmRun
namespace Go.AM
set_option linter.unusedVariables false
set_option linter.unusedSimpArgs false
variable {P:Program} {w:World} {ι:Inj} {h h':Heap} {e:Env} {a:Act} {N:Nat} {v:Value} {op:AOp}

theorem s_nilc {o:Oper} {x:Operand} (ho:o.op=.nilCheck x) (hx:okO x=true) (hS:Sim P ι h w) (hF:FR N ι e a.tmps)
    (hr:aop (.nilc x) e h=some (v,h')):OpRes P ι h w ((execOp a.eval o).run P w) v h':=by
  simp only [aop] at hr
  split at hr
  · rename_i q he
    simp only [Option.some.injEq,Prod.mk.injEq] at hr;obtain ⟨rfl,rfl⟩:=hr
    have hp:=hF.ev hx he
    generalize hav:a.eval x=av at hp
    have hp0:=hp
    cases hp with
    | ptr hb=>exact .same hS (by simp only [execOp,ho,hav];rfl) hp0
  · rename_i f q1 q2 he
    simp only [Option.some.injEq,Prod.mk.injEq] at hr;obtain ⟨rfl,rfl⟩:=hr
    have hp:=hF.ev hx he
    generalize hav:a.eval x=av at hp
    have hp0:=hp
    cases hp with
    | fn _ _ _ _=>exact .same hS (by simp only [execOp,ho,hav];rfl) hp0
  · rename_i f q1 q2 he
    simp only [Option.some.injEq,Prod.mk.injEq] at hr;obtain ⟨rfl,rfl⟩:=hr
    have hp:=hF.ev hx he
    generalize hav:a.eval x=av at hp
    have hp0:=hp
    cases hp with
    | yield _=>exact .same hS (by simp only [execOp,ho,hav];rfl) hp0
  · cases hr

theorem ibits_sound {op:BinOp} {k:IntKind} {x y:Int} (hr:ibits op k x y=some v):(Op.intBits op k x y).run P w=.ok v w:=by
  unfold ibits at hr
  cases op <;> simp only [Option.some.injEq,reduceCtorEq] at hr <;> subst hr <;> rfl

theorem ibin_sound {op:BinOp} {k:IntKind} {x y:Int} (h1:op≠.shl) (h2:op≠.shr) (hr:ibin op k x y=some v) :
    (match op with
    | .add|.sub|.mul=>Op.intArith op k x y
    | .quo|.rem=>Op.intDiv op k x y
    | .and|.or|.xor|.andNot=>Op.intBits op k x y
    | _=>Op.intCmp op x y:Sem Value).run P w=.ok v w:=by
  cases op <;> simp only [ibin,ne_eq,not_true_eq_false] at hr h1 h2 <;>
    first
    | (cases hr;rfl)
    | (split at hr
       · cases hr
       · rename_i hy;cases hr;simp [Op.intDiv,hy])
    | exact ibits_sound hr
    | contradiction

theorem sbin_sound {op:BinOp} {x y:ByteArray} (hr:sbin op x y=some v):(Op.stringOp op x y).run P w=.ok v w:=by
  cases op <;> simp only [sbin,reduceCtorEq] at hr
  · split at hr
    · cases hr
    · rename_i hn
      cases hr
      have:¬ (((x.size + y.size:Nat):Int) > IntKind.i64.max):=hn
      simp only [Op.stringOp,if_neg this];rfl
  all_goals (cases hr;rfl)

theorem binV_sound {op:BinOp} {T:TypeId} {x y:Value} (hr:binV op x y=some v):(Go.binOp op T x y).run P w=.ok v w:=by
  unfold binV at hr
  split at hr
  · rename_i k p k' q
    split at hr
    · split at hr
      · cases hr
      · rename_i hy
        cases hr
        simp only [Go.binOp,Op.shift,if_neg hy];rfl
    · split at hr
      · cases hr
      · rename_i hy
        cases hr
        simp only [Go.binOp,Op.shift,if_neg hy];rfl
    · rename_i h1 h2
      split at hr
      · rename_i hk
        subst hk
        have:=ibin_sound (P:=P) (w:=w) (op:=op) (by simpa using h1) (by simpa using h2) hr
        cases op <;> first|exact absurd rfl h1|exact absurd rfl h2|skip
        all_goals (simp only [Go.binOp,ne_eq,not_true_eq_false,if_false];exact this)
      · cases hr
  · rename_i p q
    have:=sbin_sound (P:=P) (w:=w) hr
    cases op <;> first|(simp only [sbin,reduceCtorEq] at hr;done)|(simp only [Go.binOp];exact this)
  · cases hr

theorem binV_scal {op:BinOp} {x y:Value} (hr:binV op x y=some v):scal x=true∧scal y=true∧scal v=true:=by
  unfold binV at hr
  split at hr
  · refine ⟨rfl,rfl,?_⟩
    split at hr
    · split at hr <;> cases hr;rfl
    · split at hr <;> cases hr;rfl
    · split at hr
      · cases op <;> simp only [ibin,ibits] at hr <;> first|(cases hr;rfl)|(split at hr <;> cases hr <;> rfl)|(cases hr)
      · cases hr
  · refine ⟨rfl,rfl,?_⟩
    cases op <;> simp only [sbin,reduceCtorEq] at hr <;> first|(cases hr;rfl)|(split at hr <;> cases hr <;> rfl)
  · cases hr

theorem V.of_scal {x:Value} (hx:AM.scal x=true):V ι x x:=by
  cases x <;> first|exact .bool _|exact .int _ _|exact .str _|(simp [AM.scal] at hx)

theorem guard_scal {op:BinOp} {T:TypeId} {x y:Operand} {p q:Value} (hp:scal p=true):(eqGuard op T x y p q).run P w=.ok () w:=by
  unfold eqGuard
  cases p <;> first|(simp [scal] at hp;done)|skip
  all_goals (split <;> first|rfl|(split <;> first|rfl|contradiction|skip))
  all_goals rfl

theorem s_bin {o:Oper} {bo:BinOp} {T U:TypeId} {x y:Operand} (ho:o.op=.binOp bo T x y U) (hx:okO x=true) (hy:okO y=true) (hS:Sim P ι h w) (hF:FR N ι e a.tmps)
    (hr:aop (.bin bo x y) e h=some (v,h')):OpRes P ι h w ((execOp a.eval o).run P w) v h':=by
  simp only [aop] at hr
  split at hr
  · rename_i p q hp hq
    cases hb:binV bo p q with
    | none=>simp [hb] at hr
    | some u =>
      simp [hb] at hr
      obtain ⟨rfl,rfl⟩:=hr
      obtain ⟨s1,s2,s3⟩:=binV_scal hb
      have e1:=(hF.ev hx hp).scal s1
      have e2:=(hF.ev hy hq).scal s2
      refine .same hS (v':=u) ?_ (V.of_scal s3)
      simp [execOp,ho,e1,e2,guard_scal s1,binV_sound hb]
  · cases hr

theorem un_sound {op:UnOp} {x:Value} (hr:unV op x=some v):(Op.unary op x).run P w=.ok v w∧scal x=true∧scal v=true:=by
  cases op <;> cases x <;> simp only [unV,reduceCtorEq] at hr <;> first
    | (cases hr;exact ⟨rfl,rfl,rfl⟩)
    | exact ⟨ibits_sound hr,rfl,by unfold ibits at hr;cases hr;rfl⟩

theorem s_un {o:Oper} {uo:UnOp} {T:TypeId} {x:Operand} (ho:o.op=.unOp uo T x) (hx:okO x=true) (hS:Sim P ι h w) (hF:FR N ι e a.tmps)
    (hr:aop (.un uo x) e h=some (v,h')):OpRes P ι h w ((execOp a.eval o).run P w) v h':=by
  simp only [aop] at hr
  split at hr
  · rename_i p hp
    cases hb:unV uo p with
    | none=>simp [hb] at hr
    | some u =>
      simp [hb] at hr
      obtain ⟨rfl,rfl⟩:=hr
      obtain ⟨s1,s2,s3⟩:=un_sound (P:=P) (w:=w) hb
      have e1:=(hF.ev hx hp).scal s2
      exact .same hS (v':=u) (by simp [execOp,ho,e1,s1]) (V.of_scal s3)
  · cases hr

theorem s_conv {o:Oper} {S D:TypeId} {k k':IntKind} {x:Operand} (ho:o.op=.convert S D x) (hx:okO x=true) (h1:P.underlying S=some (.int k')) (h2:P.underlying D=some (.int k)) (hS:Sim P ι h w) (hF:FR N ι e a.tmps)
    (hr:aop (.conv k x) e h=some (v,h')):OpRes P ι h w ((execOp a.eval o).run P w) v h':=by
  simp only [aop] at hr
  split at hr
  · rename_i j n hp
    simp only [Option.some.injEq,Prod.mk.injEq] at hr;obtain ⟨rfl,rfl⟩:=hr
    have e1:=(hF.ev hx hp).scal rfl
    exact .same hS (v':=.int k (k.wrap n)) (by simp [execOp,ho,e1,convert,r_underlying h1,r_underlying h2,Conv.intToInt]) (.int _ _)
  · cases hr

theorem s_convS {o:Oper} {S D:TypeId} {x:Operand} (ho:o.op=.convert S D x) (hx:okO x=true) (h1:P.underlying S=some .string) (h2:P.underlying D=some .string) (hS:Sim P ι h w) (hF:FR N ι e a.tmps)
    (hr:aop (.convS x) e h=some (v,h')):OpRes P ι h w ((execOp a.eval o).run P w) v h':=by
  simp only [aop] at hr
  split at hr
  · rename_i s hp
    simp only [Option.some.injEq,Prod.mk.injEq] at hr;obtain ⟨rfl,rfl⟩:=hr
    have e1:=(hF.ev hx hp).scal rfl
    exact .same hS (v':=.string s) (by simp [execOp,ho,e1,convert,r_underlying h1,r_underlying h2]) (.str _)
  · cases hr

theorem s_mkf {o:Oper} {f:FuncId} {x y:Array Operand} (ho:o.op=.makeFunc (.func f) x y) (hx:x.toList.all okO=true) (hy:y.toList.all okO=true) (hS:Sim P ι h w) (hF:FR N ι e a.tmps)
    (hr:aop (.mkf f x.toList y.toList) e h=some (v,h')):OpRes P ι h w ((execOp a.eval o).run P w) v h':=by
  simp only [aop] at hr
  cases h1:evs e x.toList with
  | none=>simp [h1] at hr
  | some xs =>
    cases h2:evs e y.toList with
    | none=>simp [h1,h2] at hr
    | some ys =>
      simp [h1,h2] at hr
      obtain ⟨rfl,rfl⟩:=hr
      have v1:=hF.evs hx h1
      have v2:=hF.evs hy h2
      refine .same hS (v':=.func (.func f) (x.toList.map a.eval).toArray (y.toList.map a.eval).toArray) ?_ (.fn v1.1 v1.2 v2.1 v2.2)
      have q:∀ y:Array Operand,Array.map a.eval y=(List.map a.eval y.toList).toArray:=fun y=>by apply Array.ext';simp
      simp [execOp,ho,Instr.makeFunc,q]

theorem s_faddr {o:Oper} {T:TypeId} {x:Operand} {j:Nat} {fs:Array Field} {f:Field} {s:Nat} (ho:o.op=.fieldAddr T x j) (hx:okO x=true) (h1:P.underlying T=some (.struct fs)) (h2:fs[j]? = some f) (h3:sizeT P f.type=some (s + 1))
    (hS:Sim P ι h w) (hF:FR N ι e a.tmps) (hr:aop (.faddr f.offset x) e h=some (v,h')):OpRes P ι h w ((execOp a.eval o).run P w) v h':=by
  simp only [aop] at hr
  split at hr
  · rename_i b off hp
    simp only [Option.some.injEq,Prod.mk.injEq] at hr;obtain ⟨rfl,rfl⟩:=hr
    have hv:=hF.ev hx hp
    generalize hav:a.eval x=av at hv
    cases hv with
    | ptr hb =>
      rename_i i
      refine .same hS (v':=.pointer (some ⟨i.blk,off + f.offset,none⟩)) ?_ (.ptr hb)
      simp [execOp,ho,Instr.fieldAt,r_underlying h1,h2,hav,Instr.sureAddr,fieldPlace,r_sizeOf h3,addr_add]
  · cases hr

theorem s_field1 {o:Oper} {T:TypeId} {x:Operand} {j:Nat} {fs:Array Field} {f:Field} (ho:o.op=.field T x j) (hx:okO x=true) (h1:P.underlying T=some (.struct fs)) (h2:fs[j]? = some f) (h3:isAggT P f.type=some false)
    (hS:Sim P ι h w) (hF:FR N ι e a.tmps) (hr:aop (.field1 f.offset x) e h=some (v,h')):OpRes P ι h w ((execOp a.eval o).run P w) v h':=by
  simp only [aop] at hr
  split at hr
  · rename_i cs hp
    cases hc:cs.toList[f.offset]? with
    | none=>simp [hc] at hr
    | some u =>
      simp only [hc,Option.map_some,Option.some.injEq,Prod.mk.injEq] at hr;obtain ⟨rfl,rfl⟩:=hr
      have hv:=hF.ev hx hp
      generalize hav:a.eval x=av at hv
      cases hv with
      | @agg l l' hl hv =>
        obtain ⟨u',hu',hv'⟩:=VL.get ⟨hl,hv⟩ (by simpa using hc)
        refine .same hS (v':=u') ?_ hv'
        have e3:(l'.toArray)[f.offset]? = some u':=by simpa using hu'
        simp [execOp,ho,Instr.field,r_underlying h1,h2,hav,asAgg,part,r_isAgg h3,hu']
  · cases hr

theorem s_fieldN {o:Oper} {T:TypeId} {x:Operand} {j n:Nat} {fs:Array Field} {f:Field} (ho:o.op=.field T x j) (hx:okO x=true) (h1:P.underlying T=some (.struct fs)) (h2:fs[j]? = some f) (h3:isAggT P f.type=some true) (h4:sizeT P f.type=some n)
    (hS:Sim P ι h w) (hF:FR N ι e a.tmps) (hr:aop (.fieldN f.offset n x) e h=some (v,h')):OpRes P ι h w ((execOp a.eval o).run P w) v h':=by
  simp only [aop] at hr
  split at hr
  · rename_i cs hp
    split at hr
    · rename_i hle
      simp only [Option.some.injEq,Prod.mk.injEq] at hr;obtain ⟨rfl,rfl⟩:=hr
      have hv:=hF.ev hx hp
      generalize hav:a.eval x=av at hv
      cases hv with
      | @agg l l' hl hv =>
        have hvl:VL ι l l':=⟨hl,hv⟩
        refine .same hS (v':=.agg ((l'.drop f.offset).take n).toArray) ?_ (.agg' ?_)
        · simp [execOp,ho,Instr.field,r_underlying h1,h2,hav,asAgg,part,r_isAgg h3,r_sizeOf h4]
        · simpa using (hvl.drop f.offset).take n
    · cases hr
  · cases hr

theorem s_iaddr {o:Oper} {T E:TypeId} {x y:Operand} {s:Nat} (ho:o.op=.indexAddr T x y) (hx:okO x=true) (hy:okO y=true) (h1:P.underlying T=some (.slice E)) (h3:sizeT P E=some s)
    (hS:Sim P ι h w) (hF:FR N ι e a.tmps) (hr:aop (.iaddr s x y) e h=some (v,h')):OpRes P ι h w ((execOp a.eval o).run P w) v h':=by
  simp only [aop] at hr
  split at hr
  · rename_i b off len c k i hp hq
    split at hr
    · rename_i hlt
      simp only [Option.some.injEq,Prod.mk.injEq] at hr;obtain ⟨rfl,rfl⟩:=hr
      have hv:=hF.ev hx hp
      have e2:=(hF.ev hy hq).scal rfl
      generalize hav:a.eval x=av at hv
      cases hv with
      | sl hb hc hs =>
        rename_i cc j
        refine .same hS (v':=.pointer (some ⟨j.blk,off + i.toNat * s,none⟩)) ?_ (.ptr hb)
        simp [execOp,ho,Instr.indexAt,r_underlying h1,hav,e2,asIntOf,hlt,r_sizeOf h3,addr_add]
      | sle=>omega
    · cases hr
  · cases hr

theorem s_iaddrA {o:Oper} {T E:TypeId} {x y:Operand} {s len:Nat} (ho:o.op=.indexAddr T x y) (hx:okO x=true) (hy:okO y=true) (h1:P.underlying T=some (.array len E)) (h3:sizeT P E=some s)
    (hS:Sim P ι h w) (hF:FR N ι e a.tmps) (hr:aop (.iaddrA len s x y) e h=some (v,h')):OpRes P ι h w ((execOp a.eval o).run P w) v h':=by
  simp only [aop] at hr
  split at hr
  · rename_i b off k i hp hq
    split at hr
    · rename_i hlt
      simp only [Option.some.injEq,Prod.mk.injEq] at hr;obtain ⟨rfl,rfl⟩:=hr
      have hv:=hF.ev hx hp
      have e2:=(hF.ev hy hq).scal rfl
      generalize hav:a.eval x=av at hv
      cases hv with
      | ptr hb =>
        rename_i j
        refine .same hS (v':=.pointer (some ⟨j.blk,off + i.toNat * s,none⟩)) ?_ (.ptr hb)
        simp [execOp,ho,Instr.indexAt,r_underlying h1,hav,e2,asIntOf,hlt,r_sizeOf h3,addr_add,Instr.sureAddr]
    · cases hr
  · cases hr

theorem s_idxS {o:Oper} {T:TypeId} {x y:Operand} (ho:o.op=.index T x y) (hx:okO x=true) (hy:okO y=true) (h1:P.underlying T=some .string)
    (hS:Sim P ι h w) (hF:FR N ι e a.tmps) (hr:aop (.idxS x y) e h=some (v,h')):OpRes P ι h w ((execOp a.eval o).run P w) v h':=by
  simp only [aop] at hr
  split at hr
  · rename_i s k i hp hq
    split at hr
    · rename_i h0
      cases hs:s[i.toNat]? with
      | none=>simp [hs] at hr
      | some b =>
        simp only [hs,Option.map_some,Option.some.injEq,Prod.mk.injEq] at hr;obtain ⟨rfl,rfl⟩:=hr
        have e1:=(hF.ev hx hp).scal rfl
        have e2:=(hF.ev hy hq).scal rfl
        refine .same hS (v':=.int .u8 b.toNat) ?_ (.int _ _)
        simp [execOp,ho,Instr.index,r_underlying h1,e1,e2,asIntOf,h0,hs]
    · cases hr
  · cases hr

theorem s_idxA1 {o:Oper} {T E:TypeId} {x y:Operand} {len:Nat} (ho:o.op=.index T x y) (hx:okO x=true) (hy:okO y=true) (h1:P.underlying T=some (.array len E)) (h2:isAggT P E=some false) (h3:sizeT P E=some 1)
    (hS:Sim P ι h w) (hF:FR N ι e a.tmps) (hr:aop (.idxA1 len x y) e h=some (v,h')):OpRes P ι h w ((execOp a.eval o).run P w) v h':=by
  simp only [aop] at hr
  split at hr
  · rename_i cs k i hp hq
    split at hr
    · rename_i hlt
      cases hc:cs.toList[i.toNat]? with
      | none=>simp [hc] at hr
      | some u =>
        simp only [hc,Option.map_some,Option.some.injEq,Prod.mk.injEq] at hr;obtain ⟨rfl,rfl⟩:=hr
        have hv:=hF.ev hx hp
        have e2:=(hF.ev hy hq).scal rfl
        generalize hav:a.eval x=av at hv
        cases hv with
        | @agg l l' hl hv =>
          obtain ⟨u',hu',hv'⟩:=VL.get ⟨hl,hv⟩ (by simpa using hc)
          refine .same hS (v':=u') ?_ hv'
          simp [execOp,ho,Instr.index,r_underlying h1,hav,e2,asIntOf,hlt,r_sizeOf h3,part,r_isAgg h2,hu']
    · cases hr
  · cases hr

theorem s_idxAN {o:Oper} {T E:TypeId} {x y:Operand} {len s:Nat} (ho:o.op=.index T x y) (hx:okO x=true) (hy:okO y=true) (h1:P.underlying T=some (.array len E)) (h2:isAggT P E=some true) (h3:sizeT P E=some s)
    (hS:Sim P ι h w) (hF:FR N ι e a.tmps) (hr:aop (.idxAN len s x y) e h=some (v,h')):OpRes P ι h w ((execOp a.eval o).run P w) v h':=by
  simp only [aop] at hr
  split at hr
  · rename_i cs k i hp hq
    split at hr
    · rename_i hlt
      simp only [Option.some.injEq,Prod.mk.injEq] at hr;obtain ⟨rfl,rfl⟩:=hr
      have hv:=hF.ev hx hp
      have e2:=(hF.ev hy hq).scal rfl
      generalize hav:a.eval x=av at hv
      cases hv with
      | @agg l l' hl hv =>
        have hvl:VL ι l l':=⟨hl,hv⟩
        refine .same hS (v':=.agg ((l'.drop (i.toNat * s)).take s).toArray) ?_ (.agg' ?_)
        · simp [execOp,ho,Instr.index,r_underlying h1,hav,e2,asIntOf,hlt.1,hlt.2.1,r_sizeOf h3,part,r_isAgg h2]
        · simpa using (hvl.drop (i.toNat * s)).take s
    · cases hr
  · cases hr

theorem s_extract {o:Oper} {x:Operand} {j:Nat} (ho:o.op=.extract x j) (hx:okO x=true) (hS:Sim P ι h w) (hF:FR N ι e a.tmps)
    (hr:aop (.extract j x) e h=some (v,h')):OpRes P ι h w ((execOp a.eval o).run P w) v h':=by
  simp only [aop] at hr
  split at hr
  · rename_i cs hp
    cases hc:cs.toList[j]? with
    | none=>simp [hc] at hr
    | some u =>
      simp only [hc,Option.map_some,Option.some.injEq,Prod.mk.injEq] at hr;obtain ⟨rfl,rfl⟩:=hr
      have hv:=hF.ev hx hp
      generalize hav:a.eval x=av at hv
      cases hv with
      | @tup l l' hl hv =>
        obtain ⟨u',hu',hv'⟩:=VL.get ⟨hl,hv⟩ (by simpa using hc)
        refine .same hS (v':=u') ?_ hv'
        simp [execOp,ho,Instr.extract,hav,hu']
  · cases hr

theorem bound_sound {x:Option Operand} {d y:Nat} {n:Int} {code:BoundsCode} (hx:x.all okO=true) (hF:FR N ι e a.tmps) (hr:boundI e d x=some n) (h0:0≤n) (hy:n≤y) :
    (match x.map a.eval with
     | some u=>Instr.sliceBound u y code
     | none=>pure d:Sem Nat).run P w=.ok n.toNat w:=by
  cases x with
  | none=>simp only [boundI,Option.some.injEq] at hr;subst hr;simp
  | some x =>
    simp only [boundI] at hr
    split at hr
    · rename_i k m hm
      cases hr
      have:=(hF.ev (by simpa using hx) hm).scal rfl
      simp [this,Instr.sliceBound,asIntOf,h0,hy]
    · cases hr

theorem bounds_sound {lo hi:Option Operand} {len cap:Nat} {l u:Int} {sl:Bool} (hlo:lo.all okO=true) (hhi:hi.all okO=true) (hF:FR N ι e a.tmps) (hl:boundI e 0 lo=some l) (hu:boundI e len hi=some u)
    (h0:0≤l) (h1:l≤u) (h2:u≤cap):(Instr.sliceBounds sl len cap (lo.map a.eval) (hi.map a.eval) none).run P w=.ok (l.toNat,u.toNat,cap) w:=by
  have bu:=bound_sound (P:=P) (w:=w) (y:=cap) (code:=if sl then .sliceAcap else .sliceAlen) hhi hF hu (by omega) h2
  have bl:=bound_sound (P:=P) (w:=w) (y:=u.toNat) (code:=.sliceB) hlo hF hl h0 (by omega)
  unfold Instr.sliceBounds
  cases hi with
  | none =>
    simp only [boundI,Option.some.injEq] at hu
    subst hu
    simp only [Int.toNat_natCast] at bl ⊢
    cases lo with
    | none=>simp only [boundI,Option.some.injEq] at hl;subst hl;simp
    | some x=>simp only [Option.map_some] at bl;simp [bl]
  | some y =>
    simp only [Option.map_some] at bu
    cases lo with
    | none=>simp only [boundI,Option.some.injEq] at hl;subst hl;simp [bu]
    | some x=>simp only [Option.map_some] at bl;simp [bu,bl]

theorem s_slcS {o:Oper} {T:TypeId} {x:Operand} {lo hi:Option Operand} (ho:o.op=.slice T x lo hi none) (hx:okO x=true) (hlo:lo.all okO=true) (hhi:hi.all okO=true) (h1:P.underlying T=some .string)
    (hS:Sim P ι h w) (hF:FR N ι e a.tmps) (hr:aop (.slcS x lo hi) e h=some (v,h')):OpRes P ι h w ((execOp a.eval o).run P w) v h':=by
  simp only [aop] at hr
  split at hr
  · rename_i s hp
    split at hr
    · rename_i l u hl hu
      split at hr
      · rename_i hle
        simp only [Option.some.injEq,Prod.mk.injEq] at hr;obtain ⟨rfl,rfl⟩:=hr
        have e1:=(hF.ev hx hp).scal rfl
        refine .same hS (v':=.string (s.extract l.toNat u.toNat)) ?_ (.str _)
        have hb:=bounds_sound (P:=P) (w:=w) (sl:=false) hlo hhi hF hl hu hle.1 hle.2.1 hle.2.2
        simp [execOp,ho,Instr.sliceAt,r_underlying h1,Instr.slice,e1,hb]
      · cases hr
    · cases hr
  · cases hr

theorem s_slc {o:Oper} {T E:TypeId} {x:Operand} {lo hi:Option Operand} {sz:Nat} (ho:o.op=.slice T x lo hi none) (hx:okO x=true) (hlo:lo.all okO=true) (hhi:hi.all okO=true) (h1:P.underlying T=some (.slice E)) (h3:sizeT P E=some sz)
    (hS:Sim P ι h w) (hF:FR N ι e a.tmps) (hr:aop (.slc sz x lo hi) e h=some (v,h')):OpRes P ι h w ((execOp a.eval o).run P w) v h':=by
  simp only [aop] at hr
  split at hr
  · rename_i p len c hp
    split at hr
    · rename_i l u hl hu
      split at hr
      · rename_i hle
        have hv:=hF.ev hx hp
        generalize hav:a.eval x=av at hv
        have key:∀ (p':Option Addr) (c':Nat),av=.slice p' len c'→len≤c' →
            (execOp a.eval o).run P w=.ok (.value (.slice (if c'=l.toNat then p' else p'.map (·.add (l.toNat * sz))) (u.toNat - l.toNat) (c' - l.toNat))) w:=by
          intro p' c' hp' hc'
          have hb:=bounds_sound (P:=P) (w:=w) (sl:=true) (cap:=c') hlo hhi hF hl hu hle.1 hle.2.1 (by omega)
          simp [execOp,ho,Instr.sliceAt,r_underlying h1,Instr.slice,hav,hp',hb,r_sizeOf h3]
        cases hv with
        | sl0 =>
          have:l=0∧u=0:=by omega
          obtain ⟨rfl,rfl⟩:=this
          simp at hr;obtain ⟨rfl,rfl⟩:=hr
          exact .same hS (v':=.slice none 0 0) (by rw [key none 0 rfl (Nat.le_refl _)];simp) .sl0
        | sl hb hc hs =>
          rename_i b off cc i
          simp only [Option.some.injEq,Prod.mk.injEq] at hr;obtain ⟨rfl,rfl⟩:=hr
          have hk:=key _ _ rfl hc
          by_cases hcl:cc=l.toNat
          · have:u.toNat - l.toNat=0:=by omega
            rw [if_pos hcl,this,hcl,Nat.sub_self] at hk
            rw [this]
            exact .same hS hk .sle
          · rw [if_neg hcl] at hk
            simp only [Option.map_some,addr_add] at hk
            refine .same hS hk (.sl hb (by omega) fun h0=>?_)
            have h6:=hs (by omega)
            exact Nat.le_trans (Nat.mul_le_mul_right _ (Nat.sub_le _ _)) h6
        | sle =>
          rename_i q q'
          have:l=0∧u=0:=by omega
          obtain ⟨rfl,rfl⟩:=this
          have hk:=key _ _ rfl (Nat.le_refl _)
          simp at hk
          obtain ⟨qb,qo,qs⟩:=q
          cases qs with
          | none=>simp at hr;obtain ⟨rfl,rfl⟩:=hr;exact .same hS hk .sle
          | some _=>simp at hr
      · cases hr
    · cases hr
  · cases hr

theorem s_slcV {o:Oper} {T E:TypeId} {x:Operand} {lo hi:Option Operand} {sz len:Nat} (ho:o.op=.slice T x lo hi none) (hx:okO x=true) (hlo:lo.all okO=true) (hhi:hi.all okO=true) (h1:P.underlying T=some (.array len E)) (h3:sizeT P E=some sz)
    (hS:Sim P ι h w) (hF:FR N ι e a.tmps) (hr:aop (.slcV len sz x lo hi) e h=some (v,h')):OpRes P ι h w ((execOp a.eval o).run P w) v h':=by
  simp only [aop] at hr
  split at hr
  · rename_i b off hp
    split at hr
    · rename_i c z hg
      split at hr
      · rename_i l u hl hu
        split at hr
        · rename_i hle
          simp only [Option.some.injEq,Prod.mk.injEq] at hr;obtain ⟨rfl,rfl⟩:=hr
          have hv:=hF.ev hx hp
          generalize hav:a.eval x=av at hv
          cases hv with
          | ptr hb =>
            rename_i j
            obtain ⟨C,T',fz,k1,k2,k3,k4⟩:=hS.cells hb hg
            obtain ⟨_,k5⟩:=k4 z rfl
            have hC:=(VPo.toJ k3).1
            have hbd:=bounds_sound (P:=P) (w:=w) (sl:=false) (cap:=len) hlo hhi hF hl hu hle.1 hle.2.1 hle.2.2.1
            by_cases hcl:len=l.toNat
            · have e0:u.toNat - l.toNat=0:=by omega
              rw [e0]
              refine .same hS (v':=.slice (some ⟨j.blk,off,none⟩) 0 0) ?_ .sle
              have e1:len - l.toNat=0:=by omega
              simp [execOp,ho,Instr.sliceAt,r_underlying h1,hav,Instr.sureAddr,hbd,r_sizeOf h3]
              exact ⟨fun q=>absurd hcl q,e0,e1⟩
            · refine .same hS (v':=.slice (some ⟨j.blk,off + l.toNat * sz,none⟩) (u.toNat - l.toNat) (len - l.toNat)) ?_ (.sl hb (by omega) fun h0=>?_)
              · simp [execOp,ho,Instr.sliceAt,r_underlying h1,hav,Instr.sureAddr,hbd,r_sizeOf h3,hcl,addr_add]
              · rw [k5]
                have g1:(len - l.toNat) * z≤len * sz:=Nat.mul_le_mul (Nat.sub_le _ _) hle.2.2.2.2
                have g2:=hle.2.2.2.1
                simp at hC
                omega
        · cases hr
      · cases hr
    · cases hr
  · cases hr

end Go.AM

