/- A part of the abstract machine, or of what is proved of the program by it. -/
import Derived.Test.YtenihfdlckgmmaaGreatAmSim
namespace Go.AM
set_option linter.unusedVariables false
set_option linter.unusedSimpArgs false
variable {P:Program} {w:World}

theorem r_program:(Go.program:Sem Program).run P w=.ok P w:=rfl
theorem r_underlying {T:TypeId} {d:TypeDesc} (h:P.underlying T=some d):(underlying T).run P w=.ok d w:=by
  simp only [underlying,Sem.run_bind,r_program,Result.andThen_ok,h,Sem.run_pure]
theorem r_typeInfo {T:TypeId} {d:TypeInfo} (h:P.info? T=some d):(typeInfo T).run P w=.ok d w:=by
  simp only [typeInfo,Sem.run_bind,r_program,Result.andThen_ok,h,Sem.run_pure]
theorem sizeT_inv {T:TypeId} {n:Nat} (h:sizeT P T=some n):∃ i,P.info? T=some i∧i.size=n:=by
  unfold sizeT at h
  cases e:P.info? T with
  | none=>simp [e] at h
  | some i=>simp [e] at h;exact ⟨i,rfl,h⟩
theorem r_sizeOf {T:TypeId} {n:Nat} (h:sizeT P T=some n):(sizeOf T).run P w=.ok n w:=by
  obtain ⟨i,h1,h2⟩:=sizeT_inv h
  simp only [sizeOf,Sem.run_bind,r_typeInfo h1,Result.andThen_ok,Sem.run_pure,h2]
theorem r_isAgg {T:TypeId} {b:Bool} (h:isAggT P T=some b):(isAgg T).run P w=.ok b w:=by
  unfold isAggT at h
  cases e:P.underlying T with
  | none=>simp [e] at h
  | some d =>
    rw [e] at h
    simp only [isAgg,Sem.run_bind,r_underlying e,Result.andThen_ok]
    split <;> simp_all
theorem zeroT_inv {T:TypeId} {z:Value} (h:zeroT P T=some z):∃ i,P.info? T=some i∧i.zero=some z∧closedV 3 z=true∧(vcells z).length=i.size:=by
  unfold zeroT at h
  cases e:P.info? T with
  | none=>simp [e] at h
  | some i =>
    simp only [e] at h
    cases e2:i.zero with
    | none=>simp [e2] at h
    | some y =>
      simp only [e2] at h
      split at h
      · rename_i hc
        cases h
        simp only [Bool.and_eq_true,beq_iff_eq] at hc
        exact ⟨i,rfl,e2,hc.1,hc.2⟩
      · cases h
theorem r_zeroValue {T:TypeId} {z:Value} (h:zeroT P T=some z):(zeroValue T).run P w=.ok z w:=by
  obtain ⟨i,h1,h2,_⟩:=zeroT_inv h
  simp only [zeroValue,Sem.run_bind,r_typeInfo h1,Result.andThen_ok,h2,Sem.run_pure]

theorem cell_at {w:World} {B o:Nat} {C:Array Value} {T:TypeId} {fz:Nat × Nat} (h:w.heap[B]? = some (.cells C T fz)):w.cell? ⟨B,o,none⟩=C[o]?:=by
  simp [World.cell?,h]
theorem frozen_at {w:World} {B o:Nat} {C:Array Value} {T:TypeId} {fz:Nat × Nat} (h:w.heap[B]? = some (.cells C T fz)) (ht:Thaw fz C.size) (ho:o < C.size):w.frozen? ⟨B,o,none⟩=false:=by
  obtain ⟨lo,hi⟩:=fz
  simp only [World.frozen?,h]
  exact ht o ho

theorem r_load {a:Addr} {v:Value} (h:w.cell? a=some v):(load a).run P w=.ok v w:=by
  simp only [load,Sem.run,h]

theorem addr_add (B o n:Nat):(⟨B,o,none⟩:Addr).add n=⟨B,o + n,none⟩:=by
  unfold Addr.add
  split
  · rename_i h;subst h;rfl
  · rfl

theorem r_loadCellsFrom {B o:Nat} {C:Array Value} {T:TypeId} {fz:Nat × Nat} (h:w.heap[B]? = some (.cells C T fz)) :
    ∀ (n i:Nat) (acc:Array Value),o + i + n≤C.size→(loadCellsFrom ⟨B,o,none⟩ i n acc).run P w=.ok (acc++((C.toList.drop (o + i)).take n).toArray) w:=by
  intro n
  induction n with
  | zero=>intro i acc hn;simp [loadCellsFrom,Sem.run_pure]
  | succ n ih =>
    intro i acc hn
    have hlt:o + i < C.size:=by omega
    have hc:w.cell? ((⟨B,o,none⟩:Addr).add i)=some C[o + i]:=by rw [addr_add,cell_at h,Array.getElem?_eq_getElem hlt]
    simp only [loadCellsFrom,Sem.run_bind,r_load hc,Result.andThen_ok]
    rw [ih (i + 1) _ (by omega)]
    have:C.toList.drop (o + i)=C[o + i]::C.toList.drop (o + (i + 1)):=by
      rw [List.drop_eq_getElem_cons (by simpa using hlt)];rfl
    rw [this]
    simp

theorem r_loadCells {B o n:Nat} {C:Array Value} {T:TypeId} {fz:Nat × Nat} (h:w.heap[B]? = some (.cells C T fz)) (hn:o + n≤C.size) :
    (loadCells ⟨B,o,none⟩ n).run P w=.ok ((C.toList.drop o).take n).toArray w:=by
  rw [loadCells,r_loadCellsFrom h n 0 #[] (by omega)];simp

theorem setCell_heap {w:World} {B o:Nat} {C:Array Value} {T:TypeId} {fz:Nat × Nat} (h:w.heap[B]? = some (.cells C T fz)) (v:Value) :
    (w.setCell ⟨B,o,none⟩ v).heap=w.heap.setIfInBounds B (.cells (C.setIfInBounds o v) T fz):=by
  have hB:B < w.heap.size:=(Array.getElem?_eq_some_iff.1 h).1
  have hv:w.heap[B]=.cells C T fz:=(Array.getElem?_eq_some_iff.1 h).2
  simp only [World.setCell]
  apply Array.ext_getElem?
  intro k
  rw [Array.getElem?_modify,Array.getElem?_setIfInBounds]
  by_cases e:B=k
  · subst e;simp [h,hB,hv]
  · simp [e]

theorem run_store_cell {a:Addr} {v u:Value} (hv:cellOk v=true) (h:w.cell? a=some u) (hf:w.frozen? a=false):(store a v).run P w=.ok () (w.setCell a v):=by
  cases v <;> first|(simp [cellOk] at hv;done)|simp [store,Sem.run,h,hf]

theorem splice_nil (c:List Value) (o:Nat):splice c o []=c:=by simp [splice]
theorem splice_length {c vs:List Value} {o:Nat} (h:o + vs.length≤c.length):(splice c o vs).length=c.length:=by simp [splice];omega
theorem splice_cons {c vs:List Value} {o:Nat} {v:Value} (h:o + (vs.length + 1)≤c.length):splice c o (v::vs)=splice (c.set o v) (o + 1) vs:=by
  unfold splice
  have ho:o < c.length:=by omega
  have h1:(c.set o v).take (o + 1)=c.take o++[v]:=by
    rw [List.take_succ_eq_append_getElem (by simpa using ho),List.take_set_of_le (Nat.le_refl o)]
    simp
  have h2:(c.set o v).drop (o + 1 + vs.length)=c.drop (o + (v::vs).length):=by
    rw [List.drop_set_of_lt (by omega)]
    congr 1
    simp;omega
  rw [h1,h2];simp

theorem r_storeCells {B T:Nat} {fz:Nat × Nat}:∀ (vs:List Value) (i o:Nat) (w:World) (C:Array Value),w.heap[B]? = some (.cells C T fz)→Thaw fz C.size→o + i + vs.length≤C.size→vs.all cellOk=true →
    ∃ w',(storeCells ⟨B,o,none⟩ vs i).run P w=.ok () w'∧w'.heap=w.heap.setIfInBounds B (.cells (splice C.toList (o + i) vs).toArray T fz)∧w'.os=w.os∧w'.tape=w.tape∧w'.output=w.output∧w.drawn≤w'.drawn:=by
  intro vs
  induction vs with
  | nil =>
    intro i o w C h _ _ _
    refine ⟨w,by simp [storeCells,Sem.run_pure],?_,rfl,rfl,rfl,Nat.le_refl _⟩
    rw [splice_nil]
    have hB:B < w.heap.size:=(Array.getElem?_eq_some_iff.1 h).1
    apply Array.ext_getElem?
    intro k
    rw [Array.getElem?_setIfInBounds]
    by_cases e:B=k
    · subst e;simp [hB,(Array.getElem?_eq_some_iff.1 h).2]
    · simp [e]
  | cons v vs ih =>
    intro i o w C h ht hn hok
    simp only [List.all_cons,Bool.and_eq_true] at hok
    simp only [List.length_cons] at hn
    have hlt:o + i < C.size:=by omega
    have hB:B < w.heap.size:=(Array.getElem?_eq_some_iff.1 h).1
    have hc:w.cell? ((⟨B,o,none⟩:Addr).add i)=some C[o + i]:=by rw [addr_add,cell_at h,Array.getElem?_eq_getElem hlt]
    have hf:w.frozen? ((⟨B,o,none⟩:Addr).add i)=false:=by rw [addr_add,frozen_at h ht hlt]
    have hset:=setCell_heap (o:=o + i) h v
    have h1:(w.setCell ((⟨B,o,none⟩:Addr).add i) v).heap[B]? = some (.cells (C.setIfInBounds (o + i) v) T fz):=by
      rw [addr_add,hset,Array.getElem?_setIfInBounds];simp [hB]
    obtain ⟨w',hr,hh,e1,e2,e3,e4⟩:=ih (i + 1) o (w.setCell ((⟨B,o,none⟩:Addr).add i) v) (C.setIfInBounds (o + i) v) h1 (by simpa using ht) (by simp;omega) hok.2
    refine ⟨w',by simp only [storeCells,Sem.run_bind,run_store_cell hok.1 hc hf,Result.andThen_ok];exact hr,?_,by rw [e1];rfl,by rw [e2];rfl,by rw [e3];rfl,e4⟩
    rw [hh,addr_add,hset,Array.setIfInBounds_setIfInBounds]
    congr 1
    rw [splice_cons (by simpa using (by omega:o + i + (vs.length + 1)≤C.size))]
    simp [Nat.add_assoc]

/-- What an operation gives: the abstract machine's answer, and the model's. -/
def OpRes (P:Program) (ι:Inj) (h:Heap) (w:World) (r:Result Next) (v:Value) (h':Heap):Prop :=
  ∃ v' w' ι',(r=.ok (.value v') w'∨(r=.ok .skip w'∧v'=undef))∧V ι' v v'∧Rel P ι h w ι' h' w'

theorem OpRes.same {ι:Inj} {h:Heap} {r:Result Next} {v v':Value} (s:Sim P ι h w) (hr:r=.ok (.value v') w) (hv:V ι v v'):OpRes P ι h w r v h :=
  ⟨v',w,ι,.inl hr,hv,Rel.refl s⟩

end Go.AM


namespace Go.AM
set_option linter.unusedVariables false
set_option linter.unusedSimpArgs false
variable {P:Program} {w:World} {ι:Inj} {h h':Heap} {e:Env} {a:Act} {N:Nat} {v:Value} {op:AOp}

theorem r_newObj (o:Obj):(newObj o).run P w=.ok w.heap.size (w.alloc o):=rfl

theorem s_move {o:Oper} {x:Operand} (ho:o.op=.move x∨o.op=.assign x) (hx:okO x=true) (hS:Sim P ι h w) (hF:FR N ι e a.tmps)
    (hr:aop (.mv x) e h=some (v,h')):OpRes P ι h w ((execOp a.eval o).run P w) v h':=by
  simp only [aop] at hr
  cases hv:ev e x with
  | none=>simp [hv] at hr
  | some u =>
    simp [hv] at hr
    obtain ⟨rfl,rfl⟩:=hr
    refine .same hS (v':=a.eval x) ?_ (hF.ev hx hv)
    rcases ho with ho|ho <;> simp [execOp,ho]

theorem s_pick {o:Oper} {c x y:Operand} (ho:o.op=.pick c x y) (hc:okO c=true) (hx:okO x=true) (hy:okO y=true) (hS:Sim P ι h w) (hF:FR N ι e a.tmps)
    (hr:aop (.pick c x y) e h=some (v,h')):OpRes P ι h w ((execOp a.eval o).run P w) v h':=by
  simp only [aop] at hr
  split at hr
  · rename_i he
    have hb:=hF.ev hc he
    cases hv:ev e x with
    | none=>simp [hv] at hr
    | some u =>
      simp [hv] at hr
      obtain ⟨rfl,rfl⟩:=hr
      generalize hcv:a.eval c=cv at hb
      cases hb
      exact .same hS (v':=a.eval x) (by simp [execOp,ho,hcv,asBool]) (hF.ev hx hv)
  · rename_i he
    have hb:=hF.ev hc he
    cases hv:ev e y with
    | none=>simp [hv] at hr
    | some u =>
      simp [hv] at hr
      obtain ⟨rfl,rfl⟩:=hr
      generalize hcv:a.eval c=cv at hb
      cases hb
      exact .same hS (v':=a.eval y) (by simp [execOp,ho,hcv,asBool]) (hF.ev hy hv)
  · cases hr

theorem new_cells {c:List Value} {C:Array Value} {T:TypeId} {own:Nat} {w':World} (hS:Sim P ι h w) (hv:VP ι c C.toList) (hw:w'.heap=w.heap.push (.cells C T)) (hos:w'.os=w.os) (ht:w'.tape=w.tape) (hp:w'.output=w.output) (hdr:w.drawn≤w'.drawn:=by first|exact Nat.le_refl _|assumption) :
    Rel P ι h w (upd ι h.size ⟨w.heap.size,C.size,own⟩) (h.push (.cells c (some own))) w' :=
  Rel.push hS rfl ⟨C,T,(0,0),rfl,rfl,hv.mono (upd_le (hS.none (Nat.le_refl _))),fun z hz=>⟨Thaw.zero _,by cases hz;rfl⟩⟩ hw hos ht hp

theorem new_ptr (hS:Sim P ι h w) (n o:Nat):V (upd ι h.size ⟨w.heap.size,n,o⟩) (.pointer (some ⟨h.size,0,none⟩)) (.pointer (some ⟨w.heap.size,0,none⟩)) :=
  V.ptr (i:=⟨w.heap.size,n,o⟩) (upd_same _ _ _)

theorem s_alloc {o:Oper} {T:TypeId} {z:Value} (ho:o.op=.alloc T) (hz:zeroT P T=some z) (hS:Sim P ι h w) (hF:FR N ι e a.tmps)
    (hr:aop (.alloc (vcells z)) e h=some (v,h')):OpRes P ι h w ((execOp a.eval o).run P w) v h':=by
  simp only [aop,Option.some.injEq,Prod.mk.injEq] at hr
  obtain ⟨rfl,rfl⟩:=hr
  obtain ⟨i,h1,h2,h3,h4⟩:=zeroT_inv hz
  refine ⟨_,_,_,.inl ?_,new_ptr hS z.cells.size 0,new_cells (C:=z.cells) (T:=T) hS (VP.of (by rw [vcells_eq] at *;have:=VL.closed (ι:=ι) z 2 h3;rwa [vcells_eq] at this)) (w':=w.alloc (.cells z.cells T)) rfl rfl rfl rfl⟩
  simp [execOp,ho,Instr.alloc,r_zeroValue hz,newVar,newRow,r_newObj]

theorem s_box {o:Oper} {T:TypeId} {x:Operand} (ho:o.op=.box T x) (hx:okO x=true) (hS:Sim P ι h w) (hF:FR N ι e a.tmps)
    (hr:aop (.box x) e h=some (v,h')):OpRes P ι h w ((execOp a.eval o).run P w) v h':=by
  simp only [aop] at hr
  cases hv:ev e x with
  | none=>simp [hv] at hr
  | some u =>
    simp [hv] at hr
    obtain ⟨rfl,rfl⟩:=hr
    have hu:=(hF.ev hx hv).cells
    refine ⟨_,_,_,.inl ?_,new_ptr hS (a.eval x).cells.size 0,new_cells (C:=(a.eval x).cells) (T:=T) hS (VP.of (by rwa [vcells_eq (a.eval x)] at hu)) (w':=w.alloc (.cells (a.eval x).cells T)) rfl rfl rfl rfl⟩
    simp [execOp,ho,Instr.box,newVar,newRow,r_newObj]

theorem s_load1 {o:Oper} {T:TypeId} {x:Operand} (ho:o.op=.load T x) (hx:okO x=true) (hg:isAggT P T=some false) (hS:Sim P ι h w) (hF:FR N ι e a.tmps)
    (hr:aop (.load1 x) e h=some (v,h')):OpRes P ι h w ((execOp a.eval o).run P w) v h':=by
  simp only [aop] at hr
  split at hr
  · rename_i b off he
    have hp:=hF.ev hx he
    generalize hav:a.eval x=av at hp
    cases hp with
    | ptr hb =>
      rename_i i
      simp only [Heap.cell] at hr
      cases hg':h.get b with
      | none=>simp [hg'] at hr
      | some ob =>
        cases ob with
        | cells c own =>
          simp only [hg'] at hr
          cases hc:c[off]? with
          | none=>simp [hc] at hr
          | some u =>
            cases hj:Heap.isJ u with
            | true=>simp [hc,hj] at hr
            | false =>
            simp [hc,hj] at hr
            obtain ⟨rfl,rfl⟩:=hr
            obtain ⟨C,T',fz,h1,h2,h3,h4⟩:=hS.cells hb hg'
            obtain ⟨u',hu',hv⟩:=h3.toJ.get hc hj
            refine .same hS (v':=u') ?_ hv
            have:w.cell? ⟨i.blk,off,none⟩=some u':=by rw [cell_at h1];simpa using hu'
            simp [execOp,ho,Instr.loadAt,hav,Instr.sureAddr,loadVar,r_isAgg hg,load,Sem.run,this]
        | _=>simp [hg'] at hr
  · cases hr

theorem rd_inv {b o n:Nat} {c:List Value} (hr:h.rd b o n=some c):∃ cs own,h.get b=some (.cells cs own)∧(o + n≤cs.length∧((cs.drop o).take n).all (fun v=>!Heap.isJ v)=true)∧c=(cs.drop o).take n:=by
  unfold Heap.rd at hr
  split at hr
  · rename_i cs own hg
    split at hr
    · rename_i hle;cases hr;exact ⟨cs,own,hg,hle,rfl⟩
    · cases hr
  · cases hr

theorem rd_sim {b o n:Nat} {i:BI} {c:List Value} (hS:Sim P ι h w) (hb:ι b=some i) (hr:h.rd b o n=some c) :
    ∃ c',VL ι c c'∧c.length=n∧(loadCells ⟨i.blk,o,none⟩ n).run P w=.ok c'.toArray w:=by
  obtain ⟨cs,own,hg,⟨hle,hj⟩,rfl⟩:=rd_inv hr
  obtain ⟨C,T',fz,h1,h2,h3,h4⟩:=hS.cells hb hg
  replace h3:=h3.toJ
  refine ⟨_,h3.sub o n hle hj,by simp;omega,?_⟩
  rw [r_loadCells h1 (by have:=h3.1;simp at this;omega)]

theorem s_loadN {o:Oper} {T:TypeId} {n:Nat} {x:Operand} (ho:o.op=.load T x) (hx:okO x=true) (hg:isAggT P T=some true) (hn:sizeT P T=some n) (hS:Sim P ι h w) (hF:FR N ι e a.tmps)
    (hr:aop (.loadN n x) e h=some (v,h')):OpRes P ι h w ((execOp a.eval o).run P w) v h':=by
  simp only [aop] at hr
  split at hr
  · rename_i b off he
    have hp:=hF.ev hx he
    generalize hav:a.eval x=av at hp
    cases hp with
    | ptr hb =>
      rename_i i
      cases hc:h.rd b off n with
      | none=>simp [hc] at hr
      | some c =>
        simp [hc] at hr
        obtain ⟨rfl,rfl⟩:=hr
        obtain ⟨c',hv,_,hrun⟩:=rd_sim hS hb hc
        refine .same hS (v':=.agg c'.toArray) ?_ (.agg' hv)
        simp [execOp,ho,Instr.loadAt,hav,Instr.sureAddr,loadVar,r_isAgg hg,r_sizeOf hn,hrun]
  · cases hr

/-- Cells written. -/
theorem wr_sim {b o:Nat} {i:BI} {vs vs':List Value} (hS:Sim P ι h w) (hb:ι b=some i) (hv:VL ι vs vs') (hr:h.wr b o vs=some h') :
    ∃ w',(storeCells ⟨i.blk,o,none⟩ vs').run P w=.ok () w'∧Rel P ι h w ι h' w':=by
  unfold Heap.wr at hr
  split at hr
  · rename_i c z hg
    split at hr
    · rename_i hle
      cases hr
      obtain ⟨h1,h2,h3⟩:=hle
      obtain ⟨C,T',fz,k1,k2,k3,k4⟩:=hS.cells hb hg
      obtain ⟨kt,k5⟩:=k4 z rfl
      have hlen:=hv.1
      have hCl:=k3.1
      simp only [Array.length_toList] at hCl
      obtain ⟨w',r1,r2,r3,r4,r5,r6⟩:=r_storeCells (P:=P) vs' 0 o w C k1 kt (by omega) (hv.cellOk h3)
      refine ⟨w',r1,?_⟩
      refine Rel.set hS hb (by unfold owned;rw [hg];trivial) h1 ⟨_,T',fz,rfl,?_,?_,fun q hq=>⟨by simp only [Nat.add_zero,List.size_toArray];rw [splice_length (by simp;omega)];simpa using kt,by cases hq;exact k5⟩⟩ r2 r3 r4 r5
      · simp only [Nat.add_zero,List.size_toArray];rw [splice_length (by simp;omega)];simpa using k2
      · simp only [Nat.add_zero]
        exact k3.splice hv o h2
    · cases hr
  · cases hr

theorem s_store {o:Oper} {T:TypeId} {n:Nat} {x y:Operand} (ho:o.op=.store T x y) (hx:okO x=true) (hy:okO y=true) (hn:sizeT P T=some n) (hS:Sim P ι h w) (hF:FR N ι e a.tmps)
    (hr:aop (.store n x y) e h=some (v,h')):OpRes P ι h w ((execOp a.eval o).run P w) v h':=by
  simp only [aop] at hr
  split at hr
  · rename_i b off u he hey
    have hp:=hF.ev hx he
    have hu:=(hF.ev hy hey).cells
    generalize hav:a.eval x=av at hp
    cases hp with
    | ptr hb =>
      rename_i i
      split at hr
      · rename_i hl
        cases hw:h.wr b off (vcells u) with
        | none=>simp [hw] at hr
        | some h2 =>
          simp [hw] at hr
          obtain ⟨rfl,rfl⟩:=hr
          obtain ⟨w',r1,r2⟩:=wr_sim hS hb hu hw
          refine ⟨undef,w',ι,.inr ⟨?_,rfl⟩,V.undef,r2⟩
          have hsz:(a.eval y).cells.size=n:=by have:=hu.1;rw [vcells_eq (a.eval y)] at this;simp at this;omega
          rw [vcells_eq] at r1
          simp [execOp,ho,Instr.storeAt,hav,Instr.sureAddr,storeVar,r_sizeOf hn,hsz,r1]
      · cases hr
  · cases hr

end Go.AM

