/- A part of the abstract machine, or of what is proved of the program by it. -/
import Derived.Test.YtenihfdlckgmmaaGreatAmRun
namespace Go.AM
set_option linter.unusedVariables false
set_option linter.unusedSimpArgs false
variable {P:Program} {w:World} {ι:Inj} {h h':Heap} {e:Env} {a:Act} {N:Nat} {v:Value} {op:AOp}

theorem r_newObj (o:Obj):(newObj o).run P w=.ok w.heap.size (w.alloc o):=rfl

theorem s_move {o:Oper} {x:Operand} (ho:o.op=.move x∨o.op=.assign x) (hx:okO x=true) (hS:Sim P ι h w) (hF:FR N ι e a.tmps)
    (hr:aop (.mv x) e h=some (v,h')):OpRes P ι h w ((execOp a.eval o).run P w) v h':=by
  simp only [aop] at hr
  cases hv:ev e x with
  | none=>simp [hv] at hr
  | some u =>
    simp [hv] at hr
    obtain ⟨rfl,rfl⟩:=hr
    refine .same hS (v':=a.eval x) ?_ (hF.ev hx hv)
    rcases ho with ho|ho <;> simp [execOp,ho]

theorem s_pick {o:Oper} {c x y:Operand} (ho:o.op=.pick c x y) (hc:okO c=true) (hx:okO x=true) (hy:okO y=true) (hS:Sim P ι h w) (hF:FR N ι e a.tmps)
    (hr:aop (.pick c x y) e h=some (v,h')):OpRes P ι h w ((execOp a.eval o).run P w) v h':=by
  simp only [aop] at hr
  split at hr
  · rename_i he
    have hb:=hF.ev hc he
    cases hv:ev e x with
    | none=>simp [hv] at hr
    | some u =>
      simp [hv] at hr
      obtain ⟨rfl,rfl⟩:=hr
      generalize hcv:a.eval c=cv at hb
      cases hb
      exact .same hS (v':=a.eval x) (by simp [execOp,ho,hcv,asBool]) (hF.ev hx hv)
  · rename_i he
    have hb:=hF.ev hc he
    cases hv:ev e y with
    | none=>simp [hv] at hr
    | some u =>
      simp [hv] at hr
      obtain ⟨rfl,rfl⟩:=hr
      generalize hcv:a.eval c=cv at hb
      cases hb
      exact .same hS (v':=a.eval y) (by simp [execOp,ho,hcv,asBool]) (hF.ev hy hv)
  · cases hr

theorem new_cells {c:List Value} {C:Array Value} {T:TypeId} {own:Nat} {w':World} (hS:Sim P ι h w) (hv:VP ι c C.toList) (hw:w'.heap=w.heap.push (.cells C T)) (hos:w'.os=w.os) (ht:w'.tape=w.tape) (hp:w'.output=w.output) (hdr:w.drawn≤w'.drawn:=by first|exact Nat.le_refl _|assumption) :
    Rel P ι h w (upd ι h.size ⟨w.heap.size,C.size,own⟩) (h.push (.cells c (some own))) w' :=
  Rel.push hS rfl ⟨C,T,(0,0),rfl,rfl,hv.mono (upd_le (hS.none (Nat.le_refl _))),fun z hz=>⟨Thaw.zero _,by cases hz;rfl⟩⟩ hw hos ht hp

theorem new_ptr (hS:Sim P ι h w) (n o:Nat):V (upd ι h.size ⟨w.heap.size,n,o⟩) (.pointer (some ⟨h.size,0,none⟩)) (.pointer (some ⟨w.heap.size,0,none⟩)) :=
  V.ptr (i:=⟨w.heap.size,n,o⟩) (upd_same _ _ _)

theorem s_alloc {o:Oper} {T:TypeId} {z:Value} (ho:o.op=.alloc T) (hz:zeroT P T=some z) (hS:Sim P ι h w) (hF:FR N ι e a.tmps)
    (hr:aop (.alloc (vcells z)) e h=some (v,h')):OpRes P ι h w ((execOp a.eval o).run P w) v h':=by
  simp only [aop,Option.some.injEq,Prod.mk.injEq] at hr
  obtain ⟨rfl,rfl⟩:=hr
  obtain ⟨i,h1,h2,h3,h4⟩:=zeroT_inv hz
  refine ⟨_,_,_,.inl ?_,new_ptr hS z.cells.size 0,new_cells (C:=z.cells) (T:=T) hS (VP.of (by rw [vcells_eq] at *;have:=VL.closed (ι:=ι) z 2 h3;rwa [vcells_eq] at this)) (w':=w.alloc (.cells z.cells T)) rfl rfl rfl rfl⟩
  simp [execOp,ho,Instr.alloc,r_zeroValue hz,newVar,newRow,r_newObj]

theorem s_box {o:Oper} {T:TypeId} {x:Operand} (ho:o.op=.box T x) (hx:okO x=true) (hS:Sim P ι h w) (hF:FR N ι e a.tmps)
    (hr:aop (.box x) e h=some (v,h')):OpRes P ι h w ((execOp a.eval o).run P w) v h':=by
  simp only [aop] at hr
  cases hv:ev e x with
  | none=>simp [hv] at hr
  | some u =>
    simp [hv] at hr
    obtain ⟨rfl,rfl⟩:=hr
    have hu:=(hF.ev hx hv).cells
    refine ⟨_,_,_,.inl ?_,new_ptr hS (a.eval x).cells.size 0,new_cells (C:=(a.eval x).cells) (T:=T) hS (VP.of (by rwa [vcells_eq (a.eval x)] at hu)) (w':=w.alloc (.cells (a.eval x).cells T)) rfl rfl rfl rfl⟩
    simp [execOp,ho,Instr.box,newVar,newRow,r_newObj]

theorem s_load1 {o:Oper} {T:TypeId} {x:Operand} (ho:o.op=.load T x) (hx:okO x=true) (hg:isAggT P T=some false) (hS:Sim P ι h w) (hF:FR N ι e a.tmps)
    (hr:aop (.load1 x) e h=some (v,h')):OpRes P ι h w ((execOp a.eval o).run P w) v h':=by
  simp only [aop] at hr
  split at hr
  · rename_i b off he
    have hp:=hF.ev hx he
    generalize hav:a.eval x=av at hp
    cases hp with
    | ptr hb =>
      rename_i i
      simp only [Heap.cell] at hr
      cases hg':h.get b with
      | none=>simp [hg'] at hr
      | some ob =>
        cases ob with
        | cells c own =>
          simp only [hg'] at hr
          cases hc:c[off]? with
          | none=>simp [hc] at hr
          | some u =>
            cases hj:Heap.isJ u with
            | true=>simp [hc,hj] at hr
            | false =>
            simp [hc,hj] at hr
            obtain ⟨rfl,rfl⟩:=hr
            obtain ⟨C,T',fz,h1,h2,h3,h4⟩:=hS.cells hb hg'
            obtain ⟨u',hu',hv⟩:=h3.toJ.get hc hj
            refine .same hS (v':=u') ?_ hv
            have:w.cell? ⟨i.blk,off,none⟩=some u':=by rw [cell_at h1];simpa using hu'
            simp [execOp,ho,Instr.loadAt,hav,Instr.sureAddr,loadVar,r_isAgg hg,load,Sem.run,this]
        | _=>simp [hg'] at hr
  · cases hr

theorem rd_inv {b o n:Nat} {c:List Value} (hr:h.rd b o n=some c):∃ cs own,h.get b=some (.cells cs own)∧(o + n≤cs.length∧((cs.drop o).take n).all (fun v=>!Heap.isJ v)=true)∧c=(cs.drop o).take n:=by
  unfold Heap.rd at hr
  split at hr
  · rename_i cs own hg
    split at hr
    · rename_i hle;cases hr;exact ⟨cs,own,hg,hle,rfl⟩
    · cases hr
  · cases hr

theorem rd_sim {b o n:Nat} {i:BI} {c:List Value} (hS:Sim P ι h w) (hb:ι b=some i) (hr:h.rd b o n=some c) :
    ∃ c',VL ι c c'∧c.length=n∧(loadCells ⟨i.blk,o,none⟩ n).run P w=.ok c'.toArray w:=by
  obtain ⟨cs,own,hg,⟨hle,hj⟩,rfl⟩:=rd_inv hr
  obtain ⟨C,T',fz,h1,h2,h3,h4⟩:=hS.cells hb hg
  replace h3:=h3.toJ
  refine ⟨_,h3.sub o n hle hj,by simp;omega,?_⟩
  rw [r_loadCells h1 (by have:=h3.1;simp at this;omega)]

theorem s_loadN {o:Oper} {T:TypeId} {n:Nat} {x:Operand} (ho:o.op=.load T x) (hx:okO x=true) (hg:isAggT P T=some true) (hn:sizeT P T=some n) (hS:Sim P ι h w) (hF:FR N ι e a.tmps)
    (hr:aop (.loadN n x) e h=some (v,h')):OpRes P ι h w ((execOp a.eval o).run P w) v h':=by
  simp only [aop] at hr
  split at hr
  · rename_i b off he
    have hp:=hF.ev hx he
    generalize hav:a.eval x=av at hp
    cases hp with
    | ptr hb =>
      rename_i i
      cases hc:h.rd b off n with
      | none=>simp [hc] at hr
      | some c =>
        simp [hc] at hr
        obtain ⟨rfl,rfl⟩:=hr
        obtain ⟨c',hv,_,hrun⟩:=rd_sim hS hb hc
        refine .same hS (v':=.agg c'.toArray) ?_ (.agg' hv)
        simp [execOp,ho,Instr.loadAt,hav,Instr.sureAddr,loadVar,r_isAgg hg,r_sizeOf hn,hrun]
  · cases hr

/-- Cells written. -/
theorem wr_sim {b o:Nat} {i:BI} {vs vs':List Value} (hS:Sim P ι h w) (hb:ι b=some i) (hv:VL ι vs vs') (hr:h.wr b o vs=some h') :
    ∃ w',(storeCells ⟨i.blk,o,none⟩ vs').run P w=.ok () w'∧Rel P ι h w ι h' w':=by
  unfold Heap.wr at hr
  split at hr
  · rename_i c z hg
    split at hr
    · rename_i hle
      cases hr
      obtain ⟨h1,h2,h3⟩:=hle
      obtain ⟨C,T',fz,k1,k2,k3,k4⟩:=hS.cells hb hg
      obtain ⟨kt,k5⟩:=k4 z rfl
      have hlen:=hv.1
      have hCl:=k3.1
      simp only [Array.length_toList] at hCl
      obtain ⟨w',r1,r2,r3,r4,r5,r6⟩:=r_storeCells (P:=P) vs' 0 o w C k1 kt (by omega) (hv.cellOk h3)
      refine ⟨w',r1,?_⟩
      refine Rel.set hS hb (by unfold owned;rw [hg];trivial) h1 ⟨_,T',fz,rfl,?_,?_,fun q hq=>⟨by simp only [Nat.add_zero,List.size_toArray];rw [splice_length (by simp;omega)];simpa using kt,by cases hq;exact k5⟩⟩ r2 r3 r4 r5
      · simp only [Nat.add_zero,List.size_toArray];rw [splice_length (by simp;omega)];simpa using k2
      · simp only [Nat.add_zero]
        exact k3.splice hv o h2
    · cases hr
  · cases hr

theorem s_store {o:Oper} {T:TypeId} {n:Nat} {x y:Operand} (ho:o.op=.store T x y) (hx:okO x=true) (hy:okO y=true) (hn:sizeT P T=some n) (hS:Sim P ι h w) (hF:FR N ι e a.tmps)
    (hr:aop (.store n x y) e h=some (v,h')):OpRes P ι h w ((execOp a.eval o).run P w) v h':=by
  simp only [aop] at hr
  split at hr
  · rename_i b off u he hey
    have hp:=hF.ev hx he
    have hu:=(hF.ev hy hey).cells
    generalize hav:a.eval x=av at hp
    cases hp with
    | ptr hb =>
      rename_i i
      split at hr
      · rename_i hl
        cases hw:h.wr b off (vcells u) with
        | none=>simp [hw] at hr
        | some h2 =>
          simp [hw] at hr
          obtain ⟨rfl,rfl⟩:=hr
          obtain ⟨w',r1,r2⟩:=wr_sim hS hb hu hw
          refine ⟨undef,w',ι,.inr ⟨?_,rfl⟩,V.undef,r2⟩
          have hsz:(a.eval y).cells.size=n:=by have:=hu.1;rw [vcells_eq (a.eval y)] at this;simp at this;omega
          rw [vcells_eq] at r1
          simp [execOp,ho,Instr.storeAt,hav,Instr.sureAddr,storeVar,r_sizeOf hn,hsz,r1]
      · cases hr
  · cases hr

end Go.AM

