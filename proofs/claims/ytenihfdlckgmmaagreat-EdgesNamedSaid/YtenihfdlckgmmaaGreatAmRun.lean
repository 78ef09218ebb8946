/- A part of the abstract machine, or of what is proved of the program by it. -/
import Derived.Test.YtenihfdlckgmmaaGreatAmSim
namespace Go.AM
set_option linter.unusedVariables false
set_option linter.unusedSimpArgs false
variable {P:Program} {w:World}

theorem r_program:(Go.program:Sem Program).run P w=.ok P w:=rfl
theorem r_underlying {T:TypeId} {d:TypeDesc} (h:P.underlying T=some d):(underlying T).run P w=.ok d w:=by
  simp only [underlying,Sem.run_bind,r_program,Result.andThen_ok,h,Sem.run_pure]
theorem r_typeInfo {T:TypeId} {d:TypeInfo} (h:P.info? T=some d):(typeInfo T).run P w=.ok d w:=by
  simp only [typeInfo,Sem.run_bind,r_program,Result.andThen_ok,h,Sem.run_pure]
theorem sizeT_inv {T:TypeId} {n:Nat} (h:sizeT P T=some n):∃ i,P.info? T=some i∧i.size=n:=by
  unfold sizeT at h
  cases e:P.info? T with
  | none=>simp [e] at h
  | some i=>simp [e] at h;exact ⟨i,rfl,h⟩
theorem r_sizeOf {T:TypeId} {n:Nat} (h:sizeT P T=some n):(sizeOf T).run P w=.ok n w:=by
  obtain ⟨i,h1,h2⟩:=sizeT_inv h
  simp only [sizeOf,Sem.run_bind,r_typeInfo h1,Result.andThen_ok,Sem.run_pure,h2]
theorem r_isAgg {T:TypeId} {b:Bool} (h:isAggT P T=some b):(isAgg T).run P w=.ok b w:=by
  unfold isAggT at h
  cases e:P.underlying T with
  | none=>simp [e] at h
  | some d =>
    rw [e] at h
    simp only [isAgg,Sem.run_bind,r_underlying e,Result.andThen_ok]
    split <;> simp_all
theorem zeroT_inv {T:TypeId} {z:Value} (h:zeroT P T=some z):∃ i,P.info? T=some i∧i.zero=some z∧closedV 3 z=true∧(vcells z).length=i.size:=by
  unfold zeroT at h
  cases e:P.info? T with
  | none=>simp [e] at h
  | some i =>
    simp only [e] at h
    cases e2:i.zero with
    | none=>simp [e2] at h
    | some y =>
      simp only [e2] at h
      split at h
      · rename_i hc
        cases h
        simp only [Bool.and_eq_true,beq_iff_eq] at hc
        exact ⟨i,rfl,e2,hc.1,hc.2⟩
      · cases h
theorem r_zeroValue {T:TypeId} {z:Value} (h:zeroT P T=some z):(zeroValue T).run P w=.ok z w:=by
  obtain ⟨i,h1,h2,_⟩:=zeroT_inv h
  simp only [zeroValue,Sem.run_bind,r_typeInfo h1,Result.andThen_ok,h2,Sem.run_pure]

theorem cell_at {w:World} {B o:Nat} {C:Array Value} {T:TypeId} {fz:Nat × Nat} (h:w.heap[B]? = some (.cells C T fz)):w.cell? ⟨B,o,none⟩=C[o]?:=by
  simp [World.cell?,h]
theorem frozen_at {w:World} {B o:Nat} {C:Array Value} {T:TypeId} {fz:Nat × Nat} (h:w.heap[B]? = some (.cells C T fz)) (ht:Thaw fz C.size) (ho:o < C.size):w.frozen? ⟨B,o,none⟩=false:=by
  obtain ⟨lo,hi⟩:=fz
  simp only [World.frozen?,h]
  exact ht o ho

theorem r_load {a:Addr} {v:Value} (h:w.cell? a=some v):(load a).run P w=.ok v w:=by
  simp only [load,Sem.run,h]

theorem addr_add (B o n:Nat):(⟨B,o,none⟩:Addr).add n=⟨B,o + n,none⟩:=by
  unfold Addr.add
  split
  · rename_i h;subst h;rfl
  · rfl

theorem r_loadCellsFrom {B o:Nat} {C:Array Value} {T:TypeId} {fz:Nat × Nat} (h:w.heap[B]? = some (.cells C T fz)) :
    ∀ (n i:Nat) (acc:Array Value),o + i + n≤C.size→(loadCellsFrom ⟨B,o,none⟩ i n acc).run P w=.ok (acc++((C.toList.drop (o + i)).take n).toArray) w:=by
  intro n
  induction n with
  | zero=>intro i acc hn;simp [loadCellsFrom,Sem.run_pure]
  | succ n ih =>
    intro i acc hn
    have hlt:o + i < C.size:=by omega
    have hc:w.cell? ((⟨B,o,none⟩:Addr).add i)=some C[o + i]:=by rw [addr_add,cell_at h,Array.getElem?_eq_getElem hlt]
    simp only [loadCellsFrom,Sem.run_bind,r_load hc,Result.andThen_ok]
    rw [ih (i + 1) _ (by omega)]
    have:C.toList.drop (o + i)=C[o + i]::C.toList.drop (o + (i + 1)):=by
      rw [List.drop_eq_getElem_cons (by simpa using hlt)];rfl
    rw [this]
    simp

theorem r_loadCells {B o n:Nat} {C:Array Value} {T:TypeId} {fz:Nat × Nat} (h:w.heap[B]? = some (.cells C T fz)) (hn:o + n≤C.size) :
    (loadCells ⟨B,o,none⟩ n).run P w=.ok ((C.toList.drop o).take n).toArray w:=by
  rw [loadCells,r_loadCellsFrom h n 0 #[] (by omega)];simp

theorem setCell_heap {w:World} {B o:Nat} {C:Array Value} {T:TypeId} {fz:Nat × Nat} (h:w.heap[B]? = some (.cells C T fz)) (v:Value) :
    (w.setCell ⟨B,o,none⟩ v).heap=w.heap.setIfInBounds B (.cells (C.setIfInBounds o v) T fz):=by
  have hB:B < w.heap.size:=(Array.getElem?_eq_some_iff.1 h).1
  have hv:w.heap[B]=.cells C T fz:=(Array.getElem?_eq_some_iff.1 h).2
  simp only [World.setCell]
  apply Array.ext_getElem?
  intro k
  rw [Array.getElem?_modify,Array.getElem?_setIfInBounds]
  by_cases e:B=k
  · subst e;simp [h,hB,hv]
  · simp [e]

theorem run_store_cell {a:Addr} {v u:Value} (hv:cellOk v=true) (h:w.cell? a=some u) (hf:w.frozen? a=false):(store a v).run P w=.ok () (w.setCell a v):=by
  cases v <;> first|(simp [cellOk] at hv;done)|simp [store,Sem.run,h,hf]

theorem splice_nil (c:List Value) (o:Nat):splice c o []=c:=by simp [splice]
theorem splice_length {c vs:List Value} {o:Nat} (h:o + vs.length≤c.length):(splice c o vs).length=c.length:=by simp [splice];omega
theorem splice_cons {c vs:List Value} {o:Nat} {v:Value} (h:o + (vs.length + 1)≤c.length):splice c o (v::vs)=splice (c.set o v) (o + 1) vs:=by
  unfold splice
  have ho:o < c.length:=by omega
  have h1:(c.set o v).take (o + 1)=c.take o++[v]:=by
    rw [List.take_succ_eq_append_getElem (by simpa using ho),List.take_set_of_le (Nat.le_refl o)]
    simp
  have h2:(c.set o v).drop (o + 1 + vs.length)=c.drop (o + (v::vs).length):=by
    rw [List.drop_set_of_lt (by omega)]
    congr 1
    simp;omega
  rw [h1,h2];simp

theorem r_storeCells {B T:Nat} {fz:Nat × Nat}:∀ (vs:List Value) (i o:Nat) (w:World) (C:Array Value),w.heap[B]? = some (.cells C T fz)→Thaw fz C.size→o + i + vs.length≤C.size→vs.all cellOk=true →
    ∃ w',(storeCells ⟨B,o,none⟩ vs i).run P w=.ok () w'∧w'.heap=w.heap.setIfInBounds B (.cells (splice C.toList (o + i) vs).toArray T fz)∧w'.os=w.os∧w'.tape=w.tape∧w'.output=w.output∧w.drawn≤w'.drawn:=by
  intro vs
  induction vs with
  | nil =>
    intro i o w C h _ _ _
    refine ⟨w,by simp [storeCells,Sem.run_pure],?_,rfl,rfl,rfl,Nat.le_refl _⟩
    rw [splice_nil]
    have hB:B < w.heap.size:=(Array.getElem?_eq_some_iff.1 h).1
    apply Array.ext_getElem?
    intro k
    rw [Array.getElem?_setIfInBounds]
    by_cases e:B=k
    · subst e;simp [hB,(Array.getElem?_eq_some_iff.1 h).2]
    · simp [e]
  | cons v vs ih =>
    intro i o w C h ht hn hok
    simp only [List.all_cons,Bool.and_eq_true] at hok
    simp only [List.length_cons] at hn
    have hlt:o + i < C.size:=by omega
    have hB:B < w.heap.size:=(Array.getElem?_eq_some_iff.1 h).1
    have hc:w.cell? ((⟨B,o,none⟩:Addr).add i)=some C[o + i]:=by rw [addr_add,cell_at h,Array.getElem?_eq_getElem hlt]
    have hf:w.frozen? ((⟨B,o,none⟩:Addr).add i)=false:=by rw [addr_add,frozen_at h ht hlt]
    have hset:=setCell_heap (o:=o + i) h v
    have h1:(w.setCell ((⟨B,o,none⟩:Addr).add i) v).heap[B]? = some (.cells (C.setIfInBounds (o + i) v) T fz):=by
      rw [addr_add,hset,Array.getElem?_setIfInBounds];simp [hB]
    obtain ⟨w',hr,hh,e1,e2,e3,e4⟩:=ih (i + 1) o (w.setCell ((⟨B,o,none⟩:Addr).add i) v) (C.setIfInBounds (o + i) v) h1 (by simpa using ht) (by simp;omega) hok.2
    refine ⟨w',by simp only [storeCells,Sem.run_bind,run_store_cell hok.1 hc hf,Result.andThen_ok];exact hr,?_,by rw [e1];rfl,by rw [e2];rfl,by rw [e3];rfl,e4⟩
    rw [hh,addr_add,hset,Array.setIfInBounds_setIfInBounds]
    congr 1
    rw [splice_cons (by simpa using (by omega:o + i + (vs.length + 1)≤C.size))]
    simp [Nat.add_assoc]

/-- What an operation gives: the abstract machine's answer, and the model's. -/
def OpRes (P:Program) (ι:Inj) (h:Heap) (w:World) (r:Result Next) (v:Value) (h':Heap):Prop :=
  ∃ v' w' ι',(r=.ok (.value v') w'∨(r=.ok .skip w'∧v'=undef))∧V ι' v v'∧Rel P ι h w ι' h' w'

theorem OpRes.same {ι:Inj} {h:Heap} {r:Result Next} {v v':Value} (s:Sim P ι h w) (hr:r=.ok (.value v') w) (hv:V ι v v'):OpRes P ι h w r v h :=
  ⟨v',w,ι,.inl hr,hv,Rel.refl s⟩

end Go.AM

