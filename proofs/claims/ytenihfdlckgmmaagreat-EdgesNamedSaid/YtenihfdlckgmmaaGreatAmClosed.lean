/- A part of the abstract machine, or of what is proved of the program by it. -/
import Derived.Test.YtenihfdlckgmmaaGreatAmCall
import Derived.Test.YtenihfdlckgmmaaGreatAmLogic
import Derived.KernelRfl
namespace Go.AM
set_option linter.unusedVariables false
set_option linter.unusedSimpArgs false
variable {P:Program}

theorem sim_empty (W:World) (hpin:∀ b,pinned P b=true→TabIn W b):Sim P (fun _=>none) Heap.empty W :=
  ⟨fun b i h=>(by cases h),fun b i o h=>(by cases h),fun b b' i i' _ h=>(by cases h),fun b hb=>⟨hpin b hb,fun c i h=>(by cases h)⟩⟩

/-- What a call without arguments answers, whatever there is. -/
def closedO (v:Value):List Value→Heap→Option (Value × Heap):=fun args h =>
  match args with
  | []=>some (v,h)
  | _=>none

theorem closed_ok {prog:AProg} (hp:ProgOk P prog) {k:FuncId} {n:Nat} {v:Value} {h:Heap} (hv:scal v=true) (hr:callV prog n (.func k) [] Heap.empty=some (v,h)):OracleOk P k (closedO v):=by
  obtain ⟨h1,h2⟩:=(callV_sound hp n).fn k [] Heap.empty v h hr
  refine ⟨h1,fun args g u g' hq=>?_,fun args g u g' hq ι w cargs hS hc=>?_⟩
  · unfold closedO at hq
    split at hq
    · cases hq;exact Ext.refl _
    · cases hq
  · unfold closedO at hq
    split at hq
    · cases hq
      obtain rfl:=hc.nil_inv
      refine (h2 (fun _=>none) w [] (sim_empty w (fun b hb=>(hS.pin b hb).1)) (VL.nil _)).mono ?_
      rintro e w' ⟨v',ι',rfl,hvv,hrel⟩
      obtain rfl:=hvv.scal hv
      have hblk:∀ B,B < w.heap.size→w'.heap[B]? = w.heap[B]?:=fun B hB=>hrel.fr.block B hB (fun b i hb=>by cases hb)
      refine ⟨v',ι,rfl,V.of_scal hv,Le.rfl ι,⟨fun b i hb=>⟨(hS.dom b i hb).1,Nat.lt_of_lt_of_le (hS.dom b i hb).2 hrel.fr.size⟩,fun b i o hb ho=>?_,hS.inj,fun B hB=>⟨(hS.pin B hB).1.of (hblk B (hS.pin B hB).1.lt),(hS.pin B hB).2⟩⟩,
        ⟨hrel.fr.os,hrel.fr.tape,hrel.fr.output,hrel.fr.size,fun B hB _=>hblk B hB,hrel.fr.drawn⟩,(fun b i hb h0=>by rw [hb] at h0;cases h0),fun _ _ h=>h,rfl,fun _ _ _=>rfl,Nat.le_refl _⟩
      obtain ⟨O,k1,k2⟩:=hS.obj b i o hb ho
      exact ⟨O,by rw [hblk _ (hS.dom b i hb).2];exact k1,k2⟩
    · cases hq
end Go.AM

