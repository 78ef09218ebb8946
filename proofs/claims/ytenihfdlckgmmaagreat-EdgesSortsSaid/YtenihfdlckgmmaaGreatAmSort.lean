/- A part of the abstract machine, or of what is proved of the program by it. -/
import Derived.Test.YtenihfdlckgmmaaGreatAmCall
import Derived.Shelf.Sort.Plain
namespace Go.AM
open Go.Sort
set_option linter.unusedVariables false
set_option linter.unusedSimpArgs false
variable {P:Program}

def intsOf:List Value→Option (List Int)
  | []=>some []
  | .int .i64 n::r=>(intsOf r).map (n::·)
  | _=>none

theorem intsOf_some:∀ {l:List Value} {zs:List Int},intsOf l=some zs→l=zs.map (.int .i64)
  | [],zs,h=>by cases h;rfl
  | v::r,zs,h=>by
    unfold intsOf at h
    split at h
    · rename_i he;cases he
    · rename_i he
      cases he
      obtain ⟨q,h1,h2⟩:=Option.map_eq_some_iff.1 h
      subst h2
      rw [intsOf_some h1];rfl
    · cases h
def sortL (zs:List Int):List Int:=zs.mergeSort fun x y=>decide (x≤y)

/-- What slices.Sort does. -/
def sortO:List Value→Heap→Option (Value × Heap)
  | [.slice p n c],h =>
    if n=0 then some (.tuple #[],h) else
    match p with
    | some ⟨b,o,none⟩=>match h.get b with
      | some (.cells cs (some z)) =>
        if h.prot≤b∧o + n≤cs.length∧n < 4611686018427387904 then
          match intsOf ((cs.drop o).take n) with
          | some zs=>some (.tuple #[],h.set b (.cells (splice cs o ((sortL zs).map (.int .i64))) (some z)))
          | none=>none
        else none
      | _=>none
    | _=>none
  | _,_=>none

theorem Rel.grow {ι:Inj} {h:Heap} {w w':World} (hS:Sim P ι h w) (os:Array Obj) (hw:w'.heap=w.heap++os) (h1:w'.os=w.os) (h2:w'.tape=w.tape) (h3:w'.output=w.output) (hd:w.drawn≤w'.drawn:=by first|exact Nat.le_refl _|assumption):Rel P ι h w ι h w':=by
  have hg:∀ k,k < w.heap.size→w'.heap[k]? = w.heap[k]?:=fun k hk=>by rw [hw,Array.getElem?_append_left hk]
  have hs:w.heap.size≤w'.heap.size:=by rw [hw];simp
  refine ⟨Le.rfl ι,⟨fun b i e=>⟨(hS.dom b i e).1,Nat.lt_of_lt_of_le (hS.dom b i e).2 hs⟩,fun b i o e ho=>?_,hS.inj,fun B hB=>⟨(hS.pin B hB).1.of (hg B (hS.pin B hB).1.lt),(hS.pin B hB).2⟩⟩,⟨h1,h2,h3,hs,fun B hB _=>hg B hB,hd⟩,(fun b i e e0=>by rw [e] at e0;cases e0),fun _ _ h=>h,rfl,fun _ _ _=>rfl,Nat.le_refl _⟩
  obtain ⟨O,o1,o2⟩:=hS.obj b i o e ho
  exact ⟨O,by rw [hg _ (hS.dom b i e).2];exact o1,o2⟩

theorem putCells_toList (zs:List Int) (off:Nat) (C:Array Value) (hn:off + zs.length≤C.size):(putCells (Value.int .i64) off zs.toArray C).toList=splice C.toList off (zs.map (.int .i64)):=by
  apply List.ext_getElem?
  intro k
  unfold putCells splice
  rw [Array.getElem?_toList,Array.getElem?_mapIdx]
  simp only [List.length_map]
  by_cases h1:k < off
  · rw [List.append_assoc,List.getElem?_append_left (by simp;omega),List.getElem?_take,if_pos h1,Array.getElem?_toList]
    cases C[k]? with
    | none=>rfl
    | some x=>simp only [Option.map_some];rw [if_neg (by omega)]
  · by_cases h2:k < off + zs.length
    · rw [List.append_assoc,List.getElem?_append_right (by simp;omega),List.getElem?_append_left (by simp;omega)]
      have hk:k < C.size:=by omega
      rw [Array.getElem?_eq_getElem hk]
      simp only [Option.map_some,List.length_take,Array.length_toList,List.getElem?_map]
      rw [if_pos ⟨by omega,by simpa using h2⟩]
      have hz:k - off < zs.length:=by omega
      have e:k - min off C.size=k - off:=by omega
      rw [e,List.getElem?_eq_getElem hz]
      simp only [Option.map_some]
      congr 2
      simp [hz]
    · rw [List.getElem?_append_right (by simp;omega),List.getElem?_drop]
      have e:off + zs.length + (k - (C.toList.take off++zs.map (Value.int .i64)).length)=k:=by simp;omega
      rw [e,Array.getElem?_toList]
      cases C[k]? with
      | none=>rfl
      | some x=>simp only [Option.map_some];rw [if_neg (by simp;omega)]

theorem sort_ok {k : FuncId} (hfn : ∃ f, P.funcs[k]? = some f ∧ (f.name == "runtime.NumGoroutine") = false ∧ f.body.isNone = false)
    (hsort:∀ (blk off cap:Nat) (zs:List Int) (w:World),Holds (Value.int .i64) w blk off zs.toArray→blk < w.heap.size→zs.length < 4611686018427387904 →
      Calls P k #[.slice (some ⟨blk,off,none⟩) zs.length cap] w fun e w'=>e=.returned (.tuple #[])∧∃ n os,w'=grow (putRow (Value.int .i64) (Sort.ahead w n) blk off (zs.mergeSort fun x y=>decide (x≤y)).toArray) os)
    (hnone:∀ (p:Option Addr) (cap:Nat) (w:World),Calls P k #[.slice p 0 cap] w fun e w'=>e=.returned (.tuple #[])∧w'=w):OracleOk P k sortO:=by
  refine ⟨hfn,fun args h v h' hr=>?_,fun args h v h' hr ι w cargs hS hv=>?_⟩
  · unfold sortO at hr
    split at hr
    · split at hr
      · cases hr;exact Ext.refl _
      · split at hr
        · split at hr
          · rename_i hg
            split at hr
            · rename_i hc
              split at hr
              · cases hr;exact Ext.set _ hc.1 (by unfold owned;rw [hg];trivial)
              · cases hr
            · cases hr
          · cases hr
        · cases hr
    · cases hr
  · refine callsIn_wide.2 ?_
    unfold sortO at hr
    split at hr
    · rename_i p n c
      obtain ⟨u,r,rfl,hu,hr2⟩:=hv.inv
      obtain rfl:=hr2.nil_inv
      split at hr
      · rename_i hn
        subst hn
        cases hr
        have:∃ p' c',u=.slice p' 0 c':=by
          cases hu
          · exact ⟨_,_,rfl⟩
          · exact ⟨_,_,rfl⟩
          · exact ⟨_,_,rfl⟩
        obtain ⟨p',c',rfl⟩:=this
        refine (hnone p' c' w).mono ?_
        rintro e w' ⟨rfl,rfl⟩
        exact ⟨_,ι,rfl,V.undef,Rel.refl hS⟩
      · rename_i hn
        split at hr
        · rename_i b o
          split at hr
          · rename_i cs z hg
            split at hr
            · rename_i hc
              split at hr
              · rename_i zs hzs
                cases hr
                have hcs:=intsOf_some hzs
                have hlen:zs.length=n:=by
                  have:=congrArg List.length hcs
                  simp at this;omega
                have hex:∃ i c',ι b=some i∧u=.slice (some ⟨i.blk,o,none⟩) n c':=by
                  cases hu with
                  | sl hb _ _=>exact ⟨_,_,hb,rfl⟩
                  | sle=>exact absurd rfl hn
                obtain ⟨i,c',hb,rfl⟩:=hex
                obtain ⟨C,T,fz,h1,h2,h3,h4⟩:=hS.cells hb hg
                obtain ⟨hfz,hz⟩:=h4 z rfl
                have hvp:VP ι cs C.toList:=h3
                have hd:=hS.dom b i hb
                have hH:Holds (Value.int .i64) w i.blk o zs.toArray:=by
                  intro j hj
                  simp at hj
                  have hj1:cs[o + j]? = some (.int .i64 zs[j]):=by
                    have e1:((cs.drop o).take n)[j]? = some (.int .i64 zs[j]):=by rw [hcs];simp [hj]
                    rw [List.getElem?_take,if_pos (by omega),List.getElem?_drop] at e1;exact e1
                  obtain ⟨x,hx1,hx2⟩:=hvp.get hj1
                  cases hx2
                  refine ⟨?_,?_⟩
                  · unfold World.cell?
                    simp only [h1,Option.isSome_none,Bool.false_eq_true,if_false]
                    rw [Array.getElem?_toList] at hx1
                    rw [hx1];simp [hj]
                  · obtain ⟨lo,hi⟩:=fz
                    unfold World.frozen?
                    simp only [h1]
                    exact hfz _ (by have:=(List.getElem?_eq_some_iff.1 hx1).1;simpa using this)
                subst hlen
                refine (hsort i.blk o c' zs w hH hd.2 hc.2.2).mono ?_
                rintro e w' ⟨rfl,m,os,rfl⟩
                have hsl:(sortL zs).length=zs.length:=by unfold sortL;simp
                have hheap:(putRow (Value.int .i64) (Sort.ahead w m) i.blk o (sortL zs).toArray).heap=w.heap.setIfInBounds i.blk (.cells (putCells (Value.int .i64) o (sortL zs).toArray C) T fz):=by
                  unfold putRow mapBlock Sort.ahead
                  simp only
                  apply Array.ext_getElem?
                  intro k
                  rw [Array.getElem?_modify,Array.getElem?_setIfInBounds]
                  by_cases hk:i.blk=k
                  · subst hk
                    rw [if_pos rfl,if_pos rfl,h1,if_pos hd.2];rfl
                  · rw [if_neg hk,if_neg hk]
                have hCs:o + (sortL zs).length≤C.size:=by
                  have:=hvp.1;simp at this;rw [hsl];omega
                have r1:Rel P ι h w ι (h.set b (.cells (splice cs o ((sortL zs).map (.int .i64))) (some z))) (putRow (Value.int .i64) (Sort.ahead w m) i.blk o (sortL zs).toArray):=by
                  refine Rel.set hS hb (by unfold owned;rw [hg];trivial) hc.1 ⟨_,T,fz,rfl,?_,?_,fun z' hz'=>⟨by unfold putCells;rw [Array.size_mapIdx];exact hfz,by cases hz';exact hz⟩⟩ hheap rfl rfl rfl (Nat.le_add_right _ _)
                  · unfold putCells;rw [Array.size_mapIdx];exact h2
                  · rw [putCells_toList _ _ _ hCs]
                    refine VP.splice hvp ?_ o (by simp;omega)
                    refine ⟨rfl,fun j a b ha hb'=>?_⟩
                    rw [ha] at hb';cases hb'
                    rw [List.getElem?_map] at ha
                    obtain ⟨q,_,rfl⟩:=Option.map_eq_some_iff.1 ha
                    exact .int _ _
                exact ⟨_,ι,rfl,V.undef,Rel.trans hS r1 (Rel.grow r1.sim os rfl rfl rfl rfl)⟩
              · cases hr
            · cases hr
          · cases hr
        · cases hr
    · cases hr
end Go.AM

