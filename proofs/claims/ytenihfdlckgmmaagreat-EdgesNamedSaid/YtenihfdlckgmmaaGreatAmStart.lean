/- A part of the abstract machine, or of what is proved of the program by it. -/
import Derived.Test.YtenihfdlckgmmaaGreatAmCall
import Derived.Carry
import Derived.RowKit3
import Derived.JoinedCond
import Derived.ChangeBook
namespace Go.AM
open Go.ChangeShapes Go.WideShapes Go.RowKit
set_option linter.unusedVariables false
set_option linter.unusedSimpArgs false

def J:Value:=.chan none
noncomputable section

def inj0 (W:World):Inj:=fun b=>if b < W.heap.size then some ⟨b,match W.heap[b]? with|some (.cells C _ _)=>C.size|_=>0,0⟩ else none

/-- A value as the abstract machine takes it: the address of a slice without room says nothing. -/
def norm:Value→Value
  | .slice (some _) 0 0=>.slice (some ⟨0,0,none⟩) 0 0
  | v=>v

open Classical in
def known (ι:Inj) (v:Value):Value:=if V ι (norm v) v then norm v else J

def abs0 (W:World) (k:Nat):AObj :=
  match W.heap[k]? with
  | some (.cells C _ _)=>.cells (C.toList.map (known (inj0 W))) none
  | _=>.dead

def fill (f:Nat→AObj):Nat→Tr AObj
  | 0=>.nil
  | n + 1=>(fill f n).set n (f n)

theorem fill_get (f:Nat→AObj):∀ n b,(fill f n).get b=if b < n then some (f b) else none:=by
  intro n
  induction n with
  | zero=>intro b;simp [fill,Tr.get_nil]
  | succ n ih =>
    intro b
    rw [fill,Tr.get_set,ih]
    by_cases h:b=n
    · subst h;simp
    · rw [if_neg h]
      by_cases h2:b < n
      · rw [if_pos h2,if_pos (by omega)]
      · rw [if_neg h2,if_neg (by omega)]

def start (W:World):Heap:=⟨W.heap.size,fill (abs0 W) W.heap.size,0⟩

theorem start_get (W:World) (b:Nat):(start W).get b=if b < W.heap.size then some (abs0 W b) else none:=fill_get _ _ _

theorem abs0_cases (W:World) (b:Nat):(∃ c,abs0 W b=.cells c none)∨abs0 W b=.dead:=by
  unfold abs0
  split
  · exact .inl ⟨_,rfl⟩
  · exact .inr rfl

theorem start_owned {W:World} {b:Nat}:¬ owned (start W) b:=by
  unfold owned
  rw [start_get]
  by_cases h:b < W.heap.size
  · rw [if_pos h]
    rcases abs0_cases W b with ⟨c,e⟩|e <;> simp [e]
  · simp [h]

theorem start_sim (P:Program) (W:World) (hpin:∀ b,pinned P b=true→TabIn W b):Sim P (inj0 W) (start W) W:=by
  refine ⟨fun b i hb=>?_,fun b i o hb ho=>?_,fun b b' i i' _ _ _ ho=>absurd ho start_owned,fun b hb=>⟨hpin b hb,fun c i _ ho=>absurd ho start_owned⟩⟩
  · unfold inj0 at hb
    split at hb
    · rename_i h;cases hb;exact ⟨h,h⟩
    · cases hb
  · have hb0:=hb
    unfold inj0 at hb
    split at hb
    · rename_i h
      cases hb
      rw [start_get,if_pos h] at ho
      cases ho
      have hg:W.heap[b]? = some W.heap[b]:=Array.getElem?_eq_getElem h
      refine ⟨W.heap[b],hg,?_⟩
      unfold abs0
      cases hO:W.heap[b] with
      | cells C T fz =>
        have hg':W.heap[b]? = some (.cells C T fz):=by rw [hg,hO]
        simp only [hg']
        refine ⟨C,T,fz,rfl,rfl,⟨by simp,fun j a c ha hc hj=>?_⟩,fun z hz=>by cases hz⟩
        rw [List.getElem?_map,hc] at ha
        simp only [Option.map_some,Option.some.injEq] at ha
        unfold known at ha
        split at ha
        · rename_i hv;rw [← ha];exact hv
        · rw [← ha] at hj;cases hj
      | _=>rw [show W.heap[b]? = some _ from by rw [hg,hO]];trivial
    · cases hb

theorem inj0_some {W:World} {b:Nat} (h:b < W.heap.size):∃ n,inj0 W b=some ⟨b,n,0⟩:=by unfold inj0;rw [if_pos h];exact ⟨_,rfl⟩

theorem V.notJ {ι:Inj} {v u:Value} (h:V ι v u):Heap.isJ v=false:=by cases h <;> rfl

theorem start_rd {W:World} {b o n:Nat} {l:List Value} (hl:l.length=n) (h:∀ (i:Nat) (hi:i < n),W.cell? ⟨b,o + i,none⟩=some (l[i]'(by omega))) (hv:∀ v ∈ l,V (inj0 W) (norm v) v) (hn:0 < n):(start W).rd b o n=some (l.map norm):=by
  have h0:=h 0 hn
  unfold World.cell? at h0
  simp only at h0
  split at h0
  · rename_i C T fz hg
    have hlt:b < W.heap.size:=(Array.getElem?_eq_some_iff.1 hg).1
    have hc:∀ (i:Nat) (hi:i < n),C[o + i]? = some (l[i]'(by omega)):=by
      intro i hi
      have:=h i hi
      unfold World.cell? at this
      simp only [hg,Option.isSome_none,Bool.false_eq_true,if_false] at this
      exact this
    have hsz:o + n≤C.size:=by
      have:=(Array.getElem?_eq_some_iff.1 (hc (n - 1) (by omega))).1
      omega
    have e:((C.toList.map (known (inj0 W))).drop o).take n=l.map norm:=by
      apply List.ext_getElem?
      intro i
      rw [List.getElem?_take]
      split
      · rename_i hi
        rw [List.getElem?_drop,List.getElem?_map,Array.getElem?_toList,hc i hi,Option.map_some,List.getElem?_map,List.getElem?_eq_getElem (by omega),Option.map_some]
        unfold known
        rw [if_pos (hv _ (List.getElem_mem _))]
      · rw [List.getElem?_eq_none (by simp;omega)]
    unfold Heap.rd
    rw [start_get,if_pos hlt]
    unfold abs0
    rw [hg]
    simp only [e]
    rw [if_pos]
    refine ⟨by simpa using hsz,?_⟩
    rw [List.all_eq_true]
    intro v hv'
    obtain ⟨u,hu,rfl⟩:=List.mem_map.1 hv'
    simp [(hv u hu).notJ]
  · cases h0

end

/-- Nothing that was there has turned. -/
theorem Rel.below {P:Program} {W W':World} {ι':Inj} {h':Heap} (r:Rel P (inj0 W) (start W) W ι' h' W'):Below W.heap.size W W' :=
  ⟨r.fr.os,r.fr.tape,r.fr.output,r.fr.size,fun k hk=>r.fr.block k hk (fun b i _ ho _=>absurd ho start_owned)⟩

section
variable {H:Type} {enc:TypeId × Value→H} {P:Program}

theorem trodAll_stays (hl:laidOutB P=true) {W W':World} (hB:Below W.heap.size W W') {sp:Nat→Bool}:∀ {ts:List TypeId} {vs:List Value} {ds:List (DataW H)} {ps:List MemPlace},
    (ts.all fun t=>P.readableRec t && decide (t < P.types.size))=true→DataW.TrodAll enc P W 0 (fun _=>true) true ts vs ds ps→(∀ p ∈ ps,sp p.block=true)→DataW.TrodAll enc P W' 0 sp true ts vs ds ps
  | [],[],[],_,_,h,_=>h
  | t::ts,v::vs,d::ds,_,ht,⟨p,q,h1,h2,e⟩,hs=>by
    simp only [List.all_cons,Bool.and_eq_true,decide_eq_true_eq] at ht
    have h1':=h1
    obtain ⟨n,hn⟩:=h1'
    refine ⟨p,q,WideElems.Trod_stays hl ht.1.1 ht.1.2 h1 (fun x hx=>hB.same (DataW.trod_lt n _ _ _ hn x hx)) (fun x hx=>hs x (by rw [e];exact List.mem_append_left _ hx)),trodAll_stays hl hB ht.2 h2 (fun x hx=>hs x (by rw [e];exact List.mem_append_right _ hx)),e⟩

theorem pin_none (h:noPin P=true) (W:World):∀ b,pinned P b=true→TabIn W b:=fun b hb=>by rw [noPin_no h b] at hb;cases hb

/-- **The contract of a law** that says 'true' and leaves its arguments as they were, out of a run of the abstract machine. -/
theorem contract_true {prog:AProg} (hp:ProgOk P prog) (hl:laidOutB P=true) {f:FuncId} {fn:Func} {s:ChangeSpec} {apart fresh handsOn again:Bool} {tb:TypeId}
    (hts:(fn.params.toList.all fun t=>P.readableRec t && decide (t < P.types.size))=true) (hrt:fn.resultTypes=#[tb]) (htb:P.underlying tb=some .bool) (hvars:s.vars=[])
    (W:World) (hpin:∀ b,pinned P b=true→TabIn W b) (args:Array Value) (ds gs:List (DataW H)) (before:List MemPlace) (hW:DataW.Whole enc P fn.params.toList s.vars apart W args.toList ds gs before)
    (hs:(s.fn H (ds++gs)).results=[.lit (.bool true)]∧(s.fn H (ds++gs)).args=ds∧(s.fn H (ds++gs)).vars=[])
    {aargs:List Value} (hself:VL (inj0 W) aargs args.toList) {n:Nat} {h':Heap} (hr:callV prog n (.func f) aargs (start W)=some (.bool true,h')) :
    Calls P f args W fun e W'=>∃ v,e=.returned v∧s.post enc P fn apart fresh handsOn again W args v W':=by
  have hc:=calls_of_run hp hr (start_sim P W hpin) hself
  rw [Array.toArray_toList] at hc
  refine hc.mono fun e W' hpost=>?_
  obtain ⟨v',ι',rfl,hv,hrel⟩:=hpost
  obtain rfl:=hv.scal rfl
  have hB:=hrel.below
  have hlt:=hW.lt
  have hW':=hW
  obtain ⟨p,q,hA,hV,rfl,hfz,hnd⟩:=hW'
  rw [hvars] at hV
  have hq:gs=[]∧q=[]:=by
    cases gs with
    | nil=>exact ⟨rfl,hV⟩
    | cons g gs=>exact hV.elim
  obtain ⟨rfl,rfl⟩:=hq
  rw [List.append_nil] at hW hlt hfz hnd
  obtain ⟨h1,h2,h3⟩:=hs
  have hargs:∀ sp:Nat→Bool,(∀ x ∈ p,sp x.block=true)→DataW.TrodAll enc P W' 0 sp true fn.params.toList args.toList ds p:=fun sp hsp=>trodAll_stays hl hB hts hA hsp
  have hres:∀ (b:Nat) (sp:Nat→Bool) (hd:Bool),DataW.TrodAll enc P W' b sp hd fn.resultTypes.toList ((Value.bool true).resultList fn.resultTypes.size) [.lit (.bool true)] []:=by
    intro b sp hd
    rw [hrt]
    exact ⟨[],[],shut_bool htb _,rfl,rfl⟩
  have hvr:∀ sp:Nat→Bool,DataW.TrodVars enc P W' sp s.vars (s.fn H (ds++[])).vars []:=by
    intro sp;rw [h3,hvars];rfl
  have hold:∀ x ∈ p,(fun b=>decide (b < W.heap.size)) x.block=true:=fun x hx=>by simpa using hlt x hx
  refine ⟨_,rfl,ds,[],p++[],[],p,[],by rw [List.append_nil];exact hW,by rw [h1];exact hres _ _ _,by rw [h2];exact hargs _ hold,hvr _,World.keptBut_mono (fun x hx=>hx.elim) (hB.frame (fun _=>False)),fun _=>?_⟩
  refine ⟨ok_one hrt rfl (okWide_bool_mk htb _),[.lit (.bool true)]++ds,[],([]++p)++[],⟨[]++p,[],trodAll_append (hargs _ (fun _ _=>rfl)) (hres _ _ _),by rw [hvars];rfl,rfl,?_,?_⟩,?_⟩
  · intro b off hx
    have hx':MemPlace.cell b off ∈ p:=by simpa using hx
    rw [hB.frozen (p:=⟨b,off,none⟩) (hlt _ hx')]
    exact hfz b off hx'
  · intro ha
    simpa using hnd ha
  · intro x hx _
    simpa using hx
end
end Go.AM

