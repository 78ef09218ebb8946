/- A part of the abstract machine, or of what is proved of the program by it. -/
import Derived.Test.YtenihfdlckgmmaaGreatAmOp3
namespace Go.AM
set_option linter.unusedVariables false
set_option linter.unusedSimpArgs false
variable {P:Program} {w:World} {ι:Inj} {h h':Heap} {e:Env} {a:Act} {N:Nat} {v:Value} {op:AOp}

theorem fold_splice (off:Nat):∀ (l:List Value) (k:Nat) (Z:Array Value),off + k + l.length≤Z.size →
    ((l.zipIdx k).foldl (fun (cs:Array Value) (x:Value × Nat)=>cs.setIfInBounds (off + x.2) x.1) Z).toList=splice Z.toList (off + k) l:=by
  intro l
  induction l with
  | nil=>intro k Z _;simp [splice_nil]
  | cons x l ih =>
    intro k Z hn
    simp only [List.length_cons] at hn
    simp only [List.zipIdx_cons,List.foldl_cons]
    rw [ih (k + 1) _ (by simp;omega),splice_cons (by simp;omega)]
    simp [Nat.add_assoc]

theorem fill_sound {place:Nat→Option (Nat × Nat)} (hF:FR N ι e a.tmps):∀ (ps:List (Nat × Operand)) (q:List (Nat × Nat × Operand)) (vs:List (Nat × Nat × Value)) (z c:List Value) (Z:Array Value),
    compParts place ps=some q→evps e q=some vs→VL ι z Z.toList→fillA z vs=some c→∃ C,Instr.fill place Z (ps.map fun (i,x)=>(i,a.eval x))=some C∧VL ι c C.toList:=by
  intro ps
  induction ps with
  | nil =>
    intro q vs z c Z hq hvs hz hc
    simp only [compParts,Option.some.injEq] at hq;subst hq
    simp only [evps,Option.some.injEq] at hvs;subst hvs
    simp only [fillA,Option.some.injEq] at hc;subst hc
    exact ⟨Z,rfl,hz⟩
  | cons p ps ih =>
    obtain ⟨i,x⟩:=p
    intro q vs z c Z hq hvs hz hc
    simp only [compParts] at hq
    cases hp:place i with
    | none=>simp [hp] at hq
    | some os =>
      obtain ⟨o,s⟩:=os
      simp only [hp] at hq
      split at hq
      · rename_i hx
        cases hr:compParts place ps with
        | none=>simp [hr] at hq
        | some q' =>
          simp only [hr,Option.map_some,Option.some.injEq] at hq;subst hq
          simp only [evps] at hvs
          cases hv:ev e x with
          | none=>simp [hv] at hvs
          | some u =>
            simp only [hv,Option.bind_some] at hvs
            cases hvr:evps e q' with
            | none=>simp [hvr] at hvs
            | some vs' =>
              simp only [hvr,Option.map_some,Option.some.injEq] at hvs;subst hvs
              simp only [fillA] at hc
              split at hc
              · rename_i hle
                have hu:=(hF.ev hx hv).cells
                have hlen:(a.eval x).cells.size=s:=by have:=hu.1;rw [vcells_eq (a.eval x)] at this;simp at this;omega
                have hZ:Z.size=z.length:=by have:=hz.1;simp at this;omega
                have hfold:=fold_splice o (a.eval x).cells.toList 0 Z (by simp;omega)
                simp only [Nat.add_zero] at hfold
                have hz':VL ι (splice z o (vcells u)) ((a.eval x).cells.zipIdx.foldl (fun (cs:Array Value) (y:Value × Nat)=>cs.setIfInBounds (o + y.2) y.1) Z).toList:=by
                  rw [← Array.foldl_toList,Array.toList_zipIdx,hfold]
                  have:=hz.splice hu o
                  rwa [vcells_eq (a.eval x)] at this
                obtain ⟨C,h1,h2⟩:=ih q' vs' _ c _ hr hvr hz' hc
                refine ⟨C,?_,h2⟩
                simp only [List.map_cons,Instr.fill,hp]
                rw [if_neg (by simp;omega)]
                exact h1
              · cases hc
      · cases hq

theorem compFields_run:∀ (fs:List Field) (pl:List (Nat × Nat)),compFields P fs=some pl→(fs.mapM fun f=>(do pure (f.offset,← sizeOf f.type):Sem (Nat × Nat))).run P w=.ok pl w:=by
  intro fs
  induction fs with
  | nil=>intro pl h;simp only [compFields,Option.some.injEq] at h;subst h;simp
  | cons f fs ih =>
    intro pl h
    simp only [compFields] at h
    cases hs:sizeT P f.type with
    | none=>simp [hs] at h
    | some s =>
      simp only [hs] at h
      cases hr:compFields P fs with
      | none=>simp [hr] at h
      | some pl' =>
        simp only [hr,Option.map_some,Option.some.injEq] at h;subst h
        have:=ih pl' hr
        rw [List.mapM_cons]
        simp only [Sem.run_bind,r_sizeOf hs,Result.andThen_ok,Sem.run_pure,this]

theorem toList_map_pair (ps:Array (Nat × Operand)):(ps.map fun (i,x)=>(i,a.eval x)).toList=ps.toList.map fun (i,x)=>(i,a.eval x):=by simp

theorem s_build {o:Oper} {T:TypeId} {ps:Array (Nat × Operand)} {z:Value} {fs:Array Field} {pl:List (Nat × Nat)} {q:List (Nat × Nat × Operand)} (ho:o.op=.build T ps) (hz:zeroT P T=some z) (hd:P.underlying T=some (.struct fs))
    (hpl:compFields P fs.toList=some pl) (hq:compParts (fun i=>pl[i]?) ps.toList=some q) (hS:Sim P ι h w) (hF:FR N ι e a.tmps)
    (hr:aop (.build (vcells z) q) e h=some (v,h')):OpRes P ι h w ((execOp a.eval o).run P w) v h':=by
  obtain ⟨_,_,_,hzc,_⟩:=zeroT_inv hz
  simp only [aop] at hr
  cases hvs:evps e q with
  | none=>simp [hvs] at hr
  | some vs =>
    cases hc:fillA (vcells z) vs with
    | none=>simp [hvs,hc] at hr
    | some c =>
      simp only [hvs,hc,Option.bind_some,Option.map_some,Option.some.injEq,Prod.mk.injEq] at hr;obtain ⟨rfl,rfl⟩:=hr
      obtain ⟨C,h1,h2⟩:=fill_sound hF ps.toList q vs (vcells z) c z.cells hq hvs (by have:=VL.closed (ι:=ι) z 2 hzc;rwa [vcells_eq] at this ⊢) hc
      have hm:(fs.mapM fun f=>(do pure (f.offset,← sizeOf f.type):Sem (Nat × Nat))).run P w=.ok pl.toArray w:=by
        rw [Array.mapM_eq_mapM_toList]
        simp only [Sem.run_map,compFields_run _ _ hpl,Result.andThen_ok]
      refine .same hS (v':=.agg C) ?_ (by have:=V.agg' h2;simpa using this)
      have hfun:(fun (i:Nat)=>(pl.toArray)[i]?)=(fun i=>pl[i]?):=by funext i;simp
      simp only [execOp,ho,Instr.build,Sem.run_bind,r_zeroValue hz,Result.andThen_ok,r_underlying hd,hm,toList_map_pair,hfun,h1,Sem.run_pure]

theorem s_buildA {o:Oper} {T E:TypeId} {ps:Array (Nat × Operand)} {z:Value} {len s:Nat} {q:List (Nat × Nat × Operand)} (ho:o.op=.build T ps) (hz:zeroT P T=some z) (hd:P.underlying T=some (.array len E))
    (hs:sizeT P E=some s) (hq:compParts (fun i=>some (i * s,s)) ps.toList=some q) (hS:Sim P ι h w) (hF:FR N ι e a.tmps)
    (hr:aop (.build (vcells z) q) e h=some (v,h')):OpRes P ι h w ((execOp a.eval o).run P w) v h':=by
  obtain ⟨_,_,_,hzc,_⟩:=zeroT_inv hz
  simp only [aop] at hr
  cases hvs:evps e q with
  | none=>simp [hvs] at hr
  | some vs =>
    cases hc:fillA (vcells z) vs with
    | none=>simp [hvs,hc] at hr
    | some c =>
      simp only [hvs,hc,Option.bind_some,Option.map_some,Option.some.injEq,Prod.mk.injEq] at hr;obtain ⟨rfl,rfl⟩:=hr
      obtain ⟨C,h1,h2⟩:=fill_sound hF ps.toList q vs (vcells z) c z.cells hq hvs (by have:=VL.closed (ι:=ι) z 2 hzc;rwa [vcells_eq] at this ⊢) hc
      refine .same hS (v':=.agg C) ?_ (by have:=V.agg' h2;simpa using this)
      simp only [execOp,ho,Instr.build,Sem.run_bind,r_zeroValue hz,Result.andThen_ok,r_underlying hd,r_sizeOf hs,toList_map_pair,h1,Sem.run_pure]

theorem rep_cells (zero:Array Value) (k:Nat):((Array.range (k * zero.size)).map (fun i=>zero[i % zero.size]!)).toList=(List.replicate k zero.toList).flatten:=by
  simp only [Array.toList_map,Array.toList_range]
  induction k with
  | zero=>simp
  | succ k ih =>
    rw [Nat.succ_mul,List.range_add,List.map_append,ih,List.replicate_succ']
    simp only [List.flatten_append,List.flatten_cons,List.flatten_nil,List.append_nil,List.map_map]
    congr 1
    apply List.ext_getElem?
    intro j
    by_cases hj:j < zero.size
    · simp [hj,Nat.mul_add_mod_self_right,Nat.mod_eq_of_lt hj]
    · rw [List.getElem?_eq_none (by simp;omega),List.getElem?_eq_none (by simp;omega)]

theorem fillA_length:∀ {vs:List (Nat × Nat × Value)} {z c:List Value},fillA z vs=some c→c.length=z.length:=by
  intro vs
  induction vs with
  | nil=>intro z c hc;simp only [fillA,Option.some.injEq] at hc;rw [hc]
  | cons p vs ih =>
    obtain ⟨o1,s1,v1⟩:=p
    intro z c hc
    simp only [fillA] at hc
    split at hc
    · rename_i hle
      rw [ih hc,splice_length (by omega)]
    · cases hc

theorem wrap_id {n:Int} (h1:-9223372036854775808≤n) (h2:n≤9223372036854775807):IntKind.i64.wrap n=n:=by
  have e1:(2:Int) ^ 64=18446744073709551616:=by decide
  have e2:(2:Int) ^ 63=9223372036854775808:=by decide
  simp only [IntKind.wrap,IntKind.bits,IntKind.signed,Bool.true_and,decide_eq_true_eq,Nat.reduceSub,e1,e2]
  split <;> omega

theorem s_bslice {o:Oper} {T E:TypeId} {ps:Array (Nat × Operand)} {z:Value} {len s:Nat} {q:List (Nat × Nat × Operand)} (ho:o.op=.buildSlice T len ps) (hz:zeroT P E=some z) (hd:P.underlying T=some (.slice E))
    (hs:sizeT P E=some s) (hle:len * s≤2 ^ 24) (hq:compParts (fun i=>some (i * s,s)) ps.toList=some q) (hS:Sim P ι h w) (hF:FR N ι e a.tmps)
    (hr:aop (.bslice s len ((List.replicate len (vcells z)).flatten) q) e h=some (v,h')):OpRes P ι h w ((execOp a.eval o).run P w) v h':=by
  obtain ⟨ti,hti,hz0,hzc,hzl⟩:=zeroT_inv hz
  obtain ⟨ti',hti',hsz⟩:=sizeT_inv hs
  rw [hti] at hti';cases hti'
  simp only [aop] at hr
  cases hvs:evps e q with
  | none=>simp [hvs] at hr
  | some vs =>
    cases hc:fillA ((List.replicate len (vcells z)).flatten) vs with
    | none=>simp [hvs,hc] at hr
    | some c =>
      simp only [hvs,hc,Option.bind_some,Option.map_some,Option.some.injEq,Prod.mk.injEq] at hr;obtain ⟨rfl,rfl⟩:=hr
      have hzs:z.cells.size=s:=by rw [← hsz,← hzl,vcells_eq];simp
      have hcells:∀ Z:Array Value,Z.toList=(List.replicate len (vcells z)).flatten→VL ι ((List.replicate len (vcells z)).flatten) Z.toList:=fun Z hZ=>by
        rw [hZ];exact (VL.closed (ι:=ι) z 2 hzc).replicate len
      have hrep:((Array.range (len * s)).map (z.cells[· % z.cells.size]!)).toList=(List.replicate len (vcells z)).flatten:=by
        have:=rep_cells z.cells len
        rw [hzs] at this ⊢
        rw [this,vcells_eq]
      by_cases h0:len * s=0
      · have hnil:(List.replicate len (vcells z)).flatten=[]:=by rw [← hrep,h0];simp
        obtain ⟨C,h1,h2⟩:=fill_sound hF ps.toList q vs _ c #[] hq hvs (hcells #[] hnil.symm) hc
        refine ⟨_,_,_,.inl ?_,V.sl (i:=⟨w.heap.size,C.size,s⟩) (c':=len) (upd_same _ _ _) (Nat.le_refl _) (fun _=>by simp;omega),new_cells (C:=C) (T:=E) (own:=s) hS (VP.of h2) (w':=w.alloc (.cells C E)) rfl rfl rfl rfl⟩
        have h1':Instr.fill (fun i=>some (i * s,s)) ((Array.range 0).map ((#[]:Array Value)[· % (#[]:Array Value).size]!)) (ps.toList.map fun (i,x)=>(i,a.eval x))=some C:=by
          have e0:((Array.range 0).map ((#[]:Array Value)[· % (#[]:Array Value).size]!))=#[]:=by simp
          rw [e0];exact h1
        simp only [execOp,ho,Instr.buildSlice,Sem.run_bind,r_underlying hd,Result.andThen_ok,r_sizeOf hs,h0,Nat.not_lt_zero,if_false,if_true,Sem.run_pure,toList_map_pair,h1',newRow,r_newObj]
        all_goals first|rfl|done
      · obtain ⟨C,h1,h2⟩:=fill_sound hF ps.toList q vs _ c ((Array.range (len * s)).map (z.cells[· % z.cells.size]!)) hq hvs (hcells _ hrep) hc
        have hCs:C.size=len * s:=by
          have l1:=h2.1
          have l2:=fillA_length hc
          rw [← hrep] at l2
          simp at l1 l2;omega
        have h4:¬ (len * s > 2 ^ 24):=by omega
        refine ⟨_,_,_,.inl ?_,V.sl (i:=⟨w.heap.size,C.size,s⟩) (c':=len) (upd_same _ _ _) (Nat.le_refl _) (fun _=>by simp;omega),new_cells (C:=C) (T:=E) (own:=s) hS (VP.of h2) (w':=w.alloc (.cells C E)) rfl rfl rfl rfl⟩
        simp only [execOp,ho,Instr.buildSlice,Sem.run_bind,r_underlying hd,Result.andThen_ok,r_sizeOf hs,if_neg h4,if_neg h0,r_zeroValue hz,Sem.run_pure,toList_map_pair,h1,newRow,r_newObj]

/-- A row without anything has no room. -/
theorem s_norow {o:Oper} {T E:TypeId} {ps:Array (Nat × Operand)} {s:Nat} (ho:o.op=.buildSlice T 0 ps) (hd:P.underlying T=some (.slice E))
    (hs:sizeT P E=some s) (hq:compParts (fun i=>some (i * s,s)) ps.toList=some []) (hS:Sim P ι h w)
    (hr:aop (.mv (.const noRoom)) e h=some (v,h')):OpRes P ι h w ((execOp a.eval o).run P w) v h':=by
  simp only [aop,ev,Option.map_some,Option.some.injEq,Prod.mk.injEq] at hr;obtain ⟨rfl,rfl⟩:=hr
  have hp:ps.toList=[]:=by
    cases hl:ps.toList with
    | nil=>rfl
    | cons x r =>
      rw [hl] at hq
      obtain ⟨i,x⟩:=x
      simp only [compParts] at hq
      split at hq
      · obtain ⟨_,_,q⟩:=Option.map_eq_some_iff.1 hq;cases q
      · cases hq
  obtain rfl:ps=#[]:=by apply Array.ext';simpa using hp
  refine ⟨.slice (some ⟨w.heap.size,0,none⟩) 0 0,w.alloc (.cells #[] E),ι,.inl ?_,.sle,Rel.other hS (.cells #[] E) rfl rfl rfl rfl⟩
  simp [execOp,ho,Instr.buildSlice,Sem.run_bind,r_underlying hd,Result.andThen_ok,r_sizeOf hs,Sem.run_pure,Instr.fill,newRow,r_newObj]
  have e0:Array.map (fun _=>(default:Value)) (Array.range 0)=#[]:=by apply Array.ext';simp
  rw [e0]

theorem s_mkmap {o:Oper} {T:TypeId} (ho:o.op=.makeMap T none) (hS:Sim P ι h w) (hF:FR N ι e a.tmps)
    (hr:aop .mkmap e h=some (v,h')):OpRes P ι h w ((execOp a.eval o).run P w) v h':=by
  simp only [aop,Option.some.injEq,Prod.mk.injEq] at hr;obtain ⟨rfl,rfl⟩:=hr
  refine ⟨_,w.alloc (.map #[] 0),_,.inl ?_,V.map (i:=⟨w.heap.size,0,0⟩) (upd_same _ _ _),Rel.push hS (O:=.map #[] 0) rfl ⟨#[],0,rfl,⟨rfl,fun _ _ _ h=>by simp at h⟩,rfl,fun _ _ h=>by simp at h⟩ rfl rfl rfl rfl⟩
  simp [execOp,ho,Instr.makeMap,r_newObj]

theorem r_askRoom (n:Nat):(askRoom n).run P w=.ok () w:=by
  unfold askRoom
  split <;> rfl

theorem s_mkslice {o:Oper} {T E:TypeId} {x y:Operand} {z:Value} {ti:TypeInfo} (ho:o.op=.makeSlice T x y) (hz:zeroT P E=some z) (hd:P.underlying T=some (.slice E)) (hti:P.info? E=some ti) (hx:okO x=true) (hy:okO y=true)
    (hS:Sim P ι h w) (hF:FR N ι e a.tmps) (hr:aop (.mkslice ti.size ti.bytes (vcells z) x y) e h=some (v,h')):OpRes P ι h w ((execOp a.eval o).run P w) v h':=by
  obtain ⟨ti',hti',hz0,hzc,hzl⟩:=zeroT_inv hz
  rw [hti] at hti';cases hti'
  simp only [aop] at hr
  split at hr
  · rename_i k1 l k2 c hp hq
    split at hr
    · rename_i hc
      simp only [Option.some.injEq,Prod.mk.injEq] at hr;obtain ⟨rfl,rfl⟩:=hr
      have e1:=(hF.ev hx hp).scal rfl
      have e2:=(hF.ev hy hq).scal rfl
      simp only [limit] at hc
      obtain ⟨c1,c2,c3,c4⟩:=hc
      have wl:IntKind.i64.wrap l=l:=wrap_id (by omega) (by omega)
      have wc:IntKind.i64.wrap c=c:=wrap_id (by omega) (by omega)
      have hs:sizeT P E=some ti.size:=by simp [sizeT,hti]
      have hzs:z.cells.size=ti.size:=by rw [← hzl,vcells_eq];simp
      have hb1:(ti.bytes:Int) * c≤1099511627776:=by
        have e0:(ti.bytes:Int) * c=((c.toNat * ti.bytes:Nat):Int):=by rw [Int.natCast_mul,Int.toNat_of_nonneg (by omega),Int.mul_comm]
        rw [e0];omega
      have e48:(2:Int) ^ 48=281474976710656:=by decide
      have t0:decide (c < 0)=false:=decide_eq_false (by omega)
      have t0':decide ((ti.bytes:Int) * c > 2 ^ 48)=false:=decide_eq_false (by rw [e48];omega)
      have t1:(decide (c < 0) || decide ((ti.bytes:Int) * c > 2 ^ 48))=false:=by rw [t0,t0'];rfl
      have t2:decide (l < 0)=false:=decide_eq_false (by omega)
      have t3:decide (l > c)=false:=decide_eq_false (by omega)
      generalize hZ:(Array.range (c.toNat * ti.size)).map ((if c.toNat * ti.size=0 then #[] else z.cells)[· % (if c.toNat * ti.size=0 then #[] else z.cells).size]!)=Z
      have hZs:Z.size=c.toNat * ti.size:=by rw [← hZ];simp
      have hrep:Z.toList=(List.replicate c.toNat (vcells z)).flatten:=by
        by_cases h0:c.toNat * ti.size=0
        · rw [← hZ]
          rw [h0]
          by_cases hc0:c.toNat=0
          · rw [hc0];simp
          · have:ti.size=0:=by
              rcases Nat.mul_eq_zero.1 h0 with q|q
              · exact absurd q hc0
              · exact q
            have:(vcells z).length=0:=by rw [hzl,this]
            rw [List.length_eq_zero_iff.1 this];simp
        · rw [← hZ,if_neg h0]
          have:=rep_cells z.cells c.toNat
          rw [hzs] at this ⊢
          rw [this,vcells_eq]
      have hv:VP ι ((List.replicate l.toNat (vcells z)).flatten) Z.toList:=by
        have e0:(List.replicate c.toNat (vcells z)).flatten=(List.replicate l.toNat (vcells z)).flatten++(List.replicate (c.toNat - l.toNat) (vcells z)).flatten:=by
          rw [← List.flatten_append,List.replicate_append_replicate];congr 2;omega
        rw [hrep,e0]
        refine ⟨by simp,?_⟩
        rw [List.take_left' rfl]
        exact (VL.closed (ι:=ι) z 2 hzc).replicate _
      refine ⟨_,_,_,.inl ?_,V.sl (i:=⟨w.heap.size,Z.size,ti.size⟩) (c':=c.toNat) (upd_same _ _ _) (by omega) (fun _=>by simp [hZs]),new_cells (C:=Z) (T:=E) (own:=ti.size) hS hv (w':=w.alloc (.cells Z E)) rfl rfl rfl rfl⟩
      simp only [execOp,ho,Instr.makeSlice,Sem.run_bind,r_underlying hd,Result.andThen_ok,e1,e2,asInt,asIntOf,Sem.run_pure,r_typeInfo hti,wl,wc]
      simp only [t1,t2,t3,Bool.or_false,Bool.false_eq_true,if_false,Sem.run_bind,r_askRoom,Result.andThen_ok,r_sizeOf hs]
      by_cases h0:c.toNat * ti.size=0
      · rw [if_pos h0] at hZ
        simp only [if_pos h0,Sem.run_bind,Sem.run_pure,Result.andThen_ok,newRow,r_newObj,hZ]
      · rw [if_neg h0] at hZ
        simp only [if_neg h0,Sem.run_bind,r_zeroValue hz,Sem.run_pure,Result.andThen_ok,newRow,r_newObj,hZ]
    · cases hr
  · cases hr

end Go.AM

