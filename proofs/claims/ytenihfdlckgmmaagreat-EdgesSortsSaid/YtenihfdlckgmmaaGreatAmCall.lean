/- A part of the abstract machine, or of what is proved of the program by it. -/
import Derived.Test.YtenihfdlckgmmaaGreatAmSound
import Derived.RangeFuncRecord
import Derived.Carry
import Derived.RowKit3
import Derived.JoinedCond
import Derived.ChangeBook
namespace Go.AM
set_option linter.unusedVariables false
set_option linter.unusedSimpArgs false
variable {P:Program} {w:World} {ι:Inj} {h h':Heap} {e e':Env} {a:Act} {N:Nat} {v:Value} {op:AOp} {call:CallT} {F:Fence} {n m:Nat} {ro:Option Nat}

abbrev resM (t:Array Value):ResultVar→Sem Value
  | .tmp s=>pure (t.getD s undef)
  | .cell a T=>do loadVar T (← asAddr (t.getD a undef))

theorem getD_of {t:Array Value} {s:Nat} {v:Value} (h:t[s]? = some v):t.getD s undef=v:=by
  rw [Array.getD_eq_getD_getElem?,h];rfl

theorem resV_sound {t:Array Value} {r:ResultVar} {ar:ARes} (hc:compRes P [r]=some [ar]) (hr:resV e h ar=some v) (hS:Sim P ι h w) (hF:FR N ι e t) :
    ∃ v',V ι v v'∧(resM t r).run P w=.ok v' w:=by
  cases r with
  | tmp s =>
    simp only [compRes,Option.map_some,Option.some.injEq,List.cons.injEq,and_true] at hc;subst hc
    obtain ⟨v',h1,h2⟩:=hF.2 s v hr
    exact ⟨v',h2,by simp only [resM,getD_of h1,Sem.run_pure]⟩
  | cell x T =>
    simp only [compRes] at hc
    split at hc
    · rename_i hg hn
      simp only [Option.map_some,Option.some.injEq,List.cons.injEq,and_true] at hc;subst hc
      simp only [resV] at hr
      split at hr
      · rename_i b off he
        obtain ⟨p,h1,h2⟩:=hF.2 _ _ he
        cases h2 with
        | ptr hb =>
          rename_i i
          obtain ⟨c,h3,rfl⟩:=Option.map_eq_some_iff.1 hr
          obtain ⟨c',hv,_,hrun⟩:=rd_sim hS hb h3
          refine ⟨.agg c'.toArray,.agg' hv,?_⟩
          simp [resM,getD_of h1,asAddr,loadVar,r_isAgg hg,r_sizeOf hn,hrun]
      · cases hr
    · rename_i hg hn
      simp only [Option.map_some,Option.some.injEq,List.cons.injEq,and_true] at hc;subst hc
      simp only [resV] at hr
      split at hr
      · rename_i b off he
        obtain ⟨p,h1,h2⟩:=hF.2 _ _ he
        cases h2 with
        | ptr hb =>
          rename_i i
          simp only [Heap.cell] at hr
          cases hg':h.get b with
          | none=>simp [hg'] at hr
          | some ob =>
            cases ob with
            | cells c own =>
              simp only [hg'] at hr
              cases hc:c[off]? with
              | none=>simp [hc] at hr
              | some u =>
              cases hj:Heap.isJ u with
              | true=>simp [hc,hj] at hr
              | false =>
              simp [hc,hj] at hr
              subst hr
              obtain ⟨C,T',fz,k1,k2,k3,k4⟩:=hS.cells hb hg'
              obtain ⟨u',hu',hv⟩:=k3.toJ.get hc hj
              refine ⟨u',hv,?_⟩
              have:w.cell? ⟨i.blk,off,none⟩=some u':=by rw [cell_at k1];simpa using hu'
              simp [resM,getD_of h1,asAddr,loadVar,r_isAgg hg,load,Sem.run,this]
            | _=>simp [hg'] at hr
      · cases hr
    · cases hc

theorem compRes_cons {r:ResultVar} {rs:List ResultVar} {ars:List ARes} (hc:compRes P (r::rs)=some ars):∃ ar l,ars=ar::l∧compRes P [r]=some [ar]∧compRes P rs=some l:=by
  cases r with
  | tmp s =>
    simp only [compRes] at hc ⊢
    obtain ⟨l,h1,rfl⟩:=Option.map_eq_some_iff.1 hc
    exact ⟨_,l,rfl,by simp,h1⟩
  | cell x T =>
    simp only [compRes] at hc ⊢
    split at hc
    · rename_i hg hn
      obtain ⟨l,h1,rfl⟩:=Option.map_eq_some_iff.1 hc
      exact ⟨_,l,rfl,rfl,h1⟩
    · rename_i hg hn
      obtain ⟨l,h1,rfl⟩:=Option.map_eq_some_iff.1 hc
      exact ⟨_,l,rfl,rfl,h1⟩
    · cases hc

theorem resL_sound {t:Array Value} (hS:Sim P ι h w) (hF:FR N ι e t):∀ (rs:List ResultVar) (ars:List ARes) (vs:List Value),compRes P rs=some ars→resL e h ars=some vs →
    ∃ vs',VL ι vs vs'∧(rs.mapM (resM t)).run P w=.ok vs' w:=by
  intro rs
  induction rs with
  | nil =>
    intro ars vs hc hr
    simp only [compRes,Option.some.injEq] at hc;subst hc
    simp only [resL,Option.some.injEq] at hr;subst hr
    exact ⟨[],VL.nil ι,by simp [List.mapM_nil,Sem.run_pure]⟩
  | cons r rs ih =>
    intro ars vs hc hr
    obtain ⟨ar,l,rfl,h1,h2⟩:=compRes_cons hc
    simp only [resL] at hr
    cases hv:resV e h ar with
    | none=>simp [hv] at hr
    | some v =>
      simp only [hv,Option.bind_some] at hr
      obtain ⟨us,h3,rfl⟩:=Option.map_eq_some_iff.1 hr
      obtain ⟨v',k1,k2⟩:=resV_sound h1 hv hS hF
      obtain ⟨us',k3,k4⟩:=ih l us h2 h3
      refine ⟨v'::us',VL.cons k1 k3,?_⟩
      rw [List.mapM_cons]
      simp only [Sem.run_bind,k2,Result.andThen_ok,k4,Sem.run_pure]

theorem tupV_sim {vs vs':List Value} (hv:VL ι vs vs'):V ι (tupV vs) (if h:vs'.toArray.size=1 then vs'.toArray[0] else .tuple vs'.toArray):=by
  cases vs with
  | nil=>obtain rfl:=hv.nil_inv;exact .tup' (VL.nil ι)
  | cons v r =>
    obtain ⟨v',r',rfl,h1,h2⟩:=hv.inv
    cases r with
    | nil=>obtain rfl:=h2.nil_inv;exact h1
    | cons u q =>
      obtain ⟨u',q',rfl,h3,h4⟩:=h2.inv
      rw [dif_neg (by simp)]
      exact .tup' hv

theorem results_sound {t:Array Value} {fn:Func} {ars:List ARes} {vs:List Value} (hc:compRes P fn.results.toList=some ars) (hS:Sim P ι h w) (hF:FR N ι e t) (hr:resL e h ars=some vs) :
    ∃ v',V ι (tupV vs) v'∧(results fn t).run P w=.ok v' w:=by
  obtain ⟨vs',h1,h2⟩:=resL_sound hS hF _ _ _ hc hr
  refine ⟨_,tupV_sim h1,?_⟩
  have hm:(fn.results.mapM (resM t)).run P w=.ok vs'.toArray w:=by
    rw [Array.mapM_eq_mapM_toList]
    simp only [map_eq_pure_bind,Sem.run_bind,h2,Result.andThen_ok,Sem.run_pure]
  show (fn.results.mapM (resM t) >>= fun vs=>pure (if h:vs.size=1 then vs[0] else .tuple vs)).run P w=_
  simp only [Sem.run_bind,hm,Result.andThen_ok,Sem.run_pure]

theorem leaves_sound {ι0:Inj} {h0:Heap} {w0:World} {fn:Func} {t:Array Value} {ars:List ARes} {vs:List Value} (hc:compRes P fn.results.toList=some ars) (hr:resL e h ars=some vs) (hF:FR N ι e t) :
    ∀ (ds:List Deferred) (w:World),Rel P ι0 h0 w0 ι h w→Marks w0.heap.size ι h w ds→LeavesInM F n P fn t (Post P ι0 h0 w0 (tupV vs) h) ds .returning w:=by
  intro ds
  induction ds with
  | nil =>
    intro w r _
    obtain ⟨v',h1,h2⟩:=results_sound hc r.sim hF hr
    exact ⟨v',h2,v',ι,rfl,h1,r⟩
  | cons d ds ih =>
    intro w r hM
    obtain ⟨D,k1,k2,k3,k4⟩:=hM.mark d (by simp)
    have hlt:D < w.heap.size:=(Array.getElem?_eq_some_iff.1 k3).1
    refine ⟨by simp,.inl ⟨D,_,k1,run_takeDeferred k3,?_⟩⟩
    have hget:∀ B,B≠D→(w.putObj D (.deferred none)).heap[B]? = w.heap[B]?:=fun B hB=>by
      simp only [World.putObj];rw [Array.getElem?_setIfInBounds_ne (by omega)]
    have hsz:(w.putObj D (.deferred none)).heap.size=w.heap.size:=by simp [World.putObj]
    refine ih _ ⟨r.le,⟨fun b i hb=>⟨(r.sim.dom b i hb).1,by rw [hsz];exact (r.sim.dom b i hb).2⟩,fun b i o hb ho=>?_,r.sim.inj,fun B hB=>⟨(r.sim.pin B hB).1.of (hget B (fun q=>by
      obtain ⟨O,o1,o2⟩:=(r.sim.pin B hB).1;subst q;rw [k3] at o1;cases o1;exact o2)),(r.sim.pin B hB).2⟩⟩,⟨r.fr.os,r.fr.tape,r.fr.output,by rw [hsz];exact r.fr.size,fun B hB hno=>?_,r.fr.drawn⟩,r.new,r.own,r.prot,r.keep,r.hsize⟩ ⟨(List.pairwise_cons.1 hM.nodup).2,fun d' hd'=>?_⟩
    · obtain ⟨O,q1,q2⟩:=r.sim.obj b i o hb ho
      by_cases hD:i.blk=D
      · rw [hD,k3] at q1
        cases o with
        | cells c own=>obtain ⟨C,T,fz,rfl,_⟩:=q2;cases q1
        | map es=>obtain ⟨ces,k,rfl,_⟩:=q2;cases q1
        | loop r=>obtain ⟨L,rfl,_⟩:=q2;cases q1
        | dead =>
          have hlt':=(r.sim.dom b i hb).2
          rw [← hsz] at hlt'
          exact ⟨_,Array.getElem?_eq_getElem hlt',trivial⟩
      · exact ⟨O,by rw [hget _ hD];exact q1,q2⟩
    · rw [hget B (by omega)];exact r.fr.block B hB hno
    · obtain ⟨D',q1,q2,q3,q4⟩:=hM.mark d' (List.mem_cons_of_mem _ hd')
      have hne:D≠D':=(List.pairwise_cons.1 hM.nodup).1 d'.target (List.mem_map.2 ⟨d',hd',rfl⟩) D D' k1 q1
      exact ⟨D',q1,q2,by rw [hget _ (Ne.symm hne)];exact q3,q4⟩

theorem argEnv_get:∀ (l:List Value) (k s:Nat),Env.get (argEnv k l) s=if k≤s then l[s - k]? else none:=by
  intro l
  induction l with
  | nil=>intro k s;simp [argEnv,Env.get]
  | cons v r ih =>
    intro k s
    simp only [argEnv]
    rw [Env.get_cons]
    by_cases e0:k=s
    · subst e0;simp
    · rw [if_neg e0,ih]
      by_cases h1:k + 1≤s
      · rw [if_pos h1,if_pos (by omega)]
        have:s - k=(s - (k + 1)) + 1:=by omega
        rw [this];rfl
      · rw [if_neg h1,if_neg (by omega)]

theorem enter_FR {args cargs:List Value} (hv:VL ι args cargs) (hN:args.length≤N):FR N ι (argEnv 0 args) (cargs.toArray++Array.replicate (N - cargs.toArray.size) undef):=by
  have hl:=hv.1
  refine ⟨by simp;omega,fun s v hs=>?_⟩
  rw [argEnv_get,if_pos (Nat.zero_le _),Nat.sub_zero] at hs
  obtain ⟨v',h1,h2⟩:=hv.get hs
  refine ⟨v',?_,h2⟩
  have hlt:s < cargs.length:=(List.getElem?_eq_some_iff.1 h1).1
  rw [Array.getElem?_append_left (by simpa using hlt)]
  simpa using h1

theorem compF_inv {fn : Func} {f : AFn} (hc : compF P fn = some f) : (fn.name == "runtime.NumGoroutine") = false ∧ ∃ c, fn.body = some c ∧ compC P fn.ntmps c = some f.body ∧ compRes P fn.results.toList = some f.res ∧ f.np = fn.params.size + fn.nfree ∧ f.np ≤ fn.ntmps := by
  unfold compF at hc
  split at hc
  · cases hc
  · rename_i hn
    split at hc
    · rename_i c hb
      split at hc
      · rename_i b r h1 h2
        split at hc
        · rename_i hle;cases hc;exact ⟨by simpa using hn,c,hb,h1,h2,rfl,hle⟩
        · cases hc
      · cases hc
    · cases hc

theorem runF_sound (hcs:CallSound P call) {k:FuncId} {f:AFn} (hk:Is P k f) {args:List Value} (hr:runF call n f args h=some (v,h')) :
    (∃ fn, P.funcs[k]? = some fn ∧ (fn.name == "runtime.NumGoroutine") = false ∧ fn.body.isNone = false) ∧
    ∀ ι w cargs,Sim P ι h w→VL ι args cargs→CallsIn Fence.wide 0 P k cargs.toArray w (Post P ι h w v h'):=by
  obtain ⟨fn,hfn,hcf⟩:=Option.bind_eq_some_iff.1 hk
  obtain ⟨h1,c,hb,h2,h3,h4,h5⟩:=compF_inv hcf
  simp only at h2 h3 h4 h5
  refine ⟨⟨fn,hfn,h1,by rw [hb];rfl⟩,fun ι w cargs hS hv=>?_⟩
  unfold runF at hr
  split at hr
  · rename_i hlen
    have key:∀ {x e1 h1},evC call n none f.body (argEnv 0 args) h=some (x,e1,h1)→(toExit x=.normal∨toExit x=.ret)→(resL e1 h1 f.res).map (fun vs=>(tupV vs,h1))=some (v,h')→CallsIn Fence.wide 0 P k cargs.toArray w (Post P ι h w v h'):=by
      intro x e1 h1 hx hxe hres
      obtain ⟨vs,hvs,he⟩:=Option.map_eq_some_iff.1 hres
      simp only [Prod.mk.injEq] at he;obtain ⟨rfl,rfl⟩:=he
      refine callsIn_of_wp_marks hfn hb trivial (code_sound (W0:=w.heap.size) (ro:=none) (N:=fn.ntmps) hcs f.body c h2 hx rfl hS (enter_FR hv (by omega)) Marks.nil (Nat.le_refl _) ?_)
      intro a' w' ι' r ff mm _
      have:=leaves_sound (F:=Fence.wide) (n:=0) h3 hvs ff a'.defers w' r mm
      rcases hxe with hxe|hxe <;> (rw [hxe];exact this)
    split at hr
    · cases hr
    · rename_i x e1 h1 hno hx
      refine key hx ?_ hr
      cases x with
      | norm=>exact .inl rfl
      | ret=>exact .inr rfl
      | exit id=>exact (hno id rfl).elim
    · cases hr
  · cases hr

theorem bindPs_FR {t:Array Value}:∀ (ps:List Nat) (args cargs:List Value) (e:Env) (t:Array Value),FR N ι e t→VL ι args cargs→(∀ p ∈ ps,p < N)→args.length=ps.length →
    FR N ι (bindPs ps args e) ((ps.zip cargs).foldl (fun t x=>t.setIfInBounds x.1 x.2) t):=by
  intro ps
  induction ps with
  | nil=>intro args cargs e t hF hv _ hl;cases args with
    | nil=>exact hF
    | cons _ _=>simp at hl
  | cons p ps ih =>
    intro args cargs e t hF hv hps hl
    cases args with
    | nil=>simp at hl
    | cons v r =>
      obtain ⟨v',r',rfl,h1,h2⟩:=hv.inv
      simp only [bindPs,List.zip_cons_cons,List.foldl_cons]
      exact ih r r' _ _ (hF.set (hps p (by simp)) h1) h2 (fun q hq=>hps q (by simp [hq])) (by simpa using hl)

theorem runY_sound (hcs:CallSound P call) {l:Nat} {args:List Value} (hr:runY call n l args h=some (v,h')) (ι:Inj) (w:World) (cargs:List Value) (i:BI) (hi:ι l=some i) (hS:Sim P ι h w) (hv:VL ι args cargs) :
    ∃ f tmps asg body,(Instr.yield i.blk cargs.toArray).run P w=.ok (.round i.blk f tmps asg body) w∧RoundIn Fence.wide 0 P i.blk f tmps asg body w (Post P ι h w v h'):=by
  unfold runY at hr
  split at hr
  · rename_i r hg
    split at hr
    · rename_i hpre
      obtain ⟨hst,hprot,hlen⟩:=hpre
      obtain ⟨O,o1,L,rfl,lps,N,lasg,lbody,lF,lN,lst,lpd⟩:=hS.obj l i _ hi hg
      split at hr
      · rename_i e1 h1 hasg
        split at hr
        · rename_i r1 hg1
          split at hr
          · rename_i hpre1
            obtain ⟨hst1,hprot1⟩:=hpre1
            split at hr
            · rename_i x e3 h3 hbody
              split at hr
              · rename_i r3 hg3
                have hsz:cargs.toArray.size=L.params.size:=by
                  have:=hv.1;rw [← lps] at hlen;simp at hlen ⊢;omega
                refine ⟨L.fn,_,L.assign,L.body,by
                  simp only [Instr.yield,Sem.run_bind,r_getLoop o1,Result.andThen_ok,hsz,ne_eq,not_true_eq_false,if_false,Sem.run_pure];rfl,?_⟩
                refine roundIn_of_wpIn trivial ?_
                have hFR:FR N ι (bindPs r.ps args r.env) ((L.params.zip cargs.toArray).foldl (fun tmps x=>tmps.setIfInBounds x.1 x.2) L.tmps):=by
                  have:=bindPs_FR (t:=#[]) r.ps args cargs r.env L.tmps lF hv lN hlen
                  rw [← lps] at this
                  rw [← Array.foldl_toList,Array.toList_zip]
                  rw [← lps]
                  exact this
                refine code_sound (W0:=w.heap.size) (ro:=some l) (N:=N) hcs r.asg L.assign lasg hasg ⟨i,hi,rfl⟩ hS hFR Marks.nil (Nat.le_refl _) ?_
                intro a1 w1 ι1 rel1 f1 m1 _
                have hi1:ι1 l=some i:=rel1.le _ _ hi
                obtain ⟨O1,o2,L1,rfl,lps1,N1,lasg1,lbody1,lF1,lN1,lst1,lpd1⟩:=rel1.sim.obj l i _ hi1 hg1
                have hrel2:Rel P ι1 h1 w1 ι1 (h1.set l (.loop { r1 with st:=.busy })) { w1 with heap:=w1.heap.setIfInBounds i.blk (.loop { L1 with state:=.busy }) } :=
                  Rel.set (O:=.loop { L1 with state:=.busy }) rel1.sim hi1 (by unfold owned;rw [hg1];trivial) hprot1 ⟨_,rfl,lps1,N1,lasg1,lbody1,lF1,lN1,rfl,lpd1⟩ rfl rfl rfl rfl
                refine ⟨{ w1 with heap:=w1.heap.setIfInBounds i.blk (.loop { L1 with state:=.busy }) },?_,?_⟩
                · have:L1.state=.ready:=by rw [lst1,hst1];rfl
                  simp only [Instr.beginRound,Sem.run_bind,r_getLoop o2,Result.andThen_ok,r_setObj o2 (by simp),this,Sem.run_pure]
                have hrel12:=Rel.trans hS rel1 hrel2
                refine code_sound (W0:=w.heap.size) (ro:=some l) (N:=N) hcs r.body L.body lbody hbody ⟨i,hi1,rfl⟩ hrel2.sim f1 (Marks.step rel1.sim hrel2 m1) hrel12.fr.size ?_
                intro a3 w3 ι3 rel3 f3 m3 _
                have hi3:ι3 l=some i:=rel3.le _ _ hi1
                have hrel13:=Rel.trans hS hrel12 rel3
                obtain ⟨O3,o3,L3,rfl,lps3,N3,lasg3,lbody3,lF3,lN3,lst3,lpd3⟩:=hrel13.sim.obj l i _ hi3 hg3
                have hend:∀ j,(Instr.endRound i.blk j).run P w3=.ok (.bool j.isNone) { w3 with heap:=w3.heap.setIfInBounds i.blk (.loop { L3 with state:=if j.isNone then .ready else .done,pending:=j }) }:=by
                  intro j
                  simp only [Instr.endRound,Sem.run_bind,r_getLoop o3,Result.andThen_ok,r_setObj o3 (by simp),Sem.run_pure]
                have hown:owned h3 l:=by unfold owned;rw [hg3];trivial
                have hp3:h3.prot≤l:=by rw [hrel13.prot];exact hprot
                cases x with
                | norm =>
                  simp only [Option.some.injEq,Prod.mk.injEq] at hr;obtain ⟨rfl,rfl⟩:=hr
                  refine ⟨_,_,hend none,_,ι3,rfl,V.of_scal rfl,Rel.trans hS hrel13 (Rel.set (O:=.loop { L3 with state:=.ready,pending:=none }) hrel13.sim hi3 hown hp3 ⟨_,rfl,lps3,N3,lasg3,lbody3,lF3,lN3,rfl,rfl⟩ rfl rfl rfl rfl)⟩
                | exit id =>
                  simp only [Option.some.injEq,Prod.mk.injEq] at hr;obtain ⟨rfl,rfl⟩:=hr
                  refine ⟨_,_,hend (some (.exit id)),_,ι3,rfl,V.of_scal rfl,Rel.trans hS hrel13 (Rel.set (O:=.loop { L3 with state:=.done,pending:=(some (.exit id)) }) hrel13.sim hi3 hown hp3 ⟨_,rfl,lps3,N3,lasg3,lbody3,lF3,lN3,rfl,rfl⟩ rfl rfl rfl rfl)⟩
                | ret =>
                  simp only [Option.some.injEq,Prod.mk.injEq] at hr;obtain ⟨rfl,rfl⟩:=hr
                  refine ⟨_,_,hend (some .ret),_,ι3,rfl,V.of_scal rfl,Rel.trans hS hrel13 (Rel.set (O:=.loop { L3 with state:=.done,pending:=(some .ret) }) hrel13.sim hi3 hown hp3 ⟨_,rfl,lps3,N3,lasg3,lbody3,lF3,lN3,rfl,rfl⟩ rfl rfl rfl rfl)⟩
              · cases hr
            · cases hr
          · cases hr
        · cases hr
      · cases hr
    · cases hr
  · cases hr

structure OracleOk (P:Program) (k:FuncId) (o:List Value→Heap→Option (Value × Heap)):Prop where
  fn : ∃ f, P.funcs[k]? = some f ∧ (f.name == "runtime.NumGoroutine") = false ∧ f.body.isNone = false
  ext:∀ args h v h',o args h=some (v,h')→Ext h h'
  sound:∀ args h v h',o args h=some (v,h')→∀ ι w cargs,Sim P ι h w→VL ι args cargs→CallsIn Fence.wide 0 P k cargs.toArray w (Post P ι h w v h')

structure ProgOk (P:Program) (prog:AProg):Prop where
  code:∀ k f,prog k=some (.code f)→Is P k f
  oracle:∀ k o,prog k=some (.oracle o)→OracleOk P k o

theorem callV_sound {prog:AProg} (hp:ProgOk P prog):∀ n,CallSound P (callV prog n):=by
  intro n
  induction n with
  | zero=>exact ⟨fun k args h v h' hr=>by simp [callV] at hr,fun l args h v h' hr=>by simp [callV] at hr,fun fn args h r hr=>by simp [callV] at hr,callV_ext (fun k o hk=>(hp.oracle k o hk).ext) 0⟩
  | succ n ih =>
    refine ⟨fun k args h v h' hr=>?_,fun l args h v h' hr=>?_,fun fn args h r hr=>?_,callV_ext (fun k o hk=>(hp.oracle k o hk).ext) (n + 1)⟩
    · simp only [callV] at hr
      split at hr
      · rename_i f hk;exact runF_sound ih (hp.code _ _ hk) hr
      · rename_i o hk;exact ⟨(hp.oracle _ _ hk).fn,fun ι w cargs hS hv=>(hp.oracle _ _ hk).sound _ _ _ _ hr ι w cargs hS hv⟩
      · cases hr
    · simp only [callV] at hr
      exact fun ι w cargs i hi hS hv=>runY_sound ih hr ι w cargs i hi hS hv
    · cases fn with
      | func k=>exact .inl ⟨k,rfl⟩
      | yield l=>exact .inr ⟨l,rfl⟩
      | _=>simp [callV] at hr

/-- **The main theorem.** -/
theorem calls_of_run {prog:AProg} (hp:ProgOk P prog) {k:FuncId} {args:List Value} (hr:callV prog n (.func k) args h=some (v,h')) {ι:Inj} {w:World} {cargs:List Value} (hS:Sim P ι h w) (hv:VL ι args cargs) :
    Calls P k cargs.toArray w (Post P ι h w v h') :=
  callsIn_wide.1 (((callV_sound hp n).fn k args h v h' hr).2 ι w cargs hS hv)


end Go.AM


namespace Go.AM
open Go.ChangeShapes Go.WideShapes Go.RowKit
set_option linter.unusedVariables false
set_option linter.unusedSimpArgs false

def J:Value:=.chan none
noncomputable section

def inj0 (W:World):Inj:=fun b=>if b < W.heap.size then some ⟨b,match W.heap[b]? with|some (.cells C _ _)=>C.size|_=>0,0⟩ else none

/-- A value as the abstract machine takes it: the address of a slice without room says nothing. -/
def norm:Value→Value
  | .slice (some _) 0 0=>.slice (some ⟨0,0,none⟩) 0 0
  | v=>v

open Classical in
def known (ι:Inj) (v:Value):Value:=if V ι (norm v) v then norm v else J

def abs0 (W:World) (k:Nat):AObj :=
  match W.heap[k]? with
  | some (.cells C _ _)=>.cells (C.toList.map (known (inj0 W))) none
  | _=>.dead

def fill (f:Nat→AObj):Nat→Tr AObj
  | 0=>.nil
  | n + 1=>(fill f n).set n (f n)

theorem fill_get (f:Nat→AObj):∀ n b,(fill f n).get b=if b < n then some (f b) else none:=by
  intro n
  induction n with
  | zero=>intro b;simp [fill,Tr.get_nil]
  | succ n ih =>
    intro b
    rw [fill,Tr.get_set,ih]
    by_cases h:b=n
    · subst h;simp
    · rw [if_neg h]
      by_cases h2:b < n
      · rw [if_pos h2,if_pos (by omega)]
      · rw [if_neg h2,if_neg (by omega)]

def start (W:World):Heap:=⟨W.heap.size,fill (abs0 W) W.heap.size,0⟩

theorem start_get (W:World) (b:Nat):(start W).get b=if b < W.heap.size then some (abs0 W b) else none:=fill_get _ _ _

theorem abs0_cases (W:World) (b:Nat):(∃ c,abs0 W b=.cells c none)∨abs0 W b=.dead:=by
  unfold abs0
  split
  · exact .inl ⟨_,rfl⟩
  · exact .inr rfl

theorem start_owned {W:World} {b:Nat}:¬ owned (start W) b:=by
  unfold owned
  rw [start_get]
  by_cases h:b < W.heap.size
  · rw [if_pos h]
    rcases abs0_cases W b with ⟨c,e⟩|e <;> simp [e]
  · simp [h]

theorem start_sim (P:Program) (W:World) (hpin:∀ b,pinned P b=true→TabIn W b):Sim P (inj0 W) (start W) W:=by
  refine ⟨fun b i hb=>?_,fun b i o hb ho=>?_,fun b b' i i' _ _ _ ho=>absurd ho start_owned,fun b hb=>⟨hpin b hb,fun c i _ ho=>absurd ho start_owned⟩⟩
  · unfold inj0 at hb
    split at hb
    · rename_i h;cases hb;exact ⟨h,h⟩
    · cases hb
  · have hb0:=hb
    unfold inj0 at hb
    split at hb
    · rename_i h
      cases hb
      rw [start_get,if_pos h] at ho
      cases ho
      have hg:W.heap[b]? = some W.heap[b]:=Array.getElem?_eq_getElem h
      refine ⟨W.heap[b],hg,?_⟩
      unfold abs0
      cases hO:W.heap[b] with
      | cells C T fz =>
        have hg':W.heap[b]? = some (.cells C T fz):=by rw [hg,hO]
        simp only [hg']
        refine ⟨C,T,fz,rfl,rfl,⟨by simp,fun j a c ha hc hj=>?_⟩,fun z hz=>by cases hz⟩
        rw [List.getElem?_map,hc] at ha
        simp only [Option.map_some,Option.some.injEq] at ha
        unfold known at ha
        split at ha
        · rename_i hv;rw [← ha];exact hv
        · rw [← ha] at hj;cases hj
      | _=>rw [show W.heap[b]? = some _ from by rw [hg,hO]];trivial
    · cases hb

theorem inj0_some {W:World} {b:Nat} (h:b < W.heap.size):∃ n,inj0 W b=some ⟨b,n,0⟩:=by unfold inj0;rw [if_pos h];exact ⟨_,rfl⟩

theorem V.notJ {ι:Inj} {v u:Value} (h:V ι v u):Heap.isJ v=false:=by cases h <;> rfl

theorem start_rd {W:World} {b o n:Nat} {l:List Value} (hl:l.length=n) (h:∀ (i:Nat) (hi:i < n),W.cell? ⟨b,o + i,none⟩=some (l[i]'(by omega))) (hv:∀ v ∈ l,V (inj0 W) (norm v) v) (hn:0 < n):(start W).rd b o n=some (l.map norm):=by
  have h0:=h 0 hn
  unfold World.cell? at h0
  simp only at h0
  split at h0
  · rename_i C T fz hg
    have hlt:b < W.heap.size:=(Array.getElem?_eq_some_iff.1 hg).1
    have hc:∀ (i:Nat) (hi:i < n),C[o + i]? = some (l[i]'(by omega)):=by
      intro i hi
      have:=h i hi
      unfold World.cell? at this
      simp only [hg,Option.isSome_none,Bool.false_eq_true,if_false] at this
      exact this
    have hsz:o + n≤C.size:=by
      have:=(Array.getElem?_eq_some_iff.1 (hc (n - 1) (by omega))).1
      omega
    have e:((C.toList.map (known (inj0 W))).drop o).take n=l.map norm:=by
      apply List.ext_getElem?
      intro i
      rw [List.getElem?_take]
      split
      · rename_i hi
        rw [List.getElem?_drop,List.getElem?_map,Array.getElem?_toList,hc i hi,Option.map_some,List.getElem?_map,List.getElem?_eq_getElem (by omega),Option.map_some]
        unfold known
        rw [if_pos (hv _ (List.getElem_mem _))]
      · rw [List.getElem?_eq_none (by simp;omega)]
    unfold Heap.rd
    rw [start_get,if_pos hlt]
    unfold abs0
    rw [hg]
    simp only [e]
    rw [if_pos]
    refine ⟨by simpa using hsz,?_⟩
    rw [List.all_eq_true]
    intro v hv'
    obtain ⟨u,hu,rfl⟩:=List.mem_map.1 hv'
    simp [(hv u hu).notJ]
  · cases h0

end

/-- Nothing that was there has turned. -/
theorem Rel.below {P:Program} {W W':World} {ι':Inj} {h':Heap} (r:Rel P (inj0 W) (start W) W ι' h' W'):Below W.heap.size W W' :=
  ⟨r.fr.os,r.fr.tape,r.fr.output,r.fr.size,fun k hk=>r.fr.block k hk (fun b i _ ho _=>absurd ho start_owned)⟩

section
variable {H:Type} {enc:TypeId × Value→H} {P:Program}

theorem trodAll_stays (hl:laidOutB P=true) {W W':World} (hB:Below W.heap.size W W') {sp:Nat→Bool}:∀ {ts:List TypeId} {vs:List Value} {ds:List (DataW H)} {ps:List MemPlace},
    (ts.all fun t=>P.readableRec t && decide (t < P.types.size))=true→DataW.TrodAll enc P W 0 (fun _=>true) true ts vs ds ps→(∀ p ∈ ps,sp p.block=true)→DataW.TrodAll enc P W' 0 sp true ts vs ds ps
  | [],[],[],_,_,h,_=>h
  | t::ts,v::vs,d::ds,_,ht,⟨p,q,h1,h2,e⟩,hs=>by
    simp only [List.all_cons,Bool.and_eq_true,decide_eq_true_eq] at ht
    have h1':=h1
    obtain ⟨n,hn⟩:=h1'
    refine ⟨p,q,WideElems.Trod_stays hl ht.1.1 ht.1.2 h1 (fun x hx=>hB.same (DataW.trod_lt n _ _ _ hn x hx)) (fun x hx=>hs x (by rw [e];exact List.mem_append_left _ hx)),trodAll_stays hl hB ht.2 h2 (fun x hx=>hs x (by rw [e];exact List.mem_append_right _ hx)),e⟩

theorem pin_none (h:noPin P=true) (W:World):∀ b,pinned P b=true→TabIn W b:=fun b hb=>by rw [noPin_no h b] at hb;cases hb

/-- **The contract of a law** that says 'true' and leaves its arguments as they were, out of a run of the abstract machine. -/
theorem contract_true {prog:AProg} (hp:ProgOk P prog) (hl:laidOutB P=true) {f:FuncId} {fn:Func} {s:ChangeSpec} {apart fresh handsOn again:Bool} {tb:TypeId}
    (hts:(fn.params.toList.all fun t=>P.readableRec t && decide (t < P.types.size))=true) (hrt:fn.resultTypes=#[tb]) (htb:P.underlying tb=some .bool) (hvars:s.vars=[])
    (W:World) (hpin:∀ b,pinned P b=true→TabIn W b) (args:Array Value) (ds gs:List (DataW H)) (before:List MemPlace) (hW:DataW.Whole enc P fn.params.toList s.vars apart W args.toList ds gs before)
    (hs:(s.fn H (ds++gs)).results=[.lit (.bool true)]∧(s.fn H (ds++gs)).args=ds∧(s.fn H (ds++gs)).vars=[])
    {aargs:List Value} (hself:VL (inj0 W) aargs args.toList) {n:Nat} {h':Heap} (hr:callV prog n (.func f) aargs (start W)=some (.bool true,h')) :
    Calls P f args W fun e W'=>∃ v,e=.returned v∧s.post enc P fn apart fresh handsOn again W args v W':=by
  have hc:=calls_of_run hp hr (start_sim P W hpin) hself
  rw [Array.toArray_toList] at hc
  refine hc.mono fun e W' hpost=>?_
  obtain ⟨v',ι',rfl,hv,hrel⟩:=hpost
  obtain rfl:=hv.scal rfl
  have hB:=hrel.below
  have hlt:=hW.lt
  have hW':=hW
  obtain ⟨p,q,hA,hV,rfl,hfz,hnd⟩:=hW'
  rw [hvars] at hV
  have hq:gs=[]∧q=[]:=by
    cases gs with
    | nil=>exact ⟨rfl,hV⟩
    | cons g gs=>exact hV.elim
  obtain ⟨rfl,rfl⟩:=hq
  rw [List.append_nil] at hW hlt hfz hnd
  obtain ⟨h1,h2,h3⟩:=hs
  have hargs:∀ sp:Nat→Bool,(∀ x ∈ p,sp x.block=true)→DataW.TrodAll enc P W' 0 sp true fn.params.toList args.toList ds p:=fun sp hsp=>trodAll_stays hl hB hts hA hsp
  have hres:∀ (b:Nat) (sp:Nat→Bool) (hd:Bool),DataW.TrodAll enc P W' b sp hd fn.resultTypes.toList ((Value.bool true).resultList fn.resultTypes.size) [.lit (.bool true)] []:=by
    intro b sp hd
    rw [hrt]
    exact ⟨[],[],shut_bool htb _,rfl,rfl⟩
  have hvr:∀ sp:Nat→Bool,DataW.TrodVars enc P W' sp s.vars (s.fn H (ds++[])).vars []:=by
    intro sp;rw [h3,hvars];rfl
  have hold:∀ x ∈ p,(fun b=>decide (b < W.heap.size)) x.block=true:=fun x hx=>by simpa using hlt x hx
  refine ⟨_,rfl,ds,[],p++[],[],p,[],by rw [List.append_nil];exact hW,by rw [h1];exact hres _ _ _,by rw [h2];exact hargs _ hold,hvr _,World.keptBut_mono (fun x hx=>hx.elim) (hB.frame (fun _=>False)),fun _=>?_⟩
  refine ⟨ok_one hrt rfl (okWide_bool_mk htb _),[.lit (.bool true)]++ds,[],([]++p)++[],⟨[]++p,[],trodAll_append (hargs _ (fun _ _=>rfl)) (hres _ _ _),by rw [hvars];rfl,rfl,?_,?_⟩,?_⟩
  · intro b off hx
    have hx':MemPlace.cell b off ∈ p:=by simpa using hx
    rw [hB.frozen (p:=⟨b,off,none⟩) (hlt _ hx')]
    exact hfz b off hx'
  · intro ha
    simpa using hnd ha
  · intro x hx _
    simpa using hx
end
end Go.AM

