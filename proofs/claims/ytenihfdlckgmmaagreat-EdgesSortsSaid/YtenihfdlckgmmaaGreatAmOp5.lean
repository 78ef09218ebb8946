/- A part of the abstract machine, or of what is proved of the program by it. -/
import Derived.Lib.ConvBytes
import Derived.Laws.BytesString
import Derived.Laws.AppendOwn
import Derived.Test.YtenihfdlckgmmaaGreatAmOp4
namespace Go.AM
set_option linter.unusedVariables false
set_option linter.unusedSimpArgs false
variable {P:Program} {w:World} {ι:Inj} {h h':Heap} {e:Env} {a:Act} {N:Nat} {v:Value} {op:AOp}

theorem eqs_true {k:Nat} {x y:Value} (hr:eqs k x y=some true):y=x∧∀ n,Instr.sameBits n x x=true:=by
  unfold eqs at hr
  split at hr
  · simp only [Option.some.injEq,beq_iff_eq] at hr;subst hr;exact ⟨rfl,fun n=>by cases n <;> simp [Instr.sameBits]⟩
  · split at hr
    · rename_i hk
      simp only [Option.some.injEq,beq_iff_eq] at hr;subst hr;subst hk
      exact ⟨rfl,fun n=>by cases n <;> simp [Instr.sameBits]⟩
    · cases hr
  · rename_i p q
    simp only [Option.some.injEq] at hr
    have:p=q:=by
      rw [ByteArray.toList_eq,ByteArray.toList_eq] at hr
      have:=eq_of_beq hr
      apply ByteArray.ext
      simpa using this
    subst this
    have hb:(p == p)=true:=by rw [beq_toListBytes];exact beq_self_eq_true _
    exact ⟨rfl,fun n=>by cases n <;> simp [Instr.sameBits,hb]⟩
  · cases hr

theorem eqCells_true:∀ {ks:List Nat} {x y:List Value},eqCells ks x y=some true→y=x∧∀ n,∀ p ∈ x,Instr.sameBits n p p=true:=by
  intro ks
  induction ks with
  | nil=>intro x y hr;cases x <;> cases y <;> simp_all [eqCells]
  | cons k ks ih =>
    intro x y hr
    cases x with
    | nil=>simp [eqCells] at hr
    | cons p x =>
      cases y with
      | nil=>simp [eqCells] at hr
      | cons q y =>
        simp only [eqCells] at hr
        cases h1:eqs k p q with
        | none=>simp [h1] at hr
        | some b =>
          cases h2:eqCells ks x y with
          | none=>simp [h1,h2] at hr
          | some c =>
            simp only [h1,h2,Option.bind_some,Option.map_some,Option.some.injEq,Bool.and_eq_true] at hr
            obtain ⟨rfl,rfl⟩:=hr
            obtain ⟨rfl,g1⟩:=eqs_true h1
            obtain ⟨rfl,g2⟩:=ih h2
            refine ⟨rfl,fun n r hr=>?_⟩
            rcases List.mem_cons.1 hr with rfl|hr
            · exact g1 n
            · exact g2 n r hr

theorem eqK_true {s:KS} {x y:Value} (hr:eqK s x y=some true):y=x∧Instr.sameBits 10000 x x=true:=by
  cases s with
  | one k=>exact ⟨(eqs_true hr).1,(eqs_true hr).2 _⟩
  | many ks =>
    cases x with
    | agg X =>
      cases y with
      | agg Y =>
        obtain ⟨h1,h2⟩:=eqCells_true (show eqCells ks X.toList Y.toList=some true from hr)
        have:Y=X:=by simpa using h1
        subst this
        refine ⟨rfl,?_⟩
        show (Y.size == Y.size && (Y.toList.zip Y.toList).all fun (x,y)=>Instr.sameBits 9999 x y)=true
        simp only [beq_self_eq_true,Bool.true_and,List.all_eq_true]
        intro p hp
        have:p.1=p.2:=by
          obtain ⟨j,hj⟩:=List.getElem?_of_mem hp
          rw [List.getElem?_zip_eq_some] at hj
          have:=hj.1.symm.trans hj.2
          simpa using this
        have hm:p.1 ∈ Y.toList:=(List.of_mem_zip hp).1
        have:=h2 9999 p.1 hm
        obtain ⟨p1,p2⟩:=p
        simp_all
      | _=>simp [eqK] at hr
    | _=>simp [eqK] at hr

theorem updM_inv {s:KS} {k v:Value}:∀ {es es':List (Value × Value)},updM s k v es=some es' →
    (findM s k es=some none∧es'=es++[(k,v)])∨(∃ i u,findM s k es=some (some u)∧i < es.length∧(∃ x,es[i]? = some x∧eqK s k x.1=some true)∧(∀ i' x,i' < i→es[i']? = some x→eqK s k x.1=some false)∧es'=es.set i (k,v)):=by
  intro es
  induction es with
  | nil=>intro es' hr;simp only [updM,Option.some.injEq] at hr;subst hr;exact .inl ⟨rfl,rfl⟩
  | cons p es ih =>
    obtain ⟨k',v'⟩:=p
    intro es' hr
    simp only [updM] at hr
    cases hq:eqK s k k' with
    | none=>simp [hq] at hr
    | some b =>
      cases b with
      | true =>
        simp only [hq,Option.some.injEq] at hr;subst hr
        exact .inr ⟨0,v',by simp [findM,hq],by simp,⟨_,rfl,hq⟩,fun i' x hi=>absurd hi (Nat.not_lt_zero _),rfl⟩
      | false =>
        simp only [hq] at hr
        cases hu:updM s k v es with
        | none=>simp [hu] at hr
        | some es2 =>
          simp only [hu,Option.map_some,Option.some.injEq] at hr;subst hr
          rcases ih hu with ⟨h1,h2⟩|⟨i,u,h1,h2,⟨x,h3,h3'⟩,h4,h5⟩
          · exact .inl ⟨by simp [findM,hq,h1],by simp [h2]⟩
          · refine .inr ⟨i + 1,u,by simp [findM,hq,h1],by simp;omega,⟨x,by simpa using h3,h3'⟩,fun i' y hi hy=>?_,by simp [h5]⟩
            cases i' with
            | zero=>simp at hy;subst hy;exact hq
            | succ i'=>exact h4 i' y (by omega) (by simpa using hy)

theorem born_push {es:List (Value × Value)} {x:Value × Value} {ces:Array MapEntry} {k:Nat} {key val:Value} (hl:es.length=ces.toList.length) (hb:Born es.length k ces.toList):Born (es++[x]).length (k + 1) (ces.push { key:=key,val:=val,born:=k }).toList:=by
  refine ⟨by rw [hb.1];simp,fun j y hy=>?_⟩
  rw [Array.toList_push] at hy
  by_cases hlt:j < ces.toList.length
  · rw [List.getElem?_append_left hlt] at hy;exact hb.2 j y hy
  · have h1:=(List.getElem?_eq_some_iff.1 hy).1
    rw [List.length_append,List.length_singleton] at h1
    have:j=ces.toList.length:=by omega
    subst this
    rw [List.getElem?_append_right (Nat.le_refl _)] at hy
    simp at hy;subst hy
    show k=_;rw [hb.1,hl]
theorem born_modify {n k j:Nat} {ces:Array MapEntry} {f:MapEntry→MapEntry} (hb:Born n k ces.toList) (hf:∀ e,(f e).born=e.born):Born n k (ces.modify j f).toList:=by
  refine ⟨hb.1,fun i y hy=>?_⟩
  rw [Array.toList_modify,List.getElem?_modify] at hy
  cases hc:ces.toList[i]? with
  | none=>rw [hc] at hy;simp at hy
  | some c =>
    rw [hc] at hy
    have:=hb.2 i c hc
    by_cases q:j=i
    · simp [q] at hy;subst hy;rw [hf];exact this
    · simp [q] at hy;subst hy;exact this
theorem born_idx {n k i:Nat} {ces:Array MapEntry} (hb:Born n k ces.toList) (hi:i < ces.toList.length):ces.findIdx? (fun e=>(e.born:Int) == (i:Int))=some i:=by
  refine Array.findIdx?_eq_some_iff_getElem.2 ⟨by simpa using hi,?_,fun j hj=>?_⟩
  · have:=hb.2 i ces.toList[i] (List.getElem?_eq_getElem hi)
    rw [Array.getElem_toList] at this
    rw [this];simp
  · have:=hb.2 j ces.toList[j] (List.getElem?_eq_getElem (by omega))
    rw [Array.getElem_toList] at this
    rw [this];simp;omega
theorem entM_inv {s:KS} {k z:Value}:∀ {es:List (Value × Value)} {i:Nat} {v:Value} {es':List (Value × Value)},entM s k z es=some (i,v,es') →
    (findM s k es=some none∧i=es.length∧v=z∧es'=es++[(k,z)])∨(findM s k es=some (some v)∧(∃ x,es[i]? = some x∧eqK s k x.1=some true)∧(∀ i' x,i' < i→es[i']? = some x→eqK s k x.1=some false)∧es'=es.set i (k,v)):=by
  intro es
  induction es with
  | nil=>intro i v es' hr;simp only [entM,Option.some.injEq,Prod.mk.injEq] at hr;obtain ⟨rfl,rfl,rfl⟩:=hr;exact .inl ⟨rfl,rfl,rfl,rfl⟩
  | cons p es ih =>
    obtain ⟨k',v'⟩:=p
    intro i v es' hr
    simp only [entM] at hr
    cases hq:eqK s k k' with
    | none=>simp [hq] at hr
    | some b =>
      cases b with
      | true =>
        simp only [hq,Option.some.injEq,Prod.mk.injEq] at hr;obtain ⟨rfl,rfl,rfl⟩:=hr
        exact .inr ⟨by simp [findM,hq],⟨_,rfl,hq⟩,fun i' x hi=>absurd hi (Nat.not_lt_zero _),rfl⟩
      | false =>
        simp only [hq] at hr
        cases hu:entM s k z es with
        | none=>simp [hu] at hr
        | some q =>
          obtain ⟨i0,v0,es0⟩:=q
          simp only [hu,Option.map_some,Option.some.injEq,Prod.mk.injEq] at hr;obtain ⟨rfl,rfl,rfl⟩:=hr
          rcases ih hu with ⟨h1,h2,h3,h4⟩|⟨h1,⟨x,h2,h3⟩,h4,h5⟩
          · exact .inl ⟨by simp [findM,hq,h1],by simp [h2],h3,by simp [h4]⟩
          · refine .inr ⟨by simp [findM,hq,h1],⟨x,by simpa using h2,h3⟩,fun i' y hi hy=>?_,by simp [h5]⟩
            cases i' with
            | zero=>simp at hy;subst hy;exact hq
            | succ i'=>exact h4 i' y (by omega) (by simpa using hy)

theorem findM_at {s:KS} {k v:Value}:∀ {es:List (Value × Value)} {i:Nat} {x:Value × Value},findM s k es=some (some v)→es[i]? = some x→eqK s k x.1=some true→(∀ i' x,i' < i→es[i']? = some x→eqK s k x.1=some false)→x.2=v
  | [],_,_,_,h,_,_=>by simp at h
  | (k',v')::es,0,x,hf,hx,hk,_=>by
    simp only [List.getElem?_cons_zero,Option.some.injEq] at hx;subst hx
    simp only [findM] at hf
    rw [hk] at hf
    simp only [Option.some.injEq] at hf;exact hf
  | (k',v')::es,i + 1,x,hf,hx,hk,hm=>by
    have h0:=hm 0 _ (by omega) rfl
    simp only [findM] at hf
    rw [h0] at hf
    exact findM_at (i:=i) hf (by simpa using hx) hk (fun i' y hi hy=>hm (i' + 1) y (by omega) (by simpa using hy))

theorem s_mapent {o:Oper} {T KT E:TypeId} {x y:Operand} {s:KS} {z:Value} (ho:o.op=.mapEntry T x y) (hd:P.underlying T=some (.map KT E)) (hz:zeroT P E=some z) (hk:keyT P KT=some s) (hx:okO x=true) (hy:okO y=true)
    (hS:Sim P ι h w) (hF:FR N ι e a.tmps) (hr:aop (.mapent s z x y) e h=some (v,h')):OpRes P ι h w ((execOp a.eval o).run P w) v h':=by
  obtain ⟨_,_,_,hzc,_⟩:=zeroT_inv hz
  have vz:V ι z z:=V.closed 3 z hzc
  simp only [aop] at hr
  split at hr
  · rename_i r k hp hkk
    split at hr
    · rename_i es hg
      split at hr
      · rename_i hc
        obtain ⟨hprot,hok⟩:=hc
        obtain ⟨⟨i0,v0,es'⟩,hup,heq⟩:=Option.map_eq_some_iff.1 hr
        simp only [Prod.mk.injEq] at heq;obtain ⟨rfl,rfl⟩:=heq
        have v1:=hF.ev hx hp
        have e2:=(hF.ev hy hkk).key hok
        generalize hav:a.eval x=av at v1
        cases v1 with
        | map hb =>
          rename_i i
          obtain ⟨O,h1,ces,clk,rfl,hvm,hbn⟩:=hS.obj r i _ hb hg
          have hgo:(getObj i.blk).run P w=.ok (.map ces clk) w:=by simp [getObj,Sem.run,h1]
          have hso:∀ O,(setObj i.blk O).run P w=.ok () { w with heap:=w.heap.setIfInBounds i.blk O }:=fun O=>by simp [setObj,Sem.run,h1]
          have hown:owned h r:=by unfold owned;rw [hg];trivial
          have hck:(Instr.checkKey false 10000 KT k).run P w=.ok () w:=checkKey_sound (n:=9998) hk hok
          rcases entM_inv hup with ⟨hf,rfl,rfl,rfl⟩|⟨hf,⟨x0,hx0,hx0'⟩,hmin,rfl⟩
          · have hfk:(Instr.findKey KT k ces.toList).run P w=.ok none w:=by
              rcases findKey_sound (P:=P) (w:=w) hk hvm hf with ⟨h2,_⟩|⟨j,u,x',h2,h3,_⟩
              · exact h2
              · cases h3
            have hclk:clk=es.length:=hbn.1
            refine ⟨.tuple #[v0,.int .i64 es.length],_,ι,.inl ?_,.tup' (l:=[v0,.int .i64 es.length]) (l':=[v0,.int .i64 es.length]) (VL.cons vz (VL.cons (.int _ _) (VL.nil ι))),Rel.set hS hb hown hprot (O:=.map (ces.push { key:=k,val:=v0,born:=clk }) (clk + 1)) ⟨_,_,rfl,?_,born_push hvm.1 hbn⟩ (w':={ w with heap:=w.heap.setIfInBounds i.blk (.map (ces.push { key:=k,val:=v0,born:=clk }) (clk + 1)) }) rfl rfl rfl rfl⟩
            · simp only [execOp,ho,hav,e2,Instr.mapEntry,Sem.run_bind,r_underlying hd,Result.andThen_ok,hgo,hck,hfk,r_zeroValue hz,hso,Sem.run_pure,goInt,hclk]
            · refine ⟨by simp [hvm.1],fun jj a b ha hb=>?_⟩
              simp only [Array.toList_push] at hb
              by_cases hlt:jj < es.length
              · rw [List.getElem?_append_left hlt] at ha
                rw [List.getElem?_append_left (hvm.1 ▸ hlt)] at hb
                exact hvm.2 jj a b ha hb
              · have hl:=hvm.1
                have:jj=es.length:=by
                  have:=(List.getElem?_eq_some_iff.1 ha).1;simp at this;omega
                subst this
                simp at ha;subst ha
                rw [hl] at hb;simp at hb;subst hb
                exact ⟨rfl,vz⟩
          · obtain ⟨jc,uc,xc,h2,h3,h4,⟨ce,h5,h5'⟩,h6⟩:∃ i u x,(Instr.findKey KT k ces.toList).run P w=.ok (some (i,x)) w∧some v0=some u∧V ι u x∧(∃ ce,ces.toList[i]? = some ce∧eqK s k ce.key=some true)∧∀ i' ce,i' < i→ces.toList[i']? = some ce→eqK s k ce.key=some false:=by
              rcases findKey_sound (P:=P) (w:=w) hk hvm hf with ⟨_,h3⟩|⟨j,u,x',h2,h3,h4⟩
              · cases h3
              · exact ⟨j,u,x',h2,h3,h4⟩
            cases h3
            have hj:i0 < es.length:=(List.getElem?_eq_some_iff.1 hx0).1
            have hjj:jc=i0:=by
              rcases Nat.lt_trichotomy jc i0 with q1|q1|q1
              · have hlt:jc < es.length:=by omega
                have:=hmin jc es[jc] q1 (List.getElem?_eq_getElem hlt)
                rw [(hvm.2 jc _ _ (List.getElem?_eq_getElem hlt) h5).1,h5'] at this;cases this
              · exact q1
              · have hlt:i0 < ces.toList.length:=by rw [← hvm.1];exact hj
                have:=h6 i0 ces.toList[i0] q1 (List.getElem?_eq_getElem hlt)
                rw [← (hvm.2 i0 _ _ hx0 (List.getElem?_eq_getElem hlt)).1,hx0'] at this;cases this
            subst hjj
            obtain ⟨hkey,hbits⟩:=eqK_true h5'
            have h5a:ces[jc]? = some ce:=by simpa using h5
            have hborn:ce.born=jc:=hbn.2 jc ce h5
            have hstay:(Instr.keyThatStays k k).run P w=.ok k w:=by simp [Instr.keyThatStays,hbits]
            refine ⟨.tuple #[xc,.int .i64 jc],_,ι,.inl ?_,.tup' (l:=[v0,.int .i64 jc]) (l':=[xc,.int .i64 jc]) (VL.cons h4 (VL.cons (.int _ _) (VL.nil ι))),Rel.set hS hb hown hprot (O:=.map (ces.modify jc fun e=>{ e with key:=k }) clk) ⟨_,_,rfl,?_,by rw [List.length_set];exact born_modify hbn (fun _=>rfl)⟩ (w':={ w with heap:=w.heap.setIfInBounds i.blk (.map (ces.modify jc fun e=>{ e with key:=k }) clk) }) rfl rfl rfl rfl⟩
            · simp only [execOp,ho,hav,e2,Instr.mapEntry,Sem.run_bind,r_underlying hd,Result.andThen_ok,hgo,hck,h2,h5a,Option.map_some,Option.getD_some,hkey,hstay,hso,Sem.run_pure,goInt,hborn]
            · refine ⟨by simp [hvm.1],fun jj a b ha hb=>?_⟩
              rw [Array.toList_modify,List.getElem?_modify] at hb
              rw [List.getElem?_set] at ha
              by_cases hq:jc=jj
              · subst hq
                simp only [if_true,hj] at ha
                cases ha
                rw [h5] at hb
                simp at hb;subst hb
                refine ⟨rfl,?_⟩
                have hx0v:x0.2=v0:=by
                  have:=hvm.2 jc x0 ce hx0 h5
                  have h9:=findM_at hf hx0 hx0' hmin
                  exact h9
                have:=(hvm.2 jc x0 ce hx0 h5).2
                rw [hx0v] at this;exact this
              · rw [if_neg hq] at ha
                simp only [if_neg hq] at hb
                cases hc2:ces.toList[jj]? with
                | none=>simp [hc2] at hb
                | some c2 =>
                  simp [hc2] at hb;subst hb
                  exact hvm.2 jj a c2 ha hc2
      · cases hr
    · cases hr
  · cases hr

theorem s_entst {o:Oper} {T:TypeId} {x y q:Operand} (ho:o.op=.entryStore T x y q) (hx:okO x=true) (hy:okO y=true) (hq:okO q=true)
    (hS:Sim P ι h w) (hF:FR N ι e a.tmps) (hr:aop (.entst x y q) e h=some (v,h')):OpRes P ι h w ((execOp a.eval o).run P w) v h':=by
  simp only [aop] at hr
  split at hr
  · rename_i r n u hp hkk hu
    split at hr
    · rename_i es hg
      split at hr
      · rename_i x0 hx0
        split at hr
        · rename_i hprot
          simp only [Option.some.injEq,Prod.mk.injEq] at hr;obtain ⟨rfl,rfl⟩:=hr
          have v1:=hF.ev hx hp
          have e2:=(hF.ev hy hkk).scal rfl
          have v3:=hF.ev hq hu
          generalize hav:a.eval x=av at v1
          generalize hqv:a.eval q=qv at v3
          cases v1 with
          | map hb =>
            rename_i i
            obtain ⟨O,h1,ces,clk,rfl,hvm,hbn⟩:=hS.obj r i _ hb hg
            have hgo:(getObj i.blk).run P w=.ok (.map ces clk) w:=by simp [getObj,Sem.run,h1]
            have hso:∀ O,(setObj i.blk O).run P w=.ok () { w with heap:=w.heap.setIfInBounds i.blk O }:=fun O=>by simp [setObj,Sem.run,h1]
            have hown:owned h r:=by unfold owned;rw [hg];trivial
            have hj:n < es.length:=(List.getElem?_eq_some_iff.1 hx0).1
            have hidx:=born_idx hbn (i:=n) (by rw [← hvm.1];exact hj)
            refine ⟨undef,_,ι,.inr ⟨?_,rfl⟩,V.undef,Rel.set hS hb hown hprot (O:=.map (ces.modify n fun e=>{ e with val:=qv }) clk) ⟨_,_,rfl,?_,by rw [List.length_set];exact born_modify hbn (fun _=>rfl)⟩ (w':={ w with heap:=w.heap.setIfInBounds i.blk (.map (ces.modify n fun e=>{ e with val:=qv }) clk) }) rfl rfl rfl rfl⟩
            · have hin:(asIntOf (.int .i64 (Int.ofNat n))).run P w=.ok (.i64,(n:Int)) w:=rfl
              simp only [execOp,ho,hav,e2,hqv,Instr.entryStore,Sem.run_bind,Result.andThen_ok,hgo,asInt,Sem.run_pure,hin,hidx,hso]
            · refine ⟨by simp [hvm.1],fun jj a b ha hb=>?_⟩
              rw [Array.toList_modify,List.getElem?_modify] at hb
              rw [List.getElem?_set] at ha
              by_cases hq:n=jj
              · subst hq
                simp only [if_true,hj] at ha
                cases ha
                cases hc2:ces.toList[n]? with
                | none=>simp [hc2] at hb
                | some c2 =>
                  simp [hc2] at hb;subst hb
                  exact ⟨(hvm.2 n x0 c2 hx0 hc2).1,v3⟩
              · rw [if_neg hq] at ha
                simp only [if_neg hq] at hb
                cases hc2:ces.toList[jj]? with
                | none=>simp [hc2] at hb
                | some c2 =>
                  simp [hc2] at hb;subst hb
                  exact hvm.2 jj a c2 ha hc2
        · cases hr
      · cases hr
    · cases hr
  · cases hr

theorem s_mapupd {o:Oper} {T KT E:TypeId} {x y q:Operand} {s:KS} (ho:o.op=.mapUpdate T x y q∨o.op=.insert T x y q) (hd:P.underlying T=some (.map KT E)) (hk:keyT P KT=some s) (hx:okO x=true) (hy:okO y=true) (hq:okO q=true)
    (hS:Sim P ι h w) (hF:FR N ι e a.tmps) (hr:aop (.mapupd s x y q) e h=some (v,h')):OpRes P ι h w ((execOp a.eval o).run P w) v h':=by
  simp only [aop] at hr
  split at hr
  · rename_i r k u hp hkk hu
    split at hr
    · rename_i es hg
      split at hr
      · rename_i hc
        obtain ⟨hprot,hok⟩:=hc
        cases hup:updM s k u es with
        | none=>simp [hup] at hr
        | some es' =>
          simp only [hup,Option.map_some,Option.some.injEq,Prod.mk.injEq] at hr;obtain ⟨rfl,rfl⟩:=hr
          have v1:=hF.ev hx hp
          have e2:=(hF.ev hy hkk).key hok
          have v3:=hF.ev hq hu
          generalize hav:a.eval x=av at v1
          generalize hqv:a.eval q=qv at v3
          cases v1 with
          | map hb =>
            rename_i i
            obtain ⟨O,h1,ces,clk,rfl,hvm,hbn⟩:=hS.obj r i _ hb hg
            have hgo:(getObj i.blk).run P w=.ok (.map ces clk) w:=by simp [getObj,Sem.run,h1]
            have hso:∀ O,(setObj i.blk O).run P w=.ok () { w with heap:=w.heap.setIfInBounds i.blk O }:=fun O=>by simp [setObj,Sem.run,h1]
            have hown:owned h r:=by unfold owned;rw [hg];trivial
            have hck:(Instr.checkKey false 10000 KT k).run P w=.ok () w:=checkKey_sound (n:=9998) hk hok
            rcases updM_inv hup with ⟨hf,rfl⟩|⟨j,u0,hf,hj,⟨x0,hx0,hx0'⟩,hmin,rfl⟩
            · have hfk:(Instr.findKey KT k ces.toList).run P w=.ok none w:=by
                rcases findKey_sound (P:=P) (w:=w) hk hvm hf with ⟨h2,_⟩|⟨j,u,x',h2,h3,_⟩
                · exact h2
                · cases h3
              refine ⟨undef,_,ι,.inr ⟨?_,rfl⟩,V.undef,Rel.set hS hb hown hprot (O:=.map (ces.push { key:=k,val:=qv,born:=clk }) (clk + 1)) ⟨_,_,rfl,?_,born_push hvm.1 hbn⟩ (w':={ w with heap:=w.heap.setIfInBounds i.blk (.map (ces.push { key:=k,val:=qv,born:=clk }) (clk + 1)) }) rfl rfl rfl rfl⟩
              · rcases ho with ho|ho <;>
                  simp only [execOp,ho,hav,e2,hqv,Instr.mapUpdate,Sem.run_bind,r_underlying hd,Result.andThen_ok,hgo,hck,hfk,hso,Sem.run_pure]
              · refine ⟨by simp [hvm.1],fun jj a b ha hb=>?_⟩
                simp only [Array.toList_push] at hb
                by_cases hlt:jj < es.length
                · rw [List.getElem?_append_left hlt] at ha
                  rw [List.getElem?_append_left (hvm.1 ▸ hlt)] at hb
                  exact hvm.2 jj a b ha hb
                · have hl:=hvm.1
                  have:jj=es.length:=by
                    have:=(List.getElem?_eq_some_iff.1 ha).1;simp at this;omega
                  subst this
                  simp at ha;subst ha
                  rw [hl] at hb;simp at hb;subst hb
                  exact ⟨rfl,v3⟩
            · obtain ⟨jc,uc,xc,h2,h3,h4,⟨ce,h5,h5'⟩,h6⟩:∃ i u x,(Instr.findKey KT k ces.toList).run P w=.ok (some (i,x)) w∧some u0=some u∧V ι u x∧(∃ ce,ces.toList[i]? = some ce∧eqK s k ce.key=some true)∧∀ i' ce,i' < i→ces.toList[i']? = some ce→eqK s k ce.key=some false:=by
                rcases findKey_sound (P:=P) (w:=w) hk hvm hf with ⟨_,h3⟩|⟨j,u,x',h2,h3,h4⟩
                · cases h3
                · exact ⟨j,u,x',h2,h3,h4⟩
              have hjj:jc=j:=by
                rcases Nat.lt_trichotomy jc j with q1|q1|q1
                · have hlt:jc < es.length:=by omega
                  have:=hmin jc es[jc] q1 (List.getElem?_eq_getElem hlt)
                  rw [(hvm.2 jc _ _ (List.getElem?_eq_getElem hlt) h5).1,h5'] at this;cases this
                · exact q1
                · have hlt:j < ces.toList.length:=by rw [← hvm.1];exact hj
                  have:=h6 j ces.toList[j] q1 (List.getElem?_eq_getElem hlt)
                  rw [← (hvm.2 j _ _ hx0 (List.getElem?_eq_getElem hlt)).1,hx0'] at this;cases this
              subst hjj
              obtain ⟨hkey,hbits⟩:=eqK_true h5'
              have h5a:ces[jc]? = some ce:=by simpa using h5
              have hstay:(Instr.keyThatStays k k).run P w=.ok k w:=by simp [Instr.keyThatStays,hbits]
              refine ⟨undef,_,ι,.inr ⟨?_,rfl⟩,V.undef,Rel.set hS hb hown hprot (O:=.map (ces.modify jc fun e=>{ e with key:=k,val:=qv }) clk) ⟨_,_,rfl,?_,by rw [List.length_set];exact born_modify hbn (fun _=>rfl)⟩ (w':={ w with heap:=w.heap.setIfInBounds i.blk (.map (ces.modify jc fun e=>{ e with key:=k,val:=qv }) clk) }) rfl rfl rfl rfl⟩
              · rcases ho with ho|ho <;>
                  simp only [execOp,ho,hav,e2,hqv,Instr.mapUpdate,Sem.run_bind,r_underlying hd,Result.andThen_ok,hgo,hck,h2,h5a,Option.map_some,Option.getD_some,hkey,hstay,hso,Sem.run_pure]
              · refine ⟨by simp [hvm.1],fun jj a b ha hb=>?_⟩
                rw [Array.toList_modify,List.getElem?_modify] at hb
                rw [List.getElem?_set] at ha
                by_cases hq:jc=jj
                · subst hq
                  simp only [if_true,hj] at ha
                  cases ha
                  rw [h5] at hb
                  simp at hb;subst hb
                  exact ⟨rfl,v3⟩
                · rw [if_neg hq] at ha
                  simp only [if_neg hq] at hb
                  cases hc2:ces.toList[jj]? with
                  | none=>simp [hc2] at hb
                  | some c2 =>
                    simp [hc2] at hb;subst hb
                    exact hvm.2 jj a c2 ha hc2
      · cases hr
    · cases hr
  · cases hr

theorem r_builtin {o:Oper} {b:Builtin} {args:Array Operand} {ts:Array TypeId} (ho:o.op=.call ⟨.builtin b,args,ts⟩) :
    ∃ cs,(execOp a.eval o).run P w=(builtin b ts o.type cs (args.map a.eval)).run P w :=
  ⟨args.map fun|.const _=>true|_=>false,by simp only [execOp,ho,resolve,Sem.run_bind,Sem.run_pure,Result.andThen_ok,invoke];rfl⟩

theorem s_len {o:Oper} {x:Operand} {args:Array Operand} {ts:Array TypeId} {t:TypeId} (ho:o.op=.call ⟨.builtin .len,args,ts⟩) (ha:args.toList=[x]) (ht:ts.toList=[t]) (hx:okO x=true) {k:Nat}
    (hd:(k=0∧P.underlying t=some .string)∨(k=1∧∃ E,P.underlying t=some (.slice E))∨(k=2∧∃ E F,P.underlying t=some (.map E F))) (hS:Sim P ι h w) (hF:FR N ι e a.tmps)
    (hr:aop (.len k x) e h=some (v,h')):OpRes P ι h w ((execOp a.eval o).run P w) v h':=by
  obtain ⟨cs,hrun⟩:=r_builtin (a:=a) (P:=P) (w:=w) ho
  obtain rfl:args=#[x]:=by apply Array.ext';simpa using ha
  obtain rfl:ts=#[t]:=by apply Array.ext';simpa using ht
  rw [hrun]
  have hlen:∀ (u:Value) (n:Int),(Builtin.len_ #[t] o.type #[u]).run P w=.ok (.int .i64 n) w→(builtin .len #[t] o.type cs #[u]).run P w=.ok (.value (.int .i64 n)) w:=by
    intro u n hu
    simp only [builtin,Sem.run_bind,hu,Result.andThen_ok,Sem.run_pure]
  simp only [aop] at hr
  split at hr
  · rename_i s he
    simp only [Option.some.injEq,Prod.mk.injEq] at hr;obtain ⟨rfl,rfl⟩:=hr
    rcases hd with ⟨_,hd⟩|⟨h0,_⟩|⟨h0,_⟩ <;> try (simp at h0;done)
    have e1:=(hF.ev hx he).scal rfl
    refine .same hS (v':=.int .i64 s.size) ?_ (.int _ _)
    simp only [List.map_toArray,List.map_cons,List.map_nil,e1]
    exact hlen _ _ (by simp [Builtin.len_,r_underlying hd,goInt])
  · rename_i p n c he
    simp only [Option.some.injEq,Prod.mk.injEq] at hr;obtain ⟨rfl,rfl⟩:=hr
    rcases hd with ⟨h0,hd⟩|⟨_,E,hd⟩|⟨h0,_⟩ <;> try (simp at h0;done)
    have hv:=hF.ev hx he
    generalize hav:a.eval x=av at hv
    refine .same hS (v':=.int .i64 n) ?_ (.int _ _)
    simp only [List.map_toArray,List.map_cons,List.map_nil,hav]
    refine hlen _ _ ?_
    cases hv <;> simp [Builtin.len_,r_underlying hd,goInt]
  · rename_i he
    simp only [Option.some.injEq,Prod.mk.injEq] at hr;obtain ⟨rfl,rfl⟩:=hr
    rcases hd with ⟨h0,hd⟩|⟨h0,_⟩|⟨_,E,F,hd⟩ <;> try (simp at h0;done)
    have hv:=hF.ev hx he
    generalize hav:a.eval x=av at hv
    refine .same hS (v':=.int .i64 0) ?_ (.int _ _)
    simp only [List.map_toArray,List.map_cons,List.map_nil,hav]
    refine hlen _ _ ?_
    cases hv;simp [Builtin.len_,r_underlying hd,goInt]
  · rename_i r he
    split at hr
    · rename_i es hg
      simp only [Option.some.injEq,Prod.mk.injEq] at hr;obtain ⟨rfl,rfl⟩:=hr
      rcases hd with ⟨h0,hd⟩|⟨h0,_⟩|⟨_,E,F,hd⟩ <;> try (simp at h0;done)
      have hv:=hF.ev hx he
      generalize hav:a.eval x=av at hv
      cases hv with
      | map hb =>
        rename_i i
        obtain ⟨O,h1,ces,clk,rfl,hvm,hbn⟩:=hS.obj r i _ hb hg
        have hgo:(getObj i.blk).run P w=.ok (.map ces clk) w:=by simp [getObj,Sem.run,h1]
        refine .same hS (v':=.int .i64 es.length) ?_ (.int _ _)
        simp only [List.map_toArray,List.map_cons,List.map_nil,hav]
        refine hlen _ _ ?_
        have:=hvm.1
        simp at this
        simp [Builtin.len_,r_underlying hd,goInt,hgo,this]
    · cases hr
  · cases hr

theorem firstCells_sound {s m:Nat} {q':Value} {b o:Nat} {n c:Nat} {new:List Value} (hq:V ι (.slice (some ⟨b,o,none⟩) n c) q') (hm:0 < m) (hmn:m≤n) (hS:Sim P ι h w) (hr:h.rd b o (m * s)=some new) :
    ∃ new',VL ι new new'∧new.length=m * s∧(Builtin.firstCells s m q').run P w=.ok new'.toArray w:=by
  cases hq with
  | sl hb hc hs =>
    obtain ⟨c',h1,h2,h3⟩:=rd_sim hS hb hr
    exact ⟨c',h1,h2,by simp only [Builtin.firstCells];exact h3⟩
  | sle=>omega

theorem lenOf_sound {p:Option Addr} {n c:Nat} {q:Value} (hq:V ι (.slice p n c) q):(Builtin.lenOf q).run P w=.ok n w:=by
  cases hq <;> rfl

theorem firstCells_zero (s:Nat) (p:Option Addr) (n c:Nat):(Builtin.firstCells s 0 (.slice p n c)).run P w=.ok #[] w:=by
  cases p <;> simp [Builtin.firstCells,loadCells,loadCellsFrom]

theorem s_copy {o:Oper} {x y:Operand} {args:Array Operand} {ts:Array TypeId} {t E:TypeId} {rest:List TypeId} {sz:Nat} (ho:o.op=.call ⟨.builtin .copy,args,ts⟩) (ha:args.toList=[x,y]) (ht:ts.toList=t::rest) (hx:okO x=true) (hy:okO y=true)
    (hd:P.underlying t=some (.slice E)) (hsz:sizeT P E=some sz) (hS:Sim P ι h w) (hF:FR N ι e a.tmps)
    (hr:aop (.copy sz x y) e h=some (v,h')):OpRes P ι h w ((execOp a.eval o).run P w) v h':=by
  obtain ⟨cs,hrun⟩:=r_builtin (a:=a) (P:=P) (w:=w) ho
  obtain rfl:args=#[x,y]:=by apply Array.ext';simpa using ha
  have ht0:ts[0]? = some t:=by rw [← Array.getElem?_toList,ht];rfl
  rw [hrun]
  simp only [aop] at hr
  split at hr
  · rename_i p n c1 q m c2 hp hq
    have vp:=hF.ev hx hp
    have vq:=hF.ev hy hq
    generalize hpv:a.eval x=pv at vp
    generalize hqv:a.eval y=qv at vq
    have hl:=lenOf_sound (P:=P) (w:=w) vq
    obtain ⟨pa,pc,rfl⟩:∃ pa pc,pv=.slice pa n pc:=by cases vp <;> exact ⟨_,_,rfl⟩
    obtain ⟨qa,qc,rfl⟩:∃ pa pc,qv=.slice pa m pc:=by cases vq <;> exact ⟨_,_,rfl⟩
    split at hr
    · rename_i h0
      simp only [Option.some.injEq,Prod.mk.injEq] at hr;obtain ⟨rfl,rfl⟩:=hr
      refine .same hS (v':=.int .i64 0) ?_ (.int _ _)
      cases pa <;> simp [hpv,hqv,builtin,Builtin.copy_,ht0,r_underlying hd,hl,h0,r_sizeOf hsz,goInt,firstCells_zero,storeCells]
    · rename_i h0
      split at hr
      · rename_i b off qb qo
        split at hr
        · rename_i cc hcc
          obtain ⟨cc',w1,w2,w3⟩:=firstCells_sound (P:=P) (w:=w) (s:=sz) (m:=Nat.min m n) vq (by omega) (Nat.min_le_left _ _) hS hcc
          cases hw:h.wr b off cc with
          | none=>simp [hw] at hr
          | some h2 =>
            simp only [hw,Option.map_some,Option.some.injEq,Prod.mk.injEq] at hr;obtain ⟨rfl,rfl⟩:=hr
            cases vp with
            | sl hb hc hs =>
              rename_i i
              obtain ⟨w',r1,r2⟩:=wr_sim hS hb w1 hw
              refine ⟨_,w',ι,.inl ?_,.int _ _,r2⟩
              simp [hpv,hqv,builtin,Builtin.copy_,ht0,r_underlying hd,hl,r_sizeOf hsz,goInt,w3,r1]
            | sle =>
              have:Nat.min m 0=0:=Nat.min_zero m
              omega
        · cases hr
      · cases hr
  · cases hr

theorem zeroCells_list (zero:Array Value) (n:Nat):(Builtin.zeroCells zero n).toList=(List.replicate n zero.toList).flatten:=rep_cells zero n

theorem s_clear {o:Oper} {x:Operand} {args:Array Operand} {ts:Array TypeId} {t E:TypeId} {z:Value} (ho:o.op=.call ⟨.builtin .clear,args,ts⟩) (ha:args.toList=[x]) (ht:ts.toList=[t]) (hx:okO x=true)
    (hd:P.underlying t=some (.slice E)) (hz:zeroT P E=some z) (hS:Sim P ι h w) (hF:FR N ι e a.tmps)
    (hr:aop (.clear (vcells z) x) e h=some (v,h')):OpRes P ι h w ((execOp a.eval o).run P w) v h':=by
  obtain ⟨cs,hrun⟩:=r_builtin (a:=a) (P:=P) (w:=w) ho
  obtain rfl:args=#[x]:=by apply Array.ext';simpa using ha
  obtain rfl:ts=#[t]:=by apply Array.ext';simpa using ht
  obtain ⟨_,_,_,hzc,_⟩:=zeroT_inv hz
  rw [hrun]
  simp only [aop] at hr
  split at hr
  · rename_i p n c he
    have hv:=hF.ev hx he
    generalize hav:a.eval x=av at hv
    split at hr
    · rename_i h0
      subst h0
      simp only [Option.some.injEq,Prod.mk.injEq] at hr;obtain ⟨rfl,rfl⟩:=hr
      refine .same hS (v':=.tuple #[]) ?_ V.undef
      cases hv <;> simp [hav,builtin,Builtin.clear_,r_underlying hd]
    · rename_i h0
      split at hr
      · rename_i b off
        cases hw:h.wr b off ((List.replicate n (vcells z)).flatten) with
        | none=>simp [hw] at hr
        | some h2 =>
          simp only [hw,Option.map_some,Option.some.injEq,Prod.mk.injEq] at hr;obtain ⟨rfl,rfl⟩:=hr
          cases hv with
          | sl hb hc hs =>
            rename_i i
            obtain ⟨w',r1,r2⟩:=wr_sim hS hb ((VL.closed (ι:=ι) z 2 hzc).replicate n) hw
            refine ⟨.tuple #[],w',ι,.inl ?_,V.undef,r2⟩
            have e1:(Builtin.zeroCells z.cells n).toList=(List.replicate n (vcells z)).flatten:=by rw [zeroCells_list,vcells_eq]
            obtain ⟨n',rfl⟩:∃ n',n=n' + 1:=⟨n - 1,by omega⟩
            simp [hav,builtin,Builtin.clear_,r_underlying hd,r_zeroValue hz,e1,r1]
          | sle=>exact absurd rfl h0
      · cases hr
  · cases hr

theorem growBy_le (newLen:Nat):∀ (r c:Nat),256≤c→Builtin.growBy newLen r c≤2 ^ r * c:=by
  intro r
  induction r with
  | zero=>intro c _;simp [Builtin.growBy]
  | succ r ih =>
    intro c hc
    simp only [Builtin.growBy]
    split
    · rw [Nat.pow_succ]
      have:=Nat.le_mul_of_pos_left c (Nat.two_pow_pos r)
      calc c≤2 ^ r * c:=this
        _≤2 ^ r * 2 * c:=Nat.mul_le_mul_right _ (by omega)
    · refine Nat.le_trans (ih _ (by omega)) ?_
      rw [Nat.pow_succ,Nat.mul_assoc]
      exact Nat.mul_le_mul_left _ (by omega)

theorem next_le {need cap:Nat} (h:cap < need):Builtin.nextslicecap need cap≤16 * need:=by
  unfold Builtin.nextslicecap
  split
  · omega
  · split
    · omega
    · have:=growBy_le need 4 cap (by omega)
      simp at this;omega

/-- What append comes to where it grows. -/
theorem r_append_grow {t u E:TypeId} {ty:TypeId} {ti:TypeInfo} {z:Value} {s x:Value} {p:Option Addr} {n m sc:Nat} {old new:List Value} (hd:P.underlying t=some (.slice E)) {E':TypeId} (hu:P.underlying u=some (.slice E')∨P.underlying u=some .string)
    (hti:P.info? E=some ti) (hz:zeroT P E=some z) (hl:∀ w,(Builtin.lenOf x).run P w=.ok m w) (hlt:sc < n + m) (hle:(n + m) * ti.bytes≤limit) (hle2:n + m≤limit)
    (hold:∀ w',w'.heap=w.heap→(Builtin.firstCells ti.size n (.slice p n sc)).run P w'=.ok old.toArray w') (hnew:∀ w',w'.heap=w.heap→(Builtin.firstCells ti.size m x).run P w'=.ok new.toArray w') :
    ∃ cap w',n + m≤cap∧(Builtin.append_ #[t,u] ty #[.slice p n sc,x]).run P w=.ok (.slice (some ⟨w.heap.size,0,none⟩) (n + m) cap) w' ∧
      w'.heap=w.heap.push (.cells (old++new++(List.replicate (cap - (n + m)) (vcells z)).flatten).toArray E)∧w'.os=w.os∧w'.tape=w.tape∧w'.output=w.output∧w.drawn≤w'.drawn:=by
  have hs:sizeT P E=some ti.size:=by simp [sizeT,hti]
  simp only [limit] at hle hle2
  have hnl:=next_le hlt
  have e48:2 ^ 48=281474976710656:=by decide
  have hbig:¬ (Builtin.nextslicecap (n + m) sc * ti.bytes > 2 ^ 48):=by
    have:=Nat.mul_le_mul_right ti.bytes hnl
    rw [Nat.mul_assoc] at this
    rw [e48];omega
  have hmax:¬ (((n + m:Nat):Int) > IntKind.i64.max∧(False∨ti.bytes=0)):=by
    have:IntKind.i64.max=9223372036854775807:=by decide
    rw [this];omega
  have hnot:¬ (n + m≤sc):=by omega
  obtain ⟨K,hK,w1,hw1,hw2,hw3,hw4,hw5,hch⟩:∃ K,n + m≤K∧∃ w1:World,w1.heap=w.heap∧w1.os=w.os∧w1.tape=w.tape∧w1.output=w.output∧w.drawn≤w1.drawn∧(choose (.appendCap (n + m) sc E)).run P w=.ok K w1 :=
    ⟨(Question.appendCap (n + m) sc E).cut (w.tape w.drawn (.appendCap (n + m) sc E)),by simp only [Question.cut];omega,{ w with drawn:=w.drawn + 1 },rfl,rfl,rfl,rfl,Nat.le_succ _,by
      simp only [choose,Sem.run,Question.forced,Bool.false_eq_true,if_false]⟩
  have ez:∀ k,(Builtin.zeroCells z.cells k).toList=(List.replicate k (vcells z)).flatten:=fun k=>by rw [zeroCells_list,vcells_eq]
  refine ⟨K,w1.alloc (.cells (old++new++(List.replicate (K - (n + m)) (vcells z)).flatten).toArray E),hK,?_,by rw [← hw1];rfl,hw2,hw3,hw4,hw5⟩
  have harr:(old.toArray++new.toArray++Builtin.zeroCells z.cells (K - (n + m)))=(old++new++(List.replicate (K - (n + m)) (vcells z)).flatten).toArray:=by
    apply Array.ext'
    simp [ez]
  rcases hu with hu|hu <;> simp only [Builtin.append_,Sem.run_bind,r_underlying hd,r_underlying hu,Result.andThen_ok,r_sizeOf hs,Sem.run_pure,hl,Bool.false_eq_true,if_false,hnot,List.getElem?_toArray,List.getElem?_cons_zero,List.getElem?_cons_succ,r_typeInfo hti,hmax,hbig,hch,r_askRoom,
    hold w1 hw1,hnew w1 hw1,Bool.not_false,if_true,r_zeroValue hz,newRow,r_newObj,harr,hw1]

/-- What append comes to where there is room. -/
theorem r_append_room {t u E:TypeId} {ty:TypeId} {sz:Nat} {x:Value} {p:Option Addr} {n m sc:Nat} {new:List Value} (hd:P.underlying t=some (.slice E)) {E':TypeId} (hu:P.underlying u=some (.slice E')∨P.underlying u=some .string)
    (hs:sizeT P E=some sz) (hl:(Builtin.lenOf x).run P w=.ok m w) (hle:n + m≤sc) (hnew:(Builtin.firstCells sz m x).run P w=.ok new.toArray w) {w':World}
    (hst:∀ q,p=some q→(storeCells (q.add (n * sz)) new).run P w=.ok () w') (hno:p=none→w'=w) :
    (Builtin.append_ #[t,u] ty #[.slice p n sc,x]).run P w=.ok (.slice p (n + m) sc) w':=by
  cases p with
  | none =>
    rw [hno rfl]
    rcases hu with hu|hu <;> simp only [Builtin.append_,Sem.run_bind,r_underlying hd,r_underlying hu,Result.andThen_ok,r_sizeOf hs,Sem.run_pure,hl,Bool.false_eq_true,if_false,hle,List.getElem?_toArray,List.getElem?_cons_zero,List.getElem?_cons_succ,Bool.not_false,if_true,hnew]
  | some q =>
    rcases hu with hu|hu <;> simp only [Builtin.append_,Sem.run_bind,r_underlying hd,r_underlying hu,Result.andThen_ok,r_sizeOf hs,Sem.run_pure,hl,Bool.false_eq_true,if_false,hle,List.getElem?_toArray,List.getElem?_cons_zero,List.getElem?_cons_succ,Bool.not_false,if_true,hnew,hst q rfl]

theorem V.slice_inv {p:Option Addr} {n c:Nat} {u:Value} (hv:V ι (.slice p n c) u):∃ p' c',u=.slice p' n c'∧n≤c'∧(p=none→p'=none∧n=0∧c'=0):=by
  cases hv with
  | sl0=>exact ⟨_,_,rfl,Nat.le_refl _,fun _=>⟨rfl,rfl,rfl⟩⟩
  | sl hb hc hs=>exact ⟨_,_,rfl,hc,fun h=>by cases h⟩
  | sle=>exact ⟨_,_,rfl,Nat.le_refl _,fun h=>by cases h⟩

/-- A row that came out of append, in its place. -/
theorem append_row {t u E E' ty:TypeId} {ti:TypeInfo} {z:Value} {pv qv:Value} {b n m c1:Nat} {old new new':List Value}
    (hd:P.underlying t=some (.slice E)) (hu:P.underlying u=some (.slice E')∨P.underlying u=some .string) (hti:P.info? E=some ti) (hz:zeroT P E=some z) (hS:Sim P ι h w)
    (vp:V ι (.slice (some ⟨b,0,none⟩) n c1) pv) (hl:∀ w,(Builtin.lenOf qv).run P w=.ok m w) (vn:VL ι new new') (ln:new.length=m * ti.size) (hcok:new.all cellOk=true)
    (hnewAll:∀ w',w'.heap=w.heap→(Builtin.firstCells ti.size m qv).run P w'=.ok new'.toArray w') (hle1:(n + m) * ti.bytes≤limit) (hle2:n + m≤limit) (hm:m≠0)
    (hg:h.get b=some (.cells old (some ti.size))) (hlen:old.length=n * ti.size) (hprot:h.prot≤b) :
    ∃ r w' ι',(Builtin.append_ #[t,u] ty #[pv,qv]).run P w=.ok r w'∧V ι' (.slice (some ⟨h.size,0,none⟩) (n + m) (n + m)) r∧Rel P ι h w ι' ((h.set b .dead).push (.cells (old++new) (some ti.size))) w':=by
  have hs:sizeT P E=some ti.size:=by simp [sizeT,hti]
  obtain ⟨ti',hti',hz0,hzc,hzl⟩:=zeroT_inv hz
  rw [hti] at hti';cases hti'
  have hown:owned h b:=by unfold owned;rw [hg];trivial
  have l2:=vn.1
  obtain ⟨p',cp,rfl,hcp,hpn⟩:=vp.slice_inv
  clear hpn
  by_cases hroom:n + m≤cp
  · cases vp with
    | sl hb hc2 hs2 =>
      rename_i i
      obtain ⟨C,T,fz,k1,k2,k3,k4⟩:=hS.cells hb hg
      obtain ⟨kt,k5⟩:=k4 _ rfl
      have hsz:(n + m) * ti.size≤C.size:=by
        have:=hs2 rfl
        rw [k5] at this
        exact Nat.le_trans (Nat.mul_le_mul_right _ hroom) (by omega)
      rw [Nat.add_mul] at hsz
      have hlo:=k3.1
      simp only [Array.length_toList] at hlo
      obtain ⟨w',r1,r2,r3,r4,r5,r6⟩:=r_storeCells (P:=P) new' 0 (n * ti.size) w C k1 kt (by omega) (vn.cellOk hcok)
      have hrun2:=r_append_room (w:=w) (ty:=ty) (x:=qv) (p:=some ⟨i.blk,0,none⟩) (n:=n) (m:=m) (sc:=cp) (new:=new') hd hu hs (hl w) hroom (hnewAll w rfl) (w':=w')
        (fun q hq=>by cases hq;rw [addr_add,Nat.zero_add];exact r1) (fun hq=>by cases hq)
      have hn:=hS.none (Nat.le_refl h.size)
      have hle':=upd_le (i:=i) hn
      have hCl:C.toList.length=C.size:=by simp
      have hvp:VP ι (old++new) (splice C.toList (n * ti.size) new'):=by
        refine ⟨?_,?_⟩
        · rw [splice_length (by omega)];simp;omega
        · have e1:(splice C.toList (n * ti.size) new').take (old++new).length=C.toList.take old.length++new':=by
            unfold splice
            rw [hlen]
            rw [List.take_append_of_le_length (by simp;omega)]
            rw [List.take_of_length_le (by simp;omega)]
          rw [e1];exact k3.2.append vn
      have hobj:ObjRel P (upd ι h.size i) i (.cells (old++new) (some ti.size)) (.cells (splice C.toList (0 + n * ti.size) new').toArray T fz):=by
        refine ⟨_,T,fz,rfl,?_,?_,fun q hq=>⟨by simp only [Nat.zero_add,List.size_toArray];rw [splice_length (by omega)];rw [hCl];exact kt,by cases hq;exact k5⟩⟩
        · simp only [Nat.zero_add,List.size_toArray];rw [splice_length (by omega)];omega
        · simp only [Nat.zero_add];exact hvp.mono hle'
      rw [Nat.add_zero,← Nat.zero_add (n * ti.size)] at r2
      exact ⟨_,w',_,hrun2,V.sl (i:=i) (upd_same _ _ _) hroom (fun _=>hs2 rfl),Rel.move hS hb hown hprot hobj r2 r3 r4 r5⟩
    | sle=>omega
  · have hold:∃ old',VL ι old old'∧∀ w',w'.heap=w.heap→(Builtin.firstCells ti.size n (.slice p' n cp)).run P w'=.ok old'.toArray w':=by
      cases vp with
      | sl hb hc2 hs2 =>
        rename_i i
        obtain ⟨C,T,fz,k1,k2,k3,k4⟩:=hS.cells hb hg
        refine ⟨(C.toList.drop 0).take (n * ti.size),?_,fun w' hw'=>?_⟩
        · have:=k3.2;rw [hlen] at this;simpa using this
        · simp only [Builtin.firstCells]
          exact r_loadCells (w:=w') (by rw [hw'];exact k1) (by have:=k3.1;simp at this;omega)
      | sle =>
        refine ⟨[],?_,fun w' _=>firstCells_zero _ _ _ _⟩
        have:old=[]:=List.length_eq_zero_iff.1 (by rw [hlen];simp)
        rw [this];exact VL.nil ι
    obtain ⟨old',vo,ro⟩:=hold
    obtain ⟨cap,w',hcap,hr1,hr2,hr3,hr4,hr5,hr6⟩:=r_append_grow (w:=w) (ty:=ty) (s:=.slice p' n cp) (x:=qv) (p:=p') (n:=n) (sc:=cp) (old:=old') (new:=new') hd hu hti hz hl (by omega) hle1 hle2 ro hnewAll
    have kk:=Rel.kill hS hprot
    have l1:=vo.1
    generalize hC:(old'++new'++(List.replicate (cap - (n + m)) (vcells z)).flatten).toArray=C at hr2
    have hCs:C.size=cap * ti.size:=by
      rw [← hC];simp [hzl]
      rw [← l1,← l2,hlen,ln,← Nat.add_mul,← Nat.add_mul];congr 1;omega
    have hvp:VP ι (old++new) C.toList:=by
      rw [← hC]
      refine ⟨by simp;omega,?_⟩
      have hl3:(old++new).length=(old'++new').length:=by simp [l1,l2]
      simp only
      rw [List.take_left' hl3.symm];exact vo.append vn
    exact ⟨_,w',_,hr1,V.sl (i:=⟨w.heap.size,C.size,ti.size⟩) (upd_same ι h.size _) hcap (fun _=>by simp [hCs]),Rel.trans hS kk (new_cells (own:=ti.size) kk.sim hvp hr2 hr3 hr4 hr5)⟩

theorem append_nil {t u E E' ty:TypeId} {ti:TypeInfo} {z:Value} {qv:Value} {p':Option Addr} {m:Nat} {new new':List Value}
    (hd:P.underlying t=some (.slice E)) (hu:P.underlying u=some (.slice E')∨P.underlying u=some .string) (hti:P.info? E=some ti) (hz:zeroT P E=some z) (hS:Sim P ι h w)
    (hl:∀ w,(Builtin.lenOf qv).run P w=.ok m w) (vn:VL ι new new') (ln:new.length=m * ti.size)
    (hnewAll:∀ w',w'.heap=w.heap→(Builtin.firstCells ti.size m qv).run P w'=.ok new'.toArray w') (hle1:(0 + m) * ti.bytes≤limit) (hle2:0 + m≤limit) (hm:m≠0) :
    ∃ r w' ι',(Builtin.append_ #[t,u] ty #[.slice p' 0 0,qv]).run P w=.ok r w'∧V ι' (.slice (some ⟨h.size,0,none⟩) m m) r∧Rel P ι h w ι' (h.push (.cells new (some ti.size))) w':=by
  obtain ⟨ti',hti',hz0,hzc,hzl⟩:=zeroT_inv hz
  rw [hti] at hti';cases hti'
  have l2:=vn.1
  obtain ⟨cap,w',hcap,hr1,hr2,hr3,hr4,hr5,hr6⟩:=r_append_grow (w:=w) (ty:=ty) (s:=qv) (x:=qv) (p:=p') (n:=0) (sc:=0) (old:=[]) (new:=new') hd hu hti hz hl (by omega) hle1 hle2 (fun w' _=>firstCells_zero _ _ _ _) hnewAll
  simp only [Nat.zero_add,List.nil_append] at hr1 hcap hr2
  generalize hC:(new'++(List.replicate (cap - m) (vcells z)).flatten).toArray=C at hr2
  have hCs:C.size=cap * ti.size:=by
    rw [← hC];simp [hzl]
    rw [← l2,ln,← Nat.add_mul];congr 1;omega
  have hvp:VP ι new C.toList:=by
    rw [← hC]
    refine ⟨by simp;omega,?_⟩
    simp only
    rw [List.take_left' l2.symm];exact vn
  exact ⟨_,w',_,hr1,V.sl (i:=⟨w.heap.size,C.size,ti.size⟩) (upd_same ι h.size _) hcap (fun _=>by simp [hCs]),new_cells (own:=ti.size) hS hvp hr2 hr3 hr4 hr5⟩

theorem firstCells_all {s m:Nat} {q':Value} {b o:Nat} {n c:Nat} {new:List Value} (hq:V ι (.slice (some ⟨b,o,none⟩) n c) q') (hm:0 < m) (hmn:m≤n) (hS:Sim P ι h w) (hr:h.rd b o (m * s)=some new) :
    ∃ new',VL ι new new'∧new.length=m * s∧∀ w',w'.heap=w.heap→(Builtin.firstCells s m q').run P w'=.ok new'.toArray w':=by
  cases hq with
  | sl hb hc hs =>
    rename_i i
    obtain ⟨cs,own,hg,⟨hle,hj⟩,rfl⟩:=rd_inv hr
    obtain ⟨C,T',fz,h1,h2,h3,h4⟩:=hS.cells hb hg
    replace h3:=h3.toJ
    refine ⟨_,h3.sub o _ hle hj,by simp;omega,fun w' hw'=>?_⟩
    simp only [Builtin.firstCells]
    exact r_loadCells (w:=w') (by rw [hw'];exact h1) (by have:=h3.1;simp at this;omega)
  | sle=>omega

theorem s_append {o:Oper} {x y:Operand} {args:Array Operand} {ts:Array TypeId} {t u E E':TypeId} {ti:TypeInfo} {z:Value} (ho:o.op=.call ⟨.builtin .append,args,ts⟩) (ha:args.toList=[x,y]) (ht:ts.toList=[t,u]) (hx:okO x=true) (hy:okO y=true)
    (hd:P.underlying t=some (.slice E)) (hu:P.underlying u=some (.slice E')) (hti:P.info? E=some ti) (hz:zeroT P E=some z) (hS:Sim P ι h w) (hF:FR N ι e a.tmps)
    (hr:aop (.append ti.size ti.bytes x y) e h=some (v,h')):OpRes P ι h w ((execOp a.eval o).run P w) v h':=by
  obtain ⟨cs,hrun⟩:=r_builtin (a:=a) (P:=P) (w:=w) ho
  obtain rfl:args=#[x,y]:=by apply Array.ext';simpa using ha
  obtain rfl:ts=#[t,u]:=by apply Array.ext';simpa using ht
  have hs:sizeT P E=some ti.size:=by simp [sizeT,hti]
  rw [hrun]
  have hfin:∀ (s q r:Value) (w':World),(Builtin.append_ #[t,u] o.type #[s,q]).run P w=.ok r w'→(builtin .append #[t,u] o.type cs #[s,q]).run P w=.ok (.value r) w':=by
    intro s q r w' hu
    simp only [builtin,Sem.run_bind,hu,Result.andThen_ok,Sem.run_pure]
  simp only [aop] at hr
  split at hr
  · rename_i p n c1 q m c2 hp hq
    have vp:=hF.ev hx hp
    have vq:=hF.ev hy hq
    simp only [List.map_toArray,List.map_cons,List.map_nil]
    generalize a.eval x=pv at vp
    generalize a.eval y=qv at vq
    have hl:=fun w=>lenOf_sound (P:=P) (w:=w) vq
    split at hr
    · rename_i h0
      subst h0
      simp only [Option.some.injEq,Prod.mk.injEq] at hr;obtain ⟨rfl,rfl⟩:=hr
      obtain ⟨q',c',rfl,_,_⟩:=vq.slice_inv
      obtain ⟨p',cp,rfl,hcp,hpn⟩:=vp.slice_inv
      refine .same hS (v':=.slice p' n cp) (hfin _ _ _ _ ?_) vp
      exact r_append_room (new:=[]) hd (.inl hu) hs (hl w) (by omega) (firstCells_zero _ _ _ _) (fun q _=>rfl) (fun _=>rfl)
    · rename_i hm0
      split at hr
      · rename_i hle
        split at hr
        · rename_i qb qo
          split at hr
          · rename_i new hnew
            obtain ⟨new',vn,ln,rn⟩:=firstCells_all (P:=P) (w:=w) (s:=ti.size) (m:=m) vq (by omega) (Nat.le_refl _) hS hnew
            split at hr
            · rename_i hcok
              split at hr
              · split at hr
                · rename_i hn0
                  subst hn0
                  simp only [Option.some.injEq,Prod.mk.injEq] at hr;obtain ⟨rfl,rfl⟩:=hr
                  cases vp
                  obtain ⟨r,w',ι',g1,g2,g3⟩:=append_nil (ty:=o.type) hd (.inl hu) hti hz hS hl vn ln rn hle.1 hle.2 hm0
                  exact ⟨r,w',ι',.inl (hfin _ _ _ _ g1),g2,g3⟩
                · cases hr
              · rename_i b
                split at hr
                · rename_i old zz hg
                  split at hr
                  · rename_i hc
                    obtain ⟨rfl,hlen,hprot,hpos⟩:=hc
                    simp only [Option.some.injEq,Prod.mk.injEq] at hr;obtain ⟨rfl,rfl⟩:=hr
                    obtain ⟨r,w',ι',g1,g2,g3⟩:=append_row (ty:=o.type) hd (.inl hu) hti hz hS vp hl vn ln hcok rn hle.1 hle.2 hm0 hg hlen hprot
                    exact ⟨r,w',ι',.inl (hfin _ _ _ _ g1),g2,g3⟩
                  · cases hr
                · cases hr
              · split at hr
                · rename_i hn0
                  subst hn0
                  simp only [Option.some.injEq,Prod.mk.injEq] at hr;obtain ⟨rfl,rfl⟩:=hr
                  cases vp
                  obtain ⟨r,w',ι',g1,g2,g3⟩:=append_nil (ty:=o.type) hd (.inl hu) hti hz hS hl vn ln rn hle.1 hle.2 hm0
                  exact ⟨r,w',ι',.inl (hfin _ _ _ _ g1),g2,g3⟩
                · cases hr
              · cases hr
            · cases hr
          · cases hr
        · cases hr
      · cases hr
  · cases hr

theorem max2_int (k:IntKind) (x y:Int):(Builtin.max2 (.int k x) (.int k y)).run P w=.ok (.int k (if y > x then y else x)) w:=rfl
theorem min2_int (k:IntKind) (x y:Int):(Builtin.min2 (.int k x) (.int k y)).run P w=.ok (.int k (if y < x then y else x)) w:=rfl

theorem minmaxF_sound (mx:Bool) (k:IntKind):∀ (r:List Value) (acc:Int),minmaxF mx k acc r=some v→r.all AM.scal=true∧AM.scal v=true∧(r.foldlM (if mx then Builtin.max2 else Builtin.min2) (.int k acc)).run P w=.ok v w:=by
  intro r
  induction r with
  | nil=>intro acc hr;simp only [minmaxF,Option.some.injEq] at hr;subst hr;exact ⟨rfl,rfl,by simp⟩
  | cons y r ih =>
    intro acc hr
    cases y <;> first|(simp only [minmaxF,reduceCtorEq] at hr;done)|skip
    simp only [minmaxF] at hr
    split at hr
    · rename_i hk
      subst hk
      obtain ⟨g1,g2,g3⟩:=ih _ hr
      refine ⟨by simp [g1,AM.scal],g2,?_⟩
      rw [List.foldlM_cons]
      cases mx
      · simp only [Bool.false_eq_true,if_false,cond_false] at g3 ⊢
        simp only [Sem.run_bind,min2_int,Result.andThen_ok];exact g3
      · simp only [if_true,cond_true] at g3 ⊢
        simp only [Sem.run_bind,max2_int,Result.andThen_ok];exact g3
    · cases hr

theorem minmax_sound (mx:Bool) {l:List Value} (hr:minmax mx l=some v):l.all AM.scal=true∧AM.scal v=true∧((if mx then Builtin.max_ #[] 0 l.toArray else Builtin.min_ #[] 0 l.toArray).run P w=.ok v w):=by
  unfold minmax at hr
  split at hr
  · rename_i k p r
    obtain ⟨g1,g2,g3⟩:=minmaxF_sound (P:=P) (w:=w) mx k r p hr
    refine ⟨by simp [g1,AM.scal],g2,?_⟩
    cases mx
    · exact g3
    · exact g3
  · cases hr

theorem s_max {o:Oper} {args:Array Operand} {ts:Array TypeId} (ho:o.op=.call ⟨.builtin .max,args,ts⟩) (hx:args.toList.all okO=true) (hS:Sim P ι h w) (hF:FR N ι e a.tmps)
    (hr:aop (.max args.toList) e h=some (v,h')):OpRes P ι h w ((execOp a.eval o).run P w) v h':=by
  obtain ⟨cs,hrun⟩:=r_builtin (a:=a) (P:=P) (w:=w) ho
  rw [hrun]
  simp only [aop] at hr
  cases hvs:evs e args.toList with
  | none=>simp [hvs] at hr
  | some vs =>
    cases hm:minmax true vs with
    | none=>simp [hvs,hm] at hr
    | some u =>
      simp only [hvs,hm,Option.bind_some,Option.map_some,Option.some.injEq,Prod.mk.injEq] at hr;obtain ⟨rfl,rfl⟩:=hr
      obtain ⟨g1,g2,g3⟩:=minmax_sound (P:=P) (w:=w) true hm
      have e1:=(hF.evs hx hvs).scal g1
      refine .same hS (v':=u) ?_ (V.of_scal g2)
      have e2:args.map a.eval=vs.toArray:=by apply Array.ext';simpa using e1
      rw [e2]
      have:(Builtin.max_ ts o.type vs.toArray).run P w=.ok u w:=g3
      simp only [builtin,Sem.run_bind,this,Result.andThen_ok,Sem.run_pure]

theorem s_min {o:Oper} {args:Array Operand} {ts:Array TypeId} (ho:o.op=.call ⟨.builtin .min,args,ts⟩) (hx:args.toList.all okO=true) (hS:Sim P ι h w) (hF:FR N ι e a.tmps)
    (hr:aop (.min args.toList) e h=some (v,h')):OpRes P ι h w ((execOp a.eval o).run P w) v h':=by
  obtain ⟨cs,hrun⟩:=r_builtin (a:=a) (P:=P) (w:=w) ho
  rw [hrun]
  simp only [aop] at hr
  cases hvs:evs e args.toList with
  | none=>simp [hvs] at hr
  | some vs =>
    cases hm:minmax false vs with
    | none=>simp [hvs,hm] at hr
    | some u =>
      simp only [hvs,hm,Option.bind_some,Option.map_some,Option.some.injEq,Prod.mk.injEq] at hr;obtain ⟨rfl,rfl⟩:=hr
      obtain ⟨g1,g2,g3⟩:=minmax_sound (P:=P) (w:=w) false hm
      have e1:=(hF.evs hx hvs).scal g1
      refine .same hS (v':=u) ?_ (V.of_scal g2)
      have e2:args.map a.eval=vs.toArray:=by apply Array.ext';simpa using e1
      rw [e2]
      have:(Builtin.min_ ts o.type vs.toArray).run P w=.ok u w:=g3
      simp only [builtin,Sem.run_bind,this,Result.andThen_ok,Sem.run_pure]


/-- A string's bytes. -/
theorem s_convSB {o:Oper} {S D E:TypeId} {x:Operand} (ho:o.op=.convert S D x) (hx:okO x=true) (h1:P.underlying S=some .string) (h2:P.underlying D=some (.slice E)) (h3:P.underlying E=some (.int .u8)) (hS:Sim P ι h w) (hF:FR N ι e a.tmps)
    (hr:aop (.convSB x) e h=some (v,h')):OpRes P ι h w ((execOp a.eval o).run P w) v h':=by
  simp only [aop] at hr
  split at hr
  · rename_i s hp
    simp only [Option.some.injEq,Prod.mk.injEq] at hr;obtain ⟨rfl,rfl⟩:=hr
    have e1:=(hF.ev hx hp).scal rfl
    have hcap:s.size≤grownCap w s.size 0 E:=grownCap_ge _ _ _ _
    have hCs:(Lib.bytesCells w E s).size=grownCap w s.size 0 E:=by
      unfold Lib.bytesCells
      simp only [Array.size_append,Array.size_map,Array.size_replicate]
      have:s.data.size=s.size:=rfl
      omega
    have hheap:(Lib.bytesWorld w E s).heap=w.heap.push (.cells (Lib.bytesCells w E s) E ((Lib.bytesCells w E s).size,(Lib.bytesCells w E s).size + 1)):=by
      apply Array.ext_getElem?
      intro k
      rw [Array.getElem?_push]
      by_cases hk:k < w.heap.size
      · rw [if_neg (by omega),Lib.bytesWorld_at_old w E s k hk]
      · by_cases hk2:k=w.heap.size
        · rw [if_pos hk2,hk2,Lib.bytesWorld_at_new]
        · rw [if_neg hk2,Array.getElem?_eq_none (by rw [Lib.bytesWorld_size];omega),Array.getElem?_eq_none (by omega)]
    have hvp:VP ι (bytesL s) (Lib.bytesCells w E s).toList:=by
      have hl:(bytesL s).length=s.size:=by unfold bytesL;simp
      have e2:(Lib.bytesCells w E s).toList.take (bytesL s).length=bytesL s:=by
        rw [hl]
        unfold Lib.bytesCells bytesL
        rw [Array.toList_append,List.take_append_of_le_length (by simp),List.take_of_length_le (by simp)]
        simp
      refine ⟨by rw [hl];simp only [Array.length_toList];omega,?_⟩
      rw [e2]
      refine ⟨rfl,fun j a b ha hb=>?_⟩
      rw [ha] at hb;cases hb
      unfold bytesL at ha
      rw [List.getElem?_map] at ha
      obtain ⟨y,_,rfl⟩:=Option.map_eq_some_iff.1 ha
      exact .int _ _
    refine ⟨_,_,upd ι h.size ⟨w.heap.size,(Lib.bytesCells w E s).size,1⟩,.inl (by simp only [execOp,ho,Sem.run_bind,e1,Lib.run_convert_string_bytes w S D E s h1 h2 h3,Result.andThen_ok,Sem.run_pure];rfl),V.sl (i:=⟨w.heap.size,(Lib.bytesCells w E s).size,1⟩) (upd_same _ _ _) hcap (fun _=>by simp [hCs]),?_⟩
    exact Rel.push hS rfl ⟨_,E,_,rfl,rfl,hvp.mono (upd_le (hS.none (Nat.le_refl _))),fun z hz=>⟨fun o ho=>by simp only;rw [decide_eq_false (by omega)];rfl,by cases hz;rfl⟩⟩ hheap rfl rfl rfl (Nat.le_succ _)
  · cases hr
theorem u8s_some:∀ {l:List Value} {zs:List Int},u8s l=some zs→l=zs.map (.int .u8)
  | [],zs,h=>by cases h;rfl
  | v::r,zs,h=>by
    unfold u8s at h
    split at h
    · rename_i he;cases he
    · rename_i he
      cases he
      obtain ⟨q,h1,h2⟩:=Option.map_eq_some_iff.1 h
      subst h2
      rw [u8s_some h1];rfl
    · cases h
theorem VL.u8s:∀ {ns:List Int} {l:List Value},VL ι (ns.map (.int .u8)) l→l=ns.map (.int .u8)
  | [],l,h=>by rw [List.map_nil] at h;exact h.nil_inv
  | n::ns,l,h=>by
    rw [List.map_cons] at h
    obtain ⟨b,r,rfl,h1,h2⟩:=h.inv
    cases h1
    rw [VL.u8s h2];rfl
/-- A text of bytes. -/
theorem s_convBS {o:Oper} {S D E:TypeId} {x:Operand} (ho:o.op=.convert S D x) (hx:okO x=true) (h1:P.underlying S=some (.slice E)) (h2:P.underlying D=some .string) (h3:P.underlying E=some (.int .u8)) (hS:Sim P ι h w) (hF:FR N ι e a.tmps)
    (hr:aop (.convBS x) e h=some (v,h')):OpRes P ι h w ((execOp a.eval o).run P w) v h':=by
  simp only [aop] at hr
  split at hr
  · rename_i p n c hp
    have hv:=hF.ev hx hp
    generalize hav:a.eval x=av at hv
    split at hr
    · rename_i h0
      subst h0
      simp only [Option.some.injEq,Prod.mk.injEq] at hr;obtain ⟨rfl,rfl⟩:=hr
      obtain ⟨q,c',rfl,_,_⟩:=hv.slice_inv
      refine .same hS (v':=.string .empty) ?_ (.str _)
      simp only [execOp,ho,Sem.run_bind,hav,run_convert_bytes_string w S D E q 0 c' h1 h3 h2]
      cases q with
      | none=>simp [Conv.bytesToString,Sem.run_pure]
      | some q =>
        have:=run_bytesToString (P:=P) w q 0 c' [] (by simp [loadCells,loadCellsFrom,Sem.run_pure])
        rw [this];simp [Sem.run_pure]
    · rename_i hn0
      split at hr
      · rename_i b off
        split at hr
        · rename_i cs hrd
          cases hu:u8s cs with
          | none=>simp [hu] at hr
          | some ns =>
            simp only [hu,Option.map_some,Option.some.injEq,Prod.mk.injEq] at hr;obtain ⟨rfl,rfl⟩:=hr
            have hcs:=u8s_some hu
            subst hcs
            cases hv with
            | sl hb hc hs =>
              rename_i i
              obtain ⟨c2,k1,k2,k3⟩:=rd_sim hS hb hrd
              have:=k1.u8s
              subst this
              refine .same hS (v':=.string (textOf ns)) ?_ (.str _)
              simp only [execOp,ho,Sem.run_bind,hav,run_convert_bytes_string w S D E _ _ _ h1 h3 h2,run_bytesToString w _ _ _ ns k3,Result.andThen_ok,Sem.run_pure]
              rfl
            | sle=>exact absurd rfl hn0
        · cases hr
      · cases hr
  · cases hr

theorem bytesL_len (s:ByteArray):(bytesL s).length=s.size:=by unfold bytesL;simp
theorem bytesL_VL (s:ByteArray):VL ι (bytesL s) (bytesL s):=by
  refine ⟨rfl,fun j a b ha hb=>?_⟩
  rw [ha] at hb;cases hb
  unfold bytesL at ha
  rw [List.getElem?_map] at ha
  obtain ⟨y,_,rfl⟩:=Option.map_eq_some_iff.1 ha
  exact .int _ _
theorem bytesL_ok (s:ByteArray):(bytesL s).all cellOk=true:=by
  rw [List.all_eq_true]
  intro v hv
  unfold bytesL at hv
  obtain ⟨y,_,rfl⟩:=List.mem_map.1 hv
  rfl
theorem firstCells_str (s:ByteArray):(Builtin.firstCells 1 s.size (.string s)).run P w=.ok (bytesL s).toArray w:=by
  simp only [Builtin.firstCells,Sem.run_pure]
  congr 1
  apply Array.ext'
  unfold bytesL
  have:s.extract 0 s.size=s:=by
    apply ByteArray.ext
    simp
  rw [this];simp
/-- A text put behind bytes. -/
theorem s_appS {o:Oper} {x y:Operand} {args:Array Operand} {ts:Array TypeId} {t u E:TypeId} {ti:TypeInfo} {z:Value} (ho:o.op=.call ⟨.builtin .append,args,ts⟩) (ha:args.toList=[x,y]) (ht:ts.toList=[t,u]) (hx:okO x=true) (hy:okO y=true)
    (hd:P.underlying t=some (.slice E)) (hu:P.underlying u=some .string) (hti:P.info? E=some ti) (hz:zeroT P E=some z) (h1:ti.size=1) (hS:Sim P ι h w) (hF:FR N ι e a.tmps)
    (hr:aop (.appS ti.bytes x y) e h=some (v,h')):OpRes P ι h w ((execOp a.eval o).run P w) v h':=by
  obtain ⟨cs,hrun⟩:=r_builtin (a:=a) (P:=P) (w:=w) ho
  obtain rfl:args=#[x,y]:=by apply Array.ext';simpa using ha
  obtain rfl:ts=#[t,u]:=by apply Array.ext';simpa using ht
  have hs:sizeT P E=some ti.size:=by simp [sizeT,hti]
  rw [hrun]
  have hfin:∀ (s q r:Value) (w':World),(Builtin.append_ #[t,u] o.type #[s,q]).run P w=.ok r w'→(builtin .append #[t,u] o.type cs #[s,q]).run P w=.ok (.value r) w':=by
    intro s q r w' hu
    simp only [builtin,Sem.run_bind,hu,Result.andThen_ok,Sem.run_pure]
  simp only [aop] at hr
  split at hr
  · rename_i p n c1 str hp hq
    have vp:=hF.ev hx hp
    have vq:=(hF.ev hy hq).scal rfl
    simp only [List.map_toArray,List.map_cons,List.map_nil]
    rw [vq]
    generalize a.eval x=pv at vp
    have hl:∀ w,(Builtin.lenOf (.string str)).run P w=.ok str.size w:=fun w=>by simp [Builtin.lenOf,Sem.run_pure]
    have hu':P.underlying u=some (.slice E)∨P.underlying u=some .string:=.inr hu
    have rn:∀ w',w'.heap=w.heap→(Builtin.firstCells ti.size str.size (.string str)).run P w'=.ok (bytesL str).toArray w':=fun w' _=>by rw [h1];exact firstCells_str str
    have ln:(bytesL str).length=str.size * ti.size:=by rw [h1,bytesL_len,Nat.mul_one]
    unfold appTo at hr
    rw [← h1] at hr
    split at hr
    · rename_i h0
      simp only [Option.some.injEq,Prod.mk.injEq] at hr;obtain ⟨rfl,rfl⟩:=hr
      obtain ⟨p',cp,rfl,hcp,hpn⟩:=vp.slice_inv
      refine .same hS (v':=.slice p' n cp) (hfin _ _ _ _ ?_) vp
      have hn:bytesL str=[]:=List.length_eq_zero_iff.1 (by rw [bytesL_len];exact h0)
      have:=r_append_room (w:=w) (ty:=o.type) (x:=.string str) (p:=p') (n:=n) (m:=str.size) (sc:=cp) (new:=[]) hd hu' hs (hl w) (by omega) (by rw [rn w rfl,hn]) (w':=w) (fun q _=>rfl) (fun _=>rfl)
      rw [this,h0];rfl
    · rename_i hm0
      split at hr
      · rename_i hle
        split at hr
        · split at hr
          · rename_i hn0
            subst hn0
            simp only [Option.some.injEq,Prod.mk.injEq] at hr;obtain ⟨rfl,rfl⟩:=hr
            cases vp
            obtain ⟨r,w',ι',g1,g2,g3⟩:=append_nil (ty:=o.type) hd hu' hti hz hS hl (bytesL_VL str) ln rn hle.1 hle.2 hm0
            exact ⟨r,w',ι',.inl (hfin _ _ _ _ g1),g2,g3⟩
          · cases hr
        · rename_i b
          split at hr
          · rename_i old zz hg
            split at hr
            · rename_i hc
              obtain ⟨rfl,hlen,hprot,hpos⟩:=hc
              simp only [Option.some.injEq,Prod.mk.injEq] at hr;obtain ⟨rfl,rfl⟩:=hr
              obtain ⟨r,w',ι',g1,g2,g3⟩:=append_row (ty:=o.type) hd hu' hti hz hS vp hl (bytesL_VL str) ln (bytesL_ok str) rn hle.1 hle.2 hm0 hg hlen hprot
              exact ⟨r,w',ι',.inl (hfin _ _ _ _ g1),g2,g3⟩
            · cases hr
          · cases hr
        · cases hr
      · cases hr
  · cases hr
end Go.AM

