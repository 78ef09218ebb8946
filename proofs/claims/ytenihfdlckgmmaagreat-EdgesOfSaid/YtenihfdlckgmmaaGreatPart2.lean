/- What the functions do, part 2. -/
import Derived.Test.YtenihfdlckgmmaaGreatPart1
import Derived.Test.YtenihfdlckgmmaaGreatSetLaw
namespace Go.AMS
open Go.AM hiding Kt At WP WL Runs RunsY
open Go.AM.G
set_option linter.unusedVariables false
set_option linter.unusedSimpArgs false
set_option linter.unusedSectionVars false
set_option maxRecDepth 100000
set_option maxHeartbeats 1000000
attribute [local irreducible] AtS AtV AtC AtG FinA Spec Post LP G.At G.WP G.WL pt own fro rdl ro hx mp lrec elt sub

open Go.AM.G.Set
section
variable {b:Nat} {T:Tb} {s h:List HTx} {p q:Option Addr} {c d:Nat}
theorem zhj {l:List HTx} (hl:l.length≤1000000000):Spec prog1 za4 [.slice p l.length c] [fro kHTx p c l] (fun R=>∀ p' c',R (.slice p' l.length c') [own kHTx p' c' l]):=by
 refine spec_code zgv rfl ?_;intro n F R hR;unfold zco
 repeat' first|apply step|(apply gO;·repeat first|exact eZ|(apply eS;exact rfl))|(refine Br.mk (fun _=>?_) (fun _=>?_)<;>try (exfalso;omega))|(refine Sd.mk ?_ ?_;·exact qD)|refine Fa.mk fun _=>?_|refine Im.mk fun _=>?_|refine g_cond ?_|refine g_fin ?_
 ·subst_vars
  exact fin (hR none 0)
 ·exact fin (hR _ _)
theorem zlj {a j:Nat} (ha:a < s.length) (hj:j < s[a].ops.length):(stepsL s)[opsN (s.take a) + j]? = some (s[a],j):=by
 have e:stepsL s=stepsL (s.take a)++((List.range s[a].ops.length).map fun i=>(s[a],i))++stepsL (s.drop (a + 1)):=by
  conv=>lhs;rw [← List.take_append_drop a s,List.drop_eq_getElem_cons ha]
  unfold stepsL
  rw [List.flatMap_append,List.flatMap_cons,List.append_assoc]
 rw [e,List.append_assoc,← zdF,List.getElem?_append_right (by omega),Nat.add_sub_cancel_left,List.getElem?_append_left (by simp;exact hj)]
 simp [hj]
def vaT (x:Option Addr × Nat):Option (HTx × Nat)→List Value
 | some (t,j)=>[.agg #[.int .i64 t.id,.bool t.ab,.slice x.1 t.ops.length x.2],.int .i64 (j:Int)]
 | none=>[.bool true,.bool true]
def paT (x:Option Addr × Nat):Option (HTx × Nat)→List HP
 | some (t,j)=>[fro kHOp x.1 x.2 t.ops]
 | none=>[]
theorem ziC:Spec prog1 zaF [.slice p s.length c] [] (fun R=>∀ x,R (.func (.func zar) #[] #[.pointer (some ⟨x,0,none⟩)]) [pt x [.slice p s.length c] 0]):=by
 refine spec_code zjb rfl ?_;intro n F R hR;unfold zcn
 repeat' first|apply step|(apply gO;·repeat first|exact eZ|(apply eS;exact rfl))|refine Fa.mk fun _=>?_|refine g_fin ?_
 exact fin (hR _)
theorem zkn {x ly:Nat} {A:Nat→HP} {B:AX→HP} (hs:s.length≤1000) (hN:opsN s≤1000) (hy:∀ i,i < opsN s→∀ w,YSpec prog1 ly (vaT w (stepsL s)[i]?) (A i::paT w (stepsL s)[i]?) (fun R=>R (.bool true) [A (i + 1)]∧∀ x,x≠.norm→R (.bool false) [B x])) :
  Spec prog1 zar [.func (.yield ly) #[] #[],.pointer (some ⟨x,0,none⟩)] [A 0,pt x [.slice p s.length c] 0,fro kHTx p c s] (fun R=>(∀ v,R v [A (opsN s)])∧∀ x v,x≠.norm→R v [B x]):=by
 refine spec_code ziQ rfl ?_;intro n F R hR;unfold zbR
 repeat' first|apply step|(apply gO;·repeat first|exact eZ|(apply eS;exact rfl))|refine g_keep ?_
 refine at_loopS (ι:=Nat) (E:=fun j=>[(0,.func (.yield ly) #[] #[]),(6,.slice p s.length c),(7,.int .i64 (s.length:Int)),(8,.int .i64 (j:Int))]) (Δ:=fun j=>A (opsN (s.take j))::fro kHTx p c s::F) (P:=fun j=>j≤s.length) (μ:=fun j=>s.length - j) 0 (Nat.zero_le _) ?_
 rintro j hj
 dsimp only
 rcases Nat.lt_or_ge j s.length with hlt|hge
 ·have h1:=zm hlt
  have h2:=zv s (j + 1)
  have hyi:∀ k,k < s[j].ops.length→∀ w:Option Addr × Nat,YSpec prog1 ly [.agg #[.int .i64 s[j].id,.bool s[j].ab,.slice w.1 s[j].ops.length w.2],.int .i64 (k:Int)] [A (opsN (s.take j) + k),fro kHOp w.1 w.2 s[j].ops] (fun R=>R (.bool true) [A (opsN (s.take j) + (k + 1))]∧∀ x,x≠.norm→R (.bool false) [B x]):=fun k hk w=>by
   have:=hy (opsN (s.take j) + k) (by omega) w
   rw [zlj hlt hk] at this
   exact this
  repeat' first|apply step|(apply gO;·repeat first|exact eZ|(apply eS;exact rfl))|(refine Br.mk (fun _=>?_) (fun _=>?_)<;>try (exfalso;omega))|(refine Sd.mk ?_ ?_;·exact qD)|(refine Sx.mk ?_ ?_;·omega)|refine Fa.mk fun _=>?_|refine Im.mk fun _=>?_|refine g_cond ?_|refine g_keep ?_
  rename_i _ px _ tb
  refine at_loopS (ι:=Nat) (E:=fun k=>[(0,.func (.yield ly) #[] #[]),(4,.pointer (some ⟨tb,0,none⟩)),(6,.slice p s.length c),(7,.int .i64 (s.length:Int)),(8,.int .i64 (j:Int)),(14,.int .i64 (s[j].ops.length:Int)),(15,.int .i64 (k:Int))]) (Δ:=fun k=>A (opsN (s.take j) + k)::pt tb [.int .i64 s[j].id,.bool s[j].ab,.slice px.1 s[j].ops.length px.2] 0::fro kHOp px.1 px.2 s[j].ops::fro kHTx p c s::F) (P:=fun k=>k≤s[j].ops.length) (μ:=fun k=>s[j].ops.length - k) 0 (Nat.zero_le _) ?_
  rintro k hk
  try dsimp only
  repeat' first|apply step|(apply gO;·repeat first|exact eZ|(apply eS;exact rfl))|(refine Br.mk (fun _=>?_) (fun _=>?_)<;>try (exfalso;omega))|(refine Sd.mk ?_ ?_;·exact qD)|refine g_cond ?_|refine g_keep ?_
  ·refine at_callY (hyi k (by omega) px) ⟨?_,fun x hx=>?_⟩
   ·repeat' first|apply step|(apply gO;·repeat first|exact eZ|(apply eS;exact rfl))|(refine Sd.mk ?_ ?_;·exact qD)|refine g_cond ?_|refine g_keep ?_
    exact lp_next (k + 1) (by omega) (by omega)
   ·repeat' first|apply step|(apply gO;·repeat first|exact eZ|(apply eS;exact rfl))|refine g_cond ?_|refine g_fin ?_
    exact fin (hR.2 x _ hx)
  ·have:k=s[j].ops.length:=by omega
   subst this
   rw [← h1]
   repeat' first|apply step
   exact lp_next (j + 1) (by omega) (by omega)
 ·have:s.take j=s:=List.take_of_length_le hge
  rw [this]
  repeat' first|apply step|(apply gO;·repeat first|exact eZ|(apply eS;exact rfl))|(refine Br.mk (fun _=>?_) (fun _=>?_)<;>try (exfalso;omega))|refine g_cond ?_|refine g_fin ?_
  exact fin (hR.1 _)
theorem zeA {s:List HTx} {j:Nat} (hj:j < s.length):comm (s.take (j + 1))=comm (s.take j)++if s[j].ab=true then [] else [s[j].id]:=by
 unfold comm
 rw [List.take_succ_eq_append_getElem hj,List.filter_append,List.map_append]
 cases h:s[j].ab <;> simp [h]
theorem zK (s:List HTx):(comm s).length≤s.length:=by
 unfold comm;rw [List.length_map];exact List.length_filter_le _ _
theorem zdV {κ α:Type} {r:Nat} {enc:κ→Value} {K:Kind α} {Γ:List HP}:Ent (mp r []::Γ) (mapL r enc K []::Γ) :=
 .fold (f:=fun (Z:List (LE κ α))=>(fst2 Z=[],[mp r (amap enc slV Z),alls (ownE K) Z])) [] rfl (.more .here alls_nil)
theorem zdK {s:List HTx} {i:Nat} (hi:i < opsN s):∃ t j,∃ hj:j < t.ops.length,(stepsL s)[i]? = some (t,j)∧t ∈ s:=by
 have h1:i < (stepsL s).length:=by rw [zdF];exact hi
 have h2:(stepsL s)[i] ∈ stepsL s:=List.getElem_mem h1
 generalize hx:(stepsL s)[i]=x at h2
 obtain ⟨t,ht,h3⟩:=List.mem_flatMap.1 h2
 obtain ⟨j,hj,rfl⟩:=List.mem_map.1 h3
 exact ⟨t,j,List.mem_range.1 hj,by rw [List.getElem?_eq_getElem h1,hx],ht⟩
theorem zdo {s:List HTx} {t:HTx} (ht:t ∈ s):t.ops.length≤opsN s:=by
 obtain ⟨a,b,rfl⟩:=List.append_of_mem ht
 unfold opsN
 rw [List.map_append,List.sum_append,List.map_cons,List.sum_cons];omega
theorem Tb.sm.one {T:Tb} {n:Nat} (hT:T.sm n) (x:HTx × Nat):(T.one x).sm (n + 1):=by
 have g:∀ {κ α:Type} [DecidableEq κ] (k j:κ) (a:α) (f:List (κ × List α)),(agl j (adl k a f)).length≤(agl j f).length + 1:=by
  intro κ α _ k j a f
  rw [zbH,List.length_append]
  split <;> simp
 refine ⟨fun k=>?_,fun k=>?_,fun k=>?_,?_⟩
 ·have:=hT.a k
  unfold Tb.one;rw [zfu];split
  ·exact Nat.le_succ_of_le this
  ·exact Nat.le_trans (g _ _ _ _) (Nat.succ_le_succ this)
 ·have:=hT.r k
  unfold Tb.one;rw [zfs];split
  ·exact Nat.le_trans (g _ _ _ _) (Nat.succ_le_succ this)
  ·exact Nat.le_succ_of_le this
 ·have:=hT.w k
  unfold Tb.one;rw [zf5];split
  ·exact Nat.le_trans (g _ _ _ _) (Nat.succ_le_succ this)
  ·exact Nat.le_succ_of_le this
 ·have:=hT.k
  unfold Tb.one;rw [zfH];simp;exact this
/-- The tables on the way. -/
def tabI (s:List HTx) (i:Nat):Tb:=((stepsL s).take i).foldl Tb.one (T0 (comm s))
def Tb.ak (T:Tb) (k:Int):Tb:={ T with keys:=T.keys++[k] }
theorem zfD {s:List HTx} {i:Nat} {x:HTx × Nat} (h:(stepsL s)[i]? = some x):tabI s (i + 1)=(tabI s i).one x:=by
 obtain ⟨h1,h2⟩:=List.getElem?_eq_some_iff.1 h
 unfold tabI
 rw [List.take_succ_eq_append_getElem h1,List.foldl_append,h2];rfl
theorem zdN (s:List HTx):∀ i,i≤opsN s→(tabI s i).sm i
 | 0,_=>⟨fun k=>Nat.le_refl _,fun k=>Nat.le_refl _,fun k=>Nat.le_refl _,Nat.le_refl _⟩
 | i + 1,h=>by
  obtain ⟨t,j,hj,h1,h2⟩:=zdK (s:=s) (i:=i) (by omega)
  rw [zfD h1]
  exact (zdN s i (by omega)).one _
theorem zfy (s:List HTx):tabI s (opsN s)=tabS s:=by
 unfold tabI tabS
 rw [← zdF,List.take_length]
theorem zlI (hf:FewH h 20 60):Spec prog1 zaU [.agg #[.slice p h.length c]] [fro kHTx p c h] (fun R=>(chkH h≠0→R (.tuple #[.pointer none,.int .i64 (chkH h)]) [])∧(chkH h=0→∀ b,R (.tuple #[.pointer (some ⟨b,0,none⟩),.int .i64 0]) [tab b (tabS (sortK HTx.id h)).fin])):=by
 refine spec_code zgY rfl ?_;intro n F R hR;unfold zcg
 have hh:=hf.t
 have ho:=hf.o
 repeat' first|apply step|(apply gO;·repeat first|exact eZ|(apply eS;exact rfl))|refine Fa.mk fun _=>?_
 refine at_callS (zj9 hf) ?_
 by_cases hc:chkH h=0
 ·rw [hc]
  have hk:=zbN hc
  repeat' first|apply step|(apply gO;·repeat first|exact eZ|(apply eS;exact rfl))|(refine Br.mk (fun _=>?_) (fun _=>?_)<;>try (exfalso;omega))|refine Fa.mk fun _=>?_|refine g_cond ?_|refine g_keep ?_
  refine at_callS (zhj (l:=h) (by omega)) ?_
  intro p1 c1
  repeat' first|apply step|(apply gO;·repeat first|exact eZ|(apply eS;exact rfl))
  refine at_callS (zjy (l:=h) (by omega) hk.i) ?_
  have hR2:=hR.2 hc
  have hsl:h.length=(sortK HTx.id h).length:=(zd2 _ h).symm
  have hsp:(sortK HTx.id h).Perm h:=sortK_perm _ h
  rw [hsl]
  generalize sortK HTx.id h=s at hR2 hsl hsp ⊢
  have hso:opsN s=opsN h:=by unfold opsN;exact (hsp.map _).sum_nat
  repeat' first|apply step|(apply gO;·repeat first|exact eZ|(apply eS;exact rfl))|refine g_keep ?_
  refine at_freezeC ?_
  rename_i ha _ mw ma mr mt tb tc
  obtain ⟨I,hI⟩:∃ I:Nat→HP,∀ j,I j=hx fun (w:Option Addr × Nat × List Int)=>(w.2.2=comm (s.take j),[pt tb [.bool true,.slice w.1 w.2.2.length w.2.1,.slice none 0 0,.map (some mw),.map (some ma),.map (some mr),.map (some mt)] 0,own (kInt .i64) w.1 w.2.1 w.2.2]):=⟨_,fun _=>rfl⟩
  refine at_foldP (I 0) (hI 0) (none,0,[]) rfl ?_
  refine at_loopS (ι:=Nat) (E:=fun j=>[(2,.pointer none),(3,.int .i64 0),(5,.pointer (some ⟨tc,0,none⟩)),(6,.slice p1 s.length c1),(27,.slice p1 s.length c1),(28,.int .i64 (s.length:Int)),(29,.int .i64 (j:Int))]) (Δ:=fun j=>I j::pt tc [.pointer (some ⟨tb,0,none⟩)] 0::fro kHTx p1 c1 s::mp mw []::mp ma []::mp mr []::mp mt []::F) (P:=fun j=>j≤s.length) (μ:=fun j=>s.length - j) 0 (Nat.zero_le _) ?_
  rintro j hj
  try dsimp only
  rcases Nat.lt_or_ge j s.length with hlt|hge
  ·have hm:=hk.m s[j] (hsp.mem_iff.1 (List.getElem_mem hlt))
   have hid1:=hm.1.1
   have hid2:=hm.1.2
   have hct:=zeA hlt
   have hcl:=zK (s.take j)
   have hst:(s.take j).length≤j:=List.length_take_le _ _
   cases hab:s[j].ab
   ·rw [hab] at hct
    repeat' first|rw [hab]|apply step|(apply gO;·repeat first|exact eZ|(apply eS;exact rfl))|(refine Br.mk (fun _=>?_) (fun _=>?_)<;>try (exfalso;omega))|(refine Sd.mk ?_ ?_;·exact qD)|(refine Sx.mk ?_ ?_;·omega)|refine Fa.mk fun _=>?_|refine Im.mk fun _=>?_|refine g_cond ?_
    refine at_openP (I j) (hI j) ?_
    rintro ⟨pi,ci,l'⟩ h'
    dsimp only [List.cons_append,List.nil_append] at h' ⊢
    subst h'
    refine at_opsKS tc 8 (fun sz hsz=>?_)
    repeat' first|apply step|(apply gO;·repeat first|exact eZ|(apply eS;exact rfl))|refine Fa.mk fun _=>?_
    refine kp1 tc ?_ hsz
    repeat' first|apply step|(apply gO;·repeat first|exact eZ|(apply eS;exact rfl))|(refine Sd.mk ?_ ?_;·exact qD)|refine Fa.mk fun _=>?_
    refine kp2 ?_
    repeat' first|apply step|(apply gO;·repeat first|exact eZ|(apply eS;exact rfl))|(refine Sd.mk ?_ ?_;·exact qD)|refine g_keep ?_
    refine at_foldP (I (j + 1)) (hI _) (_,_,comm (s.take j)++[s[j].id]) hct.symm ?_
    exact lp_next (j + 1) (by omega) (by omega)
   ·rw [hab] at hct
    have hct2:comm (s.take j)=comm (s.take (j + 1)):=by rw [hct];simp
    repeat' first|rw [hab]|apply step|(apply gO;·repeat first|exact eZ|(apply eS;exact rfl))|(refine Br.mk (fun _=>?_) (fun _=>?_)<;>try (exfalso;omega))|(refine Sd.mk ?_ ?_;·exact qD)|(refine Sx.mk ?_ ?_;·omega)|refine Fa.mk fun _=>?_|refine Im.mk fun _=>?_|refine g_cond ?_|refine g_keep ?_
    refine at_openP (I j) (hI j) ?_
    rintro ⟨pi,ci,l'⟩ h'
    dsimp only [List.cons_append,List.nil_append] at h' ⊢
    refine at_foldP (I (j + 1)) (hI _) (_,_,l') (h'.trans hct2) ?_
    exact lp_next (j + 1) (by omega) (by omega)
  ·have e:s.take j=s:=List.take_of_length_le hge
   refine at_openP (I j) (hI j) ?_
   rintro ⟨pi,ci,l'⟩ h'
   rw [e] at h'
   dsimp only [List.cons_append,List.nil_append] at h' ⊢
   subst h'
   refine at_via (zdV (enc:=kII) (K:=kInt .i64) (r:=ma)) ?_
   refine at_via (zdV (enc:=kI) (K:=kHRd) (r:=mr)) ?_
   refine at_via (zdV (enc:=kI) (K:=kHWr) (r:=mt)) ?_
   refine at_foldP (tab tb (tabI s 0)) rfl (((pi,ci),(none,0)),(mw,ma,mr,mt)) trivial ?_
   repeat' first|apply step|(apply gO;·repeat first|exact eZ|(apply eS;exact rfl))|(refine Br.mk (fun _=>?_) (fun _=>?_)<;>try (exfalso;omega))|refine g_cond ?_|refine g_keep ?_
   refine at_callS (ziC (p:=p1) (c:=c1) (s:=s)) ?_
   intro xs
   repeat' first|apply step
   obtain ⟨J,hJ⟩:∃ J:Nat→HP,∀ i,J i=hx fun (_:Unit)=>(True,[pt tc [.pointer (some ⟨tb,0,none⟩)] 0,tab tb (tabI s i)]):=⟨_,fun _=>rfl⟩
   refine at_foldP (J 0) (hJ 0) () trivial ?_
   refine at_rfunSD (I:=J) (J:=fun _=>noP) (Po:=[]) (opsN s) (fun i d=>vaT d (stepsL s)[i]?) (fun i d=>paT d (stepsL s)[i]?)
    (fun ly A B h=>zkn (by omega) (by omega) h) (fun i hi d=>by obtain ⟨t,j,hj,e1,ht⟩:=zdK hi;rw [e1];rfl) ?_ ?_ (fun _ _=>at_no)
   ·intro i hi d ly m F'
    obtain ⟨t,j,hj,e1,ht⟩:=zdK hi
    rw [e1]
    have hm:=hk.m t (hsp.mem_iff.1 ht)
    have hmo:=hm.2 t.ops[j] (List.getElem_mem hj)
    have hlo:=hf.l t (hsp.mem_iff.1 ht) t.ops[j] (List.getElem_mem hj)
    have hjs:j≤60:=by have:=zdo ht;omega
    have hts:=zdN s i (by omega)
    have hnx:=zfD e1
    dsimp only [vaT,paT]
    refine at_openP (J i) (hJ i) ?_
    rintro - -
    repeat' first|apply step|(apply gO;·repeat first|exact eZ|(apply eS;exact rfl))|refine Fa.mk fun _=>?_
    have hkb:-9223372036854775808≤t.ops[j].key∧t.ops[j].key≤9223372036854775807:=by unfold mayO mayN at hmo;split at hmo <;> omega
    have hkl:=hts.k
    refine at_openP (tab tb (tabI s i)) rfl ?_
    rintro ⟨⟨⟨pi,ci⟩,⟨pk,ck⟩⟩,⟨mw',ma',mr',mt'⟩⟩ -
    dsimp only [List.cons_append,List.nil_append]
    refine at_opsKS tc 12 (fun sz hsz=>?_)
    repeat' first|apply step|(apply gO;·repeat first|exact eZ|(apply eS;exact rfl))|(refine Sd.mk ?_ ?_;·exact qD)|(refine Sx.mk ?_ ?_;·omega)|refine Fa.mk fun _=>?_|refine Im.mk fun _=>?_
    refine kp1 tc ?_ hsz
    repeat' first|apply step|(apply gO;·repeat first|exact eZ|(apply eS;exact rfl))|(refine Sd.mk ?_ ?_;·exact qD)|refine Fa.mk fun _=>?_
    refine kp2 ?_
    rename_i pk2 ck2
    repeat' first|apply step|(apply gO;·repeat first|exact eZ|(apply eS;exact rfl))|(refine Sd.mk ?_ ?_;·exact qD)|(refine Sx.mk ?_ ?_;·omega)|refine Fa.mk fun _=>?_|refine Im.mk fun _=>?_|refine g_keep ?_
    refine av_foldP (tab tb ((tabI s i).ak t.ops[j].key)) rfl (((pi,ci),(pk2,ck2)),(mw',ma',mr',mt')) trivial ?_
    refine at_callS (zld (T:=(tabI s i).ak t.ops[j].key) (t:=t) (i:=j) (o:=t.ops[j]) (n0:=100) ⟨fun k=>Nat.le_trans (hts.a k) (by omega),fun k=>Nat.le_trans (hts.r k) (by omega),fun k=>Nat.le_trans (hts.w k) (by omega),by unfold Tb.ak;simp;omega⟩ (by omega) (by omega) hm.1 hmo hlo) ?_
    repeat' first|apply step
    rw [show ((tabI s i).ak t.ops[j].key).put t j t.ops[j]=tabI s (i + 1) by rw [hnx];unfold Tb.one Tb.ak;rw [getD_lt hj]]
    refine at_foldP (J (i + 1)) (hJ _) () trivial ?_
    exact y_next
   ·refine at_openP (J _) (hJ _) ?_
    rintro - -
    rw [zfy]
    repeat' first|apply step|(apply gO;·repeat first|exact eZ|(apply eS;exact rfl))|refine g_keep ?_
    refine av_openP (tab tb (tabS s)) rfl ?_
    rintro ⟨⟨⟨pi,ci⟩,⟨pk,ck⟩⟩,⟨mw',ma',mr',mt'⟩⟩ -
    dsimp only [List.cons_append,List.nil_append]
    have hts:=zdN s _ (Nat.le_refl _)
    rw [zfy] at hts
    have hts2:=hts.k
    have hsl2:=setL_le (tabS s).keys
    repeat' first|apply step|(apply gO;·repeat first|exact eZ|(apply eS;exact rfl))
    refine at_callR (zer (l:=(tabS s).keys) (by omega)) ?_
    intro p2 c2
    repeat' first|apply step|(apply gO;·repeat first|exact eZ|(apply eS;exact rfl))|apply Lw.go
    refine at_callR (zio (l:=setL (tabS s).keys) (by omega)) ?_
    intro p3 c3
    repeat' first|apply step|(apply gO;·repeat first|exact eZ|(apply eS;exact rfl))|apply Lw.go|refine g_keep ?_|refine g_fin ?_
    refine fin_foldP (tab tb (tabS s).fin) rfl (((pi,ci),(p3,c3)),(mw',ma',mr',mt')) trivial ?_
    exact fin (hR2 tb)
 ·repeat' first|apply step|(apply gO;·repeat first|exact eZ|(apply eS;exact rfl))|(refine Br.mk (fun _=>?_) (fun _=>?_)<;>try (exfalso;omega))|refine g_cond ?_|refine g_fin ?_
  exact fin (hR.1 hc)
end
end Go.AMS

namespace Go.AMS
open Go.AM hiding Kt At WP WL Runs RunsY
open Go.AM.G
set_option linter.unusedVariables false
set_option linter.unusedSimpArgs false
set_option linter.unusedSectionVars false
set_option maxRecDepth 100000
set_option maxHeartbeats 1000000
attribute [local irreducible] AtS AtV AtC AtG FinA Spec Post LP G.At G.WP G.WL pt own fro rdl ro hx mp lrec elt sub

open Go.AM.G.Set
section
variable {b:Nat} {T:Tb} {p q:Option Addr} {c d:Nat}
theorem zd8 {m:Bool} {a1 a2 a3 a4 a5 a6:Value}:Spec prog1 zP [.pointer (some ⟨b,0,none⟩)] [ro (pt b [.bool m,a1,a2,a3,a4,a5,a6] 0)] (fun R=>R (.bool m) []):=by
 refine spec_code zkz rfl ?_;intro n F R hR;unfold zbP
 repeat' first|apply step|(apply gO;·repeat first|exact eZ|(apply eS;exact rfl))|refine g_guard ?_|refine g_keep ?_|refine g_fin ?_
 all_goals exact fin hR
abbrev zWr:Value:=.agg #[.int .i64 0,.int .i64 0,.int .i64 0,.int .i64 0,.bool false]
theorem zhU {k:Nat}:Spec prog1 zag [.slice p k c] [] (fun R=>∀ x,R (.func (.func zD) #[] #[.pointer (some ⟨x,0,none⟩)]) [pt x [.slice p k c] 0]):=by
 refine spec_code zl6 rfl ?_;intro n F R hR;unfold zbX
 repeat' first|apply step|(apply gO;·repeat first|exact eZ|(apply eS;exact rfl))|refine Fa.mk fun _=>?_|refine g_fin ?_
 exact fin (hR _)
theorem zlC {k:Nat}:Spec prog1 zaf [.slice p k c] [] (fun R=>∀ x,R (.func (.func zE) #[] #[.pointer (some ⟨x,0,none⟩)]) [pt x [.slice p k c] 0]):=by
 refine spec_code zgo rfl ?_;intro n F R hR;unfold zcJ
 repeat' first|apply step|(apply gO;·repeat first|exact eZ|(apply eS;exact rfl))|refine Fa.mk fun _=>?_|refine g_fin ?_
 exact fin (hR _)
abbrev wR:=(Option Addr × Nat) × (Option Addr × Nat)
def vaRead (w:wR):Option HRd→List Value
 | some r=>[.agg #[.int .i64 r.txn,.int .i64 r.op,.int .i64 r.key,.slice w.1.1 r.list.length w.1.2,.slice w.2.1 r.own.length w.2.2]]
 | none=>[.bool true]
def paRead (w:wR):Option HRd→List HP
 | some r=>[fro (kInt .i64) w.1.1 w.1.2 r.list,fro (kInt .i64) w.2.1 w.2.2 r.own]
 | none=>[]
def vaWrite (w:Unit):Option HWr→List Value
 | some r=>[.agg #[.int .i64 r.txn,.int .i64 r.op,.int .i64 r.key,.int .i64 r.value,.bool r.ab]]
 | none=>[.bool true]
def paWrite (w:Unit):Option HWr→List HP
 | some r=>[]
 | none=>[]
theorem zl3 {l:List HRd} {x ly:Nat} {A:Nat→HP} {B:AX→HP} (hl:l.length≤1000000000) (hy:∀ i,i < l.length→∀ w:wR,YSpec prog1 ly (vaRead w l[i]?) (A i::paRead w l[i]?) (fun R=>R (.bool true) [A (i + 1)]∧∀ x,x≠.norm→R (.bool false) [B x])) :
  Spec prog1 zD [.func (.yield ly) #[] #[],.pointer (some ⟨x,0,none⟩)] [A 0,pt x [.slice p l.length c] 0,fro kHRd p c l] (fun R=>(∀ v,R v [A l.length])∧∀ x v,x≠.norm→R v [B x]):=by
 refine spec_code zju rfl ?_;intro n F R hR;unfold zb4
 repeat' first|apply step|(apply gO;·repeat first|exact eZ|(apply eS;exact rfl))|refine g_keep ?_
 refine at_loopS (ι:=Nat) (E:=fun j=>[(0,.func (.yield ly) #[] #[]),(5,.slice p l.length c),(6,.int .i64 (l.length:Int)),(7,.int .i64 (j:Int))]) (Δ:=fun j=>A j::fro kHRd p c l::F) (P:=fun j=>j≤l.length) (μ:=fun j=>l.length - j) 0 (Nat.zero_le _) ?_
 rintro j hj
 try dsimp only
 rcases Nat.lt_or_ge j l.length with hlt|hge
 ·have hyj:=hy j hlt
  rw [List.getElem?_eq_getElem hlt] at hyj
  repeat' first|apply step|(apply gO;·repeat first|exact eZ|(apply eS;exact rfl))|(refine Br.mk (fun _=>?_) (fun _=>?_)<;>try (exfalso;omega))|(refine Sd.mk ?_ ?_;·exact qD)|(refine Sx.mk ?_ ?_;·omega)|refine Fa.mk fun _=>?_|refine Im.mk fun _=>?_|refine g_cond ?_
  rename_i w _ _
  refine at_callY (hyj w) ⟨?_,fun x hx=>?_⟩
  ·repeat' first|apply step|(apply gO;·repeat first|exact eZ|(apply eS;exact rfl))|(refine Sd.mk ?_ ?_;·exact qD)|refine g_cond ?_|refine g_keep ?_
   exact lp_next (j + 1) (by omega) (by omega)
  ·repeat' first|apply step|(apply gO;·repeat first|exact eZ|(apply eS;exact rfl))|refine g_cond ?_|refine g_fin ?_
   exact fin (hR.2 x _ hx)
 ·have:j=l.length:=by omega
  subst this
  repeat' first|apply step|(apply gO;·repeat first|exact eZ|(apply eS;exact rfl))|(refine Br.mk (fun _=>?_) (fun _=>?_)<;>try (exfalso;omega))|refine g_cond ?_|refine g_fin ?_
  exact fin (hR.1 _)
theorem zhh {l:List HWr} {x ly:Nat} {A:Nat→HP} {B:AX→HP} (hl:l.length≤1000000000) (hy:∀ i,i < l.length→∀ w:Unit,YSpec prog1 ly (vaWrite w l[i]?) (A i::paWrite w l[i]?) (fun R=>R (.bool true) [A (i + 1)]∧∀ x,x≠.norm→R (.bool false) [B x])) :
  Spec prog1 zE [.func (.yield ly) #[] #[],.pointer (some ⟨x,0,none⟩)] [A 0,pt x [.slice p l.length c] 0,fro kHWr p c l] (fun R=>(∀ v,R v [A l.length])∧∀ x v,x≠.norm→R v [B x]):=by
 refine spec_code zga rfl ?_;intro n F R hR;unfold zdf
 repeat' first|apply step|(apply gO;·repeat first|exact eZ|(apply eS;exact rfl))|refine g_keep ?_
 refine at_loopS (ι:=Nat) (E:=fun j=>[(0,.func (.yield ly) #[] #[]),(5,.slice p l.length c),(6,.int .i64 (l.length:Int)),(7,.int .i64 (j:Int))]) (Δ:=fun j=>A j::fro kHWr p c l::F) (P:=fun j=>j≤l.length) (μ:=fun j=>l.length - j) 0 (Nat.zero_le _) ?_
 rintro j hj
 try dsimp only
 rcases Nat.lt_or_ge j l.length with hlt|hge
 ·have hyj:=hy j hlt
  rw [List.getElem?_eq_getElem hlt] at hyj
  repeat' first|apply step|(apply gO;·repeat first|exact eZ|(apply eS;exact rfl))|(refine Br.mk (fun _=>?_) (fun _=>?_)<;>try (exfalso;omega))|(refine Sd.mk ?_ ?_;·exact qD)|(refine Sx.mk ?_ ?_;·omega)|refine Fa.mk fun _=>?_|refine Im.mk fun _=>?_|refine g_cond ?_
  rename_i w _ _
  refine at_callY (hyj ()) ⟨?_,fun x hx=>?_⟩
  ·repeat' first|apply step|(apply gO;·repeat first|exact eZ|(apply eS;exact rfl))|(refine Sd.mk ?_ ?_;·exact qD)|refine g_cond ?_|refine g_keep ?_
   exact lp_next (j + 1) (by omega) (by omega)
  ·repeat' first|apply step|(apply gO;·repeat first|exact eZ|(apply eS;exact rfl))|refine g_cond ?_|refine g_fin ?_
   exact fin (hR.2 x _ hx)
 ·have:j=l.length:=by omega
  subst this
  repeat' first|apply step|(apply gO;·repeat first|exact eZ|(apply eS;exact rfl))|(refine Br.mk (fun _=>?_) (fun _=>?_)<;>try (exfalso;omega))|refine g_cond ?_|refine g_fin ?_
  exact fin (hR.1 _)
end
end Go.AMS

namespace Go.AMS
open Go.AM hiding Kt At WP WL Runs RunsY
open Go.AM.G
set_option linter.unusedVariables false
set_option linter.unusedSectionVars false
set_option linter.unusedSimpArgs false
section
variable {prog:AProg} {rr:Option Nat} {e:Env} {Q:Pst} {k:List Kt} {x y:Operand} {n:Nat} {Γ:List HP} {d bar:Bool} {r:List AI} {t:Nat} {p q:Int}
theorem wrapU64 (h:0≤p∧p≤18446744073709551615):IntKind.u64.wrap p=p:=by
 unfold IntKind.wrap
 simp only [IntKind.signed,IntKind.bits,Bool.false_eq_true,if_false]
 show p % 18446744073709551616=p
 omega
instance v_convU64 {ki:IntKind}:Step (AtV n prog rr d bar (some t) (.conv .u64 x) [.int ki p] r k e Γ Q) (Sd (0≤p∧p≤18446744073709551615) (AtS n prog rr (.o d r::k) .norm ((t,.int .u64 p)::e) Γ Q)):=⟨fun w hE=>go1 (fun h _ m=>by simp only [aop,hE.a,wrapU64 w.c]) w.a⟩
theorem zg5 {i:Nat}:binV .shr (.int .u64 (i:Int)) (.int .u64 1)=some (.int .u64 ((i / 2:Nat):Int)):=by
 rw [b_shr,if_neg (by omega)]
 simp only [IntKind.bits]
 rw [show Nat.min (1:Int).toNat 64=1 from rfl,show (2:Int) ^ 1=((2:Nat):Int) by decide,Int.fdiv_eq_ediv_of_nonneg _ (Int.natCast_nonneg _),← Int.natCast_ediv]
instance v_shr1 {i:Nat}:Step (AtV n prog rr d bar (some t) (.bin .shr x y) [.int .u64 (i:Int),.int .u64 1] r k e Γ Q) (AtS n prog rr (.o d r::k) .norm ((t,.int .u64 ((i / 2:Nat):Int))::e) Γ Q):=⟨fun w hE=>bin1 hE zg5 w⟩
end
theorem zhO {P Q:HP} {G Γ:List HP} (e:Ent [P] (Q::G)):Ent (ro P::Γ) (ro Q::Γ):=.one fun h s ⟨⟨s',h1,hf⟩,hs⟩=>by
 obtain ⟨S',⟨a,b,q1,q2,q3,q4⟩,hsub⟩:=e h s' ⟨s',fun _=>False,h1,fun _ hb=>hb,fun _ _ hb=>hb,fun b=>by simp⟩
 exact ⟨s,⟨⟨a,q1,fun x hx=>hf x (hsub x ((q4 x).2 (.inl hx)))⟩,hs⟩,fun b hb=>hb⟩
theorem zfE {α:Type} {K:Kind α} {p:Option Addr} {c i:Nat} {l:List α} {Γ:List HP} (hi:i≤l.length):Ent (fro K p c l::Γ) (fro K p i (l.take i)::fro K p c l::Γ):=fun h S hs=>by
 obtain ⟨s,s',⟨h1,h2⟩,h3,h4,h5⟩:=id hs
 refine ⟨S,⟨fun _=>False,S,⟨?_,rfl⟩,hs,fun _ q=>q.elim,fun b=>by simp⟩,fun b hb=>hb⟩
 have e:(l.take i).length=i:=by rw [List.length_take];omega
 rw [e];exact Sl.head h1 hi
end Go.AMS

namespace Go.AMS
open Go.AM hiding Kt At WP WL Runs RunsY
open Go.AM.G
set_option linter.unusedVariables false
set_option linter.unusedSimpArgs false
set_option linter.unusedSectionVars false
set_option maxRecDepth 100000
set_option maxHeartbeats 1000000
attribute [local irreducible] AtS AtV AtC AtG FinA Spec Post LP G.At G.WP G.WL pt own fro rdl ro hx mp lrec elt sub

open Go.AM.G.Set
section
variable {b:Nat} {T:Tb} {p q:Option Addr} {c d:Nat}
theorem zdH {x:Int}:Spec prog1 zd [.int .i64 x] [] (fun R=>R (.bool false) []):=by
 refine spec_code zh rfl ?_;intro n F R hR;unfold zi
 repeat' first|apply step|(apply gO;·repeat first|exact eZ|(apply eS;exact rfl))|(refine Br.mk (fun _=>?_) (fun _=>?_)<;>try (exfalso;omega))|refine g_fin ?_
 all_goals first|exact fin hR|(exfalso;omega)
theorem zkp {x:Int}:Spec prog1 zU [.int .i64 x] [] (fun R=>R (.bool false) []):=by
 refine spec_code zgp rfl ?_;intro n F R hR;unfold zc9
 repeat' first|apply step|(apply gO;·repeat first|exact eZ|(apply eS;exact rfl))|(refine Br.mk (fun _=>?_) (fun _=>?_)<;>try (exfalso;omega))|refine g_fin ?_
 all_goals first|exact fin hR|(exfalso;omega)
theorem zjc {x y:Int}:Spec prog1 zaL [.int .i64 x,.int .i64 y] [] (fun R=>(x < y→R (.bool true) [])∧(¬ x < y→R (.bool false) [])):=by
 refine spec_code zkO rfl ?_;intro n F R hR;unfold zdz
 repeat' first|apply step|(apply gO;·repeat first|exact eZ|(apply eS;exact rfl))
 refine at_callS (zdH) ?_
 repeat' first|apply step|(apply gO;·repeat first|exact eZ|(apply eS;exact rfl))|(refine Br.mk (fun _=>?_) (fun _=>?_)<;>try (exfalso;omega))|refine g_guard ?_|refine g_keep ?_|refine g_fin ?_
 ·exact fin (hR.1 ‹_›)
 ·exact fin (hR.2 ‹_›)
theorem zkg {l:List Int} {x:Int} (hl:l.length≤1000000000) (hs:l.Pairwise (fun a b=>a < b)):Spec prog1 zbp [.slice p l.length c,.int .i64 x] [rdl (kInt .i64) p l] (fun R=>(∀ k (hk:k < l.length),l[k]=x→R (.tuple #[.int .i64 (k:Int),.bool true]) [])∧(x ∉ l→∀ k:Int,R (.tuple #[.int .i64 k,.bool false]) [])):=by
 refine spec_code zj5 rfl ?_;intro n F R hR;unfold zce
 repeat' first|apply step|(apply gO;·repeat first|exact eZ|(apply eS;exact rfl))|refine g_keep ?_
 refine at_loopS (ι:=Nat × Nat) (E:=fun j=>[(0,.slice p l.length c),(1,.int .i64 x),(6,.int .i64 (l.length:Int)),(7,.int .i64 (j.1:Int)),(8,.int .i64 (j.2:Int))]) (Δ:=fun j=>rdl (kInt .i64) p l::F) (P:=fun j=>(j.1≤j.2∧j.2≤l.length)∧(∀ i (h:i < l.length),i < j.1→l[i] < x)∧(∀ i (h:i < l.length),j.2≤i→x≤l[i])) (μ:=fun j=>j.2 - j.1) (0,l.length) ⟨⟨Nat.zero_le _,Nat.le_refl _⟩,fun i h q=>by omega,fun i h q=>by omega⟩ ?_
 rintro ⟨i,j⟩ ⟨⟨h1,h2⟩,h3,h4⟩
 try dsimp only at h1 h2 h3 h4 ⊢
 rcases Nat.lt_or_ge i j with hlt|hge
 ·have hm:(i + j) / 2 < l.length:=by omega
  have mono:∀ (a b:Nat) (ha:a < l.length) (hb:b < l.length),a≤b→l[a]≤l[b]:=fun a b ha hb hab=>by
   rcases Nat.lt_or_ge a b with q|q
   ·exact Int.le_of_lt (List.pairwise_iff_getElem.1 hs a b ha hb q)
   ·have:a=b:=by omega
    subst this;exact Int.le_refl _
  repeat' first|apply step|(apply gO;·repeat first|exact eZ|(apply eS;exact rfl))|(refine Br.mk (fun _=>?_) (fun _=>?_)<;>try (exfalso;omega))|(refine Sd.mk ?_ ?_;·exact qD)|(refine Sx.mk ?_ ?_;·omega)|refine Im.mk fun _=>?_|refine g_cond ?_|refine g_keep ?_
  refine at_callS (zjc) ?_
  refine ⟨fun hq=>?_,fun hq=>?_⟩
  ·repeat' first|apply step|(apply gO;·repeat first|exact eZ|(apply eS;exact rfl))|(refine Sd.mk ?_ ?_;·exact qD)|refine g_cond ?_|refine g_keep ?_
   refine lp_next ((i + j) / 2 + 1,j) ⟨⟨by dsimp only;omega,h2⟩,fun a ha q=>?_,h4⟩ (by dsimp only;omega)
   dsimp only at q
   have:=mono a ((i + j) / 2) ha hm (by omega)
   omega
  ·repeat' first|apply step|(apply gO;·repeat first|exact eZ|(apply eS;exact rfl))|refine g_cond ?_|refine g_keep ?_
   refine lp_next (i,(i + j) / 2) ⟨⟨by dsimp only;omega,by dsimp only;omega⟩,h3,fun a ha q=>?_⟩ (by dsimp only;omega)
   dsimp only at q
   have:=mono ((i + j) / 2) a hm ha (by omega)
   omega
 ·have:i=j:=by omega
  subst this
  have hno:(∀ h:i < l.length,l[i]≠x)→x ∉ l:=fun h hx=>by
   obtain ⟨a,ha,e⟩:=List.mem_iff_getElem.1 hx
   rcases Nat.lt_trichotomy a i with q|q|q
   ·have:=h3 a ha q;omega
   ·subst q;exact h ha e
   ·have hi:i < l.length:=by omega
    have h5:=h4 i hi (Nat.le_refl _)
    have h6:=List.pairwise_iff_getElem.1 hs i a hi ha q
    exact h hi (by omega)
  repeat' first|apply step|(apply gO;·repeat first|exact eZ|(apply eS;exact rfl))|(refine Br.mk (fun _=>?_) (fun _=>?_)<;>try (exfalso;omega))|(refine Sd.mk ?_ ?_;·exact qD)|(refine Sx.mk ?_ ?_;·omega)|refine Im.mk fun _=>?_|refine g_cond ?_|refine g_guard ?_|refine g_keep ?_|refine g_fin ?_
  ·exact fin (hR.1 _ _ ‹_›)
  ·refine at_callS (zkp) ?_
   repeat' first|apply step|(apply gO;·repeat first|exact eZ|(apply eS;exact rfl))|refine g_guard ?_|refine g_keep ?_|refine g_fin ?_
   exact fin (hR.2 (hno fun _=>‹_›) _)
  ·exact fin (hR.2 (hno fun h=>by omega) _)
def wrO:Option HWr→Value
 | some w=>.tuple #[wrV w,.bool true]
 | none=>.tuple #[zWr,.bool false]
end
end Go.AMS

namespace Go.AMS
open Go.AM hiding Kt At WP WL Runs RunsY
open Go.AM.G
set_option linter.unusedVariables false
set_option linter.unusedSimpArgs false
set_option linter.unusedSectionVars false
set_option maxRecDepth 100000
set_option maxHeartbeats 1000000
attribute [local irreducible] AtS AtV AtC AtG FinA Spec Post LP G.At G.WP G.WL pt own fro rdl ro hx mp lrec elt sub

open Go.AM.G.Set
def aheadL (ops:List HOp) (key:Int) (n:Nat):List Int:=((ops.take n).filter fun o=>!o.read && decide (o.key=key)).map HOp.value
theorem zfU {ops:List HOp} {key:Int} {n:Nat} (hn:n < ops.length):aheadL ops key (n + 1)=aheadL ops key n++if ops[n].read=false∧ops[n].key=key then [ops[n].value] else []:=by
 unfold aheadL
 rw [List.take_succ_eq_append_getElem hn,List.filter_append,List.map_append]
 cases h:ops[n].read <;> by_cases h2:ops[n].key=key <;> simp [h,h2]
theorem zap (ops:List HOp) (key:Int) (n:Nat):(aheadL ops key n).length≤ops.length:=by
 unfold aheadL
 rw [List.length_map]
 exact Nat.le_trans (List.length_filter_le _ _) (by simp;omega)
def keysH (h:List HTx):List Int:=h.flatMap fun t=>t.ops.map HOp.key
theorem zlB (h:List HTx):(keysH h).length=opsN h:=by
 unfold keysH opsN;rw [List.length_flatMap];simp
def txnOf (h:List HTx) (x:Int):HTx:=(h.find? fun t=>decide (t.id=x)).getD ⟨x,false,[]⟩
theorem zjR {h:List HTx} {x:Int} {j:Nat} (hj:j < h.length) (h1:∀ i (q:i < h.length),i < j→h[i].id≠x) (h2:h[j].id=x):txnOf h x=h[j]:=by
 unfold txnOf
 have:h.find? (fun t=>decide (t.id=x))=some h[j]:=by
  rw [List.find?_eq_some_iff_getElem]
  exact ⟨by simpa using h2,j,hj,rfl,fun i hi=>by simpa using h1 i (by omega) hi⟩
 rw [this];rfl
theorem zhZ {h:List HTx} {x:Int} (h1:∀ i (q:i < h.length),h[i].id≠x):txnOf h x=⟨x,false,[]⟩:=by
 unfold txnOf
 have:h.find? (fun t=>decide (t.id=x))=none:=by
  rw [List.find?_eq_none]
  intro t ht
  obtain ⟨i,hi,e⟩:=List.mem_iff_getElem.1 ht
  rw [← e];simpa using h1 i hi
 rw [this];rfl
section
variable {h:List HTx} {p q:Option Addr} {c d:Nat}
theorem zfC (hf:FewH h 20 60):Spec prog1 zas [.agg #[.slice p h.length c]] [fro kHTx p c h] (fun R=>∀ p' c',R (.slice p' (setL (comm h)).length c') [own (kInt .i64) p' c' (setL (comm h))]):=by
 refine spec_code zgA rfl ?_;intro n F R hR;unfold zb7
 have hh:=hf.t
 repeat' first|apply step|(apply gO;·repeat first|exact eZ|(apply eS;exact rfl))|refine Fa.mk fun _=>?_|refine g_keep ?_
 rename_i tb
 refine at_loopS (ι:=Nat × (Option Addr × Nat)) (E:=fun w=>[(1,.pointer (some ⟨tb,0,none⟩)),(3,.slice w.2.1 (comm (h.take w.1)).length w.2.2),(4,.int .i64 (w.1:Int))]) (Δ:=fun w=>own (kInt .i64) w.2.1 w.2.2 (comm (h.take w.1))::pt tb [.slice p h.length c] 0::fro kHTx p c h::F) (P:=fun w=>w.1≤h.length) (μ:=fun w=>h.length - w.1) (0,(none,0)) (Nat.zero_le _) ?_
 rintro ⟨j,p1,c1⟩ hj
 dsimp only at hj ⊢
 have hcl:=zK (h.take j)
 have hst:(h.take j).length≤j:=List.length_take_le _ _
 rcases Nat.lt_or_ge j h.length with hlt|hge
 ·have hct:=zeA hlt
  cases hab:h[j].ab
  ·rw [hab] at hct
   repeat' first|rw [hab]|apply step|(apply gO;·repeat first|exact eZ|(apply eS;exact rfl))|(refine Br.mk (fun _=>?_) (fun _=>?_)<;>try (exfalso;omega))|(refine Sd.mk ?_ ?_;·exact qD)|(refine Sx.mk ?_ ?_;·omega)|refine Fa.mk fun _=>?_|refine Im.mk fun _=>?_|refine g_cond ?_|refine g_keep ?_
   exact lp_next (j + 1,_,_) (by dsimp only;omega) (by dsimp only;omega) (by dsimp only;rw [hct];rfl) (by dsimp only;rw [hct];repeat first|exact Ent.refl _|(apply Ent.more;· repeat first|exact Ent.keep|exact Ent.here|exact Ent.lend|exact ent_nil|apply Ent.there)|apply Ent.drop)
  ·rw [hab] at hct
   have hct2:comm (h.take (j + 1))=comm (h.take j):=by rw [hct];simp
   repeat' first|rw [hab]|apply step|(apply gO;·repeat first|exact eZ|(apply eS;exact rfl))|(refine Br.mk (fun _=>?_) (fun _=>?_)<;>try (exfalso;omega))|(refine Sd.mk ?_ ?_;·exact qD)|(refine Sx.mk ?_ ?_;·omega)|refine g_cond ?_|refine g_keep ?_
   exact lp_next (j + 1,_,_) (by dsimp only;omega) (by dsimp only;omega) (by dsimp only;rw [hct2]) (by dsimp only;rw [hct2];repeat first|exact Ent.refl _|(apply Ent.more;· repeat first|exact Ent.keep|exact Ent.here|exact Ent.lend|exact ent_nil|apply Ent.there)|apply Ent.drop)
 ·have e:h.take j=h:=List.take_of_length_le hge
  rw [e] at hcl ⊢
  repeat' first|apply step|(apply gO;·repeat first|exact eZ|(apply eS;exact rfl))|(refine Br.mk (fun _=>?_) (fun _=>?_)<;>try (exfalso;omega))|refine g_cond ?_|refine g_keep ?_
  refine at_callR (zjC (l:=comm h) (by omega)) ?_
  intro p2 c2
  repeat' first|apply step|(apply gO;·repeat first|exact eZ|(apply eS;exact rfl))|apply Lw.go|refine g_fin ?_
  exact fin (hR p2 c2)
theorem zf6 {x:Int} (hh:h.length≤1000):Spec prog1 zQ [.agg #[.slice p h.length c],.int .i64 x] [fro kHTx p c h] (fun R=>∀ w:Option Addr × Nat,R (.agg #[.int .i64 (txnOf h x).id,.bool (txnOf h x).ab,.slice w.1 (txnOf h x).ops.length w.2]) [fro kHOp w.1 w.2 (txnOf h x).ops]):=by
 refine spec_code zlM rfl ?_;intro n F R hR;unfold zcL
 repeat' first|apply step|(apply gO;·repeat first|exact eZ|(apply eS;exact rfl))|refine Fa.mk fun _=>?_|refine g_keep ?_
 rename_i rb tb
 refine at_loopS (ι:=Nat) (E:=fun j=>[(1,.int .i64 x),(2,.pointer (some ⟨rb,0,none⟩)),(4,.pointer (some ⟨tb,0,none⟩)),(5,.int .i64 (j:Int))]) (Δ:=fun j=>pt tb [.int .i64 0,.bool false,.slice none 0 0] 0::pt rb [.slice p h.length c] 0::fro kHTx p c h::F) (P:=fun j=>j≤h.length∧∀ i (q:i < h.length),i < j→h[i].id≠x) (μ:=fun j=>h.length - j) 0 ⟨Nat.zero_le _,fun i q r=>by omega⟩ ?_
 rintro j ⟨hj,hn⟩
 try dsimp only
 repeat' first|apply step|(apply gO;·repeat first|exact eZ|(apply eS;exact rfl))|(refine Br.mk (fun _=>?_) (fun _=>?_)<;>try (exfalso;omega))|(refine Sd.mk ?_ ?_;·exact qD)|(refine Sx.mk ?_ ?_;·omega)|refine Fa.mk fun _=>?_|refine Im.mk fun _=>?_|refine g_cond ?_|refine g_keep ?_|refine g_fin ?_
 ·rename_i he w _
  rw [zjR (by omega) hn he] at hR
  exact fin (hR w)
 ·refine lp_next (j + 1) ⟨by omega,fun i q r=>?_⟩ (by omega)
  rcases Nat.lt_or_ge i j with k|k
  ·exact hn i q k
  ·have:i=j:=by omega
   subst this;assumption
 ·rw [zhZ (fun i q=>hn i q (by omega))] at hR
  refine fin_ent (ent_fnil (K:=kHOp)) ?_
  exact fin (hR (none,0))
theorem zhu {t:HTx} {key:Int} {n0:Nat} (hn:n0≤t.ops.length) (hl:t.ops.length≤1000) (hv:∀ o ∈ t.ops,mayO o):Spec prog1 zbz [.agg #[.int .i64 t.id,.bool t.ab,.slice q t.ops.length d],.int .i64 key,.int .i64 (n0:Int)] [fro kHOp q d t.ops] (fun R=>∀ p' c',R (.slice p' (aheadL t.ops key n0).length c') [own (kInt .i64) p' c' (aheadL t.ops key n0)]):=by
 refine spec_code zli rfl ?_;intro n F R hR;unfold zc4
 repeat' first|apply step|(apply gO;·repeat first|exact eZ|(apply eS;exact rfl))|refine Fa.mk fun _=>?_|refine g_keep ?_
 rename_i tb
 refine at_loopS (ι:=Nat × (Option Addr × Nat)) (E:=fun w=>[(1,.int .i64 key),(2,.int .i64 (n0:Int)),(3,.pointer (some ⟨tb,0,none⟩)),(7,.slice w.2.1 (aheadL t.ops key w.1).length w.2.2),(8,.int .i64 (w.1:Int))]) (Δ:=fun w=>own (kInt .i64) w.2.1 w.2.2 (aheadL t.ops key w.1)::pt tb [.int .i64 t.id,.bool t.ab,.slice q t.ops.length d] 0::fro kHOp q d t.ops::F) (P:=fun w=>w.1≤n0) (μ:=fun w=>n0 - w.1) (0,(none,0)) (Nat.zero_le _) ?_
 rintro ⟨j,p1,c1⟩ hj
 dsimp only at hj ⊢
 rcases Nat.lt_or_ge j n0 with hlt|hge
 ·have hlt2:j < t.ops.length:=by omega
  have hct:=zfU (key:=key) hlt2
  have hmo:=hv t.ops[j] (List.getElem_mem _)
  have hvb:-9223372036854775808≤t.ops[j].value∧t.ops[j].value≤9223372036854775807:=by unfold mayO mayN at hmo;split at hmo <;> omega
  have hal:=zap t.ops key j
  cases hr:t.ops[j].read
  ·rw [hr] at hct
   by_cases hk:t.ops[j].key=key
   ·rw [if_pos ⟨rfl,hk⟩] at hct
    repeat' first|rw [hr]|apply step|(apply gO;·repeat first|exact eZ|(apply eS;exact rfl))|(refine Br.mk (fun _=>?_) (fun _=>?_)<;>try (exfalso;omega))|(refine Sd.mk ?_ ?_;·exact qD)|(refine Sx.mk ?_ ?_;·omega)|refine Fa.mk fun _=>?_|refine Im.mk fun _=>?_|refine g_cond ?_|refine g_guard ?_|refine g_keep ?_
    exact lp_next (j + 1,_,_) (by dsimp only;omega) (by dsimp only;omega) (by dsimp only;rw [hct]) (by dsimp only;rw [hct];repeat first|exact Ent.refl _|(apply Ent.more;· repeat first|exact Ent.keep|exact Ent.here|exact Ent.lend|exact ent_nil|apply Ent.there)|apply Ent.drop)
   ·rw [if_neg (fun q=>hk q.2),List.append_nil] at hct
    repeat' first|rw [hr]|apply step|(apply gO;·repeat first|exact eZ|(apply eS;exact rfl))|(refine Br.mk (fun _=>?_) (fun _=>?_)<;>try (exfalso;omega))|(refine Sd.mk ?_ ?_;·exact qD)|(refine Sx.mk ?_ ?_;·omega)|refine Im.mk fun _=>?_|refine g_cond ?_|refine g_guard ?_|refine g_keep ?_
    exact lp_next (j + 1,_,_) (by dsimp only;omega) (by dsimp only;omega) (by dsimp only;rw [hct]) (by dsimp only;rw [hct];repeat first|exact Ent.refl _|(apply Ent.more;· repeat first|exact Ent.keep|exact Ent.here|exact Ent.lend|exact ent_nil|apply Ent.there)|apply Ent.drop)
  ·rw [hr] at hct
   rw [if_neg (fun q=>by cases q.1),List.append_nil] at hct
   repeat' first|rw [hr]|apply step|(apply gO;·repeat first|exact eZ|(apply eS;exact rfl))|(refine Br.mk (fun _=>?_) (fun _=>?_)<;>try (exfalso;omega))|(refine Sd.mk ?_ ?_;·exact qD)|(refine Sx.mk ?_ ?_;·omega)|refine g_cond ?_|refine g_guard ?_|refine g_keep ?_
   exact lp_next (j + 1,_,_) (by dsimp only;omega) (by dsimp only;omega) (by dsimp only;rw [hct]) (by dsimp only;rw [hct];repeat first|exact Ent.refl _|(apply Ent.more;· repeat first|exact Ent.keep|exact Ent.here|exact Ent.lend|exact ent_nil|apply Ent.there)|apply Ent.drop)
 ·have:j=n0:=by omega
  subst this
  repeat' first|apply step|(apply gO;·repeat first|exact eZ|(apply eS;exact rfl))|(refine Br.mk (fun _=>?_) (fun _=>?_)<;>try (exfalso;omega))|refine g_cond ?_|refine g_keep ?_|refine g_fin ?_
  exact fin (hR p1 c1)
theorem ze1 (h:List HTx) (x:Int):txnOf h x=⟨x,false,[]⟩∨txnOf h x ∈ h:=by
 unfold txnOf
 cases e:h.find? (fun t=>decide (t.id=x)) with
 | none=>exact .inl rfl
 | some t=>exact .inr (List.mem_of_find?_eq_some e)
theorem zlP {x y:Int} (hf:FewH h 20 60):Spec prog1 ze [.agg #[.slice p h.length c],.int .i64 x,.int .i64 y] [fro kHTx p c h] (fun R=>(∀ t ∈ h,∀ i (hi:i < t.ops.length),t.ops[i].read=false→t.ops[i].key=x→t.ops[i].value=y→R (wrO (some ⟨t.id,i,x,y,t.ab⟩)) [])∧((∀ t ∈ h,∀ o ∈ t.ops,¬ (o.read=false∧o.key=x∧o.value=y))→R (wrO none) [])):=by
 refine spec_code zhr rfl ?_;intro n F R hR;unfold zdk
 have hh:=hf.t
 have ho:=hf.o
 repeat' first|apply step|(apply gO;·repeat first|exact eZ|(apply eS;exact rfl))|refine Fa.mk fun _=>?_|refine g_keep ?_
 rename_i rb wb
 refine at_loopS (ι:=Nat) (E:=fun j=>[(1,.int .i64 x),(2,.int .i64 y),(3,.pointer (some ⟨rb,0,none⟩)),(6,.pointer (some ⟨wb,0,none⟩)),(8,.int .i64 (j:Int))]) (Δ:=fun j=>pt wb [.int .i64 0,.int .i64 0,.int .i64 0,.int .i64 0,.bool false] 0::pt rb [.slice p h.length c] 0::fro kHTx p c h::F) (P:=fun j=>j≤h.length∧∀ t ∈ h.take j,∀ o ∈ t.ops,¬ (o.read=false∧o.key=x∧o.value=y)) (μ:=fun j=>h.length - j) 0 ⟨Nat.zero_le _,fun t ht=>by simp at ht⟩ ?_
 rintro j ⟨hj,hn⟩
 try dsimp only
 rcases Nat.lt_or_ge j h.length with hlt|hge
 ·have ho2:=zdo (List.getElem_mem hlt)
  have hmem:=List.getElem_mem hlt
  repeat' first|apply step|(apply gO;·repeat first|exact eZ|(apply eS;exact rfl))|(refine Br.mk (fun _=>?_) (fun _=>?_)<;>try (exfalso;omega))|(refine Sd.mk ?_ ?_;·exact qD)|(refine Sx.mk ?_ ?_;·omega)|refine Fa.mk fun _=>?_|refine Im.mk fun _=>?_|refine g_cond ?_|refine g_keep ?_
  rename_i w _ tb
  refine at_loopS (ι:=Nat) (E:=fun i=>[(1,.int .i64 x),(2,.int .i64 y),(3,.pointer (some ⟨rb,0,none⟩)),(6,.pointer (some ⟨wb,0,none⟩)),(8,.int .i64 (j:Int)),(9,.pointer (some ⟨tb,0,none⟩)),(10,.int .i64 (i:Int))]) (Δ:=fun i=>pt tb [.int .i64 h[j].id,.bool h[j].ab,.slice w.1 h[j].ops.length w.2] 0::fro kHOp w.1 w.2 h[j].ops::pt wb [.int .i64 0,.int .i64 0,.int .i64 0,.int .i64 0,.bool false] 0::pt rb [.slice p h.length c] 0::fro kHTx p c h::F) (P:=fun i=>i≤h[j].ops.length∧∀ o ∈ h[j].ops.take i,¬ (o.read=false∧o.key=x∧o.value=y)) (μ:=fun i=>h[j].ops.length - i) 0 ⟨Nat.zero_le _,fun t ht=>by simp at ht⟩ ?_
  rintro i ⟨hi,hn2⟩
  try dsimp only
  rcases Nat.lt_or_ge i h[j].ops.length with hl2|hg2
  ·have nx:¬ (h[j].ops[i].read=false∧h[j].ops[i].key=x∧h[j].ops[i].value=y)→∀ o ∈ h[j].ops.take (i + 1),¬ (o.read=false∧o.key=x∧o.value=y):=fun q o ho=>by
    rw [List.take_succ_eq_append_getElem hl2] at ho
    rcases List.mem_append.1 ho with ho|ho
    ·exact hn2 o ho
    ·rw [List.mem_singleton.1 ho];exact q
   cases hr:h[j].ops[i].read
   ·repeat' first|rw [hr]|apply step|(apply gO;·repeat first|exact eZ|(apply eS;exact rfl))|(refine Br.mk (fun _=>?_) (fun _=>?_)<;>try (exfalso;omega))|(refine Sd.mk ?_ ?_;·exact qD)|(refine Sx.mk ?_ ?_;·omega)|refine Im.mk fun _=>?_|refine g_cond ?_|refine g_guard ?_|refine g_keep ?_|refine g_fin ?_
    ·exact fin (hR.1 _ hmem i hl2 hr ‹_› ‹_›)
    all_goals exact lp_next (i + 1) ⟨by omega,nx fun q=>by first|exact absurd q.2.1 ‹_›|exact absurd q.2.2 ‹_›⟩ (by omega)
   ·repeat' first|rw [hr]|apply step|(apply gO;·repeat first|exact eZ|(apply eS;exact rfl))|(refine Br.mk (fun _=>?_) (fun _=>?_)<;>try (exfalso;omega))|(refine Sd.mk ?_ ?_;·exact qD)|(refine Sx.mk ?_ ?_;·omega)|refine g_cond ?_|refine g_guard ?_|refine g_keep ?_
    exact lp_next (i + 1) ⟨by omega,nx fun q=>by rw [hr] at q;cases q.1⟩ (by omega)
  ·have e2:h[j].ops.take i=h[j].ops:=List.take_of_length_le hg2
   rw [e2] at hn2
   repeat' first|apply step|(apply gO;·repeat first|exact eZ|(apply eS;exact rfl))|(refine Br.mk (fun _=>?_) (fun _=>?_)<;>try (exfalso;omega))|(refine Sd.mk ?_ ?_;·exact qD)|refine g_cond ?_|refine g_keep ?_
   refine lp_next (j + 1) ⟨by omega,fun t ht=>?_⟩ (by omega)
   rw [List.take_succ_eq_append_getElem hlt] at ht
   rcases List.mem_append.1 ht with ht|ht
   ·exact hn t ht
   ·rw [List.mem_singleton.1 ht];exact hn2
 ·have e:h.take j=h:=List.take_of_length_le hge
  rw [e] at hn
  repeat' first|apply step|(apply gO;·repeat first|exact eZ|(apply eS;exact rfl))|(refine Br.mk (fun _=>?_) (fun _=>?_)<;>try (exfalso;omega))|refine g_cond ?_|refine g_keep ?_|refine g_fin ?_
  exact fin (hR.2 hn)
end
end Go.AMS

namespace Go.AMS
open Go.AM hiding Kt At WP WL Runs RunsY
open Go.AM.G
open Go.AM.G.Set
set_option linter.unusedVariables false
set_option linter.unusedSimpArgs false
theorem zgI {h:List HTx} (hn:(idsH h).Nodup):((sortK HTx.id h).map HTx.id).Pairwise (fun a b=>a < b):=by
 have h1:((sortK HTx.id h).map HTx.id).Pairwise (fun a b=>a≤b):=List.pairwise_map.2 (sortK_sorted HTx.id h)
 have h2:((sortK HTx.id h).map HTx.id).Nodup:=((sortK_perm HTx.id h).map HTx.id).nodup_iff.2 hn
 exact List.Pairwise.imp₂ (fun a b q r=>by omega) h1 h2
theorem zai {s:List HTx} {x:Int}:x ∈ comm s ↔ ∃ t ∈ s,t.ab=false∧t.id=x:=by
 unfold comm
 simp only [List.mem_map,List.mem_filter,Bool.not_eq_true',and_assoc]
theorem zfY {h:List HTx} (hn:(idsH h).Nodup):setL (comm h)=comm (sortK HTx.id h):=by
 refine strict_unique (setL_lt _) ?_ fun x=>?_
 ·unfold comm
  exact (zgI hn).sublist (List.filter_sublist.map _)
 ·rw [mem_setL,zai,zai]
  simp only [(sortK_perm HTx.id h).mem_iff]
theorem zil (xs:List (HTx × Nat)) (T:Tb):(xs.foldl Tb.one T).ids=T.ids:=by
 induction xs generalizing T with
 | nil=>rfl
 | cons x xs ih=>rw [List.foldl_cons,ih];unfold Tb.one;rw [zhF]
theorem zkP (s:List HTx):(tabS s).ids=comm s:=by unfold tabS;rw [zil];rfl
theorem ziE (xs:List (HTx × Nat)) (T:Tb):(xs.foldl Tb.one T).keys=T.keys++xs.map fun x=>(x.1.ops.getD x.2 default).key:=by
 induction xs generalizing T with
 | nil=>simp
 | cons x xs ih=>rw [List.foldl_cons,ih];unfold Tb.one;rw [zfH];simp
theorem ze4 {α β:Type} (d:α) (f:α→β) (l:List α):(List.range l.length).map (fun i=>f (l.getD i d))=l.map f:=by
 refine List.ext_getElem (by simp) fun i h1 h2=>?_
 have hi:i < l.length:=by simpa using h1
 simp [hi]
theorem zj1 (s:List HTx):(stepsL s).map (fun x=>(x.1.ops.getD x.2 default).key)=keysH s:=by
 unfold stepsL keysH
 rw [List.map_flatMap]
 congr 1
 funext t
 rw [List.map_map]
 exact ze4 default HOp.key t.ops
theorem zlx (s:List HTx):(tabS s).keys=keysH s:=by
 unfold tabS;rw [ziE,zj1];rfl
theorem zhi {a b:List Int} (h:∀ x,x ∈ a ↔ x ∈ b):setL a=setL b :=
 strict_unique (setL_lt _) (setL_lt _) fun x=>by rw [mem_setL,mem_setL,h]
theorem zfV (h:List HTx):(tabS (sortK HTx.id h)).fin.keys=setL (keysH h):=by
 show setL (tabS (sortK HTx.id h)).keys=_
 rw [zlx]
 refine zhi fun x=>?_
 unfold keysH
 simp only [List.mem_flatMap,(sortK_perm HTx.id h).mem_iff]
def mW (k v:Int) (x:HTx × Nat):Bool:=!(x.1.ops.getD x.2 default).read && decide ((x.1.ops.getD x.2 default).key=k) && decide ((x.1.ops.getD x.2 default).value=v)
def mkW (k v:Int) (x:HTx × Nat):HWr:=⟨x.1.id,x.2,k,v,x.1.ab⟩
theorem zgx (k v:Int) (T:Tb) (x:HTx × Nat):aget (k,v) (T.one x).wr=if mW k v x=true then some (mkW k v x) else aget (k,v) T.wr:=by
 unfold Tb.one
 rw [zi3]
 unfold mW mkW
 generalize x.1.ops.getD x.2 default=o
 cases hr:o.read
 ·simp only [Bool.false_eq_true,if_false,Bool.not_false,Bool.true_and]
  rw [aget_aset]
  by_cases h1:o.key=k
  ·by_cases h2:o.value=v
   ·subst h1;subst h2;simp
   ·simp [h1,h2,Ne.symm h2]
  ·simp [h1,Ne.symm h1]
 ·simp
theorem zdX (k v:Int):∀ (xs:List (HTx × Nat)) (T:Tb),aget (k,v) (xs.foldl Tb.one T).wr=match (xs.filter (mW k v)).getLast? with
  | some x=>some (mkW k v x)
  | none=>aget (k,v) T.wr
 | [],_=>rfl
 | x::xs,T=>by
  rw [List.foldl_cons,zdX k v xs,zgx]
  by_cases h:mW k v x=true
  ·rw [List.filter_cons_of_pos h,if_pos h,List.getLast?_cons]
   cases (xs.filter (mW k v)).getLast? <;> rfl
  ·rw [List.filter_cons_of_neg h,if_neg h]
theorem ziV {α β:Type} (d:α) (p:α→Bool) (f:α→β) (l:List α):((List.range l.length).filter fun i=>p (l.getD i d)).map (fun i=>f (l.getD i d))=(l.filter p).map f:=by
 have h:=ze4 d id l
 conv=>rhs;rw [← List.map_id l,← h,List.filter_map,List.map_map]
 rfl
theorem zkT (s:List HTx):((stepsL s).filter fun x=>!(x.1.ops.getD x.2 default).read).map (fun x=>((x.1.ops.getD x.2 default).key,(x.1.ops.getD x.2 default).value))=prsH s:=by
 unfold stepsL prsH
 rw [List.filter_flatMap,List.map_flatMap]
 congr 1
 funext t
 rw [List.filter_map,List.map_map]
 exact ziV default (fun o:HOp=>!o.read) (fun o:HOp=>(o.key,o.value)) t.ops
theorem mW_eq (k v:Int) (xs:List (HTx × Nat)):xs.filter (mW k v)=(xs.filter fun x=>!(x.1.ops.getD x.2 default).read).filter fun x=>decide (((x.1.ops.getD x.2 default).key,(x.1.ops.getD x.2 default).value)=(k,v)):=by
 rw [List.filter_filter]
 congr 1
 funext x
 unfold mW
 simp only [Prod.mk.injEq,Bool.decide_and]
 rw [Bool.and_comm,Bool.and_assoc]
 cases (x.1.ops.getD x.2 default).read <;> simp [Bool.and_comm]
theorem zej {α β:Type} [DecidableEq β] {f:α→β} {c:β}:∀ {l:List α},(l.map f).Nodup→∀ x ∈ l,f x=c→l.filter (fun x=>decide (f x=c))=[x]
 | [],_,x,hx,_=>by cases hx
 | y::l,h,x,hx,e=>by
  rw [List.map_cons,List.nodup_cons] at h
  have hno:f y=c→l.filter (fun x=>decide (f x=c))=[]:=fun q=>by
   rw [List.filter_eq_nil_iff]
   intro z hz q2
   exact h.1 (by rw [q,← of_decide_eq_true q2];exact List.mem_map_of_mem hz)
  rcases List.mem_cons.1 hx with rfl|hx
  ·rw [List.filter_cons_of_pos (by simpa using e),hno e]
  ·rw [List.filter_cons_of_neg,zej h.2 x hx e]
   intro q
   have:=of_decide_eq_true q
   exact h.1 (by rw [this,← e];exact List.mem_map_of_mem hx)
theorem zl7 {s:List HTx} {t:HTx} {i:Nat} (ht:t ∈ s) (hi:i < t.ops.length):(t,i) ∈ stepsL s :=
 List.mem_flatMap.2 ⟨t,ht,List.mem_map.2 ⟨i,List.mem_range.2 hi,rfl⟩⟩
theorem zjK {h:List HTx} (hp:(prsH h).Nodup):(prsH (sortK HTx.id h)).Nodup :=
 ((sortK_perm HTx.id h).flatMap_right _).nodup_iff.2 hp
theorem zd0 {h:List HTx} {k v:Int} (hp:(prsH h).Nodup) {t:HTx} {i:Nat} (ht:t ∈ h) (hi:i < t.ops.length) (h1:t.ops[i].read=false) (h2:t.ops[i].key=k) (h3:t.ops[i].value=v):aget (k,v) (tabS (sortK HTx.id h)).fin.wr=some ⟨t.id,i,k,v,t.ab⟩:=by
 show aget (k,v) (tabS (sortK HTx.id h)).wr=_
 have hs:=zjK hp
 generalize hsd:sortK HTx.id h=s at hs
 have ht2:t ∈ s:=by rw [← hsd];exact (sortK_perm HTx.id h).mem_iff.2 ht
 have e:t.ops.getD i default=t.ops[i]:=getD_lt hi
 have hf:(stepsL s).filter (mW k v)=[(t,i)]:=by
  rw [mW_eq]
  refine zej (f:=fun x:HTx × Nat=>((x.1.ops.getD x.2 default).key,(x.1.ops.getD x.2 default).value)) (by rw [zkT];exact hs) (t,i) (List.mem_filter.2 ⟨zl7 ht2 hi,by simp only [e,h1];rfl⟩) (by simp only [e,h2,h3])
 unfold tabS
 rw [zdX,hf]
 rfl
theorem zfR {h:List HTx} {k v:Int} (hn:∀ t ∈ h,∀ o ∈ t.ops,¬ (o.read=false∧o.key=k∧o.value=v)):aget (k,v) (tabS (sortK HTx.id h)).fin.wr=none:=by
 show aget (k,v) (tabS (sortK HTx.id h)).wr=_
 have hf:(stepsL (sortK HTx.id h)).filter (mW k v)=[]:=by
  rw [List.filter_eq_nil_iff]
  rintro ⟨t,i⟩ hx hm
  obtain ⟨t',ht,h3⟩:=List.mem_flatMap.1 hx
  obtain ⟨j,hj,e⟩:=List.mem_map.1 h3
  cases e
  have hi:=List.mem_range.1 hj
  unfold mW at hm
  simp only [getD_lt hi,Bool.and_eq_true,Bool.not_eq_true',decide_eq_true_eq] at hm
  exact hn t ((sortK_perm HTx.id h).mem_iff.1 ht) t.ops[i] (List.getElem_mem hi) ⟨hm.1.1,hm.1.2,hm.2⟩
 unfold tabS
 rw [zdX,hf]
 rfl
def rdsN (key:Int) (t:HTx):Nat→List HRd
 | 0=>[]
 | j + 1=>rdsN key t j++if (t.ops.getD j default).read=true∧(t.ops.getD j default).key=key then [⟨t.id,(j:Nat),key,(t.ops.getD j default).list,aheadL t.ops key j⟩] else []
def wtsN (key:Int) (t:HTx):Nat→List HWr
 | 0=>[]
 | j + 1=>wtsN key t j++if (t.ops.getD j default).read=false∧(t.ops.getD j default).key=key then [⟨t.id,(j:Nat),key,(t.ops.getD j default).value,false⟩] else []
def blockJ (T:Tb) (t:HTx):Nat→Tb
 | 0=>T
 | j + 1=>(blockJ T t j).one (t,j)
theorem zfd (T:Tb) (t:HTx):∀ j,((List.range j).map fun i=>(t,i)).foldl Tb.one T=blockJ T t j
 | 0=>rfl
 | j + 1=>by rw [List.range_succ,List.map_append,List.foldl_append,zfd T t j];rfl
theorem zdv {T:Tb} {t:HTx} (hT:∀ key,agl (t.id,key) T.ap=[]):∀ j,j≤t.ops.length→∀ x key,agl (x,key) (blockJ T t j).ap=if x=t.id then aheadL t.ops key j else agl (x,key) T.ap
 | 0,_,x,key=>by
  split
  ·rename_i e;rw [e];exact hT key
  ·rfl
 | j + 1,h,x,key=>by
  have hj:j < t.ops.length:=by omega
  have ih:=zdv hT j (by omega)
  show agl (x,key) ((blockJ T t j).one (t,j)).ap=_
  unfold Tb.one
  rw [zfu,getD_lt hj]
  show agl (x,key) (if t.ops[j].read=true then (blockJ T t j).ap else adl (t.id,t.ops[j].key) t.ops[j].value (blockJ T t j).ap)=_
  rw [zfU hj]
  cases hr:t.ops[j].read
  ·simp only [Bool.false_eq_true,if_false,true_and]
   rw [zbH,ih]
   by_cases hx:x=t.id
   ·rw [if_pos hx,if_pos hx]
    by_cases hk:t.ops[j].key=key
    ·rw [if_pos hk,if_pos (by rw [hx,hk])]
    ·rw [if_neg hk,if_neg (fun q=>hk (Prod.mk.inj q).2.symm)]
   ·rw [if_neg hx,if_neg hx,if_neg (fun q=>hx (Prod.mk.inj q).1),List.append_nil]
  ·simp only [if_true,Bool.true_eq_false,false_and,if_false,List.append_nil]
   exact ih x key
theorem zfq {T:Tb} {t:HTx} (hT:∀ key,agl (t.id,key) T.ap=[]):∀ j,j≤t.ops.length→∀ key,agl key (blockJ T t j).rd=agl key T.rd++if t.ab=true then [] else rdsN key t j
 | 0,_,key=>by show agl key T.rd=_;split <;> simp [rdsN]
 | j + 1,h,key=>by
  have hj:j < t.ops.length:=by omega
  have ih:=zfq hT j (by omega) key
  show agl key ((blockJ T t j).one (t,j)).rd=_
  unfold Tb.one
  rw [zfs]
  simp only [rdsN]
  generalize ho:t.ops.getD j default=o
  show agl key (if o.read=true∧¬ t.ab=true then adl o.key ⟨t.id,j,o.key,o.list,agl (t.id,o.key) (blockJ T t j).ap⟩ (blockJ T t j).rd else (blockJ T t j).rd)=_
  by_cases hab:t.ab=true
  ·rw [if_neg (fun q=>q.2 hab),ih,if_pos hab,if_pos hab]
  ·rw [if_neg hab] at ih ⊢
   by_cases hr:o.read=true
   ·rw [if_pos ⟨hr,hab⟩,zbH,ih,zdv hT j (by omega),if_pos rfl,List.append_assoc]
    by_cases hk:o.key=key
    ·rw [if_pos hk.symm,if_pos ⟨hr,hk⟩,hk]
    ·rw [if_neg (fun q=>hk q.symm),if_neg (fun q=>hk q.2)]
   ·rw [if_neg (fun q=>hr q.1),ih,if_neg (fun q=>hr q.1),List.append_nil]
theorem zf8 {T:Tb} {t:HTx}:∀ j,j≤t.ops.length→∀ key,agl key (blockJ T t j).wt=agl key T.wt++if t.ab=true then [] else wtsN key t j
 | 0,_,key=>by show agl key T.wt=_;split <;> simp [wtsN]
 | j + 1,h,key=>by
  have hj:j < t.ops.length:=by omega
  have ih:=zf8 (T:=T) (t:=t) j (by omega) key
  show agl key ((blockJ T t j).one (t,j)).wt=_
  unfold Tb.one
  rw [zf5]
  simp only [wtsN]
  generalize ho:t.ops.getD j default=o
  show agl key (if ¬ o.read=true∧¬ t.ab=true then adl o.key ⟨t.id,j,o.key,o.value,t.ab⟩ (blockJ T t j).wt else (blockJ T t j).wt)=_
  by_cases hab:t.ab=true
  ·rw [if_neg (fun q=>q.2 hab),ih,if_pos hab,if_pos hab]
  ·rw [if_neg hab] at ih ⊢
   by_cases hr:o.read=true
   ·rw [if_neg (fun q=>q.1 hr),ih,if_neg (fun q=>by rw [hr] at q;cases q.1),List.append_nil]
   ·have hr2:o.read=false:=by simpa using hr
    have hab2:t.ab=false:=by simpa using hab
    rw [if_pos ⟨hr,hab⟩,zbH,ih,List.append_assoc,hab2]
    by_cases hk:o.key=key
    ·rw [if_pos hk.symm,if_pos ⟨hr2,hk⟩,hk]
    ·rw [if_neg (fun q=>hk q.symm),if_neg (fun q=>hk q.2)]
theorem zdP (t:HTx) (s:List HTx) (T:Tb):(stepsL (t::s)).foldl Tb.one T=(stepsL s).foldl Tb.one (blockJ T t t.ops.length):=by
 show (((List.range t.ops.length).map fun i=>(t,i))++stepsL s).foldl Tb.one T=_
 rw [List.foldl_append,zfd]
theorem zfg:∀ (s:List HTx) (T:Tb),(s.map HTx.id).Nodup→(∀ t ∈ s,∀ key,agl (t.id,key) T.ap=[])→∀ x key,agl (x,key) ((stepsL s).foldl Tb.one T).ap=match s.find? (fun t=>decide (t.id=x)) with
  | some t=>aheadL t.ops key t.ops.length
  | none=>agl (x,key) T.ap
 | [],T,_,_,x,key=>rfl
 | t::s,T,hn,hT,x,key=>by
  rw [List.map_cons,List.nodup_cons] at hn
  have h1:=zdv (hT t (List.mem_cons_self)) t.ops.length (Nat.le_refl _)
  have h2:∀ u ∈ s,∀ key,agl (u.id,key) (blockJ T t t.ops.length).ap=[]:=fun u hu key=>by
   rw [h1,if_neg (fun e=>hn.1 (by rw [← e];exact List.mem_map_of_mem hu))]
   exact hT u (List.mem_cons_of_mem _ hu) key
  rw [zdP,zfg s _ hn.2 h2,List.find?_cons]
  by_cases e:t.id=x
  ·have:s.find? (fun t=>decide (t.id=x))=none:=by
    rw [List.find?_eq_none]
    intro u hu q
    exact hn.1 (by rw [e,← of_decide_eq_true q];exact List.mem_map_of_mem hu)
   rw [this,decide_eq_true e]
   show agl (x,key) (blockJ T t t.ops.length).ap=_
   rw [h1,if_pos e.symm]
  ·rw [decide_eq_false e]
   cases s.find? (fun t=>decide (t.id=x)) with
   | some u=>rfl
   | none=>show agl (x,key) (blockJ T t t.ops.length).ap=_;rw [h1,if_neg (fun q=>e q.symm)]
theorem zfI:∀ (s:List HTx) (T:Tb),(s.map HTx.id).Nodup→(∀ t ∈ s,∀ key,agl (t.id,key) T.ap=[])→∀ key,agl key ((stepsL s).foldl Tb.one T).rd=agl key T.rd++(s.filter fun t=>!t.ab).flatMap fun t=>rdsN key t t.ops.length
 | [],T,_,_,key=>by simp [stepsL]
 | t::s,T,hn,hT,key=>by
  rw [List.map_cons,List.nodup_cons] at hn
  have h1:=zdv (hT t (List.mem_cons_self)) t.ops.length (Nat.le_refl _)
  have h2:∀ u ∈ s,∀ key,agl (u.id,key) (blockJ T t t.ops.length).ap=[]:=fun u hu key=>by
   rw [h1,if_neg (fun e=>hn.1 (by rw [← e];exact List.mem_map_of_mem hu))]
   exact hT u (List.mem_cons_of_mem _ hu) key
  rw [zdP,zfI s _ hn.2 h2,zfq (hT t (List.mem_cons_self)) t.ops.length (Nat.le_refl _)]
  cases hab:t.ab <;> simp [hab]
theorem ze3:∀ (s:List HTx) (T:Tb) (key:Int),agl key ((stepsL s).foldl Tb.one T).wt=agl key T.wt++(s.filter fun t=>!t.ab).flatMap fun t=>wtsN key t t.ops.length
 | [],T,key=>by simp [stepsL]
 | t::s,T,key=>by
  rw [zdP,ze3 s _ key,zf8 t.ops.length (Nat.le_refl _)]
  cases hab:t.ab <;> simp [hab]
theorem zdW:∀ {h:List HTx},(h.map HTx.id).Nodup→∀ {t:HTx},t ∈ h→h.find? (fun u=>decide (u.id=t.id))=some t
 | [],_,t,ht=>by cases ht
 | u::h,hn,t,ht=>by
  rw [List.map_cons,List.nodup_cons] at hn
  rcases List.mem_cons.1 ht with rfl|ht
  ·rw [List.find?_cons,decide_eq_true rfl]
  ·rw [List.find?_cons,decide_eq_false (fun e=>hn.1 (by rw [e];exact List.mem_map_of_mem ht))]
   exact zdW hn.2 ht
theorem zu {h:List HTx} (hn:(idsH h).Nodup) {t:HTx} (ht:t ∈ h):txnOf h t.id=t:=by
 unfold txnOf;rw [zdW hn ht];rfl
theorem zjO {h:List HTx} (hn:(idsH h).Nodup) (x:Int):(sortK HTx.id h).find? (fun t=>decide (t.id=x))=h.find? (fun t=>decide (t.id=x)):=by
 have hp:=sortK_perm HTx.id h
 have hn2:((sortK HTx.id h).map HTx.id).Nodup:=(hp.map HTx.id).nodup_iff.2 hn
 cases e:h.find? (fun t=>decide (t.id=x)) with
 | none =>
  rw [List.find?_eq_none] at e ⊢
  exact fun t ht=>e t (hp.mem_iff.1 ht)
 | some t =>
  have h1:=List.mem_of_find?_eq_some e
  have h2:t.id=x:=by simpa using List.find?_some e
  subst h2
  exact zdW hn2 (hp.mem_iff.2 h1)
theorem zf0 {h:List HTx} (hn:(idsH h).Nodup) (x key:Int):agl (x,key) (tabS (sortK HTx.id h)).fin.ap=aheadL (txnOf h x).ops key (txnOf h x).ops.length:=by
 show agl (x,key) ((stepsL (sortK HTx.id h)).foldl Tb.one (T0 _)).ap=_
 rw [zfg _ _ ((((sortK_perm HTx.id h).map HTx.id)).nodup_iff.2 hn) (fun t _ key=>rfl),zjO hn]
 unfold txnOf
 cases h.find? (fun t=>decide (t.id=x)) with
 | some t=>rfl
 | none=>rfl
theorem zee {α:Type} (h:List HTx) (hn:(idsH h).Nodup) (f:HTx→List α):∀ s:List HTx,(∀ t ∈ s,t ∈ h)→(s.filter fun t=>!t.ab).flatMap f=(comm s).flatMap fun x=>f (txnOf h x)
 | [],_=>rfl
 | t::s,hs=>by
  have ih:=zee h hn f s (fun u hu=>hs u (List.mem_cons_of_mem _ hu))
  have ht:=zu hn (hs t List.mem_cons_self)
  unfold comm at ih ⊢
  cases hab:t.ab <;> simp [hab,ih,ht]
theorem zcv {h:List HTx} (hn:(idsH h).Nodup) (key:Int):agl key (tabS (sortK HTx.id h)).fin.rd=(setL (comm h)).flatMap fun x=>rdsN key (txnOf h x) (txnOf h x).ops.length:=by
 show agl key ((stepsL (sortK HTx.id h)).foldl Tb.one (T0 _)).rd=_
 rw [zfI _ _ ((((sortK_perm HTx.id h).map HTx.id)).nodup_iff.2 hn) (fun t _ key=>rfl),zfY hn,zee h hn (fun t=>rdsN key t t.ops.length) _ (fun t ht=>(sortK_perm HTx.id h).mem_iff.1 ht)]
 rfl
theorem zii {h:List HTx} (hn:(idsH h).Nodup) (key:Int):agl key (tabS (sortK HTx.id h)).fin.wt=(setL (comm h)).flatMap fun x=>wtsN key (txnOf h x) (txnOf h x).ops.length:=by
 show agl key ((stepsL (sortK HTx.id h)).foldl Tb.one (T0 _)).wt=_
 rw [ze3,zfY hn,zee h hn (fun t=>wtsN key t t.ops.length) _ (fun t ht=>(sortK_perm HTx.id h).mem_iff.1 ht)]
 rfl
end Go.AMS

namespace Go.AMS
open Go.AM hiding Kt At WP WL Runs RunsY
open Go.AM.G
set_option linter.unusedVariables false
set_option linter.unusedSimpArgs false
set_option linter.unusedSectionVars false
set_option maxRecDepth 100000
set_option maxHeartbeats 1000000
attribute [local irreducible] AtS AtV AtC AtG FinA Spec Post LP G.At G.WP G.WL pt own fro rdl ro hx mp lrec elt sub

open Go.AM.G.Set
section
variable {h:List HTx} {p q:Option Addr} {c d:Nat}
def outR (h:List HTx) (key:Int) (l:List Int):List HRd:=l.flatMap fun x=>rdsN key (txnOf h x) (txnOf h x).ops.length
def outW (h:List HTx) (key:Int) (l:List Int):List HWr:=l.flatMap fun x=>wtsN key (txnOf h x) (txnOf h x).ops.length
theorem zdM (key:Int) (t:HTx):∀ n,(rdsN key t n).length≤n
 | 0=>Nat.le_refl _
 | n + 1=>by
  have:=zdM key t n
  simp only [rdsN,List.length_append]
  split <;> simp <;> omega
theorem zdD (key:Int) (t:HTx):∀ n,(wtsN key t n).length≤n
 | 0=>Nat.le_refl _
 | n + 1=>by
  have:=zdD key t n
  simp only [wtsN,List.length_append]
  split <;> simp <;> omega
theorem zt (hf:FewH h 20 60) (hm:∀ t ∈ h,mayN t.id∧∀ o ∈ t.ops,mayO o) (x:Int) (hx:mayN x):mayN (txnOf h x).id∧(txnOf h x).ops.length≤60∧(∀ o ∈ (txnOf h x).ops,mayO o)∧∀ o ∈ (txnOf h x).ops,o.list.length≤100:=by
 rcases ze1 h x with e|e
 ·rw [e];exact ⟨hx,by simp,by simp,by simp⟩
 ·exact ⟨(hm _ e).1,Nat.le_trans (zdo e) hf.o,(hm _ e).2,hf.l _ e⟩
theorem zh9 {key:Int} {l:List Int} {k:Nat} (hk:k < l.length):outR h key (l.take (k + 1))=outR h key (l.take k)++rdsN key (txnOf h l[k]) (txnOf h l[k]).ops.length:=by
 unfold outR
 rw [List.take_succ_eq_append_getElem hk,List.flatMap_append];simp
theorem zg4 {key:Int} {l:List Int} {k:Nat} (hk:k < l.length):outW h key (l.take (k + 1))=outW h key (l.take k)++wtsN key (txnOf h l[k]) (txnOf h l[k]).ops.length:=by
 unfold outW
 rw [List.take_succ_eq_append_getElem hk,List.flatMap_append];simp
theorem za7 (hm:∀ t ∈ h,mayN t.id∧∀ o ∈ t.ops,mayO o) {x:Int} (hx:x ∈ setL (comm h)):mayN x:=by
 rw [mem_setL,zai] at hx
 obtain ⟨t,ht,_,e⟩:=hx
 rw [← e];exact (hm t ht).1
theorem zkI {key:Int} (hf:FewH h 20 60) (hm:∀ t ∈ h,mayN t.id∧∀ o ∈ t.ops,mayO o):Spec prog1 zan [.agg #[.slice p h.length c],.int .i64 key] [fro kHTx p c h] (fun R=>∀ p' c',R (.slice p' (outR h key (setL (comm h))).length c') [own kHRd p' c' (outR h key (setL (comm h)))]):=by
 refine spec_code zhJ rfl ?_;intro n F R hR;unfold zbG
 have hh:=hf.t
 have hcl:=zK h
 have hsl:=setL_le (comm h)
 have hmay:=fun x (hx:x ∈ setL (comm h))=>za7 hm hx
 repeat' first|apply step|(apply gO;·repeat first|exact eZ|(apply eS;exact rfl))|refine Fa.mk fun _=>?_
 refine at_callS (zfC hf) ?_
 intro p1 c1
 generalize setL (comm h)=l at hR hsl hmay ⊢
 repeat' first|apply step|(apply gO;·repeat first|exact eZ|(apply eS;exact rfl))|refine g_keep ?_
 rename_i rb
 refine at_loopS (ι:=Nat × (Option Addr × Nat)) (E:=fun z=>[(1,.int .i64 key),(2,.pointer (some ⟨rb,0,none⟩)),(5,.slice z.2.1 (outR h key (l.take z.1)).length z.2.2),(6,.slice p1 l.length c1),(7,.int .i64 (z.1:Int))]) (Δ:=fun z=>own kHRd z.2.1 z.2.2 (outR h key (l.take z.1))::own (kInt .i64) p1 c1 l::pt rb [.slice p h.length c] 0::fro kHTx p c h::F) (P:=fun z=>z.1≤l.length∧(outR h key (l.take z.1)).length≤z.1 * 60) (μ:=fun z=>l.length - z.1) (0,(none,0)) ⟨Nat.zero_le _,by simp [outR]⟩ ?_
 rintro ⟨k,p2,c2⟩ ⟨hk,hol⟩
 dsimp only at hk hol ⊢
 rcases Nat.lt_or_ge k l.length with hlt|hge
 ·obtain ⟨g1,g2,g3,g4⟩:=zt hf hm l[k] (hmay _ (List.getElem_mem _))
  have hnx:=zh9 (h:=h) (key:=key) hlt
  have hid1:=g1.1
  have hid2:=g1.2
  repeat' first|apply step|(apply gO;·repeat first|exact eZ|(apply eS;exact rfl))|(refine Br.mk (fun _=>?_) (fun _=>?_)<;>try (exfalso;omega))|(refine Sd.mk ?_ ?_;·exact qD)|(refine Sx.mk ?_ ?_;·omega)|refine Im.mk fun _=>?_|refine g_cond ?_
  refine at_callR (zf6 (h:=h) (x:=l[k]) (by omega)) ?_
  intro w
  generalize txnOf h l[k]=t at g1 g2 g3 g4 hnx hid1 hid2 ⊢
  repeat' first|apply step|(apply gO;·repeat first|exact eZ|(apply eS;exact rfl))|refine Fa.mk fun _=>?_|apply Lw.go|refine g_keep ?_
  rename_i tb
  generalize outR h key (l.take k)=O at hol hnx ⊢
  have hlenN:=zdM key t
  refine at_loopS (ι:=Nat × (Option Addr × Nat)) (E:=fun z=>[(1,.int .i64 key),(2,.pointer (some ⟨rb,0,none⟩)),(5,.slice z.2.1 (O++rdsN key t z.1).length z.2.2),(6,.slice p1 l.length c1),(7,.int .i64 (k:Int)),(8,.pointer (some ⟨tb,0,none⟩)),(9,.int .i64 (z.1:Int))]) (Δ:=fun z=>own kHRd z.2.1 z.2.2 (O++rdsN key t z.1)::pt tb [.int .i64 t.id,.bool t.ab,.slice w.1 t.ops.length w.2] 0::fro kHOp w.1 w.2 t.ops::own (kInt .i64) p1 c1 l::pt rb [.slice p h.length c] 0::fro kHTx p c h::F) (P:=fun z=>z.1≤t.ops.length) (μ:=fun z=>t.ops.length - z.1) (0,(p2,c2)) (Nat.zero_le _) ?_ (by dsimp only [rdsN];rw [List.append_nil];rfl) (by dsimp only [rdsN];rw [List.append_nil];repeat first|exact Ent.refl _|(apply Ent.more;· repeat first|exact Ent.keep|exact Ent.here|exact Ent.lend|exact ent_nil|apply Ent.there)|apply Ent.drop)
  rintro ⟨i,p3,c3⟩ hi
  dsimp only at hi ⊢
  have hOl:(O++rdsN key t i).length≤2000:=by have:=hlenN i;rw [List.length_append];omega
  rcases Nat.lt_or_ge i t.ops.length with hl2|hg2
  ·have hmo:=g3 t.ops[i] (List.getElem_mem _)
   have hll:=g4 t.ops[i] (List.getElem_mem _)
   have hkb:-9223372036854775808≤t.ops[i].key∧t.ops[i].key≤9223372036854775807:=by unfold mayO mayN at hmo;split at hmo <;> omega
   have hsx:rdsN key t (i + 1)=rdsN key t i++if t.ops[i].read=true∧t.ops[i].key=key then [⟨t.id,(i:Nat),key,t.ops[i].list,aheadL t.ops key i⟩] else []:=by
    simp only [rdsN,getD_lt hl2]
   have hal:=zap t.ops key i
   cases hr:t.ops[i].read
   ·rw [hr,if_neg (fun q=>by cases q.1),List.append_nil] at hsx
    repeat' first|rw [hr]|apply step|(apply gO;·repeat first|exact eZ|(apply eS;exact rfl))|(refine Br.mk (fun _=>?_) (fun _=>?_)<;>try (exfalso;omega))|(refine Sd.mk ?_ ?_;·exact qD)|(refine Sx.mk ?_ ?_;·omega)|refine g_cond ?_|refine g_guard ?_|refine g_keep ?_
    exact lp_next (i + 1,_,_) (by dsimp only;omega) (by dsimp only;omega) (by dsimp only;rw [hsx]) (by dsimp only;rw [hsx];repeat first|exact Ent.refl _|(apply Ent.more;· repeat first|exact Ent.keep|exact Ent.here|exact Ent.lend|exact ent_nil|apply Ent.there)|apply Ent.drop)
   ·rw [hr] at hsx
    by_cases hke:t.ops[i].key=key
    ·rw [if_pos ⟨rfl,hke⟩] at hsx
     repeat' first|rw [hr]|apply step|(apply gO;·repeat first|exact eZ|(apply eS;exact rfl))|(refine Br.mk (fun _=>?_) (fun _=>?_)<;>try (exfalso;omega))|(refine Sd.mk ?_ ?_;·exact qD)|(refine Sx.mk ?_ ?_;·omega)|refine Fa.mk fun _=>?_|refine Im.mk fun _=>?_|refine g_cond ?_|refine g_guard ?_|refine g_keep ?_
     refine at_callR (zhu (t:=t) (key:=key) (n0:=i) (by omega) (by omega) g3) ?_
     intro p4 c4
     refine Lw.go ?_
     iterate 2 apply step
     refine at_freezeO ?_
     repeat' first|apply step|(apply gO;·repeat first|exact eZ|(apply eS;exact rfl))|(refine Sd.mk ?_ ?_;·exact qD)|refine Fa.mk fun _=>?_|refine g_keep ?_
     exact lp_next (i + 1,_,_) (by dsimp only;omega) (by dsimp only;omega) (by dsimp only;rw [hsx,← List.append_assoc]) (by dsimp only;rw [hsx,← List.append_assoc];repeat first|exact Ent.refl _|(apply Ent.more;· repeat first|exact Ent.keep|exact Ent.here|exact Ent.lend|exact ent_nil|apply Ent.there)|apply Ent.drop)
    ·rw [if_neg (fun q=>hke q.2),List.append_nil] at hsx
     repeat' first|rw [hr]|apply step|(apply gO;·repeat first|exact eZ|(apply eS;exact rfl))|(refine Br.mk (fun _=>?_) (fun _=>?_)<;>try (exfalso;omega))|(refine Sd.mk ?_ ?_;·exact qD)|(refine Sx.mk ?_ ?_;·omega)|refine Im.mk fun _=>?_|refine g_cond ?_|refine g_guard ?_|refine g_keep ?_
     exact lp_next (i + 1,_,_) (by dsimp only;omega) (by dsimp only;omega) (by dsimp only;rw [hsx]) (by dsimp only;rw [hsx];repeat first|exact Ent.refl _|(apply Ent.more;· repeat first|exact Ent.keep|exact Ent.here|exact Ent.lend|exact ent_nil|apply Ent.there)|apply Ent.drop)
  ·have e:i=t.ops.length:=by omega
   subst e
   rw [← hnx]
   repeat' first|apply step|(apply gO;·repeat first|exact eZ|(apply eS;exact rfl))|(refine Br.mk (fun _=>?_) (fun _=>?_)<;>try (exfalso;omega))|(refine Sd.mk ?_ ?_;·exact qD)|refine g_cond ?_|refine g_keep ?_
   exact lp_next (k + 1,_,_) ⟨by dsimp only;omega,by dsimp only;rw [hnx,List.length_append];have:=hlenN t.ops.length;omega⟩ (by dsimp only;omega)
 ·have e:l.take k=l:=List.take_of_length_le hge
  rw [e]
  repeat' first|apply step|(apply gO;·repeat first|exact eZ|(apply eS;exact rfl))|(refine Br.mk (fun _=>?_) (fun _=>?_)<;>try (exfalso;omega))|refine g_cond ?_|refine g_keep ?_|refine g_fin ?_
  exact fin (hR p2 c2)
theorem zjD {key:Int} (hf:FewH h 20 60) (hm:∀ t ∈ h,mayN t.id∧∀ o ∈ t.ops,mayO o):Spec prog1 zaB [.agg #[.slice p h.length c],.int .i64 key] [fro kHTx p c h] (fun R=>∀ p' c',R (.slice p' (outW h key (setL (comm h))).length c') [own kHWr p' c' (outW h key (setL (comm h)))]):=by
 refine spec_code ziK rfl ?_;intro n F R hR;unfold zcy
 have hh:=hf.t
 have hcl:=zK h
 have hsl:=setL_le (comm h)
 have hmay:=fun x (hx:x ∈ setL (comm h))=>za7 hm hx
 repeat' first|apply step|(apply gO;·repeat first|exact eZ|(apply eS;exact rfl))|refine Fa.mk fun _=>?_
 refine at_callS (zfC hf) ?_
 intro p1 c1
 generalize setL (comm h)=l at hR hsl hmay ⊢
 repeat' first|apply step|(apply gO;·repeat first|exact eZ|(apply eS;exact rfl))|refine g_keep ?_
 rename_i rb
 refine at_loopS (ι:=Nat × (Option Addr × Nat)) (E:=fun z=>[(1,.int .i64 key),(2,.pointer (some ⟨rb,0,none⟩)),(5,.slice z.2.1 (outW h key (l.take z.1)).length z.2.2),(6,.slice p1 l.length c1),(7,.int .i64 (z.1:Int))]) (Δ:=fun z=>own kHWr z.2.1 z.2.2 (outW h key (l.take z.1))::own (kInt .i64) p1 c1 l::pt rb [.slice p h.length c] 0::fro kHTx p c h::F) (P:=fun z=>z.1≤l.length∧(outW h key (l.take z.1)).length≤z.1 * 60) (μ:=fun z=>l.length - z.1) (0,(none,0)) ⟨Nat.zero_le _,by simp [outW]⟩ ?_
 rintro ⟨k,p2,c2⟩ ⟨hk,hol⟩
 dsimp only at hk hol ⊢
 rcases Nat.lt_or_ge k l.length with hlt|hge
 ·obtain ⟨g1,g2,g3,g4⟩:=zt hf hm l[k] (hmay _ (List.getElem_mem _))
  have hnx:=zg4 (h:=h) (key:=key) hlt
  have hid1:=g1.1
  have hid2:=g1.2
  repeat' first|apply step|(apply gO;·repeat first|exact eZ|(apply eS;exact rfl))|(refine Br.mk (fun _=>?_) (fun _=>?_)<;>try (exfalso;omega))|(refine Sd.mk ?_ ?_;·exact qD)|(refine Sx.mk ?_ ?_;·omega)|refine Im.mk fun _=>?_|refine g_cond ?_
  refine at_callR (zf6 (h:=h) (x:=l[k]) (by omega)) ?_
  intro w
  generalize txnOf h l[k]=t at g1 g2 g3 g4 hnx hid1 hid2 ⊢
  repeat' first|apply step|(apply gO;·repeat first|exact eZ|(apply eS;exact rfl))|refine Fa.mk fun _=>?_|apply Lw.go|refine g_keep ?_
  rename_i tb
  generalize outW h key (l.take k)=O at hol hnx ⊢
  have hlenN:=zdD key t
  refine at_loopS (ι:=Nat × (Option Addr × Nat)) (E:=fun z=>[(1,.int .i64 key),(2,.pointer (some ⟨rb,0,none⟩)),(5,.slice z.2.1 (O++wtsN key t z.1).length z.2.2),(6,.slice p1 l.length c1),(7,.int .i64 (k:Int)),(8,.pointer (some ⟨tb,0,none⟩)),(9,.int .i64 (z.1:Int))]) (Δ:=fun z=>own kHWr z.2.1 z.2.2 (O++wtsN key t z.1)::pt tb [.int .i64 t.id,.bool t.ab,.slice w.1 t.ops.length w.2] 0::fro kHOp w.1 w.2 t.ops::own (kInt .i64) p1 c1 l::pt rb [.slice p h.length c] 0::fro kHTx p c h::F) (P:=fun z=>z.1≤t.ops.length) (μ:=fun z=>t.ops.length - z.1) (0,(p2,c2)) (Nat.zero_le _) ?_ (by dsimp only [wtsN];rw [List.append_nil];rfl) (by dsimp only [wtsN];rw [List.append_nil];repeat first|exact Ent.refl _|(apply Ent.more;· repeat first|exact Ent.keep|exact Ent.here|exact Ent.lend|exact ent_nil|apply Ent.there)|apply Ent.drop)
  rintro ⟨i,p3,c3⟩ hi
  dsimp only at hi ⊢
  have hOl:(O++wtsN key t i).length≤2000:=by have:=hlenN i;rw [List.length_append];omega
  rcases Nat.lt_or_ge i t.ops.length with hl2|hg2
  ·have hmo:=g3 t.ops[i] (List.getElem_mem _)
   have hll:=g4 t.ops[i] (List.getElem_mem _)
   have hkb:-9223372036854775808≤t.ops[i].key∧t.ops[i].key≤9223372036854775807:=by unfold mayO mayN at hmo;split at hmo <;> omega
   have hsx:wtsN key t (i + 1)=wtsN key t i++if t.ops[i].read=false∧t.ops[i].key=key then [⟨t.id,(i:Nat),key,t.ops[i].value,false⟩] else []:=by
    simp only [wtsN,getD_lt hl2]
   have hal:=zap t.ops key i
   cases hr:t.ops[i].read
   ·rw [hr] at hsx
    have hvb:-9223372036854775808≤t.ops[i].value∧t.ops[i].value≤9223372036854775807:=by unfold mayO mayN at hmo;split at hmo <;> omega
    by_cases hke:t.ops[i].key=key
    ·rw [if_pos ⟨rfl,hke⟩] at hsx
     repeat' first|rw [hr]|apply step|(apply gO;·repeat first|exact eZ|(apply eS;exact rfl))|(refine Br.mk (fun _=>?_) (fun _=>?_)<;>try (exfalso;omega))|(refine Sd.mk ?_ ?_;·exact qD)|(refine Sx.mk ?_ ?_;·omega)|refine Fa.mk fun _=>?_|refine Im.mk fun _=>?_|refine g_cond ?_|refine g_guard ?_|refine g_keep ?_
     exact lp_next (i + 1,_,_) (by dsimp only;omega) (by dsimp only;omega) (by dsimp only;rw [hsx,← List.append_assoc]) (by dsimp only;rw [hsx,← List.append_assoc];repeat first|exact Ent.refl _|(apply Ent.more;· repeat first|exact Ent.keep|exact Ent.here|exact Ent.lend|exact ent_nil|apply Ent.there)|apply Ent.drop)
    ·rw [if_neg (fun q=>hke q.2),List.append_nil] at hsx
     repeat' first|rw [hr]|apply step|(apply gO;·repeat first|exact eZ|(apply eS;exact rfl))|(refine Br.mk (fun _=>?_) (fun _=>?_)<;>try (exfalso;omega))|(refine Sd.mk ?_ ?_;·exact qD)|(refine Sx.mk ?_ ?_;·omega)|refine Im.mk fun _=>?_|refine g_cond ?_|refine g_guard ?_|refine g_keep ?_
     exact lp_next (i + 1,_,_) (by dsimp only;omega) (by dsimp only;omega) (by dsimp only;rw [hsx]) (by dsimp only;rw [hsx];repeat first|exact Ent.refl _|(apply Ent.more;· repeat first|exact Ent.keep|exact Ent.here|exact Ent.lend|exact ent_nil|apply Ent.there)|apply Ent.drop)
   ·rw [hr,if_neg (fun q=>by cases q.1),List.append_nil] at hsx
    repeat' first|rw [hr]|apply step|(apply gO;·repeat first|exact eZ|(apply eS;exact rfl))|(refine Br.mk (fun _=>?_) (fun _=>?_)<;>try (exfalso;omega))|(refine Sd.mk ?_ ?_;·exact qD)|(refine Sx.mk ?_ ?_;·omega)|refine g_cond ?_|refine g_guard ?_|refine g_keep ?_
    exact lp_next (i + 1,_,_) (by dsimp only;omega) (by dsimp only;omega) (by dsimp only;rw [hsx]) (by dsimp only;rw [hsx];repeat first|exact Ent.refl _|(apply Ent.more;· repeat first|exact Ent.keep|exact Ent.here|exact Ent.lend|exact ent_nil|apply Ent.there)|apply Ent.drop)
  ·have e:i=t.ops.length:=by omega
   subst e
   rw [← hnx]
   repeat' first|apply step|(apply gO;·repeat first|exact eZ|(apply eS;exact rfl))|(refine Br.mk (fun _=>?_) (fun _=>?_)<;>try (exfalso;omega))|(refine Sd.mk ?_ ?_;·exact qD)|refine g_cond ?_|refine g_keep ?_
   exact lp_next (k + 1,_,_) ⟨by dsimp only;omega,by dsimp only;rw [hnx,List.length_append];have:=hlenN t.ops.length;omega⟩ (by dsimp only;omega)
 ·have e:l.take k=l:=List.take_of_length_le hge
  rw [e]
  repeat' first|apply step|(apply gO;·repeat first|exact eZ|(apply eS;exact rfl))|(refine Br.mk (fun _=>?_) (fun _=>?_)<;>try (exfalso;omega))|refine g_cond ?_|refine g_keep ?_|refine g_fin ?_
  exact fin (hR p2 c2)
end
end Go.AMS

namespace Go.AMS
open Go.AM hiding Kt At WP WL Runs RunsY
open Go.AM.G
set_option linter.unusedVariables false
set_option linter.unusedSimpArgs false
set_option linter.unusedSectionVars false
set_option maxRecDepth 100000
set_option maxHeartbeats 1000000
attribute [local irreducible] AtS AtV AtC AtG FinA Spec Post LP G.At G.WP G.WL pt own fro rdl ro hx mp lrec elt sub

open Go.AM.G.Set
section
variable {h:List HTx} {p q:Option Addr} {c d:Nat}
theorem zlD {h:List HTx} (hf:FewH h 20 60):(tabS (sortK HTx.id h)).fin.keys.length≤60∧(tabS (sortK HTx.id h)).fin.ids.length≤20:=by
 constructor
 ·rw [zfV]
  exact Nat.le_trans (setL_le _) (by rw [zlB];exact hf.o)
 ·show (tabS (sortK HTx.id h)).ids.length≤20
  rw [zkP]
  exact Nat.le_trans (zK _) (by rw [zd2];exact hf.t)
end
end Go.AMS

namespace Go.AMS
open Go.AM hiding Kt At WP WL Runs RunsY
open Go.AM.G
set_option linter.unusedVariables false
set_option linter.unusedSimpArgs false
set_option linter.unusedSectionVars false
set_option maxRecDepth 100000
set_option maxHeartbeats 1000000
attribute [local irreducible] AtS AtV AtC AtG FinA Spec Post LP G.At G.WP G.WL pt own fro rdl ro hx mp lrec elt sub

open Go.AM.G.Set
section
variable {h:List HTx} {p q p1 p2 p3 p4:Option Addr} {c d c1 c2 c3 c4:Nat}
theorem zeI {key:Int} {t:HTx} (g1:mayN t.id) (g2:t.ops.length≤60) (g4:∀ o ∈ t.ops,o.list.length≤100):∀ n,n≤t.ops.length→∀ r ∈ rdsN key t n,(r.list.length≤1000∧r.own.length≤1000)∧mayN r.txn∧mayN r.op∧r.key=key
 | 0,_,r,hr=>by cases hr
 | n + 1,hn,r,hr=>by
  simp only [rdsN] at hr
  rw [getD_lt (by omega:n < t.ops.length)] at hr
  rcases List.mem_append.1 hr with hr|hr
  ·exact zeI g1 g2 g4 n (by omega) r hr
  ·split at hr
   ·rw [List.mem_singleton.1 hr]
    have h1:=g4 t.ops[n] (List.getElem_mem _)
    have h2:=zap t.ops key n
    exact ⟨⟨by dsimp only;omega,by dsimp only;omega⟩,g1,⟨by dsimp only;omega,by dsimp only;omega⟩,rfl⟩
   ·cases hr
theorem zeu (hf:FewH h 20 60) (hm:∀ t ∈ h,mayN t.id∧∀ o ∈ t.ops,mayO o) (key:Int):∀ r ∈ outR h key (setL (comm h)),(r.list.length≤1000∧r.own.length≤1000)∧mayN r.txn∧mayN r.op∧r.key=key:=fun r hr=>by
 obtain ⟨x,hx,h1⟩:=List.mem_flatMap.1 hr
 obtain ⟨g1,g2,_,g4⟩:=zt hf hm x (za7 hm hx)
 exact zeI g1 g2 g4 _ (Nat.le_refl _) r h1
theorem zbS (hf:FewH h 20 60) (hm:∀ t ∈ h,mayN t.id∧∀ o ∈ t.ops,mayO o) (key:Int):(outR h key (setL (comm h))).length≤1200:=by
 have h1:∀ l:List Int,(∀ x ∈ l,mayN x)→(outR h key l).length≤l.length * 60:=by
  intro l
  induction l with
  | nil=>simp [outR]
  | cons x l ih =>
   intro hl
   have h2:=ih fun y hy=>hl y (List.mem_cons_of_mem _ hy)
   have h3:=(zt hf hm x (hl x List.mem_cons_self)).2.1
   have h4:=zdM key (txnOf h x) (txnOf h x).ops.length
   unfold outR at h2 ⊢
   rw [List.flatMap_cons,List.length_append,List.length_cons,Nat.succ_mul];omega
 have h2:=h1 _ (fun x hx=>za7 hm hx)
 have h3:=setL_le (comm h)
 have h4:=zK h
 have h5:=hf.t
 omega
theorem zf3 (hf:FewH h 20 60) (hm:∀ t ∈ h,mayN t.id∧∀ o ∈ t.ops,mayO o) (key:Int):(outW h key (setL (comm h))).length≤1200:=by
 have h1:∀ l:List Int,(∀ x ∈ l,mayN x)→(outW h key l).length≤l.length * 60:=by
  intro l
  induction l with
  | nil=>simp [outW]
  | cons x l ih =>
   intro hl
   have h2:=ih fun y hy=>hl y (List.mem_cons_of_mem _ hy)
   have h3:=(zt hf hm x (hl x List.mem_cons_self)).2.1
   have h4:=zdD key (txnOf h x) (txnOf h x).ops.length
   unfold outW at h2 ⊢
   rw [List.flatMap_cons,List.length_append,List.length_cons,Nat.succ_mul];omega
 have h2:=h1 _ (fun x hx=>za7 hm hx)
 have h3:=setL_le (comm h)
 have h4:=zK h
 have h5:=hf.t
 omega
end
end Go.AMS

namespace Go.AMS
open Go.AM hiding Kt At WP WL Runs RunsY
open Go.AM.G
open Go.AM.G.Set
set_option linter.unusedVariables false
set_option linter.unusedSimpArgs false
def frontL (r:HRd):List Int:=r.list.take (r.list.length - r.own.length)
/-- Who appended a value. -/
abbrev Wf:=Int→Option HWr
def abL (W:Wf):List Int→Option (Int × Int)
 | []=>none
 | x::l=>match W x with
  | some w=>if w.ab=true then some (x,w.txn) else abL W l
  | none=>abL W l
def midL (W:Wf) (A:Int→List Int) (l:List Int):Option (Int × Int) :=
 match l.getLast? with
 | none=>none
 | some x=>match W x with
  | none=>none
  | some w=>if w.ab=true then none else if (A w.txn).getLast? = some x then none else some (x,w.txn)
/-- The first place of a row that is not as another one is. -/
def wrongL:List Int→List Int→Nat→Option Nat
 | [],_,_=>none
 | x::l,[],i=>some i
 | x::l,y::r,i=>if x=y then wrongL l r (i + 1) else some i
def mineB (W:Wf) (id:Int) (x:Int):Bool:=match W x with
 | some w=>decide (w.txn=id) && !w.ab
 | none=>false
def mineL (W:Wf) (l:List Int) (id:Int):List Int:=l.filter (mineB W id)
def tornF (W:Wf) (A:Int→List Int) (l:List Int) (id:Int):Option (Int × Int) :=
 match wrongL (mineL W l id) (A id) 0 with
 | some i=>some ((mineL W l id).getD i 0,id)
 | none=>none
/-- The transactions, as they come first. -/
def idsD (W:Wf):List Int→List Int
 | l=>l.foldl (fun o x=>match W x with
  | some w=>if w.ab=true∨w.txn ∈ o then o else o++[w.txn]
  | none=>o) []
def tornP (W:Wf) (A:Int→List Int) (l:List Int):Option (Int × Int):=(idsD W l).findSome? (tornF W A l)
/-- The table of a history. -/
abbrev TH (h:List HTx):Tb:=(tabS (sortK HTx.id h)).fin
/-- Who appended a value, as the document has it. -/
theorem zec {h:List HTx} {p:Option Addr} {c:Nat} {x y:Int} (hf:FewH h 20 60) (hk:OkH h):Spec prog1 ze [.agg #[.slice p h.length c],.int .i64 x,.int .i64 y] [fro kHTx p c h] (fun R=>R (wrO (aget (x,y) (TH h).wr)) []):=fun n F h0 R hs hw=>zlP hf n F h0 R hs ⟨fun t ht i hi q1 q2 q3=>by
  rw [zd0 hk.p ht hi q1 q2 q3] at hw;exact hw,fun hn=>by rw [zfR hn] at hw;exact hw⟩
theorem ap_le {h:List HTx} (hf:FewH h 20 60) (hk:OkH h) (x key:Int):(agl (x,key) (TH h).ap).length≤60:=by
 rw [zf0 hk.i]
 refine Nat.le_trans (zap _ _ _) ?_
 rcases ze1 h x with e|e
 ·rw [e];simp
 ·exact Nat.le_trans (zdo e) hf.o
theorem wr_at {h:List HTx} (hk:OkH h) {k v:Int} {w:HWr} (hw:aget (k,v) (TH h).wr=some w):∃ t ∈ h,∃ i,∃ hi:i < t.ops.length,(t.ops[i].read=false∧t.ops[i].key=k∧t.ops[i].value=v)∧w=⟨t.id,i,k,v,t.ab⟩:=by
 by_cases hm:∃ t ∈ h,∃ i,∃ hi:i < t.ops.length,t.ops[i].read=false∧t.ops[i].key=k∧t.ops[i].value=v
 ·obtain ⟨t,ht,i,hi,q1,q2,q3⟩:=hm
  refine ⟨t,ht,i,hi,⟨q1,q2,q3⟩,?_⟩
  rw [zd0 hk.p ht hi q1 q2 q3] at hw
  exact (Option.some.inj hw).symm
 ·rw [zfR (fun t ht o ho q=>by obtain ⟨i,hi,e⟩:=List.mem_iff_getElem.1 ho;subst e;exact hm ⟨t,ht,i,hi,q⟩)] at hw
  cases hw
theorem zlQ {h:List HTx} (hk:OkH h) {k v:Int} {w:HWr} (hw:aget (k,v) (TH h).wr=some w):0 < (agl (w.txn,k) (TH h).ap).length:=by
 obtain ⟨t,ht,i,hi,⟨q1,q2,q3⟩,rfl⟩:=wr_at hk hw
 rw [zf0 hk.i,zu hk.i ht]
 refine List.length_pos_of_mem (a:=v) ?_
 unfold aheadL
 rw [List.take_length]
 exact List.mem_map.2 ⟨t.ops[i],List.mem_filter.2 ⟨List.getElem_mem hi,by simp [q1,q2]⟩,q3⟩
end Go.AMS

namespace Go.AMS
open Go.AM hiding Kt At WP WL Runs RunsY
open Go.AM.G
set_option linter.unusedVariables false
set_option linter.unusedSimpArgs false
set_option linter.unusedSectionVars false
set_option maxRecDepth 100000
set_option maxHeartbeats 1000000
attribute [local irreducible] AtS AtV AtC AtG FinA Spec Post LP G.At G.WP G.WL pt own fro rdl ro hx mp lrec elt sub

open Go.AM.G.Set
section
variable {h:List HTx} {T:Tb} {r:HRd} {p p1 p2:Option Addr} {c c1 c2 b:Nat}
theorem zak (r:HRd):(frontL r).length=r.list.length - r.own.length:=by
 unfold frontL;rw [List.length_take];omega
theorem zf2 (h1:r.list.length≤1000) (h2:r.own.length≤1000):Spec prog1 zal [.agg #[.int .i64 r.txn,.int .i64 r.op,.int .i64 r.key,.slice p1 r.list.length c1,.slice p2 r.own.length c2]] [fro (kInt .i64) p1 c1 r.list] (fun R=>∀ p' c',R (.slice p' (frontL r).length c') [own (kInt .i64) p' c' (frontL r)]):=by
 refine spec_code zjT rfl ?_;intro n F R hR;unfold zb8
 have hfl:=zak r
 rcases Nat.lt_or_ge r.own.length r.list.length with hlt|hge
 ·repeat' first|apply step|(apply gO;·repeat first|exact eZ|(apply eS;exact rfl))|(refine Br.mk (fun _=>?_) (fun _=>?_)<;>try (exfalso;omega))|(refine Sd.mk ?_ ?_;·exact qD)|refine Fa.mk fun _=>?_|refine g_cond ?_|refine g_keep ?_|refine g_fin ?_
  rw [show r.list.take ((r.list.length:Int) - (r.own.length:Int)).toNat=frontL r by unfold frontL;rw [show ((r.list.length:Int) - (r.own.length:Int)).toNat=r.list.length - r.own.length by omega]]
  exact fin (hR _ _)
 ·have e:frontL r=[]:=List.length_eq_zero_iff.1 (by omega)
  rw [e] at hR
  repeat' first|apply step|(apply gO;·repeat first|exact eZ|(apply eS;exact rfl))|(refine Br.mk (fun _=>?_) (fun _=>?_)<;>try (exfalso;omega))|(refine Sd.mk ?_ ?_;·exact qD)|refine Fa.mk fun _=>?_|refine g_cond ?_|refine g_keep ?_|refine g_fin ?_
  exact fin (hR none 0)
theorem zeC (h1:r.list.length≤1000) (h2:r.own.length≤1000):Spec prog1 zaa [.agg #[.int .i64 r.txn,.int .i64 r.op,.int .i64 r.key,.slice p1 r.list.length c1,.slice p2 r.own.length c2]] [fro (kInt .i64) p1 c1 r.list] (fun R=>∀ p' c',R (.slice p' (frontL r).length c') [own (kInt .i64) p' c' (frontL r)]):=by
 refine spec_code zkJ rfl ?_;intro n F R hR;unfold zdm
 have hfl:=zak r
 refine at_via (zfE (K:=kInt .i64) (p:=p1) (c:=c1) (l:=r.list) (i:=r.list.length - r.own.length) (by omega)) ?_
 change AtS _ _ _ _ _ _ (fro (kInt .i64) p1 (r.list.length - r.own.length) (frontL r)::_) _
 rcases Nat.lt_or_ge r.own.length r.list.length with hlt|hge
 ·repeat' first|apply step|(apply gO;·repeat first|exact eZ|(apply eS;exact rfl))|(refine Br.mk (fun _=>?_) (fun _=>?_)<;>try (exfalso;omega))|(refine Sd.mk ?_ ?_;·exact qD)|refine Fa.mk fun _=>?_
  rw [show ((r.list.length:Int) - (r.own.length:Int)).toNat=(frontL r).length by omega]
  refine at_callR (zr (l:=frontL r) (by omega)) ?_
  intro p3 c3
  repeat' first|apply step|(apply gO;·repeat first|exact eZ|(apply eS;exact rfl))|apply Lw.go|refine g_keep ?_|refine g_fin ?_
  exact fin (hR p3 c3)
 ·have e:frontL r=[]:=List.length_eq_zero_iff.1 (by omega)
  rw [e] at hR ⊢
  repeat' first|apply step|(apply gO;·repeat first|exact eZ|(apply eS;exact rfl))|(refine Br.mk (fun _=>?_) (fun _=>?_)<;>try (exfalso;omega))|(refine Sd.mk ?_ ?_;·exact qD)|refine Fa.mk fun _=>?_
  refine at_callR (zr (l:=[]) (by simp)) ?_
  intro p3 c3
  repeat' first|apply step|(apply gO;·repeat first|exact eZ|(apply eS;exact rfl))|apply Lw.go|refine g_keep ?_|refine g_fin ?_
  exact fin (hR p3 c3)
abbrev wK (T:Tb) (key:Int):Wf:=fun x=>aget (key,x) T.wr
end
end Go.AMS

namespace Go.AMS
open Go.AM hiding Kt At WP WL Runs RunsY
open Go.AM.G
set_option linter.unusedVariables false
set_option linter.unusedSimpArgs false
set_option linter.unusedSectionVars false
set_option maxRecDepth 100000
set_option maxHeartbeats 1000000
attribute [local irreducible] AtS AtV AtC AtG FinA Spec Post LP G.At G.WP G.WL pt own fro rdl ro hx mp lrec elt sub

open Go.AM.G.Set
section
variable {h:List HTx} {T:Tb} {r:HRd} {p q p1 p2:Option Addr} {c d c1 c2 b:Nat}
theorem zeF:∀ (l all:List Int) (i k:Nat),wrongL l all i=some k→i≤k∧k < i + l.length
 | [],_,_,_,h=>by cases h
 | x::l,[],i,k,h=>by
  have:i=k:=Option.some.inj h
  subst this;exact ⟨Nat.le_refl _,by simp⟩
 | x::l,y::r,i,k,h=>by
  unfold wrongL at h
  split at h
  ·have:=zeF l r (i + 1) k h
   simp only [List.length_cons];omega
  ·have:i=k:=Option.some.inj h
   subst this;exact ⟨Nat.le_refl _,by simp⟩
end
end Go.AMS

namespace Go.AMS
open Go.AM hiding Kt At WP WL Runs RunsY
open Go.AM.G
set_option linter.unusedVariables false
set_option linter.unusedSimpArgs false
set_option linter.unusedSectionVars false
set_option maxRecDepth 100000
set_option maxHeartbeats 1000000
attribute [local irreducible] AtS AtV AtC AtG FinA Spec Post LP G.At G.WP G.WL pt own fro rdl ro hx mp lrec elt sub

open Go.AM.G.Set
section
variable {h:List HTx} {T:Tb} {r:HRd} {p q p1 p2 p3:Option Addr} {c d c1 c2 c3 b:Nat}
def t1:Option (Int × Int)→Int
 | some q=>q.1
 | none=>0
def t2:Option (Int × Int)→Int
 | some q=>q.2
 | none=>0
end
end Go.AMS

namespace Go.AMS
open Go.AM hiding Kt At WP WL Runs RunsY
open Go.AM.G
set_option linter.unusedVariables false
set_option linter.unusedSectionVars false
set_option linter.unusedSimpArgs false
section
variable {prog:AProg} {rr:Option Nat} {e e1 e2:Env} {Q:Pst} {k:List Kt} {n:Nat} {Γ Γ1 Γ2 F F':List HP} {l l1 l2:List AI} {c:AI} {ks ap:List (Nat × Nat)} {sz:Nat}
theorem ze8 {z cc:Nat} {cs:List Value} {α:Type} {K:Kind α} {li:List α} (b:Nat) (p:Option Addr) (j:Nat) [s:Splt l j l1 c l2] [a:LkW Γ b cs z F] [o:LkO F p K cc li F'] (w:∀ sz,b < sz→(∀ x,p=some x→x.block≠b)→AtS n prog rr [.o true l1] .norm e Γ (KP1 prog rr c l2 ks ap k sz Q)) (hk:ks.all (fun x=>x.1 == j)=true:=by rfl):AtS n prog rr (.c (.opsK ks ap l)::k) .norm e Γ Q:=fun h hs=>by
 have hne:∀ x,p=some x→x.block≠b:=by
  have h1:=a.ent.sat hs
  obtain ⟨S,⟨s1,s2,k1,k2,k3,k4⟩,k5⟩:=h1.s
  obtain ⟨S',⟨t1,t2,j1,j2,j3,j4⟩,j5⟩:=o.ent h s2 k2
  intro x hx e
  rcases j1 with ⟨j1,_⟩|⟨b',cs',j1,_,_,_,rfl⟩
  ·rw [j1] at hx;cases hx
  ·rw [j1] at hx
   cases hx
   have hb:=k1.2.2
   dsimp only at e
   subst e
   refine k3 b' (by rw [hb]) (j5 b' ?_)
   exact (j4 b').2 (.inl rfl)
 rw [s.eq]
 refine at_opsK (fun x hx=>?_) ?_
 ·have:=List.all_eq_true.1 hk x hx
  rw [s.len];simpa using this
 ·have h1:=w h.size (lkw_get a hs).1 hne h hs
  exact wl_mono h1 (fun e1 h1 hq=>hq.2)
def KP0 (prog:AProg) (rr:Option Nat) (l2:List AI) (ap:List (Nat × Nat)) (k:List Kt) (sz:Nat) (Q:Pst):Pst:=fun x e2 h2=>x=.norm∧G.At prog rr (.o true l2::.ap sz ap::k) .norm e2 h2 Q
theorem kp01 (w:AtS n prog rr [.o true [c]] .norm e1 Γ1 (KP0 prog rr l2 ap k sz Q)) (hk:∀ x ∈ ks,Env.get e1 x.2=none):AtS n prog rr [] .norm e1 Γ1 (KP1 prog rr c l2 ks ap k sz Q):=fun h1 hs1 =>
 ⟨rfl,wl_mono (w h1 hs1) (fun e2 h2 hq=>⟨fun x hx p hp=>(by rw [hk x hx] at hp;cases hp),hq.2⟩)⟩
theorem kp02 (w:AtS n prog rr (.o true l2::.ap sz ap::k) .norm e2 Γ2 Q):AtS n prog rr [] .norm e2 Γ2 (KP0 prog rr l2 ap k sz Q):=fun h2 hs2=>⟨rfl,w h2 hs2⟩
end
end Go.AMS

namespace Go.AMS
open Go.AM hiding Kt At WP WL Runs RunsY
open Go.AM.G
set_option linter.unusedVariables false
set_option linter.unusedSimpArgs false
set_option linter.unusedSectionVars false
set_option maxRecDepth 100000
set_option maxHeartbeats 1000000
attribute [local irreducible] AtS AtV AtC AtG FinA Spec Post LP G.At G.WP G.WL pt own fro rdl ro hx mp lrec elt sub

open Go.AM.G.Set
section
variable {p q:Option Addr} {c d:Nat} {l m:List Int}
theorem zkA {x:Int} (hl:l.length≤1000000000) (hs:l.Pairwise (fun a b=>a < b)):Spec prog1 zbA [.agg #[.slice p l.length c],.int .i64 x] [rdl (kInt .i64) p l] (fun R=>(∀ k (hk:k < l.length),l[k]=x→R (.tuple #[.int .i64 (k:Int),.bool true]) [])∧(x ∉ l→∀ k:Int,R (.tuple #[.int .i64 k,.bool false]) [])):=by
 refine spec_code zlL rfl ?_;intro n F R hR;unfold zci
 repeat' first|apply step|(apply gO;·repeat first|exact eZ|(apply eS;exact rfl))|refine Fa.mk fun _=>?_
 refine at_callR (zkg (l:=l) hl hs) ?_
 refine ⟨fun k hk e=>?_,fun hn k=>?_⟩
 ·repeat' first|apply step|(apply gO;·repeat first|exact eZ|(apply eS;exact rfl))|apply Lw.go|refine g_keep ?_|refine g_fin ?_
  exact fin (hR.1 k hk e)
 ·repeat' first|apply step|(apply gO;·repeat first|exact eZ|(apply eS;exact rfl))|apply Lw.go|refine g_keep ?_|refine g_fin ?_
  exact fin (hR.2 hn k)
theorem zkX {x:Int} (hl:l.length≤1000000000) (hs:l.Pairwise (fun a b=>a < b)):Spec prog1 zaO [.agg #[.slice p l.length c],.int .i64 x] [rdl (kInt .i64) p l] (fun R=>(x ∈ l→R (.bool true) [])∧(x ∉ l→R (.bool false) [])):=by
 refine spec_code zjV rfl ?_;intro n F R hR;unfold zcx
 repeat' first|apply step|(apply gO;·repeat first|exact eZ|(apply eS;exact rfl))|refine Fa.mk fun _=>?_
 refine at_callR (zkA (l:=l) (x:=x) hl hs) ?_
 refine ⟨fun k hk e=>?_,fun hn k=>?_⟩
 ·repeat' first|apply step|(apply gO;·repeat first|exact eZ|(apply eS;exact rfl))|apply Lw.go|refine g_keep ?_|refine g_fin ?_
  exact fin (hR.1 (by rw [← e];exact List.getElem_mem _))
 ·repeat' first|apply step|(apply gO;·repeat first|exact eZ|(apply eS;exact rfl))|apply Lw.go|refine g_keep ?_|refine g_fin ?_
  exact fin (hR.2 hn)
theorem zgN {x y:Int}:Spec prog1 zb [.int .i64 x,.int .i64 y] [] (fun R=>(x < y→R (.int .i64 (-1)) [])∧(x=y→R (.int .i64 0) [])∧(y < x→R (.int .i64 1) [])):=by
 refine spec_code zL rfl ?_;intro n F R hR;unfold zn
 repeat' first|apply step|(apply gO;·repeat first|exact eZ|(apply eS;exact rfl))
 refine at_callS (zdH) ?_
 repeat' first|apply step|(apply gO;·repeat first|exact eZ|(apply eS;exact rfl))
 refine at_callS (zdH) ?_
 repeat' first|apply step|(apply gO;·repeat first|exact eZ|(apply eS;exact rfl))|(refine Br.mk (fun _=>?_) (fun _=>?_)<;>try (exfalso;omega))|refine g_cond ?_|refine g_fin ?_
 ·exact fin (hR.1 ‹_›)
 ·exact fin (hR.2.2 ‹_›)
 ·exact fin (hR.2.1 (by omega))
/-- What is in one of both, on the way: a row that rises, of what was gone through, below what comes. -/
structure OrI (l m o:List Int) (i j:Nat):Prop where
 hi:i≤l.length
 hj:j≤m.length
 hs:o.Pairwise (fun a b=>a < b)
 hl:∀ x ∈ o,∀ k (h:k < l.length),i≤k→x < l[k]
 hm:∀ x ∈ o,∀ k (h:k < m.length),j≤k→x < m[k]
 he:∀ x,x ∈ o ↔ x ∈ l.take i∨x ∈ m.take j
theorem pw_at {l:List Int} (hs:l.Pairwise (fun a b=>a < b)) {a b:Nat} (ha:a < l.length) (hb:b < l.length) (h:a < b):l[a] < l[b]:=List.pairwise_iff_getElem.1 hs a b ha hb h
theorem zdR {o:List Int} {x:Int} (h:o.Pairwise (fun a b=>a < b)) (hx:∀ y ∈ o,y < x):(o++[x]).Pairwise (fun a b=>a < b) :=
 List.pairwise_append.2 ⟨h,List.pairwise_singleton _ _,fun a ha b hb=>by rw [List.mem_singleton.1 hb];exact hx a ha⟩
theorem OrI.less {o:List Int} {i j:Nat} (h:OrI l m o i j) (sl:l.Pairwise (fun a b=>a < b)) (sm:m.Pairwise (fun a b=>a < b)) (hi:i < l.length) (hj:j < m.length) (q:l[i] < m[j]):OrI l m (o++[l[i]]) (i + 1) j:=by
 refine ⟨hi,h.hj,zdR h.hs fun y hy=>h.hl y hy i hi (Nat.le_refl _),fun x hx k hk hik=>?_,fun x hx k hk hjk=>?_,fun x=>?_⟩
 ·rcases List.mem_append.1 hx with hx|hx
  ·exact h.hl x hx k hk (by omega)
  ·rw [List.mem_singleton.1 hx];exact pw_at sl hi hk (by omega)
 ·rcases List.mem_append.1 hx with hx|hx
  ·exact h.hm x hx k hk hjk
  ·rw [List.mem_singleton.1 hx]
   rcases Nat.lt_or_ge j k with r|r
   ·have:=pw_at sm hj hk r;omega
   ·have:k=j:=by omega
    subst this;exact q
 ·rw [List.mem_append,h.he,List.take_succ_eq_append_getElem hi,List.mem_append,or_right_comm]
theorem OrI.more {o:List Int} {i j:Nat} (h:OrI l m o i j) (sl:l.Pairwise (fun a b=>a < b)) (sm:m.Pairwise (fun a b=>a < b)) (hi:i < l.length) (hj:j < m.length) (q:m[j] < l[i]):OrI l m (o++[m[j]]) i (j + 1):=by
 refine ⟨h.hi,hj,zdR h.hs fun y hy=>h.hm y hy j hj (Nat.le_refl _),fun x hx k hk hik=>?_,fun x hx k hk hjk=>?_,fun x=>?_⟩
 ·rcases List.mem_append.1 hx with hx|hx
  ·exact h.hl x hx k hk hik
  ·rw [List.mem_singleton.1 hx]
   rcases Nat.lt_or_ge i k with r|r
   ·have:=pw_at sl hi hk r;omega
   ·have:k=i:=by omega
    subst this;exact q
 ·rcases List.mem_append.1 hx with hx|hx
  ·exact h.hm x hx k hk (by omega)
  ·rw [List.mem_singleton.1 hx];exact pw_at sm hj hk (by omega)
 ·rw [List.mem_append,h.he,List.take_succ_eq_append_getElem hj,List.mem_append,or_assoc]
theorem OrI.same {o:List Int} {i j:Nat} (h:OrI l m o i j) (sl:l.Pairwise (fun a b=>a < b)) (sm:m.Pairwise (fun a b=>a < b)) (hi:i < l.length) (hj:j < m.length) (q:l[i]=m[j]):OrI l m (o++[l[i]]) (i + 1) (j + 1):=by
 refine ⟨hi,hj,zdR h.hs fun y hy=>h.hl y hy i hi (Nat.le_refl _),fun x hx k hk hik=>?_,fun x hx k hk hjk=>?_,fun x=>?_⟩
 ·rcases List.mem_append.1 hx with hx|hx
  ·exact h.hl x hx k hk (by omega)
  ·rw [List.mem_singleton.1 hx];exact pw_at sl hi hk (by omega)
 ·rcases List.mem_append.1 hx with hx|hx
  ·exact h.hm x hx k hk (by omega)
  ·rw [List.mem_singleton.1 hx,q];exact pw_at sm hj hk (by omega)
 ·rw [List.mem_append,h.he,List.take_succ_eq_append_getElem hi,List.take_succ_eq_append_getElem hj,List.mem_append,List.mem_append,← q]
  constructor
  ·rintro ((a|a)|a)
   ·exact .inl (.inl a)
   ·exact .inr (.inl a)
   ·exact .inl (.inr a)
  ·rintro ((a|a)|(a|a))
   ·exact .inl (.inl a)
   ·exact .inr a
   ·exact .inl (.inr a)
   ·exact .inr a
theorem zef {l:List Int} (h:l.Pairwise (fun a b=>a < b)) (i:Nat):(l.drop i).Pairwise (fun a b=>a < b):=h.sublist (List.drop_sublist _ _)
theorem zf9 {l:List Int} {i:Nat} {x:Int} (h:x ∈ l.drop i):∃ k,∃ hk:k < l.length,i≤k∧l[k]=x:=by
 obtain ⟨k,hk,e⟩:=List.mem_iff_getElem.1 h
 rw [List.length_drop] at hk
 rw [List.getElem_drop] at e
 exact ⟨i + k,by omega,by omega,e⟩
theorem OrI.fin {o:List Int} {i j:Nat} (h:OrI l m o i j) (sl:l.Pairwise (fun a b=>a < b)) (sm:m.Pairwise (fun a b=>a < b)) (e:i=l.length∨j=m.length):(o++l.drop i++m.drop j).Pairwise (fun a b=>a < b)∧∀ x,x ∈ o++l.drop i++m.drop j ↔ x ∈ l∨x ∈ m:=by
 constructor
 ·refine List.pairwise_append.2 ⟨List.pairwise_append.2 ⟨h.hs,zef sl i,fun a ha b hb=>?_⟩,zef sm j,fun a ha b hb=>?_⟩
  ·obtain ⟨k,hk,hik,rfl⟩:=zf9 hb
   exact h.hl a ha k hk hik
  ·obtain ⟨k,hk,hjk,rfl⟩:=zf9 hb
   rcases List.mem_append.1 ha with ha|ha
   ·exact h.hm a ha k hk hjk
   ·rcases e with e|e
    ·rw [e,List.drop_length] at ha;cases ha
    ·omega
 ·intro x
  rw [List.mem_append,List.mem_append,h.he]
  conv=>rhs;rw [← List.take_append_drop i l,← List.take_append_drop j m,List.mem_append,List.mem_append]
  constructor
  ·rintro (((a|a)|a)|a)
   ·exact .inl (.inl a)
   ·exact .inr (.inl a)
   ·exact .inl (.inr a)
   ·exact .inr (.inr a)
  ·rintro ((a|a)|(a|a))
   ·exact .inl (.inl (.inl a))
   ·exact .inl (.inr a)
   ·exact .inl (.inl (.inr a))
   ·exact .inr a
theorem zhN (hl:l.length≤1000000) (hm:m.length≤1000000) (hsl:l.Pairwise (fun a b=>a < b)) (hsm:m.Pairwise (fun a b=>a < b)):Spec prog1 zbE [.agg #[.slice p l.length c],.agg #[.slice q m.length d]] [rdl (kInt .i64) p l,rdl (kInt .i64) q m] (fun R=>∀ p' c' z,z.Pairwise (fun a b=>a < b)→(∀ x,x ∈ z ↔ x ∈ l∨x ∈ m)→z.length≤l.length + m.length→R (.agg #[.slice p' z.length c']) [own (kInt .i64) p' c' z]):=by
 refine spec_code zjQ rfl ?_;intro n F R hR;unfold zc2
 repeat' first|apply step|(apply gO;·repeat first|exact eZ|(apply eS;exact rfl))|(refine Sd.mk ?_ ?_;·exact qD)|refine Fa.mk fun _=>?_|refine g_keep ?_
 rename_i lb mb rb ob
 refine at_loopS (ι:=Nat × Nat × (Option Addr × Nat) × List Int) (E:=fun z=>[(2,.pointer (some ⟨lb,0,none⟩)),(3,.pointer (some ⟨mb,0,none⟩)),(4,.pointer (some ⟨rb,0,none⟩)),(5,.slice z.2.2.1.1 z.2.2.2.length z.2.2.1.2),(6,.int .i64 (z.1:Int)),(7,.int .i64 (z.2.1:Int))]) (Δ:=fun z=>own (kInt .i64) z.2.2.1.1 z.2.2.1.2 z.2.2.2::pt rb [.slice none 0 0] 0::pt mb [.slice q m.length d] 0::pt lb [.slice p l.length c] 0::rdl (kInt .i64) p l::rdl (kInt .i64) q m::F) (P:=fun z=>OrI l m z.2.2.2 z.1 z.2.1∧z.2.2.2.length≤z.1 + z.2.1) (μ:=fun z=>(l.length - z.1) + (m.length - z.2.1)) (0,0,(some ⟨ob,0,none⟩,l.length + m.length),[]) ⟨⟨Nat.zero_le _,Nat.zero_le _,List.Pairwise.nil,by simp,by simp,by simp⟩,Nat.zero_le _⟩ ?_
 rintro ⟨i,j,⟨po,co⟩,o⟩ ⟨ho,hol⟩
 dsimp only at ho hol ⊢
 have hi:=ho.hi
 have hj:=ho.hj
 by_cases hin:i < l.length∧j < m.length
 ·obtain ⟨hi2,hj2⟩:=hin
  repeat' first|apply step|(apply gO;·repeat first|exact eZ|(apply eS;exact rfl))|(refine Br.mk (fun _=>?_) (fun _=>?_)<;>try (exfalso;omega))|(refine Sd.mk ?_ ?_;·exact qD)|(refine Sx.mk ?_ ?_;·omega)|refine Im.mk fun _=>?_|refine g_cond ?_|refine g_guard ?_|refine g_keep ?_
  refine at_callS (zgN) ?_
  refine ⟨fun h1=>?_,fun h1=>?_,fun h1=>?_⟩
  ·repeat' first|apply step|(apply gO;·repeat first|exact eZ|(apply eS;exact rfl))|(refine Br.mk (fun _=>?_) (fun _=>?_)<;>try (exfalso;omega))|(refine Sd.mk ?_ ?_;·exact qD)|(refine Sx.mk ?_ ?_;·omega)|refine Fa.mk fun _=>?_|refine Im.mk fun _=>?_|refine g_cond ?_|refine g_keep ?_
   exact lp_next (i + 1,j,(_,_),_) ⟨ho.less hsl hsm hi2 hj2 h1,by simp;omega⟩ (by dsimp only;omega)
  ·repeat' first|apply step|(apply gO;·repeat first|exact eZ|(apply eS;exact rfl))|(refine Br.mk (fun _=>?_) (fun _=>?_)<;>try (exfalso;omega))|(refine Sd.mk ?_ ?_;·exact qD)|(refine Sx.mk ?_ ?_;·omega)|refine Fa.mk fun _=>?_|refine Im.mk fun _=>?_|refine g_cond ?_|refine g_keep ?_
   exact lp_next (i + 1,j + 1,(_,_),_) ⟨ho.same hsl hsm hi2 hj2 h1,by simp;omega⟩ (by dsimp only;omega)
  ·repeat' first|apply step|(apply gO;·repeat first|exact eZ|(apply eS;exact rfl))|(refine Br.mk (fun _=>?_) (fun _=>?_)<;>try (exfalso;omega))|(refine Sd.mk ?_ ?_;·exact qD)|(refine Sx.mk ?_ ?_;·omega)|refine Fa.mk fun _=>?_|refine Im.mk fun _=>?_|refine g_cond ?_|refine g_keep ?_
   exact lp_next (i,j + 1,(_,_),_) ⟨ho.more hsl hsm hi2 hj2 h1,by simp;omega⟩ (by dsimp only;omega)
 ·have hfin:=ho.fin hsl hsm (by omega)
  repeat' first|apply step|(apply gO;·repeat first|exact eZ|(apply eS;exact rfl))|(refine Br.mk (fun _=>?_) (fun _=>?_)<;>try (exfalso;omega))|refine g_cond ?_|refine g_guard ?_|refine g_keep ?_
  ·refine ze8 mb po 5 (fun sz hsz hne=>?_)
   repeat' first|apply step|(apply gO;·repeat first|exact eZ|(apply eS;exact rfl))|(refine Sd.mk ?_ ?_;·exact qD)
   refine kp01 ?_ (fun x hx=>by simp only [List.mem_singleton] at hx;subst hx;rfl)
   repeat' first|apply step|(apply gO;·repeat first|exact eZ|(apply eS;exact rfl))|(refine Sd.mk ?_ ?_;·exact qD)|refine Fa.mk fun _=>?_
   refine kp02 ?_
   repeat' first|apply step|(apply gO;·repeat first|exact eZ|(apply eS;exact rfl))|(refine Sd.mk ?_ ?_;·exact qD)|refine Fa.mk fun _=>?_
   refine g_ap4 rfl rfl hsz hne ?_
   rw [show (l.drop i).take (l.length - i)=l.drop i from List.take_of_length_le (by simp),show (m.drop j).take (m.length - j)=m.drop j from List.take_of_length_le (by simp)]
   repeat' first|apply step|refine g_keep ?_|refine g_fin ?_
   exact fin (hR _ _ _ hfin.1 hfin.2 (by simp only [List.length_append,List.length_drop];omega))
  ·refine ze8 mb po 5 (fun sz hsz hne=>?_)
   repeat' first|apply step|(apply gO;·repeat first|exact eZ|(apply eS;exact rfl))|(refine Sd.mk ?_ ?_;·exact qD)
   refine kp01 ?_ (fun x hx=>by simp only [List.mem_singleton] at hx;subst hx;rfl)
   repeat' first|apply step|(apply gO;·repeat first|exact eZ|(apply eS;exact rfl))|(refine Sd.mk ?_ ?_;·exact qD)|refine Fa.mk fun _=>?_
   refine kp02 ?_
   repeat' first|apply step|(apply gO;·repeat first|exact eZ|(apply eS;exact rfl))|(refine Sd.mk ?_ ?_;·exact qD)|refine Fa.mk fun _=>?_
   refine g_ap4 rfl rfl hsz hne ?_
   rw [show (l.drop i).take (l.length - i)=l.drop i from List.take_of_length_le (by simp),show (m.drop j).take (m.length - j)=m.drop j from List.take_of_length_le (by simp)]
   repeat' first|apply step|refine g_keep ?_|refine g_fin ?_
   exact fin (hR _ _ _ hfin.1 hfin.2 (by simp only [List.length_append,List.length_drop];omega))
theorem zjg (hl:l.length≤1000000) (hm:m.length≤1000000) (hsl:l.Pairwise (fun a b=>a < b)):Spec prog1 za8 [.agg #[.slice p l.length c],.slice q m.length d] [rdl (kInt .i64) p l,rdl (kInt .i64) q m] (fun R=>∀ p' c' z,z.Pairwise (fun a b=>a < b)→(∀ x,x ∈ z ↔ x ∈ l∨x ∈ m)→z.length≤l.length + m.length→R (.agg #[.slice p' z.length c']) [own (kInt .i64) p' c' z]):=by
 refine spec_code zkC rfl ?_;intro n F R hR;unfold zcV
 have hse:=setL_le m
 repeat' first|apply step|(apply gO;·repeat first|exact eZ|(apply eS;exact rfl))|refine Fa.mk fun _=>?_
 refine at_callR (zer (l:=m) (by omega)) ?_
 intro p1 c1
 repeat' first|apply step|(apply gO;·repeat first|exact eZ|(apply eS;exact rfl))|apply Lw.go
 refine at_callR (zhN (l:=l) (m:=setL m) hl (by omega) hsl (setL_lt m)) ?_
 intro p2 c2 z hz1 hz2 hz3
 repeat' first|apply step|(apply gO;·repeat first|exact eZ|(apply eS;exact rfl))|apply Lw.go|refine g_fin ?_
 exact fin (hR p2 c2 z hz1 (fun x=>by rw [hz2,mem_setL]) (by omega))
/-- The first value that stood ahead already. -/
def twL:List Int→List Int→Option Int
 | _,[]=>none
 | s,x::l=>if x ∈ s then some x else twL (s++[x]) l
def twoV:Option Int→Value
 | some x=>.tuple #[.int .i64 x,.bool true]
 | none=>.tuple #[.int .i64 0,.bool false]
theorem zfe {l:List Int} {j:Nat} (hj:j < l.length):twL (l.take j) (l.drop j)=if l[j] ∈ l.take j then some l[j] else twL (l.take (j + 1)) (l.drop (j + 1)):=by
 rw [List.drop_eq_getElem_cons hj,List.take_succ_eq_append_getElem hj];rfl
theorem zkU (hl:l.length≤1000):Spec prog1 zaW [.slice p l.length c] [rdl (kInt .i64) p l] (fun R=>R (twoV (twL [] l)) []):=by
 refine spec_code zgz rfl ?_;intro n F R hR;unfold zcM
 repeat' first|apply step|(apply gO;·repeat first|exact eZ|(apply eS;exact rfl))|refine Fa.mk fun _=>?_|refine g_keep ?_
 rename_i sb
 obtain ⟨I,hI⟩:∃ I:Nat→HP,∀ j,I j=hx fun (w:Option Addr × Nat × List Int)=>((w.2.2.Pairwise (fun a b=>a < b)∧w.2.2.length≤j)∧(∀ x,x ∈ w.2.2 ↔ x ∈ l.take j),[pt sb [.slice w.1 w.2.2.length w.2.1] 0,own (kInt .i64) w.1 w.2.1 w.2.2]):=⟨_,fun _=>rfl⟩
 refine at_foldP (I 0) (hI 0) (none,0,[]) ⟨⟨List.Pairwise.nil,Nat.le_refl _⟩,fun x=>by simp⟩ ?_
 refine at_loopS (ι:=Nat) (E:=fun j=>[(4,.pointer (some ⟨sb,0,none⟩)),(7,.slice p l.length c),(8,.int .i64 (l.length:Int)),(9,.int .i64 (j:Int))]) (Δ:=fun j=>I j::rdl (kInt .i64) p l::F) (P:=fun j=>j≤l.length∧twL (l.take j) (l.drop j)=twL [] l) (μ:=fun j=>l.length - j) 0 ⟨Nat.zero_le _,rfl⟩ ?_
 rintro j ⟨hj,hd⟩
 try dsimp only
 rcases Nat.lt_or_ge j l.length with hlt|hge
 ·rw [zfe hlt] at hd
  refine at_openP (I j) (hI j) ?_
  rintro ⟨ps,cs,s⟩ ⟨⟨hs1,hs2⟩,hs3⟩
  dsimp only [List.cons_append,List.nil_append] at hs1 hs2 hs3 ⊢
  repeat' first|apply step|(apply gO;·repeat first|exact eZ|(apply eS;exact rfl))|(refine Br.mk (fun _=>?_) (fun _=>?_)<;>try (exfalso;omega))|(refine Sd.mk ?_ ?_;·exact qD)|(refine Sx.mk ?_ ?_;·omega)|refine Im.mk fun _=>?_|refine g_cond ?_
  refine at_callR (zkX (l:=s) (x:=l[j]) (by omega) hs1) ?_
  refine ⟨fun hin=>?_,fun hout=>?_⟩
  ·rw [if_pos ((hs3 _).1 hin)] at hd
   rw [← hd] at hR
   repeat' first|apply step|(apply gO;·repeat first|exact eZ|(apply eS;exact rfl))|apply Lw.go|refine g_cond ?_|refine g_fin ?_
   exact fin hR
  ·rw [if_neg (fun q=>hout ((hs3 _).2 q))] at hd
   repeat' first|apply step|(apply gO;·repeat first|exact eZ|(apply eS;exact rfl))|refine Fa.mk fun _=>?_|apply Lw.go|refine g_cond ?_
   rename_i hbj xb
   refine av_lits (K:=kInt .i64) (l:=[l[j]]) xb 1 inferInstance (by exact hbj) rfl ?_
   refine at_callR (zjg (l:=s) (m:=[l[j]]) (by omega) (by simp) hs1) ?_
   intro p5 c5 z hz1 hz2 hz3
   repeat' first|apply step|(apply gO;·repeat first|exact eZ|(apply eS;exact rfl))|(refine Sd.mk ?_ ?_;·exact qD)|apply Lw.go|refine g_keep ?_
   refine at_foldP (I (j + 1)) (hI _) (p5,c5,z) ⟨⟨hz1,by simp only [List.length_singleton] at hz3;dsimp only;omega⟩,fun x=>by rw [hz2,hs3,List.take_succ_eq_append_getElem hlt,List.mem_append]⟩ ?_
   exact lp_next (j + 1) ⟨by omega,hd⟩ (by omega)
 ·rw [List.drop_eq_nil_of_le hge,List.take_of_length_le hge] at hd
  rw [← hd] at hR
  refine at_openP (I j) (hI j) ?_
  rintro ⟨ps,cs,s⟩ -
  repeat' first|apply step|(apply gO;·repeat first|exact eZ|(apply eS;exact rfl))|(refine Br.mk (fun _=>?_) (fun _=>?_)<;>try (exfalso;omega))|refine g_cond ?_|refine g_keep ?_|refine g_fin ?_
  exact fin hR
end
end Go.AMS

namespace Go.AMS
open Go.AM hiding Kt At WP WL Runs RunsY
open Go.AM.G
set_option linter.unusedVariables false
set_option linter.unusedSimpArgs false
set_option linter.unusedSectionVars false
set_option maxRecDepth 100000
set_option maxHeartbeats 1000000
attribute [local irreducible] AtS AtV AtC AtG FinA Spec Post LP G.At G.WP G.WL pt own fro rdl ro hx mp lrec elt sub

open Go.AM.G.Set
section
variable {h:List HTx} {T:Tb} {r:HRd} {p q p1 p2 p3:Option Addr} {c d c1 c2 c3 b:Nat}
def bornL (W:Wf):List Int→Option Int
 | []=>none
 | x::l=>match W x with
  | some _=>bornL W l
  | none=>some x
theorem zfO {W:Wf} {l:List Int} {j:Nat} (hj:j < l.length):bornL W (l.drop j)=match W l[j] with
  | some w=>bornL W (l.drop (j + 1))
  | none=>some l[j]:=by
 rw [List.drop_eq_getElem_cons hj];rfl
/-- What does not fit the transaction's own values. -/
def innA (L:List Int) (n:Int):List Int→Nat→Option Int
 | [],_=>none
 | x::o,i=>if n + (i:Int) < 0∨L[(n + (i:Int)).toNat]?≠some x then some x else innA L n o (i + 1)
def txZ:Option HWr→Int
 | some w=>w.txn
 | none=>0
def innB (W:Wf) (id:Int) (l:List Int):Option Int:=l.find? fun x=>decide (txZ (W x)=id)
def innL (W:Wf) (r:HRd):Option Int:=match innA r.list ((r.list.length:Int) - (r.own.length:Int)) r.own 0 with
 | some x=>some x
 | none=>innB W r.txn (frontL r)
theorem zeK {L o:List Int} {n:Int} {i:Nat} (hi:i < o.length):innA L n (o.drop i) i=if n + (i:Int) < 0∨L[(n + (i:Int)).toNat]?≠some o[i] then some o[i] else innA L n (o.drop (i + 1)) (i + 1):=by
 rw [List.drop_eq_getElem_cons hi];rfl
/-- What is wrong with a read, and by which value. -/
def kindL (W:Wf) (r:HRd):Int × Int:=match twL [] r.list with
 | some x=>(1,x)
 | none=>match bornL W r.list with
  | some x=>(2,x)
  | none=>match innL W r with
   | some x=>(3,x)
   | none=>(0,0)
end
end Go.AMS

namespace Go.AMS
open Go.AM hiding Kt At WP WL Runs RunsY
open Go.AM.G
set_option linter.unusedVariables false
set_option linter.unusedSimpArgs false
set_option linter.unusedSectionVars false
set_option maxRecDepth 100000
set_option maxHeartbeats 1000000
attribute [local irreducible] AtS AtV AtC AtG FinA Spec Post LP G.At G.WP G.WL pt own fro rdl ro hx mp lrec elt sub

open Go.AM.G.Set
section
variable {α κ:Type} [DecidableEq κ] {K:Kind α} {k:κ} {Z:List (LE κ α)} {Γ F:List HP}
def froE (K:Kind α) (q:LE κ α):HP:=fro K q.2.2.1 q.2.2.2 q.2.1
theorem zfv {prog:AProg} {rr:Option Nat} {e:Env} {Q:Pst} {kk:List Kt} {n:Nat} {d:Bool} {r:List AI}:∀ (Z:List (LE κ α)) (F:List HP),AtS n prog rr (.o d r::kk) .norm e (Z.map (froE K)++F) Q→AtS n prog rr (.o d r::kk) .norm e (Z.map (ownE K)++F) Q
 | [],F,w=>w
 | q::Z,F,w=>by
  refine at_freezeO (K:=K) (p:=q.2.2.1) (c:=q.2.2.2) (l:=q.2.1) (F:=Z.map (ownE K)++F) ?_ Ent.here
  refine at_ent ent_back ?_
  refine zfv Z _ ?_
  exact at_ent ent_mid w
theorem ze0 {prog:AProg} {rr:Option Nat} {e:Env} {Q:Pst} {kk:List Kt} {n:Nat} {d:Bool} {r:List AI} (w:AtS n prog rr (.o d r::kk) .norm e (alls (froE K) Z::F) Q):AtS n prog rr (.o d r::kk) .norm e (alls (ownE K) Z::F) Q:=by
 refine at_ent alls_open ?_
 refine zfv Z F ?_
 exact at_ent alls_close w
/-- A map of frozen lists. -/
def mapF (r:Nat) (enc:κ→Value) (K:Kind α) (f:List (κ × List α)):HP:=hx fun (Z:List (LE κ α))=>(fst2 Z=f,[mp r (amap enc slV Z),alls (froE K) Z])
end
end Go.AMS

namespace Go.AMS
open Go.AM hiding Kt At WP WL Runs RunsY
open Go.AM.G
set_option linter.unusedVariables false
set_option linter.unusedSimpArgs false
set_option linter.unusedSectionVars false
set_option maxRecDepth 100000
set_option maxHeartbeats 1000000
attribute [local irreducible] AtS AtV AtC AtG FinA Spec Post LP G.At G.WP G.WL pt own fro rdl ro hx mp lrec elt sub

open Go.AM.G.Set
section
variable {h:List HTx} {T:Tb} {r:HRd} {p q p1 p2:Option Addr} {c d c1 c2 b mr mt:Nat}
abbrev TC:=((Option Addr × Nat) × (Option Addr × Nat)) × (Nat × Nat)
/-- A table, but for its reads and appends of keys. -/
def tabC (b:Nat) (T:Tb) (mr mt:Nat):HP:=hx fun (x:TC)=>(True,[pt b [.bool true,.slice x.1.1.1 T.ids.length x.1.1.2,.slice x.1.2.1 T.keys.length x.1.2.2,.map (some x.2.1),.map (some x.2.2),.map (some mr),.map (some mt)] 0,own (kInt .i64) x.1.1.1 x.1.1.2 T.ids,own (kInt .i64) x.1.2.1 x.1.2.2 T.keys,mp x.2.1 (amap kII wrV T.wr),mapL x.2.2 kII (kInt .i64) T.ap])
instance low_tabC:Low (tabC b T mr mt):=low_hx fun _=>inferInstance
end
end Go.AMS

namespace Go.AMS
open Go.AM hiding Kt At WP WL Runs RunsY
open Go.AM.G
open Go.AM.G.Set
set_option linter.unusedVariables false
set_option linter.unusedSectionVars false
set_option linter.unusedSimpArgs false
section
variable {α κ:Type} [DecidableEq κ] {K:Kind α} {k:κ} {Z:List (LE κ α)} {Γ F:List HP}
theorem zfJ {β:Type} {k:κ} {v:β}:∀ {Z:List (κ × β)},aget k Z=some v→(k,v) ∈ Z
 | [],h=>by cases h
 | (k',v')::r,h=>by
  unfold aget at h
  split at h
  ·rename_i e
   cases h
   rw [e];exact List.mem_cons_self
  ·exact List.mem_cons_of_mem _ (zfJ h)
theorem zfp {h:Heap}:∀ {Z:List (LE κ α)} {s:Nat→Prop},SatS (Z.map (froE K)) h s→∀ q ∈ Z,Sl K (tz h) (.slice q.2.2.1 q.2.1.length q.2.2.2) q.2.1
 | [],_,_,q,hq=>by cases hq
 | y::Z,s,⟨s1,s2,h1,h2,h3,h4⟩,q,hq=>by
  rcases List.mem_cons.1 hq with rfl|hq
  ·exact h1.1
  ·exact zfp h2 q hq
theorem takeF:Ent (alls (froE K) Z::Γ) (fro K (atE k Z).2.1 (atE k Z).2.2 (atE k Z).1::alls (froE K) Z::Γ):=fun h S hs=>by
 have key:Sl K (tz h) (.slice (atE k Z).2.1 (atE k Z).1.length (atE k Z).2.2) (atE k Z).1:=by
  unfold atE
  cases hq:aget k Z with
  | none=>exact Sl.nil
  | some lx =>
   obtain ⟨s,s',h1,_⟩:=hs
   exact zfp h1 _ (zfJ hq)
 exact ⟨S,⟨fun _=>False,S,⟨key,rfl⟩,hs,fun _ q=>q.elim,fun b=>by simp⟩,fun b hb=>hb⟩
end
end Go.AMS

namespace Go.AMS
open Go.AM hiding Kt At WP WL Runs RunsY
open Go.AM.G
set_option linter.unusedVariables false
set_option linter.unusedSimpArgs false
set_option linter.unusedSectionVars false
set_option maxRecDepth 100000
set_option maxHeartbeats 1000000
attribute [local irreducible] AtS AtV AtC AtG FinA Spec Post LP G.At G.WP G.WL pt own fro rdl ro hx mp lrec elt sub

open Go.AM.G.Set
section
variable {T:Tb} {p q:Option Addr} {c d b mr mt:Nat}
theorem zeL {key:Int}:Spec prog1 zW [.pointer (some ⟨b,0,none⟩),.int .i64 key] [] (fun R=>∀ x y,R (.func (.func zab) #[] #[.pointer (some ⟨x,0,none⟩),.pointer (some ⟨y,0,none⟩)]) [pt x [.pointer (some ⟨b,0,none⟩)] 0,pt y [.int .i64 key] 0]):=by
 refine spec_code zky rfl ?_;intro n F R hR;unfold zbT
 repeat' first|apply step|(apply gO;·repeat first|exact eZ|(apply eS;exact rfl))|refine Fa.mk fun _=>?_|refine g_fin ?_
 exact fin (hR _ _)
/-- The sound ones. -/
def soundB (W:Wf) (r:HRd):Bool:=decide ((kindL W r).1=0)
def soundL (W:Wf) (l:List HRd):List HRd:=l.filter (soundB W)
theorem zf7 {W:Wf} {l:List HRd} {i:Nat} (hi:i < l.length):soundL W (l.take (i + 1))=soundL W (l.take i)++if soundB W l[i]=true then [l[i]] else []:=by
 unfold soundL
 rw [List.take_succ_eq_append_getElem hi,List.filter_append]
 cases h:soundB W l[i] <;> simp [h]
theorem zhx {W:Wf} {l:List HRd} {i:Nat} (hi:i < l.length) (h:soundB W l[i]=true):(soundL W l)[(soundL W (l.take i)).length]? = some l[i]:=by
 have e:soundL W l=soundL W (l.take i)++(l[i]::soundL W (l.drop (i + 1))):=by
  conv=>lhs;rw [← List.take_append_drop i l,List.drop_eq_getElem_cons hi]
  unfold soundL
  rw [List.filter_append,List.filter_cons_of_pos h]
 rw [e,List.getElem?_append_right (Nat.le_refl _),Nat.sub_self];rfl
end
end Go.AMS

namespace Go.AMS
open Go.AM hiding Kt At WP WL Runs RunsY
open Go.AM.G
set_option linter.unusedVariables false
set_option linter.unusedSimpArgs false
set_option linter.unusedSectionVars false
set_option maxRecDepth 100000
set_option maxHeartbeats 1000000
attribute [local irreducible] AtS AtV AtC AtG FinA Spec Post LP G.At G.WP G.WL pt own fro rdl ro hx mp lrec elt sub

open Go.AM.G.Set
structure HEd where
 src:Int
 dst:Int
 kind:Int
 key:Int
 left:Int
 right:Int
def kHEd:Kind HEd:=⟨6,by decide,fun m cs a=>∃ v0 v1 v2 v3 v4 v5,cs=[v0,v1,v2,v3,v4,v5]∧(kInt .i64).rd m [v0] a.src∧(kInt .i64).rd m [v1] a.dst∧(kInt .i64).rd m [v2] a.kind∧(kInt .i64).rd m [v3] a.key∧(kInt .i64).rd m [v4] a.left∧(kInt .i64).rd m [v5] a.right,
 fun s ⟨v0,v1,v2,v3,v4,v5,hc,h0,h1,h2,h3,h4,h5⟩=>⟨v0,v1,v2,v3,v4,v5,hc,(kInt .i64).mono s h0,(kInt .i64).mono s h1,(kInt .i64).mono s h2,(kInt .i64).mono s h3,(kInt .i64).mono s h4,(kInt .i64).mono s h5⟩,fun ⟨v0,v1,v2,v3,v4,v5,hc,h0,h1,h2,h3,h4,h5⟩=>by rw [hc];rfl,
 fun ⟨v0,v1,v2,v3,v4,v5,hc,h0,h1,h2,h3,h4,h5⟩=>by
  have e0:=(kInt .i64).ok h0
  have e1:=(kInt .i64).ok h1
  have e2:=(kInt .i64).ok h2
  have e3:=(kInt .i64).ok h3
  have e4:=(kInt .i64).ok h4
  have e5:=(kInt .i64).ok h5
  simp only [List.all_cons,List.all_nil,Bool.and_true] at e0 e1 e2 e3 e4 e5
  rw [hc];simp only [List.all_cons,List.all_nil,Bool.and_true,e0,e1,e2,e3,e4,e5]⟩
instance esz_HEd:Esz kHEd 6:=⟨rfl⟩
instance cel_HEd:Cel kHEd (Unit) (fun a x=>[.int .i64 a.src,.int .i64 a.dst,.int .i64 a.kind,.int .i64 a.key,.int .i64 a.left,.int .i64 a.right]) (fun a x=>[]) (fun a=>(-9223372036854775808≤a.src∧a.src≤9223372036854775807)∧(-9223372036854775808≤a.dst∧a.dst≤9223372036854775807)∧(-9223372036854775808≤a.kind∧a.kind≤9223372036854775807)∧(-9223372036854775808≤a.key∧a.key≤9223372036854775807)∧(-9223372036854775808≤a.left∧a.left≤9223372036854775807)∧(-9223372036854775808≤a.right∧a.right≤9223372036854775807)∧True):=⟨fun ⟨v0,v1,v2,v3,v4,v5,hc,h0,h1,h2,h3,h4,h5⟩=>by
 obtain ⟨q0,b0⟩:=h0;cases q0
 obtain ⟨q1,b1⟩:=h1;cases q1
 obtain ⟨q2,b2⟩:=h2;cases q2
 obtain ⟨q3,b3⟩:=h3;cases q3
 obtain ⟨q4,b4⟩:=h4;cases q4
 obtain ⟨q5,b5⟩:=h5;cases q5
 exact ⟨(),hc,⟨b0,b1,b2,b3,b4,b5,trivial⟩,sat_nil0⟩⟩
instance ofc_HEd {Γ:List HP} {v0 v1 v2 v3 v4 v5:Value} {a0:Int} {φ0:Prop} {a1:Int} {φ1:Prop} {a2:Int} {φ2:Prop} {a3:Int} {φ3:Prop} {a4:Int} {φ4:Prop} {a5:Int} {φ5:Prop} [o0:OfC Γ (kInt .i64) [v0] a0 φ0] [o1:OfC Γ (kInt .i64) [v1] a1 φ1] [o2:OfC Γ (kInt .i64) [v2] a2 φ2] [o3:OfC Γ (kInt .i64) [v3] a3 φ3] [o4:OfC Γ (kInt .i64) [v4] a4 φ4] [o5:OfC Γ (kInt .i64) [v5] a5 φ5]:OfC Γ kHEd [v0,v1,v2,v3,v4,v5] ⟨a0,a1,a2,a3,a4,a5⟩ (φ0∧φ1∧φ2∧φ3∧φ4∧φ5):=⟨fun h _ _ hs=>⟨v0,v1,v2,v3,v4,v5,rfl,o0.rd h.1 hs,o1.rd h.2.1 hs,o2.rd h.2.2.1 hs,o3.rd h.2.2.2.1 hs,o4.rd h.2.2.2.2.1 hs,o5.rd h.2.2.2.2.2 hs⟩⟩
instance fld_HEd_src:Fld kHEd 0 (kInt .i64) (fun a=>a.src):=⟨fun ⟨v0,v1,v2,v3,v4,v5,hc,h0,h1,h2,h3,h4,h5⟩=>by subst hc;exact h0,by decide⟩
instance fld_HEd_dst:Fld kHEd 1 (kInt .i64) (fun a=>a.dst):=⟨fun ⟨v0,v1,v2,v3,v4,v5,hc,h0,h1,h2,h3,h4,h5⟩=>by subst hc;exact h1,by decide⟩
instance fld_HEd_kind:Fld kHEd 2 (kInt .i64) (fun a=>a.kind):=⟨fun ⟨v0,v1,v2,v3,v4,v5,hc,h0,h1,h2,h3,h4,h5⟩=>by subst hc;exact h2,by decide⟩
instance fld_HEd_key:Fld kHEd 3 (kInt .i64) (fun a=>a.key):=⟨fun ⟨v0,v1,v2,v3,v4,v5,hc,h0,h1,h2,h3,h4,h5⟩=>by subst hc;exact h3,by decide⟩
instance fld_HEd_left:Fld kHEd 4 (kInt .i64) (fun a=>a.left):=⟨fun ⟨v0,v1,v2,v3,v4,v5,hc,h0,h1,h2,h3,h4,h5⟩=>by subst hc;exact h4,by decide⟩
instance fld_HEd_right:Fld kHEd 5 (kInt .i64) (fun a=>a.right):=⟨fun ⟨v0,v1,v2,v3,v4,v5,hc,h0,h1,h2,h3,h4,h5⟩=>by subst hc;exact h5,by decide⟩
instance ktz_HEd:KTz kHEd:=⟨fun hf ⟨v0,v1,v2,v3,v4,v5,hc,h0,h1,h2,h3,h4,h5⟩=>⟨v0,v1,v2,v3,v4,v5,hc,(inferInstance:KTz (kInt .i64)).tz hf h0,(inferInstance:KTz (kInt .i64)).tz hf h1,(inferInstance:KTz (kInt .i64)).tz hf h2,(inferInstance:KTz (kInt .i64)).tz hf h3,(inferInstance:KTz (kInt .i64)).tz hf h4,(inferInstance:KTz (kInt .i64)).tz hf h5⟩⟩
/-- A finding. -/
structure Fd where
 kind:Int
 txn:Int
 op:Int
 key:Int
 value:Int
 other:Int
 cyc:List HEd
section
variable {T:Tb} {r:HRd} {p q p1 p2:Option Addr} {c d c1 c2 b mr mt:Nat}
def earlB (r:HRd) (f:Fd):Prop:=r.txn < f.txn∨(r.txn=f.txn∧r.op < f.op)
/-- The earlier one is kept. -/
noncomputable def stepF (ask:HRd→Option (Int × Int)) (kind:Int) (st:Option Fd) (r:HRd):Option Fd:=by
 classical
 exact match ask r with
  | some q=>match st with
   | none=>some ⟨kind,r.txn,r.op,r.key,q.1,q.2,[]⟩
   | some f=>if earlB r f then some ⟨kind,r.txn,r.op,r.key,q.1,q.2,[]⟩ else some f
  | none=>st
noncomputable def keyF (ask:HRd→Option (Int × Int)) (T:Tb) (kind:Int) (st:Option Fd) (key:Int):Option Fd:=(soundL (wK T key) (agl key T.rd)).foldl (stepF ask kind) st
noncomputable def firstL (ask:HRd→Option (Int × Int)) (T:Tb) (kind:Int):Option Fd:=T.keys.foldl (keyF ask T kind) none
def leR (a b:HRd):Prop:=a.txn < b.txn∨(a.txn=b.txn∧a.op≤b.op)
def mkFd (kind:Int) (r:HRd) (q:Int × Int):Fd:=⟨kind,r.txn,r.op,r.key,q.1,q.2,[]⟩
def IsF (ask:HRd→Option (Int × Int)) (kind:Int) (l:List HRd) (f:Option Fd):Prop :=
 (f=none∧∀ r ∈ l,ask r=none)∨∃ r ∈ l,∃ q,ask r=some q∧f=some (mkFd kind r q)∧∀ r' ∈ l,ask r'≠none→leR r r'
theorem ziM {ask:HRd→Option (Int × Int)} {kind:Int} {l:List HRd} {st:Option Fd} (h:IsF ask kind l st) (r:HRd):IsF ask kind (l++[r]) (stepF ask kind st r):=by
 unfold stepF
 cases hr:ask r with
 | none =>
  dsimp only
  rcases h with ⟨h1,h2⟩|⟨r0,h1,q,h2,h3,h4⟩
  ·refine .inl ⟨h1,fun x hx=>?_⟩
   rcases List.mem_append.1 hx with hx|hx
   ·exact h2 x hx
   ·rw [List.mem_singleton.1 hx];exact hr
  ·refine .inr ⟨r0,List.mem_append.2 (.inl h1),q,h2,h3,fun x hx hn=>?_⟩
   rcases List.mem_append.1 hx with hx|hx
   ·exact h4 x hx hn
   ·rw [List.mem_singleton.1 hx] at hn;exact absurd hr hn
 | some q0 =>
  dsimp only
  rcases h with ⟨h1,h2⟩|⟨r0,h1,q,h2,h3,h4⟩
  ·subst h1
   refine .inr ⟨r,List.mem_append.2 (.inr (List.mem_singleton.2 rfl)),q0,hr,rfl,fun x hx hn=>?_⟩
   rcases List.mem_append.1 hx with hx|hx
   ·exact absurd (h2 x hx) hn
   ·rw [List.mem_singleton.1 hx];exact .inr ⟨rfl,Int.le_refl _⟩
  ·subst h3
   dsimp only
   by_cases he:earlB r (mkFd kind r0 q)
   ·rw [if_pos he]
    have he2:r.txn < r0.txn∨(r.txn=r0.txn∧r.op < r0.op):=he
    refine .inr ⟨r,List.mem_append.2 (.inr (List.mem_singleton.2 rfl)),q0,hr,rfl,fun x hx hn=>?_⟩
    rcases List.mem_append.1 hx with hx|hx
    ·have h5:=h4 x hx hn
     unfold leR at h5 ⊢;omega
    ·rw [List.mem_singleton.1 hx];exact .inr ⟨rfl,Int.le_refl _⟩
   ·rw [if_neg he]
    have he2:¬ (r.txn < r0.txn∨(r.txn=r0.txn∧r.op < r0.op)):=he
    refine .inr ⟨r0,List.mem_append.2 (.inl h1),q,h2,rfl,fun x hx hn=>?_⟩
    rcases List.mem_append.1 hx with hx|hx
    ·exact h4 x hx hn
    ·rw [List.mem_singleton.1 hx];unfold leR;omega
theorem zfB {ask:HRd→Option (Int × Int)} {kind:Int}:∀ (m l:List HRd) (st:Option Fd),IsF ask kind l st→IsF ask kind (l++m) (m.foldl (stepF ask kind) st)
 | [],l,st,h=>by rw [List.append_nil];exact h
 | r::m,l,st,h=>by
  have h2:=zfB m (l++[r]) _ (ziM h r)
  rw [List.append_assoc] at h2
  exact h2
theorem zeh {α β γ:Type} (f:β→γ→β) (g:α→List γ):∀ (l:List α) (b:β),l.foldl (fun b x=>(g x).foldl f b) b=(l.flatMap g).foldl f b
 | [],_=>rfl
 | x::l,b=>by rw [List.flatMap_cons,List.foldl_append,List.foldl_cons];exact zeh f g l _
end
end Go.AMS

namespace Go.AMS
open Go.AM hiding Kt At WP WL Runs RunsY
open Go.AM.G
set_option linter.unusedVariables false
set_option linter.unusedSimpArgs false
set_option linter.unusedSectionVars false
set_option maxRecDepth 100000
set_option maxHeartbeats 1000000
attribute [local irreducible] AtS AtV AtC AtG FinA Spec Post LP G.At G.WP G.WL pt own fro rdl ro hx mp lrec elt sub

open Go.AM.G.Set
section
variable {h:List HTx} {T:Tb} {r:HRd}
theorem zeZ {key:Int} {t:HTx} {r:HRd}:∀ n,r ∈ rdsN key t n→∃ j,j < n∧(t.ops.getD j default).read=true∧(t.ops.getD j default).key=key∧r=⟨t.id,(j:Nat),key,(t.ops.getD j default).list,aheadL t.ops key j⟩
 | 0,hr=>by cases hr
 | n + 1,hr=>by
  simp only [rdsN] at hr
  rcases List.mem_append.1 hr with hr|hr
  ·obtain ⟨j,h1,h2⟩:=zeZ n hr
   exact ⟨j,by omega,h2⟩
  ·split at hr
   ·rename_i hc
    exact ⟨n,by omega,hc.1,hc.2,List.mem_singleton.1 hr⟩
   ·cases hr
/-- The reads of a key. -/
def rdK (h:List HTx) (key:Int):List HRd:=outR h key (setL (comm h))
theorem za5 (hk:OkH h) {key:Int} (hr:r ∈ rdK h key):∃ t ∈ h,t.ab=false∧∃ j,j < t.ops.length∧(t.ops.getD j default).read=true∧(t.ops.getD j default).key=key∧r=⟨t.id,(j:Nat),key,(t.ops.getD j default).list,aheadL t.ops key j⟩∧t.id ∈ setL (comm h):=by
 obtain ⟨x,hx,h1⟩:=List.mem_flatMap.1 hr
 obtain ⟨t,ht,hb,rfl⟩:=zai.1 (mem_setL.1 hx)
 rw [zu hk.i ht] at h1
 obtain ⟨j,h2,h3,h4,h5⟩:=zeZ _ h1
 exact ⟨t,ht,hb,j,h2,h3,h4,h5,hx⟩
/-- What is asked, by its kind. -/
def askD (T:Tb) (kd:Int) (r:HRd):Option (Int × Int) :=
 if kd=7 then abL (wK T r.key) (frontL r) else if kd=8 then midL (wK T r.key) (fun id=>agl (id,r.key) T.ap) (frontL r) else tornP (wK T r.key) (fun id=>agl (id,r.key) T.ap) (frontL r)
def kdL:List Int:=[4,7,8]
noncomputable def findD (T:Tb):List Fd:=kdL.filterMap fun kd=>firstL (askD T kd) T kd
/-- The sound reads of all keys. -/
def sndT (T:Tb):List HRd:=T.keys.flatMap fun key=>soundL (wK T key) (agl key T.rd)
theorem zeH (ask:HRd→Option (Int × Int)) (kd:Int):IsF ask kd (sndT T) (firstL ask T kd):=by
 have h:=zfB (ask:=ask) (kind:=kd) (sndT T) [] none (.inl ⟨rfl,fun _ q=>by cases q⟩)
 rw [List.nil_append] at h
 unfold sndT at h ⊢
 rw [← zeh] at h
 exact h
theorem zhT (hk:OkH h) (hr:r ∈ sndT (TH h)):r ∈ rdK h r.key∧r.key ∈ setL (keysH h)∧(kindL (wK (TH h) r.key) r).1=0:=by
 obtain ⟨k,hk1,h1⟩:=List.mem_flatMap.1 hr
 obtain ⟨h2,h3⟩:=List.mem_filter.1 h1
 have h2:r ∈ rdK h k:=by
  have:=zcv hk.i k
  unfold TH at h2
  rw [this] at h2;exact h2
 have e:r.key=k:=by
  obtain ⟨t,ht,hb,j,g1,g2,g3,rfl,g4⟩:=za5 hk h2
  rfl
 subst e
 unfold TH at hk1
 rw [zfV] at hk1
 exact ⟨h2,hk1,of_decide_eq_true h3⟩
theorem zd6 {W:Wf}:∀ {l:List Int} {q:Int × Int},abL W l=some q→q.1 ∈ l∧∃ w,W q.1=some w∧w.txn=q.2∧w.ab=true
 | [],_,e=>by cases e
 | x::l,q,e=>by
  unfold abL at e
  split at e
  ·rename_i w hw
   split at e
   ·rename_i hb
    cases e
    exact ⟨List.mem_cons_self,w,hw,rfl,hb⟩
   ·obtain ⟨h1,h2⟩:=zd6 e
    exact ⟨List.mem_cons_of_mem _ h1,h2⟩
  ·obtain ⟨h1,h2⟩:=zd6 e
   exact ⟨List.mem_cons_of_mem _ h1,h2⟩
theorem zgE {W:Wf} {A:Int→List Int} {l:List Int} {q:Int × Int} (e:midL W A l=some q):q.1 ∈ l∧∃ w,W q.1=some w∧w.txn=q.2∧w.ab=false:=by
 unfold midL at e
 split at e
 ·cases e
 ·rename_i x hx
  split at e
  ·cases e
  ·rename_i w hw
   split at e
   ·cases e
   ·rename_i hb
    split at e
    ·cases e
    ·cases e
     exact ⟨List.mem_of_getLast? hx,w,hw,rfl,by simpa using hb⟩
theorem ziY {W:Wf} {A:Int→List Int} {l:List Int} {q:Int × Int} (e:tornP W A l=some q):q.1 ∈ l∧∃ w,W q.1=some w∧w.txn=q.2∧w.ab=false:=by
 obtain ⟨id,_,h1⟩:=List.exists_of_findSome?_eq_some e
 unfold tornF at h1
 split at h1
 ·rename_i i hi
  cases h1
  have hl:=zeF _ _ _ _ hi
  have hm:(mineL W l id).getD i 0 ∈ mineL W l id:=by
   rw [getD_lt (by omega)];exact List.getElem_mem _
  obtain ⟨h2,h3⟩:=List.mem_filter.1 hm
  refine ⟨h2,?_⟩
  dsimp only
  unfold mineB at h3
  split at h3
  ·rename_i w hw
   have h4:=Bool.and_eq_true_iff.1 h3
   exact ⟨w,hw,of_decide_eq_true h4.1,by simpa using h4.2⟩
  ·cases h3
 ·cases h1
theorem ziT {kd:Int} {q:Int × Int} (e:askD T kd r=some q):q.1 ∈ frontL r∧∃ w,wK T r.key q.1=some w∧w.txn=q.2∧w.ab=decide (kd=7):=by
 unfold askD at e
 by_cases h7:kd=7
 ·rw [if_pos h7] at e
  rw [decide_eq_true h7]
  exact zd6 e
 ·rw [if_neg h7] at e
  rw [decide_eq_false h7]
  by_cases h8:kd=8
  ·rw [if_pos h8] at e
   exact zgE e
  ·rw [if_neg h8] at e
   exact ziY e
theorem zib {W:Wf} (h0:(kindL W r).1=0):∀ x ∈ frontL r,txZ (W x)≠r.txn:=by
 have hi:innL W r=none:=by
  unfold kindL at h0
  split at h0
  ·cases h0
  ·split at h0
   ·cases h0
   ·split at h0
    ·cases h0
    ·assumption
 unfold innL at hi
 split at hi
 ·cases hi
 ·unfold innB at hi
  intro x hx e
  have:=List.find?_eq_none.1 hi x hx
  simp [e] at this
/-- What a finding names is there. -/
theorem zhl (hk:OkH h) {f:Fd} (hm:f ∈ findD (TH h)):∃ w,aget (f.key,f.value) (TH h).wr=some w∧w.txn=f.other∧f.txn≠f.other∧w.ab=decide (f.kind=7)∧f.cyc=[]∧∃ r ∈ rdK h f.key,r.txn=f.txn∧r.op=f.op∧f.value ∈ r.list:=by
 obtain ⟨kd,_,h1⟩:=List.mem_filterMap.1 hm
 rcases zeH (T:=TH h) (askD (TH h) kd) kd with ⟨h2,_⟩|⟨r,hr,q,h3,h4,_⟩
 ·rw [h1] at h2;cases h2
 ·rw [h1] at h4
  cases h4
  obtain ⟨g1,w,g2,g3,g4⟩:=ziT h3
  obtain ⟨k1,k2,k3⟩:=zhT hk hr
  have k4:=zib k3 q.1 g1
  rw [g2] at k4
  refine ⟨w,g2,g3,fun e=>k4 ?_,g4,rfl,r,k1,rfl,rfl,List.mem_of_mem_take g1⟩
  exact g3.trans e.symm
end
end Go.AMS

namespace Go.AMS
open Go.AM hiding Kt At WP WL Runs RunsY
open Go.AM.G
set_option linter.unusedVariables false
set_option linter.unusedSimpArgs false
set_option linter.unusedSectionVars false
set_option maxRecDepth 100000
set_option maxHeartbeats 1000000
attribute [local irreducible] AtS AtV AtC AtG FinA Spec Post LP G.At G.WP G.WL pt own fro rdl ro hx mp lrec elt sub

open Go.AM.G.Set
section
variable {T:Tb} {r:HRd} {p q p1 p2:Option Addr} {c d c1 c2 b mr mt:Nat}
/-- The reads of a table are small. -/
def RdOk (T:Tb):Prop:=∀ key,(agl key T.rd).length≤100000∧∀ r ∈ agl key T.rd,(r.list.length≤100∧r.own.length≤100)∧r.key=key
def bI (x:Int):Prop:=-9223372036854775808≤x∧x≤9223372036854775807
def bFd (f:Fd):Prop:=bI f.kind∧bI f.txn∧bI f.op∧bI f.key∧bI f.value∧bI f.other
structure FdOk (T:Tb):Prop where
 keys:T.keys.length≤1000000
 rd:RdOk T
 wr:∀ k x w,wK T k x=some w→bI w.txn∧0 < (agl (w.txn,k) T.ap).length
 ap:∀ x k,(agl (x,k) T.ap).length≤60
 fd:∀ f ∈ findD T,bFd f
end
end Go.AMS

namespace Go.AMS
open Go.AM hiding Kt At WP WL Runs RunsY
open Go.AM.G
set_option linter.unusedVariables false
set_option linter.unusedSimpArgs false
set_option linter.unusedSectionVars false
set_option maxRecDepth 100000
set_option maxHeartbeats 1000000
attribute [local irreducible] AtS AtV AtC AtG FinA Spec Post LP G.At G.WP G.WL pt own fro rdl ro hx mp lrec elt sub

open Go.AM.G.Set
section
variable {h:List HTx} {T:Tb} {p q p1 p2:Option Addr} {c d c1 c2 b mr mt:Nat}
theorem zkQ {prog:AProg} {rr:Option Nat} {e:Env} {Q:Pst} {kk:List Kt} {n:Nat} {d:Bool} {r:List AI} {F:List HP} (w:∀ mr mt,AtS n prog rr (.o d r::kk) .norm e (tabC b T mr mt::mapF mr kI kHRd T.rd::mapL mt kI kHWr T.wt::F) Q):AtS n prog rr (.o d r::kk) .norm e (tab b T::F) Q:=by
 refine at_openP (tab b T) rfl ?_
 rintro ⟨⟨⟨pi,ci⟩,⟨pk,ck⟩⟩,⟨mw,ma,mr,mt⟩⟩ -
 dsimp only [List.cons_append,List.nil_append]
 refine at_openP (mapL mr kI kHRd T.rd) rfl ?_
 rintro Z hZ
 dsimp only [List.cons_append,List.nil_append]
 refine at_ent (Δ:=alls (ownE kHRd) Z::mp mr (amap kI slV Z)::_) (by repeat first|exact Ent.refl _|(apply Ent.more;· repeat first|exact Ent.keep|exact Ent.here|exact Ent.lend|exact ent_nil|apply Ent.there)|apply Ent.drop) ?_
 refine ze0 ?_
 refine at_foldP (mapF mr kI kHRd T.rd) rfl Z hZ ?_
 refine at_foldP (tabC b T mr mt) rfl (((pi,ci),(pk,ck)),(mw,ma)) trivial ?_
 exact w mr mt
theorem th_ok (hf:FewH h 20 60) (hk:OkH h):FdOk (TH h):=by
 have hrd:∀ key,agl key (TH h).rd=rdK h key:=fun key=>zcv hk.i key
 have hby:∀ x,mayN x→bI x:=fun x hx=>by unfold mayN at hx;unfold bI;omega
 refine ⟨?_,fun key=>?_,fun k x w hw=>?_,fun x k=>ap_le hf hk x k,fun f hm=>?_⟩
 ·have:=(zlD hf).1
  unfold TH;omega
 ·rw [hrd]
  refine ⟨by have:=zbS hf hk.m key;unfold rdK;omega,fun r hr=>?_⟩
  obtain ⟨t,ht,hb,j,h1,h2,h3,rfl,h4⟩:=za5 hk hr
  have h5:=zt hf hk.m t.id (hk.m t ht).1
  rw [zu hk.i ht] at h5
  have h6:=zap t.ops key j
  rw [getD_lt h1]
  have h7:=h5.2.2.2 _ (List.getElem_mem h1)
  have h8:=h5.2.1
  exact ⟨⟨h7,by dsimp only;omega⟩,rfl⟩
 ·refine ⟨?_,zlQ hk hw⟩
  obtain ⟨t,ht,i,hi,_,rfl⟩:=wr_at hk hw
  exact hby _ (hk.m t ht).1
 ·have h0:=zhl hk hm
  obtain ⟨w,hw,hx,_,_,_,r,hr,e1,e2,e3⟩:=h0
  obtain ⟨t,ht,hb,j,h1,h2,h3,rfl,h4⟩:=za5 hk hr
  obtain ⟨kd,hkd,hfl⟩:=List.mem_filterMap.1 hm
  have hkk:f.kind=kd:=by
   rcases zeH (T:=TH h) (askD (TH h) kd) kd with ⟨g1,_⟩|⟨r,_,q,_,g1,_⟩
   ·rw [hfl] at g1;cases g1
   ·rw [hfl] at g1;cases g1;rfl
  have h5:=zt hf hk.m t.id (hk.m t ht).1
  rw [zu hk.i ht] at h5
  obtain ⟨u,hu,i,hi,⟨g1,g2,g3⟩,rfl⟩:=wr_at hk hw
  have hmo:=(hk.m u hu).2 _ (List.getElem_mem hi)
  unfold mayO at hmo
  rw [g1] at hmo
  refine ⟨?_,?_,?_,?_,?_,?_⟩
  ·rw [hkk]
   have:kd=4∨kd=7∨kd=8:=by simpa [kdL] using hkd
   unfold bI;omega
  ·rw [← e1];exact hby _ (hk.m t ht).1
  ·rw [← e2];unfold bI;dsimp only;omega
  ·rw [← g2];exact hby _ (by simpa using hmo.1)
  ·rw [← g3];exact hby _ (show mayN u.ops[i].value∧u.ops[i].list=[] by simpa using hmo.2).1
  ·rw [← hx];exact hby _ (hk.m u hu).1
end
end Go.AMS

namespace Go.AMS
open Go.AM hiding Kt At WP WL Runs RunsY
open Go.AM.G
set_option linter.unusedVariables false
set_option linter.unusedSimpArgs false
set_option linter.unusedSectionVars false
set_option maxRecDepth 100000
set_option maxHeartbeats 1000000
attribute [local irreducible] AtS AtV AtC AtG FinA Spec Post LP G.At G.WP G.WL pt own fro rdl ro hx mp lrec elt sub

open Go.AM.G.Set
section
variable {h:List HTx} {r:HRd} {p p1 p2 p3:Option Addr} {c c1 c2 c3:Nat}
theorem zlm (hf:FewH h 20 60) (hk:OkH h) (h1:r.list.length≤1000) (h2:r.own.length≤1000):Spec prog1 za2 [.agg #[.slice p h.length c],.agg #[.int .i64 r.txn,.int .i64 r.op,.int .i64 r.key,.slice p1 r.list.length c1,.slice p2 r.own.length c2]] [fro kHTx p c h,fro (kInt .i64) p1 c1 r.list,fro (kInt .i64) p2 c2 r.own] (fun R=>R (.tuple #[.int .i64 (kindL (wK (TH h) r.key) r).1,.int .i64 (kindL (wK (TH h) r.key) r).2]) []):=by
 refine spec_code zg8 rfl ?_;intro n F R hR;unfold zbZ
 have hfl:=zak r
 have hwr:∀ x,Spec prog1 ze [.agg #[.slice p h.length c],.int .i64 r.key,.int .i64 x] [fro kHTx p c h] (fun R=>R (wrO (wK (TH h) r.key x)) []):=fun x=>zec hf hk
 generalize wK (TH h) r.key=W at hR hwr
 unfold kindL at hR
 repeat' first|apply step|(apply gO;·repeat first|exact eZ|(apply eS;exact rfl))|refine Fa.mk fun _=>?_|refine g_keep ?_
 rename_i hb rb
 refine at_loopS (ι:=Nat) (E:=fun k=>[(2,.pointer (some ⟨hb,0,none⟩)),(3,.pointer (some ⟨rb,0,none⟩)),(6,.int .i64 (k:Int))]) (Δ:=fun k=>fro kHTx p c h::fro (kInt .i64) p1 c1 r.list::fro (kInt .i64) p2 c2 r.own::pt rb [.int .i64 r.txn,.int .i64 r.op,.int .i64 r.key,.slice p1 r.list.length c1,.slice p2 r.own.length c2] 0::pt hb [.slice p h.length c] 0::F) (P:=fun k=>k≤r.list.length∧twL (r.list.take k) (r.list.drop k)=twL [] r.list) (μ:=fun k=>r.list.length - k) 0 ⟨Nat.zero_le _,rfl⟩ ?_
 rintro k ⟨hk1,htw⟩
 try dsimp only
 rcases Nat.lt_or_ge k r.list.length with hlt|hge
 ·rw [zfe hlt] at htw
  repeat' first|apply step|(apply gO;·repeat first|exact eZ|(apply eS;exact rfl))|(refine Br.mk (fun _=>?_) (fun _=>?_)<;>try (exfalso;omega))|refine g_cond ?_|refine g_keep ?_
  refine at_loopS (ι:=Nat) (E:=fun j=>[(2,.pointer (some ⟨hb,0,none⟩)),(3,.pointer (some ⟨rb,0,none⟩)),(6,.int .i64 (k:Int)),(7,.int .i64 (j:Int))]) (Δ:=fun j=>fro kHTx p c h::fro (kInt .i64) p1 c1 r.list::fro (kInt .i64) p2 c2 r.own::pt rb [.int .i64 r.txn,.int .i64 r.op,.int .i64 r.key,.slice p1 r.list.length c1,.slice p2 r.own.length c2] 0::pt hb [.slice p h.length c] 0::F) (P:=fun j=>j≤k∧∀ i (hi:i < r.list.length),i < j→r.list[i]≠r.list[k]) (μ:=fun j=>k - j) 0 ⟨Nat.zero_le _,fun _ _ q=>absurd q (Nat.not_lt_zero _)⟩ ?_
  rintro j ⟨hj,hne⟩
  try dsimp only
  rcases Nat.lt_or_ge j k with hjk|hjk
  ·by_cases he:r.list[j]=r.list[k]
   ·rw [if_pos (he ▸ List.mem_take_iff_getElem.2 ⟨j,by omega,rfl⟩)] at htw
    rw [← htw] at hR
    repeat' first|apply step|(apply gO;·repeat first|exact eZ|(apply eS;exact rfl))|(refine Br.mk (fun _=>?_) (fun _=>?_)<;>try (exfalso;omega))|(refine Sd.mk ?_ ?_;·exact qD)|(refine Sx.mk ?_ ?_;·omega)|refine Im.mk fun _=>?_|refine g_cond ?_|refine g_keep ?_|refine g_fin ?_
    all_goals first|exact fin hR|(exfalso;omega)
   ·repeat' first|apply step|(apply gO;·repeat first|exact eZ|(apply eS;exact rfl))|(refine Br.mk (fun _=>?_) (fun _=>?_)<;>try (exfalso;omega))|(refine Sd.mk ?_ ?_;·exact qD)|(refine Sx.mk ?_ ?_;·omega)|refine Im.mk fun _=>?_|refine g_cond ?_|refine g_keep ?_
    all_goals first|(exfalso;omega)|exact lp_next (j + 1) ⟨by omega,fun i hi hij=>(Nat.lt_or_ge i j).elim (fun q=>hne i hi q) (fun q=>by have e:i=j:=(by omega);subst e;exact he)⟩ (by omega)
  ·rw [if_neg (fun q=>by obtain ⟨i,hi,e⟩:=List.mem_take_iff_getElem.1 q;exact hne i (by omega) (by omega) e)] at htw
   repeat' first|apply step|(apply gO;·repeat first|exact eZ|(apply eS;exact rfl))|(refine Br.mk (fun _=>?_) (fun _=>?_)<;>try (exfalso;omega))|(refine Sd.mk ?_ ?_;·exact qD)|refine g_cond ?_|refine g_keep ?_
   exact lp_next (k + 1) ⟨by omega,htw⟩ (by omega)
 rw [List.drop_eq_nil_of_le hge] at htw
 rw [← htw] at hR
 dsimp only [twL] at hR
 repeat' first|apply step|(apply gO;·repeat first|exact eZ|(apply eS;exact rfl))|(refine Br.mk (fun _=>?_) (fun _=>?_)<;>try (exfalso;omega))|refine g_cond ?_|refine g_keep ?_
 refine at_loopS (ι:=Nat) (E:=fun k=>[(2,.pointer (some ⟨hb,0,none⟩)),(3,.pointer (some ⟨rb,0,none⟩)),(8,.int .i64 (k:Int))]) (Δ:=fun k=>fro kHTx p c h::fro (kInt .i64) p1 c1 r.list::fro (kInt .i64) p2 c2 r.own::pt rb [.int .i64 r.txn,.int .i64 r.op,.int .i64 r.key,.slice p1 r.list.length c1,.slice p2 r.own.length c2] 0::pt hb [.slice p h.length c] 0::F) (P:=fun k=>k≤r.list.length∧bornL W (r.list.drop k)=bornL W r.list) (μ:=fun k=>r.list.length - k) 0 ⟨Nat.zero_le _,rfl⟩ ?_
 rintro k2 ⟨hk2,hd⟩
 try dsimp only
 rcases Nat.lt_or_ge k2 r.list.length with hlt|hge2
 ·rw [zfO hlt] at hd
  have hrj:=hwr r.list[k2]
  repeat' first|apply step|(apply gO;·repeat first|exact eZ|(apply eS;exact rfl))|(refine Br.mk (fun _=>?_) (fun _=>?_)<;>try (exfalso;omega))|(refine Sd.mk ?_ ?_;·exact qD)|(refine Sx.mk ?_ ?_;·omega)|refine Im.mk fun _=>?_|refine g_cond ?_
  refine at_callR (hrj) ?_
  cases hw:W r.list[k2] with
  | none =>
   rw [hw] at hd
   dsimp only at hd
   rw [← hd] at hR
   unfold wrO
   repeat' first|apply step|(apply gO;·repeat first|exact eZ|(apply eS;exact rfl))|(refine Sd.mk ?_ ?_;·exact qD)|(refine Sx.mk ?_ ?_;·omega)|refine Fa.mk fun _=>?_|refine Im.mk fun _=>?_|apply Lw.go|refine g_cond ?_|refine g_keep ?_|refine g_fin ?_
   exact fin hR
  | some w =>
   rw [hw] at hd
   dsimp only at hd
   unfold wrO
   repeat' first|apply step|(apply gO;·repeat first|exact eZ|(apply eS;exact rfl))|(refine Sd.mk ?_ ?_;·exact qD)|refine Fa.mk fun _=>?_|apply Lw.go|refine g_cond ?_|refine g_keep ?_
   exact lp_next (k2 + 1) ⟨by omega,hd⟩ (by omega)
 rw [List.drop_eq_nil_of_le hge2] at hd
 rw [← hd] at hR
 dsimp only [bornL] at hR
 repeat' first|apply step|(apply gO;·repeat first|exact eZ|(apply eS;exact rfl))|(refine Br.mk (fun _=>?_) (fun _=>?_)<;>try (exfalso;omega))|(refine Sd.mk ?_ ?_;·exact qD)|refine g_cond ?_|refine g_keep ?_
 refine at_loopS (ι:=Nat) (E:=fun j=>[(2,.pointer (some ⟨hb,0,none⟩)),(3,.pointer (some ⟨rb,0,none⟩)),(11,.int .i64 ((r.list.length:Int) - (r.own.length:Int))),(12,.int .i64 (j:Int))]) (Δ:=fun k=>fro kHTx p c h::fro (kInt .i64) p1 c1 r.list::fro (kInt .i64) p2 c2 r.own::pt rb [.int .i64 r.txn,.int .i64 r.op,.int .i64 r.key,.slice p1 r.list.length c1,.slice p2 r.own.length c2] 0::pt hb [.slice p h.length c] 0::F) (P:=fun j=>j≤r.own.length∧innA r.list ((r.list.length:Int) - (r.own.length:Int)) (r.own.drop j) j=innA r.list ((r.list.length:Int) - (r.own.length:Int)) r.own 0) (μ:=fun j=>r.own.length - j) 0 ⟨Nat.zero_le _,rfl⟩ ?_
 rintro j ⟨hj,hd2⟩
 try dsimp only
 rcases Nat.lt_or_ge j r.own.length with hlt|hge3
 ·rw [zeK hlt] at hd2
  by_cases hneg:(r.list.length:Int) - (r.own.length:Int) + (j:Int) < 0
  ·rw [if_pos (.inl hneg)] at hd2
   unfold innL at hR
   rw [← hd2] at hR
   repeat' first|apply step|(apply gO;·repeat first|exact eZ|(apply eS;exact rfl))|(refine Br.mk (fun _=>?_) (fun _=>?_)<;>try (exfalso;omega))|(refine Sd.mk ?_ ?_;·exact qD)|(refine Sx.mk ?_ ?_;·omega)|refine Im.mk fun _=>?_|refine g_cond ?_|refine g_guard ?_|refine g_keep ?_|refine g_fin ?_
   all_goals first|exact fin hR|(exfalso;omega)
  ·have hix:((r.list.length:Int) - (r.own.length:Int) + (j:Int)).toNat < r.list.length:=by omega
   by_cases he:r.list[((r.list.length:Int) - (r.own.length:Int) + (j:Int)).toNat]'hix=r.own[j]
   ·rw [if_neg (fun q=>by rcases q with q|q;exact hneg q;exact q (by rw [List.getElem?_eq_getElem hix,he]))] at hd2
    repeat' first|apply step|(apply gO;·repeat first|exact eZ|(apply eS;exact rfl))|(refine Br.mk (fun _=>?_) (fun _=>?_)<;>try (exfalso;omega))|(refine Sd.mk ?_ ?_;·exact qD)|(refine Sx.mk ?_ ?_;·omega)|refine Im.mk fun _=>?_|refine g_cond ?_|refine g_guard ?_|refine g_keep ?_
    all_goals first|exact lp_next (j + 1) ⟨by omega,hd2⟩ (by omega)|(exfalso;omega)
   ·rw [if_pos (.inr (fun q=>he (Option.some.inj (by rw [← q,List.getElem?_eq_getElem hix]))))] at hd2
    unfold innL at hR
    rw [← hd2] at hR
    repeat' first|apply step|(apply gO;·repeat first|exact eZ|(apply eS;exact rfl))|(refine Br.mk (fun _=>?_) (fun _=>?_)<;>try (exfalso;omega))|(refine Sd.mk ?_ ?_;·exact qD)|(refine Sx.mk ?_ ?_;·omega)|refine Im.mk fun _=>?_|refine g_cond ?_|refine g_guard ?_|refine g_keep ?_|refine g_fin ?_
    all_goals first|exact fin hR|(exfalso;omega)
 rw [List.drop_eq_nil_of_le hge3] at hd2
 unfold innL at hR
 rw [← hd2] at hR
 dsimp only [innA] at hR
 unfold innB at hR
 repeat' first|apply step|(apply gO;·repeat first|exact eZ|(apply eS;exact rfl))|(refine Br.mk (fun _=>?_) (fun _=>?_)<;>try (exfalso;omega))|refine g_cond ?_|refine g_keep ?_
 refine at_callR (zf2 (r:=r) (by omega) (by omega)) ?_
 intro p3 c3
 generalize frontL r=l at hR hfl ⊢
 repeat' first|apply step|(apply gO;·repeat first|exact eZ|(apply eS;exact rfl))|apply Lw.go|refine g_keep ?_
 refine at_loopS (ι:=Nat) (E:=fun j=>[(2,.pointer (some ⟨hb,0,none⟩)),(3,.pointer (some ⟨rb,0,none⟩)),(13,.slice p3 l.length c3),(14,.int .i64 (j:Int))]) (Δ:=fun j=>own (kInt .i64) p3 c3 l::fro kHTx p c h::fro (kInt .i64) p1 c1 r.list::fro (kInt .i64) p2 c2 r.own::pt rb [.int .i64 r.txn,.int .i64 r.op,.int .i64 r.key,.slice p1 r.list.length c1,.slice p2 r.own.length c2] 0::pt hb [.slice p h.length c] 0::F) (P:=fun j=>j≤l.length∧(l.drop j).find? (fun x=>decide (txZ (W x)=r.txn))=l.find? (fun x=>decide (txZ (W x)=r.txn))) (μ:=fun j=>l.length - j) 0 ⟨Nat.zero_le _,rfl⟩ ?_
 rintro k4 ⟨hk4,hd4⟩
 try dsimp only
 rcases Nat.lt_or_ge k4 l.length with hlt|hge4
 ·rw [List.drop_eq_getElem_cons hlt,List.find?_cons] at hd4
  have hrj:=hwr l[k4]
  repeat' first|apply step|(apply gO;·repeat first|exact eZ|(apply eS;exact rfl))|(refine Br.mk (fun _=>?_) (fun _=>?_)<;>try (exfalso;omega))|(refine Sd.mk ?_ ?_;·exact qD)|(refine Sx.mk ?_ ?_;·omega)|refine Im.mk fun _=>?_|refine g_cond ?_
  refine at_callR (hrj) ?_
  cases hw:W l[k4] with
  | none =>
   rw [hw] at hd4
   unfold wrO
   by_cases h0:(0:Int)=r.txn
   ·rw [show decide (txZ none=r.txn)=true from decide_eq_true h0] at hd4
    rw [← hd4] at hR
    repeat' first|apply step|(apply gO;·repeat first|exact eZ|(apply eS;exact rfl))|(refine Br.mk (fun _=>?_) (fun _=>?_)<;>try (exfalso;omega))|(refine Sd.mk ?_ ?_;·exact qD)|(refine Sx.mk ?_ ?_;·omega)|refine Fa.mk fun _=>?_|refine Im.mk fun _=>?_|apply Lw.go|refine g_cond ?_|refine g_keep ?_|refine g_fin ?_
    all_goals first|exact fin hR|(exfalso;omega)
   ·rw [show decide (txZ none=r.txn)=false from decide_eq_false h0] at hd4
    repeat' first|apply step|(apply gO;·repeat first|exact eZ|(apply eS;exact rfl))|(refine Br.mk (fun _=>?_) (fun _=>?_)<;>try (exfalso;omega))|(refine Sd.mk ?_ ?_;·exact qD)|refine Fa.mk fun _=>?_|apply Lw.go|refine g_cond ?_|refine g_keep ?_
    all_goals first|exact lp_next (k4 + 1) ⟨by omega,hd4⟩ (by omega)|(exfalso;omega)
  | some w =>
   rw [hw] at hd4
   unfold wrO
   by_cases h0:w.txn=r.txn
   ·rw [show decide (txZ (some w)=r.txn)=true from decide_eq_true h0] at hd4
    rw [← hd4] at hR
    repeat' first|apply step|(apply gO;·repeat first|exact eZ|(apply eS;exact rfl))|(refine Br.mk (fun _=>?_) (fun _=>?_)<;>try (exfalso;omega))|(refine Sd.mk ?_ ?_;·exact qD)|(refine Sx.mk ?_ ?_;·omega)|refine Fa.mk fun _=>?_|refine Im.mk fun _=>?_|apply Lw.go|refine g_cond ?_|refine g_keep ?_|refine g_fin ?_
    all_goals first|exact fin hR|(exfalso;omega)
   ·rw [show decide (txZ (some w)=r.txn)=false from decide_eq_false h0] at hd4
    repeat' first|apply step|(apply gO;·repeat first|exact eZ|(apply eS;exact rfl))|(refine Br.mk (fun _=>?_) (fun _=>?_)<;>try (exfalso;omega))|(refine Sd.mk ?_ ?_;·exact qD)|refine Fa.mk fun _=>?_|apply Lw.go|refine g_cond ?_|refine g_keep ?_
    all_goals first|exact lp_next (k4 + 1) ⟨by omega,hd4⟩ (by omega)|(exfalso;omega)
 ·rw [List.drop_eq_nil_of_le hge4] at hd4
  rw [← hd4] at hR
  repeat' first|apply step|(apply gO;·repeat first|exact eZ|(apply eS;exact rfl))|(refine Br.mk (fun _=>?_) (fun _=>?_)<;>try (exfalso;omega))|refine g_cond ?_|refine g_keep ?_|refine g_fin ?_
  exact fin hR
end
end Go.AMS

namespace Go.AMS
open Go.AM hiding Kt At WP WL Runs RunsY
open Go.AM.G
set_option linter.unusedVariables false
set_option linter.unusedSimpArgs false
set_option linter.unusedSectionVars false
set_option maxRecDepth 100000
set_option maxHeartbeats 1000000
attribute [local irreducible] AtS AtV AtC AtG FinA Spec Post LP G.At G.WP G.WL pt own fro rdl ro hx mp lrec elt sub

open Go.AM.G.Set
section
variable {h:List HTx} {r:HRd} {p p1 p2 p3:Option Addr} {c c1 c2 c3:Nat}
theorem zct {α:Type} {q:α→Bool} {l:List α} {i:Nat} (hi:i < l.length):(l.take (i + 1)).filter q=(l.take i).filter q++if q l[i]=true then [l[i]] else []:=by
 rw [List.take_succ_eq_append_getElem hi,List.filter_append]
 cases h:q l[i] <;> simp [h]
theorem zaj {α β:Type} (f:α→List β) (n:Nat) (hf:∀ x,(f x).length≤n):∀ l:List α,(l.flatMap f).length≤l.length * n
 | []=>Nat.zero_le _
 | x::l=>by
  have h1:=zaj f n hf l
  have h2:=hf x
  rw [List.flatMap_cons,List.length_append,List.length_cons,Nat.succ_mul];omega
end
end Go.AMS

namespace Go.AMS
open Go.AM hiding Kt At WP WL Runs RunsY
open Go.AM.G
set_option linter.unusedVariables false
set_option linter.unusedSimpArgs false
set_option linter.unusedSectionVars false
set_option maxRecDepth 100000
set_option maxHeartbeats 1000000
attribute [local irreducible] AtS AtV AtC AtG FinA Spec Post LP G.At G.WP G.WL pt own fro rdl ro hx mp lrec elt sub

open Go.AM.G.Set
section
variable {h:List HTx} {T:Tb} {r:HRd} {p q p1 p2:Option Addr} {c d c1 c2 b mr mt:Nat}
theorem zb3 {x y:Int}:Spec prog1 zA [.pointer (some ⟨b,0,none⟩),.int .i64 x,.int .i64 y] [ro (tabC b T mr mt)] (fun R=>R (wrO (aget (x,y) T.wr)) []):=by
 refine spec_code zjv rfl ?_;intro n F R hR;unfold zc5
 refine at_openRP (tabC b T mr mt) rfl ?_
 rintro ⟨⟨⟨pi,ci⟩,⟨pk,ck⟩⟩,⟨mw,ma⟩⟩ -
 try dsimp only [List.cons_append,List.nil_append]
 repeat' first|apply step|(apply gO;·repeat first|exact eZ|(apply eS;exact rfl))|refine Fa.mk fun _=>?_
 refine at_callR (zd8) ?_
 repeat' first|apply step|(apply gO;·repeat first|exact eZ|(apply eS;exact rfl))|apply Lw.go|refine g_cond ?_
 cases hq:aget (x,y) T.wr with
 | some w =>
  rw [hq] at hR
  refine av_look1 (enc:=kII) (vv:=wrV) (key:=(x,y)) inferInstance hq ?_
  repeat' first|apply step|(apply gO;·repeat first|exact eZ|(apply eS;exact rfl))|refine Fa.mk fun _=>?_|refine g_keep ?_|refine g_fin ?_
  exact fin hR
 | none =>
  rw [hq] at hR
  refine av_look0 (enc:=kII) (vv:=wrV) (key:=(x,y)) inferInstance hq ?_
  repeat' first|apply step|(apply gO;·repeat first|exact eZ|(apply eS;exact rfl))|refine Fa.mk fun _=>?_|refine g_keep ?_|refine g_fin ?_
  exact fin hR
end
end Go.AMS

