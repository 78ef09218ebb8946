/- What the functions do, part 3. -/
import Derived.Test.YtdkgalkdcmajjaaGreatPart2
import Derived.Test.YtdkgalkdcmajjaaGreatSetLaw
namespace Go.AMS
open Go.AM hiding Kt At WP WL Runs RunsY
open Go.AM.G
set_option linter.unusedVariables false
set_option linter.unusedSimpArgs false
set_option linter.unusedSectionVars false
set_option maxRecDepth 100000
set_option maxHeartbeats 1000000
attribute [local irreducible] AtS AtV AtC AtG FinA Spec Post LP G.At G.WP G.WL pt own fro rdl ro hx mp lrec elt sub

open Go.AM.G.Set
section
variable {T:Tb} {p q:Option Addr} {c d b mr mt:Nat}
theorem table_Table_Reads_specF {y:Int}:Spec prog1 n_table_Table_Reads [.pointer (some ⟨b,0,none⟩),.int .i64 y] [tabC b T mr mt,mapF mr kI kHRd T.rd] (fun R=>∀ x p' c',R (.func (.func n_table_goes_table_Read_c1) #[] #[.pointer (some ⟨x,0,none⟩)]) [pt x [.slice p' (agl y T.rd).length c'] 0,fro kHRd p' c' (agl y T.rd),tabC b T mr mt,mapF mr kI kHRd T.rd]):=by
 refine spec_code c_table_Table_Reads rfl ?_;intro n F R hR;unfold F_table_Table_Reads
 refine at_openP (tabC b T mr mt) rfl ?_
 rintro ⟨⟨⟨pi,ci⟩,⟨pk,ck⟩⟩,⟨mw,ma⟩⟩ -
 dsimp only [List.cons_append,List.nil_append]
 refine at_openP (mapF mr kI kHRd T.rd) rfl ?_
 rintro Z hZ
 dsimp only [List.cons_append,List.nil_append]
 have hal:=atE_agl (k:=y) hZ
 repeat' first|apply step|(apply g_op;·repeat first|exact Evs.nil|(apply Evs.cons;exact rfl))
 refine at_callR (table_Table_is_spec) ?_
 repeat' first|apply step|(apply g_op;·repeat first|exact Evs.nil|(apply Evs.cons;exact rfl))|apply Lw.go|refine g_cond ?_
 refine av_atE (enc:=kI) (k:=y) inferInstance ?_
 refine at_via (takeF (K:=kHRd) (k:=y) (Z:=Z)) ?_
 rw [hal]
 repeat' first|apply step|(apply g_op;·repeat first|exact Evs.nil|(apply Evs.cons;exact rfl))
 refine at_callS (table_goes_table_Read_spec) ?_
 intro x
 repeat' first|apply step|(apply g_op;·repeat first|exact Evs.nil|(apply Evs.cons;exact rfl))|refine g_keep ?_|refine g_fin ?_
 refine fin_foldP (mapF mr kI kHRd T.rd) rfl Z hZ ?_
 refine fin_foldP (tabC b T mr mt) rfl (((pi,ci),(pk,ck)),(mw,ma)) trivial ?_
 exact fin (hR _ _ _)
theorem reads_Sound_spec {key:Int}:Spec prog1 n_reads_Sound [.pointer (some ⟨b,0,none⟩),.int .i64 key] [] (fun R=>∀ x y,R (.func (.func n_reads_Sound_c1) #[] #[.pointer (some ⟨x,0,none⟩),.pointer (some ⟨y,0,none⟩)]) [pt x [.pointer (some ⟨b,0,none⟩)] 0,pt y [.int .i64 key] 0]):=by
 refine spec_code c_reads_Sound rfl ?_;intro n F R hR;unfold F_reads_Sound
 repeat' first|apply step|(apply g_op;·repeat first|exact Evs.nil|(apply Evs.cons;exact rfl))|refine Fa.mk fun _=>?_|refine g_fin ?_
 exact fin (hR _ _)
/-- The sound ones. -/
def soundB (W:Wf) (r:HRd):Bool:=decide ((kindL W r).1=0)
def soundL (W:Wf) (l:List HRd):List HRd:=l.filter (soundB W)
theorem soundL_next {W:Wf} {l:List HRd} {i:Nat} (hi:i < l.length):soundL W (l.take (i + 1))=soundL W (l.take i)++if soundB W l[i]=true then [l[i]] else []:=by
 unfold soundL
 rw [List.take_succ_eq_append_getElem hi,List.filter_append]
 cases h:soundB W l[i] <;> simp [h]
theorem soundL_at {W:Wf} {l:List HRd} {i:Nat} (hi:i < l.length) (h:soundB W l[i]=true):(soundL W l)[(soundL W (l.take i)).length]? = some l[i]:=by
 have e:soundL W l=soundL W (l.take i)++(l[i]::soundL W (l.drop (i + 1))):=by
  conv=>lhs;rw [← List.take_append_drop i l,List.drop_eq_getElem_cons hi]
  unfold soundL
  rw [List.filter_append,List.filter_cons_of_pos h]
 rw [e,List.getElem?_append_right (Nat.le_refl _),Nat.sub_self];rfl
theorem reads_Sound_c1_spec {L:List HRd} {key:Int} {x y ly:Nat} {A:Nat→HP} {B:AX→HP} (hL:agl key T.rd=L) (hll:L.length≤100000) (hl:∀ r ∈ L,(r.list.length≤1000∧r.own.length≤1000)∧r.key=key) (hy:∀ i,i < (soundL (wK T key) L).length→∀ w:wR,YSpec prog1 ly (vaRead w (soundL (wK T key) L)[i]?) (A i::tabC b T mr mt::paRead w (soundL (wK T key) L)[i]?) (fun R=>R (.bool true) [A (i + 1),tabC b T mr mt]∧∀ x,x≠.norm→R (.bool false) [B x,tabC b T mr mt])) :
  Spec prog1 n_reads_Sound_c1 [.func (.yield ly) #[] #[],.pointer (some ⟨x,0,none⟩),.pointer (some ⟨y,0,none⟩)] [A 0,tabC b T mr mt,pt x [.pointer (some ⟨b,0,none⟩)] 0,pt y [.int .i64 key] 0,mapF mr kI kHRd T.rd] (fun R=>(∀ v,R v [A (soundL (wK T key) L).length,tabC b T mr mt,mapF mr kI kHRd T.rd])∧∀ x v,x≠.norm→R v [B x,tabC b T mr mt,mapF mr kI kHRd T.rd]):=by
 refine spec_code c_reads_Sound_c1 rfl ?_;intro n F R hR;unfold F_reads_Sound_c1
 generalize hW:wK T key=W at hR hy
 repeat' first|apply step|(apply g_op;·repeat first|exact Evs.nil|(apply Evs.cons;exact rfl))|refine Fa.mk fun _=>?_
 refine at_callS (table_Table_Reads_specF (T:=T) (mr:=mr) (mt:=mt) (y:=key)) ?_
 intro xr pr cr
 rw [hL]
 repeat' first|apply step
 rename_i fb
 obtain ⟨I,hI⟩:∃ I:Nat→HP,∀ i,I i=hx fun (_:Unit)=>(True,[A (soundL W (L.take i)).length,tabC b T mr mt,pt x [.pointer (some ⟨b,0,none⟩)] 0,pt fb [.func (.yield ly) #[] #[]] 0]):=⟨_,fun _=>rfl⟩
 obtain ⟨J,hJ⟩:∃ J:AX→HP,∀ ax,J ax=hx fun (x0:AX)=>(ax=.ret∧x0≠.norm,[B x0,tabC b T mr mt]):=⟨_,fun _=>rfl⟩
 refine at_foldP (I 0) (hI 0) () trivial ?_
 refine at_rfunSD (I:=I) (J:=J) (Po:=[]) L.length (fun i (d:wR)=>vaRead d L[i]?) (fun i d=>paRead d L[i]?) (fun ly A B h=>table_goes_table_Read_c1_spec (l:=L) (by omega) h) (fun i hi d=>by rw [List.getElem?_eq_getElem hi];rfl) ?_ ?_ ?_
 ·intro i hi d ly2 m F'
  rw [List.getElem?_eq_getElem hi]
  obtain ⟨⟨k1,k2⟩,k3⟩:=hl L[i] (List.getElem_mem hi)
  have hnx:=soundL_next (W:=W) hi
  have hWr:wK T L[i].key=W:=by rw [k3,hW]
  dsimp only [vaRead,paRead,List.cons_append,List.nil_append]
  refine at_openP (I i) (hI i) ?_
  intro u hu
  dsimp only [List.cons_append,List.nil_append]
  repeat' first|apply step|(apply g_op;·repeat first|exact Evs.nil|(apply Evs.cons;exact rfl))|refine Fa.mk fun _=>?_
  refine at_callS (reads_Kind_specC (T:=T) (mr:=mr) (mt:=mt) (r:=L[i]) k1 k2) ?_
  rw [hWr]
  by_cases hs:(kindL W L[i]).1=0
  ·have hsb:soundB W L[i]=true:=decide_eq_true hs
   rw [if_pos hsb] at hnx
   have hat:=soundL_at hi hsb
   have hyi:=hy (soundL W (L.take i)).length (List.getElem?_eq_some_iff.1 hat).1 d
   rw [hat] at hyi
   dsimp only [vaRead,paRead] at hyi
   have hlen:(soundL W (L.take (i + 1))).length=(soundL W (L.take i)).length + 1:=by rw [hnx,List.length_append];rfl
   repeat' first|apply step|(apply g_op;·repeat first|exact Evs.nil|(apply Evs.cons;exact rfl))|(refine Br.mk (fun _=>?_) (fun _=>?_)<;>try (exfalso;omega))|refine g_guard ?_|refine g_keep ?_
   refine at_callY hyi ⟨?_,fun x0 hx0=>?_⟩
   ·repeat' first|apply step|(apply g_op;·repeat first|exact Evs.nil|(apply Evs.cons;exact rfl))|refine g_cond ?_|refine g_guard ?_|refine g_keep ?_
    rw [← hlen]
    refine at_foldP (I (i + 1)) (hI _) () trivial ?_
    exact y_next
   ·repeat' first|apply step|(apply g_op;·repeat first|exact Evs.nil|(apply Evs.cons;exact rfl))|refine g_cond ?_|refine g_guard ?_|refine g_keep ?_
    refine at_foldP (J .ret) (hJ _) x0 ⟨rfl,hx0⟩ ?_
    exact y_exit
  ·have hsb:soundB W L[i]=false:=decide_eq_false hs
   rw [hsb] at hnx
   simp only [Bool.false_eq_true,if_false,List.append_nil] at hnx
   repeat' first|apply step|(apply g_op;·repeat first|exact Evs.nil|(apply Evs.cons;exact rfl))|(refine Br.mk (fun _=>?_) (fun _=>?_)<;>try (exfalso;omega))|refine g_cond ?_|refine g_guard ?_|refine g_keep ?_
   rw [← hnx]
   refine at_foldP (I (i + 1)) (hI _) () trivial ?_
   exact y_next
 ·refine at_openP (I _) (hI _) ?_
  intro u hu
  dsimp only [List.cons_append,List.nil_append]
  rw [List.take_length]
  repeat' first|apply step|refine g_fin ?_
  exact fin (hR.1 _)
 ·intro ax hax
  refine at_openP (J ax) (hJ ax) ?_
  rintro x0 ⟨hx1,hx2⟩
  dsimp only [List.cons_append,List.nil_append]
  subst hx1
  repeat' first|apply step|refine g_fin ?_
  exact fin (hR.2 x0 _ hx2)
end
end Go.AMS

namespace Go.AMS
open Go.AM hiding Kt At WP WL Runs RunsY
open Go.AM.G
set_option linter.unusedVariables false
set_option linter.unusedSimpArgs false
set_option linter.unusedSectionVars false
set_option maxRecDepth 100000
set_option maxHeartbeats 1000000
attribute [local irreducible] AtS AtV AtC AtG FinA Spec Post LP G.At G.WP G.WL pt own fro rdl ro hx mp lrec elt sub

open Go.AM.G.Set
structure HEd where
 src:Int
 dst:Int
 kind:Int
 key:Int
 left:Int
 right:Int
def kHEd:Kind HEd:=⟨6,by decide,fun m cs a=>∃ v0 v1 v2 v3 v4 v5,cs=[v0,v1,v2,v3,v4,v5]∧(kInt .i64).rd m [v0] a.src∧(kInt .i64).rd m [v1] a.dst∧(kInt .i64).rd m [v2] a.kind∧(kInt .i64).rd m [v3] a.key∧(kInt .i64).rd m [v4] a.left∧(kInt .i64).rd m [v5] a.right,
 fun s ⟨v0,v1,v2,v3,v4,v5,hc,h0,h1,h2,h3,h4,h5⟩=>⟨v0,v1,v2,v3,v4,v5,hc,(kInt .i64).mono s h0,(kInt .i64).mono s h1,(kInt .i64).mono s h2,(kInt .i64).mono s h3,(kInt .i64).mono s h4,(kInt .i64).mono s h5⟩,fun ⟨v0,v1,v2,v3,v4,v5,hc,h0,h1,h2,h3,h4,h5⟩=>by rw [hc];rfl,
 fun ⟨v0,v1,v2,v3,v4,v5,hc,h0,h1,h2,h3,h4,h5⟩=>by
  have e0:=(kInt .i64).ok h0
  have e1:=(kInt .i64).ok h1
  have e2:=(kInt .i64).ok h2
  have e3:=(kInt .i64).ok h3
  have e4:=(kInt .i64).ok h4
  have e5:=(kInt .i64).ok h5
  simp only [List.all_cons,List.all_nil,Bool.and_true] at e0 e1 e2 e3 e4 e5
  rw [hc];simp only [List.all_cons,List.all_nil,Bool.and_true,e0,e1,e2,e3,e4,e5]⟩
instance esz_HEd:Esz kHEd 6:=⟨rfl⟩
instance cel_HEd:Cel kHEd (Unit) (fun a x=>[.int .i64 a.src,.int .i64 a.dst,.int .i64 a.kind,.int .i64 a.key,.int .i64 a.left,.int .i64 a.right]) (fun a x=>[]) (fun a=>(-9223372036854775808≤a.src∧a.src≤9223372036854775807)∧(-9223372036854775808≤a.dst∧a.dst≤9223372036854775807)∧(-9223372036854775808≤a.kind∧a.kind≤9223372036854775807)∧(-9223372036854775808≤a.key∧a.key≤9223372036854775807)∧(-9223372036854775808≤a.left∧a.left≤9223372036854775807)∧(-9223372036854775808≤a.right∧a.right≤9223372036854775807)∧True):=⟨fun ⟨v0,v1,v2,v3,v4,v5,hc,h0,h1,h2,h3,h4,h5⟩=>by
 obtain ⟨q0,b0⟩:=h0;cases q0
 obtain ⟨q1,b1⟩:=h1;cases q1
 obtain ⟨q2,b2⟩:=h2;cases q2
 obtain ⟨q3,b3⟩:=h3;cases q3
 obtain ⟨q4,b4⟩:=h4;cases q4
 obtain ⟨q5,b5⟩:=h5;cases q5
 exact ⟨(),hc,⟨b0,b1,b2,b3,b4,b5,trivial⟩,sat_nil0⟩⟩
instance ofc_HEd {Γ:List HP} {v0 v1 v2 v3 v4 v5:Value} {a0:Int} {φ0:Prop} {a1:Int} {φ1:Prop} {a2:Int} {φ2:Prop} {a3:Int} {φ3:Prop} {a4:Int} {φ4:Prop} {a5:Int} {φ5:Prop} [o0:OfC Γ (kInt .i64) [v0] a0 φ0] [o1:OfC Γ (kInt .i64) [v1] a1 φ1] [o2:OfC Γ (kInt .i64) [v2] a2 φ2] [o3:OfC Γ (kInt .i64) [v3] a3 φ3] [o4:OfC Γ (kInt .i64) [v4] a4 φ4] [o5:OfC Γ (kInt .i64) [v5] a5 φ5]:OfC Γ kHEd [v0,v1,v2,v3,v4,v5] ⟨a0,a1,a2,a3,a4,a5⟩ (φ0∧φ1∧φ2∧φ3∧φ4∧φ5):=⟨fun h _ _ hs=>⟨v0,v1,v2,v3,v4,v5,rfl,o0.rd h.1 hs,o1.rd h.2.1 hs,o2.rd h.2.2.1 hs,o3.rd h.2.2.2.1 hs,o4.rd h.2.2.2.2.1 hs,o5.rd h.2.2.2.2.2 hs⟩⟩
instance fld_HEd_src:Fld kHEd 0 (kInt .i64) (fun a=>a.src):=⟨fun ⟨v0,v1,v2,v3,v4,v5,hc,h0,h1,h2,h3,h4,h5⟩=>by subst hc;exact h0,by decide⟩
instance fld_HEd_dst:Fld kHEd 1 (kInt .i64) (fun a=>a.dst):=⟨fun ⟨v0,v1,v2,v3,v4,v5,hc,h0,h1,h2,h3,h4,h5⟩=>by subst hc;exact h1,by decide⟩
instance fld_HEd_kind:Fld kHEd 2 (kInt .i64) (fun a=>a.kind):=⟨fun ⟨v0,v1,v2,v3,v4,v5,hc,h0,h1,h2,h3,h4,h5⟩=>by subst hc;exact h2,by decide⟩
instance fld_HEd_key:Fld kHEd 3 (kInt .i64) (fun a=>a.key):=⟨fun ⟨v0,v1,v2,v3,v4,v5,hc,h0,h1,h2,h3,h4,h5⟩=>by subst hc;exact h3,by decide⟩
instance fld_HEd_left:Fld kHEd 4 (kInt .i64) (fun a=>a.left):=⟨fun ⟨v0,v1,v2,v3,v4,v5,hc,h0,h1,h2,h3,h4,h5⟩=>by subst hc;exact h4,by decide⟩
instance fld_HEd_right:Fld kHEd 5 (kInt .i64) (fun a=>a.right):=⟨fun ⟨v0,v1,v2,v3,v4,v5,hc,h0,h1,h2,h3,h4,h5⟩=>by subst hc;exact h5,by decide⟩
instance ktz_HEd:KTz kHEd:=⟨fun hf ⟨v0,v1,v2,v3,v4,v5,hc,h0,h1,h2,h3,h4,h5⟩=>⟨v0,v1,v2,v3,v4,v5,hc,(inferInstance:KTz (kInt .i64)).tz hf h0,(inferInstance:KTz (kInt .i64)).tz hf h1,(inferInstance:KTz (kInt .i64)).tz hf h2,(inferInstance:KTz (kInt .i64)).tz hf h3,(inferInstance:KTz (kInt .i64)).tz hf h4,(inferInstance:KTz (kInt .i64)).tz hf h5⟩⟩
/-- A finding. -/
structure Fd where
 kind:Int
 txn:Int
 op:Int
 key:Int
 value:Int
 other:Int
 cyc:List HEd
def kFd:Kind Fd:=⟨7,by decide,fun m cs a=>∃ v0 v1 v2 v3 v4 v5 v6,cs=[v0,v1,v2,v3,v4,v5,v6]∧(kInt .i64).rd m [v0] a.kind∧(kInt .i64).rd m [v1] a.txn∧(kInt .i64).rd m [v2] a.op∧(kInt .i64).rd m [v3] a.key∧(kInt .i64).rd m [v4] a.value∧(kInt .i64).rd m [v5] a.other∧(kSl kHEd).rd m [v6] a.cyc,
 fun s ⟨v0,v1,v2,v3,v4,v5,v6,hc,h0,h1,h2,h3,h4,h5,h6⟩=>⟨v0,v1,v2,v3,v4,v5,v6,hc,(kInt .i64).mono s h0,(kInt .i64).mono s h1,(kInt .i64).mono s h2,(kInt .i64).mono s h3,(kInt .i64).mono s h4,(kInt .i64).mono s h5,(kSl kHEd).mono s h6⟩,fun ⟨v0,v1,v2,v3,v4,v5,v6,hc,h0,h1,h2,h3,h4,h5,h6⟩=>by rw [hc];rfl,
 fun ⟨v0,v1,v2,v3,v4,v5,v6,hc,h0,h1,h2,h3,h4,h5,h6⟩=>by
  have e0:=(kInt .i64).ok h0
  have e1:=(kInt .i64).ok h1
  have e2:=(kInt .i64).ok h2
  have e3:=(kInt .i64).ok h3
  have e4:=(kInt .i64).ok h4
  have e5:=(kInt .i64).ok h5
  have e6:=(kSl kHEd).ok h6
  simp only [List.all_cons,List.all_nil,Bool.and_true] at e0 e1 e2 e3 e4 e5 e6
  rw [hc];simp only [List.all_cons,List.all_nil,Bool.and_true,e0,e1,e2,e3,e4,e5,e6]⟩
instance esz_Fd:Esz kFd 7:=⟨rfl⟩
instance cel_Fd:Cel kFd ((Option Addr × Nat)) (fun a x=>[.int .i64 a.kind,.int .i64 a.txn,.int .i64 a.op,.int .i64 a.key,.int .i64 a.value,.int .i64 a.other,.slice x.1 a.cyc.length x.2]) (fun a x=>[fro kHEd x.1 x.2 a.cyc]) (fun a=>(-9223372036854775808≤a.kind∧a.kind≤9223372036854775807)∧(-9223372036854775808≤a.txn∧a.txn≤9223372036854775807)∧(-9223372036854775808≤a.op∧a.op≤9223372036854775807)∧(-9223372036854775808≤a.key∧a.key≤9223372036854775807)∧(-9223372036854775808≤a.value∧a.value≤9223372036854775807)∧(-9223372036854775808≤a.other∧a.other≤9223372036854775807)∧a.cyc.length≤140737488351232∧True):=⟨fun ⟨v0,v1,v2,v3,v4,v5,v6,hc,h0,h1,h2,h3,h4,h5,h6⟩=>by
 obtain ⟨q0,b0⟩:=h0;cases q0
 obtain ⟨q1,b1⟩:=h1;cases q1
 obtain ⟨q2,b2⟩:=h2;cases q2
 obtain ⟨q3,b3⟩:=h3;cases q3
 obtain ⟨q4,b4⟩:=h4;cases q4
 obtain ⟨q5,b5⟩:=h5;cases q5
 obtain ⟨w6,q6,s6,b6⟩:=h6;cases q6;obtain ⟨p6,c6,rfl⟩:=s6.form
 exact ⟨(p6,c6),hc,⟨b0,b1,b2,b3,b4,b5,b6,trivial⟩,sat_fro0 s6 (sat_nil0)⟩⟩
instance ofc_Fd {Γ:List HP} {v0 v1 v2 v3 v4 v5 v6:Value} {a0:Int} {φ0:Prop} {a1:Int} {φ1:Prop} {a2:Int} {φ2:Prop} {a3:Int} {φ3:Prop} {a4:Int} {φ4:Prop} {a5:Int} {φ5:Prop} {a6:List HEd} {φ6:Prop} [o0:OfC Γ (kInt .i64) [v0] a0 φ0] [o1:OfC Γ (kInt .i64) [v1] a1 φ1] [o2:OfC Γ (kInt .i64) [v2] a2 φ2] [o3:OfC Γ (kInt .i64) [v3] a3 φ3] [o4:OfC Γ (kInt .i64) [v4] a4 φ4] [o5:OfC Γ (kInt .i64) [v5] a5 φ5] [o6:OfC Γ (kSl kHEd) [v6] a6 φ6]:OfC Γ kFd [v0,v1,v2,v3,v4,v5,v6] ⟨a0,a1,a2,a3,a4,a5,a6⟩ (φ0∧φ1∧φ2∧φ3∧φ4∧φ5∧φ6):=⟨fun h _ _ hs=>⟨v0,v1,v2,v3,v4,v5,v6,rfl,o0.rd h.1 hs,o1.rd h.2.1 hs,o2.rd h.2.2.1 hs,o3.rd h.2.2.2.1 hs,o4.rd h.2.2.2.2.1 hs,o5.rd h.2.2.2.2.2.1 hs,o6.rd h.2.2.2.2.2.2 hs⟩⟩
instance fld_Fd_kind:Fld kFd 0 (kInt .i64) (fun a=>a.kind):=⟨fun ⟨v0,v1,v2,v3,v4,v5,v6,hc,h0,h1,h2,h3,h4,h5,h6⟩=>by subst hc;exact h0,by decide⟩
instance fld_Fd_txn:Fld kFd 1 (kInt .i64) (fun a=>a.txn):=⟨fun ⟨v0,v1,v2,v3,v4,v5,v6,hc,h0,h1,h2,h3,h4,h5,h6⟩=>by subst hc;exact h1,by decide⟩
instance fld_Fd_op:Fld kFd 2 (kInt .i64) (fun a=>a.op):=⟨fun ⟨v0,v1,v2,v3,v4,v5,v6,hc,h0,h1,h2,h3,h4,h5,h6⟩=>by subst hc;exact h2,by decide⟩
instance fld_Fd_key:Fld kFd 3 (kInt .i64) (fun a=>a.key):=⟨fun ⟨v0,v1,v2,v3,v4,v5,v6,hc,h0,h1,h2,h3,h4,h5,h6⟩=>by subst hc;exact h3,by decide⟩
instance fld_Fd_value:Fld kFd 4 (kInt .i64) (fun a=>a.value):=⟨fun ⟨v0,v1,v2,v3,v4,v5,v6,hc,h0,h1,h2,h3,h4,h5,h6⟩=>by subst hc;exact h4,by decide⟩
instance fld_Fd_other:Fld kFd 5 (kInt .i64) (fun a=>a.other):=⟨fun ⟨v0,v1,v2,v3,v4,v5,v6,hc,h0,h1,h2,h3,h4,h5,h6⟩=>by subst hc;exact h5,by decide⟩
instance fld_Fd_cyc:Fld kFd 6 (kSl kHEd) (fun a=>a.cyc):=⟨fun ⟨v0,v1,v2,v3,v4,v5,v6,hc,h0,h1,h2,h3,h4,h5,h6⟩=>by subst hc;exact h6,by decide⟩
instance ktz_Fd:KTz kFd:=⟨fun hf ⟨v0,v1,v2,v3,v4,v5,v6,hc,h0,h1,h2,h3,h4,h5,h6⟩=>⟨v0,v1,v2,v3,v4,v5,v6,hc,(inferInstance:KTz (kInt .i64)).tz hf h0,(inferInstance:KTz (kInt .i64)).tz hf h1,(inferInstance:KTz (kInt .i64)).tz hf h2,(inferInstance:KTz (kInt .i64)).tz hf h3,(inferInstance:KTz (kInt .i64)).tz hf h4,(inferInstance:KTz (kInt .i64)).tz hf h5,(inferInstance:KTz (kSl kHEd)).tz hf h6⟩⟩
section
variable {T:Tb} {r:HRd} {p q p1 p2:Option Addr} {c d c1 c2 b mr mt:Nat}
def vFd (f:Fd):Value:=.agg #[.int .i64 f.kind,.int .i64 f.txn,.int .i64 f.op,.int .i64 f.key,.int .i64 f.value,.int .i64 f.other,.slice none 0 0]
def earlB (r:HRd) (f:Fd):Prop:=r.txn < f.txn∨(r.txn=f.txn∧r.op < f.op)
theorem dirty_earlier_spec {f:Fd}:Spec prog1 n_dirty_earlier [.agg #[.int .i64 r.txn,.int .i64 r.op,.int .i64 r.key,.slice p1 r.list.length c1,.slice p2 r.own.length c2],vFd f] [] (fun R=>(earlB r f→R (.bool true) [])∧(¬ earlB r f→R (.bool false) [])):=by
 refine spec_code c_dirty_earlier rfl ?_;intro n F R hR;unfold F_dirty_earlier
 unfold vFd
 unfold earlB at hR
 repeat' first|apply step|(apply g_op;·repeat first|exact Evs.nil|(apply Evs.cons;exact rfl))|(refine Br.mk (fun _=>?_) (fun _=>?_)<;>try (exfalso;omega))|refine Fa.mk fun _=>?_|refine g_guard ?_|refine g_keep ?_|refine g_fin ?_
 all_goals first|exact fin (hR.1 (by omega))|exact fin (hR.2 (by omega))
/-- The earlier one is kept. -/
noncomputable def stepF (ask:HRd→Option (Int × Int)) (kind:Int) (st:Option Fd) (r:HRd):Option Fd:=by
 classical
 exact match ask r with
  | some q=>match st with
   | none=>some ⟨kind,r.txn,r.op,r.key,q.1,q.2,[]⟩
   | some f=>if earlB r f then some ⟨kind,r.txn,r.op,r.key,q.1,q.2,[]⟩ else some f
  | none=>st
def zFd:Fd:=⟨0,0,0,0,0,0,[]⟩
noncomputable def keyF (ask:HRd→Option (Int × Int)) (T:Tb) (kind:Int) (st:Option Fd) (key:Int):Option Fd:=(soundL (wK T key) (agl key T.rd)).foldl (stepF ask kind) st
noncomputable def firstL (ask:HRd→Option (Int × Int)) (T:Tb) (kind:Int):Option Fd:=T.keys.foldl (keyF ask T kind) none
def leR (a b:HRd):Prop:=a.txn < b.txn∨(a.txn=b.txn∧a.op≤b.op)
def mkFd (kind:Int) (r:HRd) (q:Int × Int):Fd:=⟨kind,r.txn,r.op,r.key,q.1,q.2,[]⟩
def IsF (ask:HRd→Option (Int × Int)) (kind:Int) (l:List HRd) (f:Option Fd):Prop :=
 (f=none∧∀ r ∈ l,ask r=none)∨∃ r ∈ l,∃ q,ask r=some q∧f=some (mkFd kind r q)∧∀ r' ∈ l,ask r'≠none→leR r r'
theorem isF_step {ask:HRd→Option (Int × Int)} {kind:Int} {l:List HRd} {st:Option Fd} (h:IsF ask kind l st) (r:HRd):IsF ask kind (l++[r]) (stepF ask kind st r):=by
 unfold stepF
 cases hr:ask r with
 | none =>
  dsimp only
  rcases h with ⟨h1,h2⟩|⟨r0,h1,q,h2,h3,h4⟩
  ·refine .inl ⟨h1,fun x hx=>?_⟩
   rcases List.mem_append.1 hx with hx|hx
   ·exact h2 x hx
   ·rw [List.mem_singleton.1 hx];exact hr
  ·refine .inr ⟨r0,List.mem_append.2 (.inl h1),q,h2,h3,fun x hx hn=>?_⟩
   rcases List.mem_append.1 hx with hx|hx
   ·exact h4 x hx hn
   ·rw [List.mem_singleton.1 hx] at hn;exact absurd hr hn
 | some q0 =>
  dsimp only
  rcases h with ⟨h1,h2⟩|⟨r0,h1,q,h2,h3,h4⟩
  ·subst h1
   refine .inr ⟨r,List.mem_append.2 (.inr (List.mem_singleton.2 rfl)),q0,hr,rfl,fun x hx hn=>?_⟩
   rcases List.mem_append.1 hx with hx|hx
   ·exact absurd (h2 x hx) hn
   ·rw [List.mem_singleton.1 hx];exact .inr ⟨rfl,Int.le_refl _⟩
  ·subst h3
   dsimp only
   by_cases he:earlB r (mkFd kind r0 q)
   ·rw [if_pos he]
    have he2:r.txn < r0.txn∨(r.txn=r0.txn∧r.op < r0.op):=he
    refine .inr ⟨r,List.mem_append.2 (.inr (List.mem_singleton.2 rfl)),q0,hr,rfl,fun x hx hn=>?_⟩
    rcases List.mem_append.1 hx with hx|hx
    ·have h5:=h4 x hx hn
     unfold leR at h5 ⊢;omega
    ·rw [List.mem_singleton.1 hx];exact .inr ⟨rfl,Int.le_refl _⟩
   ·rw [if_neg he]
    have he2:¬ (r.txn < r0.txn∨(r.txn=r0.txn∧r.op < r0.op)):=he
    refine .inr ⟨r0,List.mem_append.2 (.inl h1),q,h2,rfl,fun x hx hn=>?_⟩
    rcases List.mem_append.1 hx with hx|hx
    ·exact h4 x hx hn
    ·rw [List.mem_singleton.1 hx];unfold leR;omega
theorem isF_fold {ask:HRd→Option (Int × Int)} {kind:Int}:∀ (m l:List HRd) (st:Option Fd),IsF ask kind l st→IsF ask kind (l++m) (m.foldl (stepF ask kind) st)
 | [],l,st,h=>by rw [List.append_nil];exact h
 | r::m,l,st,h=>by
  have h2:=isF_fold m (l++[r]) _ (isF_step h r)
  rw [List.append_assoc] at h2
  exact h2
theorem fold_flat {α β γ:Type} (f:β→γ→β) (g:α→List γ):∀ (l:List α) (b:β),l.foldl (fun b x=>(g x).foldl f b) b=(l.flatMap g).foldl f b
 | [],_=>rfl
 | x::l,b=>by rw [List.flatMap_cons,List.foldl_append,List.foldl_cons];exact fold_flat f g l _
end
end Go.AMS

namespace Go.AMS
open Go.AM hiding Kt At WP WL Runs RunsY
open Go.AM.G
set_option linter.unusedVariables false
set_option linter.unusedSimpArgs false
set_option linter.unusedSectionVars false
set_option maxRecDepth 100000
set_option maxHeartbeats 1000000
attribute [local irreducible] AtS AtV AtC AtG FinA Spec Post LP G.At G.WP G.WL pt own fro rdl ro hx mp lrec elt sub

open Go.AM.G.Set
section
variable {h:List HTx} {T:Tb} {r:HRd}
theorem mem_rdsN {key:Int} {t:HTx} {r:HRd}:∀ n,r ∈ rdsN key t n→∃ j,j < n∧(t.ops.getD j default).read=true∧(t.ops.getD j default).key=key∧r=⟨t.id,(j:Nat),key,(t.ops.getD j default).list,aheadL t.ops key j⟩
 | 0,hr=>by cases hr
 | n + 1,hr=>by
  simp only [rdsN] at hr
  rcases List.mem_append.1 hr with hr|hr
  ·obtain ⟨j,h1,h2⟩:=mem_rdsN n hr
   exact ⟨j,by omega,h2⟩
  ·split at hr
   ·rename_i hc
    exact ⟨n,by omega,hc.1,hc.2,List.mem_singleton.1 hr⟩
   ·cases hr
/-- The reads of a key. -/
def rdK (h:List HTx) (key:Int):List HRd:=outR h key (setL (comm h))
theorem rdK_at (hk:OkH h) {key:Int} (hr:r ∈ rdK h key):∃ t ∈ h,t.ab=false∧∃ j,j < t.ops.length∧(t.ops.getD j default).read=true∧(t.ops.getD j default).key=key∧r=⟨t.id,(j:Nat),key,(t.ops.getD j default).list,aheadL t.ops key j⟩∧t.id ∈ setL (comm h):=by
 obtain ⟨x,hx,h1⟩:=List.mem_flatMap.1 hr
 obtain ⟨t,ht,hb,rfl⟩:=mem_comm.1 (mem_setL.1 hx)
 rw [txnOf_in hk.i ht] at h1
 obtain ⟨j,h2,h3,h4,h5⟩:=mem_rdsN _ h1
 exact ⟨t,ht,hb,j,h2,h3,h4,h5,hx⟩
/-- What is asked, by its kind. -/
def askD (T:Tb) (kd:Int) (r:HRd):Option (Int × Int) :=
 if kd=7 then abL (wK T r.key) (frontL r) else if kd=8 then midL (wK T r.key) (fun id=>agl (id,r.key) T.ap) (frontL r) else tornP (wK T r.key) (fun id=>agl (id,r.key) T.ap) (frontL r)
def kdL:List Int:=[4,7,8]
noncomputable def findD (T:Tb):List Fd:=kdL.filterMap fun kd=>firstL (askD T kd) T kd
/-- The sound reads of all keys. -/
def sndT (T:Tb):List HRd:=T.keys.flatMap fun key=>soundL (wK T key) (agl key T.rd)
theorem firstL_isF (ask:HRd→Option (Int × Int)) (kd:Int):IsF ask kd (sndT T) (firstL ask T kd):=by
 have h:=isF_fold (ask:=ask) (kind:=kd) (sndT T) [] none (.inl ⟨rfl,fun _ q=>by cases q⟩)
 rw [List.nil_append] at h
 unfold sndT at h ⊢
 rw [← fold_flat] at h
 exact h
theorem sndT_at (hk:OkH h) (hr:r ∈ sndT (TH h)):r ∈ rdK h r.key∧r.key ∈ setL (keysH h)∧(kindL (wK (TH h) r.key) r).1=0:=by
 obtain ⟨k,hk1,h1⟩:=List.mem_flatMap.1 hr
 obtain ⟨h2,h3⟩:=List.mem_filter.1 h1
 have h2:r ∈ rdK h k:=by
  have:=rd_sort hk.i k
  unfold TH at h2
  rw [this] at h2;exact h2
 have e:r.key=k:=by
  obtain ⟨t,ht,hb,j,g1,g2,g3,rfl,g4⟩:=rdK_at hk h2
  rfl
 subst e
 unfold TH at hk1
 rw [keys_sort] at hk1
 exact ⟨h2,hk1,of_decide_eq_true h3⟩
theorem abL_some {W:Wf}:∀ {l:List Int} {q:Int × Int},abL W l=some q→q.1 ∈ l∧∃ w,W q.1=some w∧w.txn=q.2∧w.ab=true
 | [],_,e=>by cases e
 | x::l,q,e=>by
  unfold abL at e
  split at e
  ·rename_i w hw
   split at e
   ·rename_i hb
    cases e
    exact ⟨List.mem_cons_self,w,hw,rfl,hb⟩
   ·obtain ⟨h1,h2⟩:=abL_some e
    exact ⟨List.mem_cons_of_mem _ h1,h2⟩
  ·obtain ⟨h1,h2⟩:=abL_some e
   exact ⟨List.mem_cons_of_mem _ h1,h2⟩
theorem midL_some {W:Wf} {A:Int→List Int} {l:List Int} {q:Int × Int} (e:midL W A l=some q):q.1 ∈ l∧∃ w,W q.1=some w∧w.txn=q.2∧w.ab=false:=by
 unfold midL at e
 split at e
 ·cases e
 ·rename_i x hx
  split at e
  ·cases e
  ·rename_i w hw
   split at e
   ·cases e
   ·rename_i hb
    split at e
    ·cases e
    ·cases e
     exact ⟨List.mem_of_getLast? hx,w,hw,rfl,by simpa using hb⟩
theorem torn_some {W:Wf} {A:Int→List Int} {l:List Int} {q:Int × Int} (e:tornP W A l=some q):q.1 ∈ l∧∃ w,W q.1=some w∧w.txn=q.2∧w.ab=false:=by
 obtain ⟨id,_,h1⟩:=List.exists_of_findSome?_eq_some e
 unfold tornF at h1
 split at h1
 ·rename_i i hi
  cases h1
  have hl:=wrongL_lt _ _ _ _ hi
  have hm:(mineL W l id).getD i 0 ∈ mineL W l id:=by
   rw [getD_lt (by omega)];exact List.getElem_mem _
  obtain ⟨h2,h3⟩:=List.mem_filter.1 hm
  refine ⟨h2,?_⟩
  dsimp only
  unfold mineB at h3
  split at h3
  ·rename_i w hw
   have h4:=Bool.and_eq_true_iff.1 h3
   exact ⟨w,hw,of_decide_eq_true h4.1,by simpa using h4.2⟩
  ·cases h3
 ·cases h1
theorem ask_some {kd:Int} {q:Int × Int} (e:askD T kd r=some q):q.1 ∈ frontL r∧∃ w,wK T r.key q.1=some w∧w.txn=q.2∧w.ab=decide (kd=7):=by
 unfold askD at e
 by_cases h7:kd=7
 ·rw [if_pos h7] at e
  rw [decide_eq_true h7]
  exact abL_some e
 ·rw [if_neg h7] at e
  rw [decide_eq_false h7]
  by_cases h8:kd=8
  ·rw [if_pos h8] at e
   exact midL_some e
  ·rw [if_neg h8] at e
   exact torn_some e
theorem kind_zero {W:Wf} (h0:(kindL W r).1=0):∀ x ∈ frontL r,txZ (W x)≠r.txn:=by
 have hi:innL W r=none:=by
  unfold kindL at h0
  split at h0
  ·cases h0
  ·split at h0
   ·cases h0
   ·split at h0
    ·cases h0
    ·assumption
 unfold innL at hi
 split at hi
 ·cases hi
 ·unfold innB at hi
  intro x hx e
  have:=List.find?_eq_none.1 hi x hx
  simp [e] at this
/-- What a finding names is there. -/
theorem findD_at (hk:OkH h) {f:Fd} (hm:f ∈ findD (TH h)):∃ w,aget (f.key,f.value) (TH h).wr=some w∧w.txn=f.other∧f.txn≠f.other∧w.ab=decide (f.kind=7)∧f.cyc=[]∧∃ r ∈ rdK h f.key,r.txn=f.txn∧r.op=f.op∧f.value ∈ r.list:=by
 obtain ⟨kd,_,h1⟩:=List.mem_filterMap.1 hm
 rcases firstL_isF (T:=TH h) (askD (TH h) kd) kd with ⟨h2,_⟩|⟨r,hr,q,h3,h4,_⟩
 ·rw [h1] at h2;cases h2
 ·rw [h1] at h4
  cases h4
  obtain ⟨g1,w,g2,g3,g4⟩:=ask_some h3
  obtain ⟨k1,k2,k3⟩:=sndT_at hk hr
  have k4:=kind_zero k3 q.1 g1
  rw [g2] at k4
  refine ⟨w,g2,g3,fun e=>k4 ?_,g4,rfl,r,k1,rfl,rfl,List.mem_of_mem_take g1⟩
  exact g3.trans e.symm
end
end Go.AMS

namespace Go.AMS
open Go.AM hiding Kt At WP WL Runs RunsY
open Go.AM.G
set_option linter.unusedVariables false
set_option linter.unusedSimpArgs false
set_option linter.unusedSectionVars false
set_option maxRecDepth 100000
set_option maxHeartbeats 1000000
attribute [local irreducible] AtS AtV AtC AtG FinA Spec Post LP G.At G.WP G.WL pt own fro rdl ro hx mp lrec elt sub

open Go.AM.G.Set
section
variable {T:Tb} {r:HRd} {p q p1 p2:Option Addr} {c d c1 c2 b mr mt:Nat}
def cFd (f:Fd):List Value:=[.int .i64 f.kind,.int .i64 f.txn,.int .i64 f.op,.int .i64 f.key,.int .i64 f.value,.int .i64 f.other,.slice none 0 0]
/-- The reads of a table are small. -/
def RdOk (T:Tb):Prop:=∀ key,(agl key T.rd).length≤100000∧∀ r ∈ agl key T.rd,(r.list.length≤100∧r.own.length≤100)∧r.key=key
theorem keyF_eq (ask:HRd→Option (Int × Int)) (kind key:Int) (st:Option Fd):keyF ask T kind st key=(soundL (wK T key) (agl key T.rd)).foldl (stepF ask kind) st:=rfl
theorem fold_take {α β:Type} (f:β→α→β) (l:List α) (b:β) {i:Nat} (hi:i < l.length):(l.take (i + 1)).foldl f b=f ((l.take i).foldl f b) l[i]:=by
 rw [List.take_succ_eq_append_getElem hi,List.foldl_append];rfl
theorem dirty_question_first_spec {gn:Nat} {kind:Int} {ask:HRd→Option (Int × Int)} (hkl:T.keys.length≤1000000) (hrd:RdOk T) (hask:∀ r,r ∈ agl r.key T.rd→∀ p1 c1 p2 c2,Spec prog1 gn [.pointer (some ⟨b,0,none⟩),.agg #[.int .i64 r.txn,.int .i64 r.op,.int .i64 r.key,.slice p1 r.list.length c1,.slice p2 r.own.length c2]] [tabC b T mr mt,fro (kInt .i64) p1 c1 r.list] (fun R=>R (triO (ask r)) [tabC b T mr mt])) :
  Spec prog1 n_dirty_question_first [.agg #[.int .i64 kind,.func (.func gn) #[] #[]],.pointer (some ⟨b,0,none⟩)] [tabC b T mr mt,mapF mr kI kHRd T.rd] (fun R=>R (.tuple #[vFd ((firstL ask T kind).getD zFd),.bool (firstL ask T kind).isSome]) [tabC b T mr mt,mapF mr kI kHRd T.rd]):=by
 refine spec_code c_dirty_question_first rfl ?_;intro n F R hR;unfold F_dirty_question_first
 repeat' first|apply step|(apply g_op;·repeat first|exact Evs.nil|(apply Evs.cons;exact rfl))|refine Fa.mk fun _=>?_
 rename_i qb tb ob fb gb
 refine at_callR (table_Table_Keys_specC (T:=T) (mr:=mr) (mt:=mt) hkl) ?_
 intro pk ck
 repeat' first|apply step|(apply g_op;·repeat first|exact Evs.nil|(apply Evs.cons;exact rfl))|apply Lw.go|refine g_keep ?_
 refine at_loopS (ι:=Nat) (E:=fun j=>[(2,.pointer (some ⟨qb,0,none⟩)),(3,.pointer (some ⟨tb,0,none⟩)),(4,.pointer (some ⟨ob,0,none⟩)),(5,.bool false),(6,.pointer (some ⟨fb,0,none⟩)),(7,.pointer (some ⟨gb,0,none⟩)),(15,.slice pk T.keys.length ck),(16,.int .i64 (T.keys.length:Int)),(17,.int .i64 (j:Int))]) (Δ:=fun j=>own (kInt .i64) pk ck T.keys::tabC b T mr mt::mapF mr kI kHRd T.rd::pt qb [.int .i64 kind,.func (.func gn) #[] #[]] 0::pt tb [.pointer (some ⟨b,0,none⟩)] 0::pt ob (cFd zFd) 0::pt fb (cFd (((T.keys.take j).foldl (keyF ask T kind) none).getD zFd)) 0::pt gb [.bool ((T.keys.take j).foldl (keyF ask T kind) none).isSome] 0::F) (P:=fun j=>j≤T.keys.length) (μ:=fun j=>T.keys.length - j) 0 (Nat.zero_le _) ?_
 rintro j hj
 try dsimp only
 rcases Nat.lt_or_ge j T.keys.length with hlt|hge
 ·have hnx:=fold_take (keyF ask T kind) T.keys none hlt
  obtain ⟨hn1,hn2⟩:=hrd T.keys[j]
  rw [keyF_eq] at hnx
  generalize (T.keys.take j).foldl (keyF ask T kind) none=st at hnx ⊢
  repeat' first|apply step|(apply g_op;·repeat first|exact Evs.nil|(apply Evs.cons;exact rfl))|(refine Br.mk (fun _=>?_) (fun _=>?_)<;>try (exfalso;omega))|(refine Sd.mk ?_ ?_;·((repeat' apply And.intro)<;>first|omega|trivial|assumption|(simp;done)|(simp;omega)))|(refine Sx.mk ?_ ?_;·omega)|refine Fa.mk fun _=>?_|refine Im.mk fun _=>?_|refine g_cond ?_
  rename_i kb
  refine at_callS (reads_Sound_spec (b:=b) (key:=T.keys[j])) ?_
  intro x y
  generalize hL:agl T.keys[j] T.rd=L0 at hn1 hn2 hnx
  generalize hK:T.keys[j]=key at hL hn2 hnx ⊢
  generalize hL2:soundL (wK T key) L0=L at hnx
  have hmem:∀ r ∈ L,r ∈ L0:=fun r hr=>by rw [← hL2] at hr;exact (List.mem_filter.1 hr).1
  repeat' first|apply step
  obtain ⟨I,hI⟩:∃ I:Nat→HP,∀ i,I i=hx fun (_:Unit)=>(True,[pt qb [.int .i64 kind,.func (.func gn) #[] #[]] 0,pt tb [.pointer (some ⟨b,0,none⟩)] 0,pt kb [.int .i64 key] 0,pt fb (cFd (((L.take i).foldl (stepF ask kind) st).getD zFd)) 0,pt gb [.bool ((L.take i).foldl (stepF ask kind) st).isSome] 0]):=⟨_,fun _=>rfl⟩
  obtain ⟨J,hJ⟩:∃ J:AX→HP,∀ ax,J ax=hx fun (_:Unit)=>(False,[]):=⟨_,fun _=>rfl⟩
  refine at_foldP (I 0) (hI 0) () trivial ?_
  refine at_rfunSD2 (I:=I) (J:=J) (C:=fun _=>tabC b T mr mt) (DD:=fun _=>tabC b T mr mt) (Po:=[mapF mr kI kHRd T.rd]) (Ps:=[pt x [.pointer (some ⟨b,0,none⟩)] 0,pt y [.int .i64 key] 0,mapF mr kI kHRd T.rd]) L.length (fun i (d:wR)=>vaRead d L[i]?) (fun i d=>paRead d L[i]?) (fun ly A B h=>?_) (fun i hi d=>by rw [List.getElem?_eq_getElem hi];rfl) ?_ ?_ ?_
  ·subst hL2
   exact reads_Sound_c1_spec (L:=L0) (key:=key) (x:=x) (y:=y) hL (by omega) (fun r hr=>⟨⟨by have:=(hn2 r hr).1.1;omega,by have:=(hn2 r hr).1.2;omega⟩,(hn2 r hr).2⟩) h
  ·intro i hi d ly m F'
   have hn3:=fold_take (stepF ask kind) L st hi
   have hr0:=hmem _ (List.getElem_mem hi)
   obtain ⟨⟨k1,k2⟩,k3⟩:=hn2 _ hr0
   rw [List.getElem?_eq_getElem hi]
   have hIi:=hI i
   have hIn:=hI (i + 1)
   rw [hn3] at hIn
   generalize (L.take i).foldl (stepF ask kind) st=s0 at hIi hIn
   dsimp only [vaRead,paRead,List.cons_append,List.nil_append]
   have hak:=hask L[i] (by rw [k3,hL];exact hr0)
   cases hq:ask L[i] with
   | none =>
    have e:stepF ask kind s0 L[i]=s0:=by unfold stepF;rw [hq]
    rw [e] at hIn
    refine at_openP (I i) hIi ?_
    intro u hu
    dsimp only [List.cons_append,List.nil_append]
    repeat' first|apply step|(apply g_op;·repeat first|exact Evs.nil|(apply Evs.cons;exact rfl))|refine Fa.mk fun _=>?_
    refine at_callS (hak _ _ _ _) ?_
    rw [hq]
    unfold triO
    repeat' first|apply step|(apply g_op;·repeat first|exact Evs.nil|(apply Evs.cons;exact rfl))|refine g_cond ?_|refine g_guard ?_|refine g_keep ?_
    refine at_foldP (I (i + 1)) hIn () trivial ?_
    exact y_next2
   | some v =>
    cases s0 with
    | none =>
     have e:stepF ask kind none L[i]=some ⟨kind,L[i].txn,L[i].op,L[i].key,v.1,v.2,[]⟩:=by unfold stepF;rw [hq]
     rw [e,k3] at hIn
     dsimp only [Option.getD,Option.isSome,cFd,zFd] at hIi hIn
     refine at_openP (I i) hIi ?_
     intro u hu
     dsimp only [List.cons_append,List.nil_append]
     repeat' first|apply step|(apply g_op;·repeat first|exact Evs.nil|(apply Evs.cons;exact rfl))|refine Fa.mk fun _=>?_
     refine at_callS (hak _ _ _ _) ?_
     rw [hq]
     unfold triO
     repeat' first|apply step|(apply g_op;·repeat first|exact Evs.nil|(apply Evs.cons;exact rfl))|refine g_cond ?_|refine g_guard ?_|refine g_keep ?_
     refine at_foldP (I (i + 1)) hIn () trivial ?_
     exact y_next2
    | some f =>
     by_cases he:earlB L[i] f
     ·have e:stepF ask kind (some f) L[i]=some ⟨kind,L[i].txn,L[i].op,L[i].key,v.1,v.2,[]⟩:=by unfold stepF;rw [hq];exact if_pos he
      rw [e,k3] at hIn
      dsimp only [Option.getD,Option.isSome,cFd] at hIi hIn
      refine at_openP (I i) hIi ?_
      intro u hu
      dsimp only [List.cons_append,List.nil_append]
      repeat' first|apply step|(apply g_op;·repeat first|exact Evs.nil|(apply Evs.cons;exact rfl))|refine Fa.mk fun _=>?_
      refine at_callS (hak _ _ _ _) ?_
      rw [hq]
      unfold triO
      repeat' first|apply step|(apply g_op;·repeat first|exact Evs.nil|(apply Evs.cons;exact rfl))|refine g_guard ?_|refine g_keep ?_
      refine at_callS (dirty_earlier_spec (r:=L[i]) (f:=f)) ?_
      refine ⟨fun _=>?_,fun q=>absurd he q⟩
      repeat' first|apply step|(apply g_op;·repeat first|exact Evs.nil|(apply Evs.cons;exact rfl))|refine g_cond ?_|refine g_guard ?_|refine g_keep ?_
      refine at_foldP (I (i + 1)) hIn () trivial ?_
      exact y_next2
     ·have e:stepF ask kind (some f) L[i]=some f:=by unfold stepF;rw [hq];exact if_neg he
      rw [e] at hIn
      dsimp only [Option.getD,Option.isSome,cFd] at hIi hIn
      refine at_openP (I i) hIi ?_
      intro u hu
      dsimp only [List.cons_append,List.nil_append]
      repeat' first|apply step|(apply g_op;·repeat first|exact Evs.nil|(apply Evs.cons;exact rfl))|refine Fa.mk fun _=>?_
      refine at_callS (hak _ _ _ _) ?_
      rw [hq]
      unfold triO
      repeat' first|apply step|(apply g_op;·repeat first|exact Evs.nil|(apply Evs.cons;exact rfl))|refine g_guard ?_|refine g_keep ?_
      refine at_callS (dirty_earlier_spec (r:=L[i]) (f:=f)) ?_
      refine ⟨fun q=>absurd q he,fun _=>?_⟩
      repeat' first|apply step|(apply g_op;·repeat first|exact Evs.nil|(apply Evs.cons;exact rfl))|refine g_cond ?_|refine g_guard ?_|refine g_keep ?_
      refine at_foldP (I (i + 1)) hIn () trivial ?_
      exact y_next2
  ·refine at_openP (I L.length) (hI _) ?_
   intro u hu
   dsimp only [List.cons_append,List.nil_append]
   rw [List.take_length,← hnx]
   repeat' first|apply step|(apply g_op;·repeat first|exact Evs.nil|(apply Evs.cons;exact rfl))|(refine Sd.mk ?_ ?_;·((repeat' apply And.intro)<;>first|omega|trivial|assumption|(simp;done)|(simp;omega)))|refine g_keep ?_
   exact lp_next (j + 1) (by omega) (by omega)
  ·intro ax hax
   refine at_openP (J ax) (hJ ax) ?_
   intro u hu
   exact (show False from hu).elim
 ·have hfl:firstL ask T kind=(T.keys.take j).foldl (keyF ask T kind) none:=by rw [List.take_of_length_le hge];rfl
  rw [hfl] at hR
  generalize (T.keys.take j).foldl (keyF ask T kind) none=st at hR ⊢
  generalize st.getD zFd=f at hR ⊢
  unfold vFd at hR
  unfold cFd
  repeat' first|apply step|(apply g_op;·repeat first|exact Evs.nil|(apply Evs.cons;exact rfl))|(refine Br.mk (fun _=>?_) (fun _=>?_)<;>try (exfalso;omega))|refine g_cond ?_|refine g_keep ?_
  refine at_opsA3 gb ob (fun sz hsz hne=>?_)
  repeat' first|apply step|(apply g_op;·repeat first|exact Evs.nil|(apply Evs.cons;exact rfl))
  refine g_ap3 rfl rfl hsz hne ?_
  repeat' first|apply step|refine g_fin ?_
  exact fin hR
/-- Questions. -/
structure Qd where
 n:Int
 fn:Nat
def kQd:Kind Qd:=⟨2,by decide,fun _ cs a=>cs=[.int .i64 a.n,.func (.func a.fn) #[] #[]],fun _ h=>h,fun h=>by rw [h];rfl,fun h=>by rw [h];rfl⟩
instance esz_Qd:Esz kQd 2:=⟨rfl⟩
instance cel_Qd:Cel kQd Unit (fun a _=>[.int .i64 a.n,.func (.func a.fn) #[] #[]]) (fun _ _=>[]) (fun _=>True):=⟨fun h=>⟨(),h,trivial,sat_nil0⟩⟩
noncomputable def qsL:List Qd:=[⟨4,n_dirty_Torn⟩,⟨7,n_dirty_Aborted⟩,⟨8,n_dirty_Middle⟩]
theorem dirty_questions_spec:Spec prog1 n_dirty_questions [] [] (fun R=>∀ x,R (.slice (some ⟨x,0,none⟩) 3 3) [pt x [.int .i64 4,.func (.func n_dirty_Torn) #[] #[],.int .i64 7,.func (.func n_dirty_Aborted) #[] #[],.int .i64 8,.func (.func n_dirty_Middle) #[] #[]] 2]):=by
 refine spec_code c_dirty_questions rfl ?_;intro n F R hR;unfold F_dirty_questions
 repeat' first|apply step|(apply g_op;·repeat first|exact Evs.nil|(apply Evs.cons;exact rfl))|refine Fa.mk fun _=>?_|refine g_fin ?_
 exact fin (hR _)
theorem qsL_ofs {Γ:List HP}:OfVs Γ kQd [.int .i64 4,.func (.func n_dirty_Torn) #[] #[],.int .i64 7,.func (.func n_dirty_Aborted) #[] #[],.int .i64 8,.func (.func n_dirty_Middle) #[] #[]] qsL True:=⟨fun _ _ _ _=>⟨[_,_],_,rfl,rfl,[_,_],_,rfl,rfl,[_,_],[],rfl,rfl,rfl⟩⟩
def bI (x:Int):Prop:=-9223372036854775808≤x∧x≤9223372036854775807
def bFd (f:Fd):Prop:=bI f.kind∧bI f.txn∧bI f.op∧bI f.key∧bI f.value∧bI f.other
structure FdOk (T:Tb):Prop where
 keys:T.keys.length≤1000000
 rd:RdOk T
 wr:∀ k x w,wK T k x=some w→bI w.txn∧0 < (agl (w.txn,k) T.ap).length
 ap:∀ x k,(agl (x,k) T.ap).length≤60
 fd:∀ f ∈ findD T,bFd f
theorem qs_ask (ho:FdOk T):∀ k (hk:k < qsL.length),∀ r,r ∈ agl r.key T.rd→∀ p1 c1 p2 c2,Spec prog1 qsL[k].fn [.pointer (some ⟨b,0,none⟩),.agg #[.int .i64 r.txn,.int .i64 r.op,.int .i64 r.key,.slice p1 r.list.length c1,.slice p2 r.own.length c2]] [tabC b T mr mt,fro (kInt .i64) p1 c1 r.list] (fun R=>R (triO (askD T qsL[k].n r)) [tabC b T mr mt]):=fun k hk r hr p1 c1 p2 c2=>by
 obtain ⟨h1,h2⟩:=((ho.rd r.key).2 r hr).1
 match k,hk with
 | 0,_=>exact dirty_Torn_specC (by omega) (by omega) (fun x w q=>(ho.wr _ x w q).1) (fun x=>ho.ap x _)
 | 1,_=>exact dirty_Aborted_specC (by omega) (by omega)
 | 2,_=>exact dirty_Middle_specC (by omega) (by omega) (fun x w q=>(ho.wr _ x w q).2) (fun x=>ho.ap x _)
noncomputable def findK (T:Tb) (k:Nat):List Fd:=(kdL.take k).filterMap fun kd=>firstL (askD T kd) T kd
theorem findK_next {k:Nat} (hk:k < qsL.length):findK T (k + 1)=findK T k++(firstL (askD T qsL[k].n) T qsL[k].n).toList:=by
 have h1:∀ l:List Int,∀ x,(l++[x]).filterMap (fun kd=>firstL (askD T kd) T kd)=l.filterMap (fun kd=>firstL (askD T kd) T kd)++(firstL (askD T x) T x).toList:=fun l x=>by
  rw [List.filterMap_append]
  cases h:firstL (askD T x) T x <;> simp [h]
 unfold findK
 match k,hk with
 | 0,_=>exact h1 [] 4
 | 1,_=>exact h1 [4] 7
 | 2,_=>exact h1 [4,7] 8
theorem findK_len (k:Nat):(findK T k).length≤3:=by
 refine Nat.le_trans (List.length_filterMap_le _ _) ?_
 rw [List.length_take]
 exact Nat.min_le_right _ _
theorem findK_sub {k:Nat}:∀ f ∈ findK T k,f ∈ findD T:=fun f hf=>by
 obtain ⟨x,h1,h2⟩:=List.mem_filterMap.1 hf
 exact List.mem_filterMap.2 ⟨x,List.mem_of_mem_take h1,h2⟩
theorem dirty_Find_spec (ho:FdOk T):Spec prog1 n_dirty_Find [.pointer (some ⟨b,0,none⟩)] [tabC b T mr mt,mapF mr kI kHRd T.rd] (fun R=>∀ p' c',R (.slice p' (findD T).length c') [own kFd p' c' (findD T),tabC b T mr mt,mapF mr kI kHRd T.rd]):=by
 refine spec_code c_dirty_Find rfl ?_;intro n F R hR;unfold F_dirty_Find
 have hq3:qsL.length=3:=rfl
 repeat' first|apply step|(apply g_op;·repeat first|exact Evs.nil|(apply Evs.cons;exact rfl))
 refine at_callS (dirty_questions_spec) ?_
 intro x
 refine at_ent (pt_own (K:=kQd) (l:=qsL) (cap:=3) rfl qsL_ofs trivial) ?_
 refine at_freezeO ?_
 repeat' first|apply step|(apply g_op;·repeat first|exact Evs.nil|(apply Evs.cons;exact rfl))|refine g_keep ?_
 refine at_loopS (ι:=Nat × (Option Addr × Nat)) (E:=fun z=>[(0,.pointer (some ⟨b,0,none⟩)),(3,.slice z.2.1 (findK T z.1).length z.2.2),(8,.slice (some ⟨x,0,none⟩) 3 3),(9,.int .i64 3),(10,.int .i64 (z.1:Int))]) (Δ:=fun z=>own kFd z.2.1 z.2.2 (findK T z.1)::fro kQd (some ⟨x,0,none⟩) 3 qsL::tabC b T mr mt::mapF mr kI kHRd T.rd::F) (P:=fun z=>z.1≤3) (μ:=fun z=>3 - z.1) (0,(none,0)) (Nat.zero_le _) ?_
 rintro ⟨k,p1,c1⟩ hk
 dsimp only at hk ⊢
 have hlen:=findK_len (T:=T) k
 rcases Nat.lt_or_ge k 3 with hlt|hge
 ·have hlq:k < qsL.length:=by omega
  have hnx:=findK_next (T:=T) hlq
  have hak:=qs_ask (b:=b) (mr:=mr) (mt:=mt) ho k hlq
  have hsub:=findK_sub (T:=T) (k:=k + 1)
  have hisf:=firstL_isF (T:=T) (askD T qsL[k].n) qsL[k].n
  generalize findK T k=O at hnx hlen ⊢
  rw [hnx] at hsub
  repeat' first|apply step|(apply g_op;·repeat first|exact Evs.nil|(apply Evs.cons;exact rfl))|(refine Br.mk (fun _=>?_) (fun _=>?_)<;>try (exfalso;omega))|(refine Sd.mk ?_ ?_;·((repeat' apply And.intro)<;>first|omega|trivial|assumption|(simp;done)|(simp;omega)))|(refine Sx.mk ?_ ?_;·omega)|refine Fa.mk fun _=>?_|refine Im.mk fun _=>?_|refine g_cond ?_
  generalize qsL[k].n=kd at hnx hak hsub hisf ⊢
  generalize qsL[k].fn=gn at hak ⊢
  refine at_callS (dirty_question_first_spec (T:=T) (mr:=mr) (mt:=mt) (gn:=gn) (kind:=kd) (ask:=askD T kd) ho.keys ho.rd hak) ?_
  rcases hisf with ⟨h0,_⟩|⟨r,_,q,_,h0,_⟩
  ·rw [h0] at hnx ⊢
   unfold vFd
   dsimp only [Option.getD,Option.isSome]
   rw [show O++(none:Option Fd).toList=O from List.append_nil _] at hnx
   repeat' first|apply step|(apply g_op;·repeat first|exact Evs.nil|(apply Evs.cons;exact rfl))|(refine Sd.mk ?_ ?_;·((repeat' apply And.intro)<;>first|omega|trivial|assumption|(simp;done)|(simp;omega)))|refine Fa.mk fun _=>?_|refine g_cond ?_|refine g_keep ?_
   exact lp_next (k + 1,_,_) (by dsimp only;omega) (by dsimp only;omega) (by dsimp only;rw [hnx]) (by dsimp only;rw [hnx];repeat first|exact Ent.refl _|(apply Ent.more;· repeat first|exact Ent.keep|exact Ent.here|exact Ent.lend|exact ent_nil|apply Ent.there)|apply Ent.drop)
  ·rw [h0] at hnx hsub ⊢
   obtain ⟨⟨b1,b2⟩,⟨b3,b4⟩,⟨b5,b6⟩,⟨b7,b8⟩,⟨b9,b10⟩,⟨b11,b12⟩⟩:=ho.fd _ (hsub _ (List.mem_append.2 (.inr List.mem_cons_self)))
   dsimp only [mkFd] at b1 b2 b3 b4 b5 b6 b7 b8 b9 b10 b11 b12
   rw [show (some (mkFd kd r q)).toList=[mkFd kd r q] from rfl] at hnx
   unfold mkFd at hnx
   unfold vFd mkFd
   dsimp only [Option.getD,Option.isSome]
   repeat' first|apply step|(apply g_op;·repeat first|exact Evs.nil|(apply Evs.cons;exact rfl))|(refine Sd.mk ?_ ?_;·((repeat' apply And.intro)<;>first|omega|trivial|assumption|(simp;done)|(simp;omega)))|refine Fa.mk fun _=>?_|refine g_cond ?_|refine g_keep ?_
   exact lp_next (k + 1,_,_) (by dsimp only;omega) (by dsimp only;omega) (by dsimp only;rw [hnx]) (by dsimp only;rw [hnx];repeat first|exact Ent.refl _|(apply Ent.more;· repeat first|exact Ent.keep|exact Ent.here|exact Ent.lend|exact ent_nil|apply Ent.there)|apply Ent.drop)
 ·have e:findK T k=findD T:=by
   unfold findK findD
   rw [List.take_of_length_le (show kdL.length≤k from hge)]
  rw [e]
  repeat' first|apply step|(apply g_op;·repeat first|exact Evs.nil|(apply Evs.cons;exact rfl))|(refine Br.mk (fun _=>?_) (fun _=>?_)<;>try (exfalso;omega))|refine g_cond ?_|refine g_keep ?_|refine g_fin ?_
  exact fin (hR p1 c1)
end
end Go.AMS

namespace Go.AMS
open Go.AM hiding Kt At WP WL Runs RunsY
open Go.AM.G
set_option linter.unusedVariables false
set_option linter.unusedSimpArgs false
set_option linter.unusedSectionVars false
set_option maxRecDepth 100000
set_option maxHeartbeats 1000000
attribute [local irreducible] AtS AtV AtC AtG FinA Spec Post LP G.At G.WP G.WL pt own fro rdl ro hx mp lrec elt sub

open Go.AM.G.Set
section
variable {h:List HTx} {T:Tb} {p q p1 p2:Option Addr} {c d c1 c2 b mr mt:Nat}
theorem at_tabC {prog:AProg} {rr:Option Nat} {e:Env} {Q:Pst} {kk:List Kt} {n:Nat} {d:Bool} {r:List AI} {F:List HP} (w:∀ mr mt,AtS n prog rr (.o d r::kk) .norm e (tabC b T mr mt::mapF mr kI kHRd T.rd::mapL mt kI kHWr T.wt::F) Q):AtS n prog rr (.o d r::kk) .norm e (tab b T::F) Q:=by
 refine at_openP (tab b T) rfl ?_
 rintro ⟨⟨⟨pi,ci⟩,⟨pk,ck⟩⟩,⟨mw,ma,mr,mt⟩⟩ -
 dsimp only [List.cons_append,List.nil_append]
 refine at_openP (mapL mr kI kHRd T.rd) rfl ?_
 rintro Z hZ
 dsimp only [List.cons_append,List.nil_append]
 refine at_ent (Δ:=alls (ownE kHRd) Z::mp mr (amap kI slV Z)::_) (by repeat first|exact Ent.refl _|(apply Ent.more;· repeat first|exact Ent.keep|exact Ent.here|exact Ent.lend|exact ent_nil|apply Ent.there)|apply Ent.drop) ?_
 refine at_freezeA ?_
 refine at_foldP (mapF mr kI kHRd T.rd) rfl Z hZ ?_
 refine at_foldP (tabC b T mr mt) rfl (((pi,ci),(pk,ck)),(mw,ma)) trivial ?_
 exact w mr mt
theorem th_ok (hf:FewH h 20 60) (hk:OkH h):FdOk (TH h):=by
 have hrd:∀ key,agl key (TH h).rd=rdK h key:=fun key=>rd_sort hk.i key
 have hby:∀ x,mayN x→bI x:=fun x hx=>by unfold mayN at hx;unfold bI;omega
 refine ⟨?_,fun key=>?_,fun k x w hw=>?_,fun x k=>ap_le hf hk x k,fun f hm=>?_⟩
 ·have:=(tabS_smK hf).1
  unfold TH;omega
 ·rw [hrd]
  refine ⟨by have:=outR_len hf hk.m key;unfold rdK;omega,fun r hr=>?_⟩
  obtain ⟨t,ht,hb,j,h1,h2,h3,rfl,h4⟩:=rdK_at hk hr
  have h5:=txnOf_ok hf hk.m t.id (hk.m t ht).1
  rw [txnOf_in hk.i ht] at h5
  have h6:=aheadL_len t.ops key j
  rw [getD_lt h1]
  have h7:=h5.2.2.2 _ (List.getElem_mem h1)
  have h8:=h5.2.1
  exact ⟨⟨h7,by dsimp only;omega⟩,rfl⟩
 ·refine ⟨?_,apH_ne hk hw⟩
  obtain ⟨t,ht,i,hi,_,rfl⟩:=wr_at hk hw
  exact hby _ (hk.m t ht).1
 ·have h0:=findD_at hk hm
  obtain ⟨w,hw,hx,_,_,_,r,hr,e1,e2,e3⟩:=h0
  obtain ⟨t,ht,hb,j,h1,h2,h3,rfl,h4⟩:=rdK_at hk hr
  obtain ⟨kd,hkd,hfl⟩:=List.mem_filterMap.1 hm
  have hkk:f.kind=kd:=by
   rcases firstL_isF (T:=TH h) (askD (TH h) kd) kd with ⟨g1,_⟩|⟨r,_,q,_,g1,_⟩
   ·rw [hfl] at g1;cases g1
   ·rw [hfl] at g1;cases g1;rfl
  have h5:=txnOf_ok hf hk.m t.id (hk.m t ht).1
  rw [txnOf_in hk.i ht] at h5
  obtain ⟨u,hu,i,hi,⟨g1,g2,g3⟩,rfl⟩:=wr_at hk hw
  have hmo:=(hk.m u hu).2 _ (List.getElem_mem hi)
  unfold mayO at hmo
  rw [g1] at hmo
  refine ⟨?_,?_,?_,?_,?_,?_⟩
  ·rw [hkk]
   have:kd=4∨kd=7∨kd=8:=by simpa [kdL] using hkd
   unfold bI;omega
  ·rw [← e1];exact hby _ (hk.m t ht).1
  ·rw [← e2];unfold bI;dsimp only;omega
  ·rw [← g2];exact hby _ (by simpa using hmo.1)
  ·rw [← g3];exact hby _ (show mayN u.ops[i].value∧u.ops[i].list=[] by simpa using hmo.2).1
  ·rw [← hx];exact hby _ (hk.m u hu).1
theorem nm_next {X A B:Prop} {l:List Int} {i:Nat} {v:Int} (hi:i < l.length) (hh:X∨(A∧B∧∃ m,∃ hm:m < l.length,i≤m∧l[m]=v)) (hn:¬ (A∧B∧l[i]=v)):X∨(A∧B∧∃ m,∃ hm:m < l.length,i + 1≤m∧l[m]=v):=by
 rcases hh with hh|⟨h1,h2,m,hm,h3,h4⟩
 ·exact .inl hh
 ·refine .inr ⟨h1,h2,m,hm,?_,h4⟩
  rcases Nat.lt_or_ge i m with h5|h5
  ·exact h5
  ·have e:m=i:=by omega
   subst e
   exact absurd ⟨h1,h2,h4⟩ hn
theorem l14_DirtyNamed_spec:Spec prog1 n_l14_DirtyNamed [.agg #[.slice p h.length c]] [fro kHTx p c h] (fun R=>R (.bool true) []):=by
 refine spec_code c_l14_DirtyNamed rfl ?_;intro n F R hR;unfold F_l14_DirtyNamed
 repeat' first|apply step|(apply g_op;·repeat first|exact Evs.nil|(apply Evs.cons;exact rfl))|refine Fa.mk fun _=>?_
 rename_i hb
 refine at_callS (l14_few_spec (h:=h)) ?_
 refine ⟨fun hf hc=>?_,?_⟩
 ·have hk:=chkH_ok hc
  have hok:=th_ok hf hk
  have hl3:(findD (TH h)).length≤3:=List.length_filterMap_le _ _
  have hat:=fun f (hm:f ∈ findD (TH h))=>findD_at hk hm
  repeat' first|apply step|(apply g_op;·repeat first|exact Evs.nil|(apply Evs.cons;exact rfl))|refine g_cond ?_
  refine at_callS (table_New_spec hf) ?_
  refine ⟨fun hc2=>absurd hc hc2,fun _ b=>?_⟩
  change AtS _ _ _ _ _ _ (tab b (TH h)::_) _
  refine at_tabC (fun mr mt=>?_)
  repeat' first|apply step|(apply g_op;·repeat first|exact Evs.nil|(apply Evs.cons;exact rfl))|(refine Br.mk (fun _=>?_) (fun _=>?_)<;>try (exfalso;omega))|refine g_cond ?_|refine g_guard ?_|refine g_keep ?_
  have hLR:∀ key,(rdK h key).length≤1200:=fun key=>outR_len hf hk.m key
  have hLL:∀ key,∀ r ∈ rdK h key,r.list.length≤1000:=fun key r hr=>(outR_ok hf hk.m key r hr).1.1
  have hRd:=fun key=>r12_Reads_spec (h:=h) (p:=p) (c:=c) (key:=key) hf hk.m
  change ∀ key,Spec prog1 n_r12_Reads [.agg #[.slice p h.length c],.int .i64 key] [fro kHTx p c h] (fun R=>∀ p' c',R (.slice p' (rdK h key).length c') [own kHRd p' c' (rdK h key)]) at hRd
  generalize TH h=T at hat hok hl3 ⊢
  refine at_callS (dirty_Find_spec (T:=T) (b:=b) (mr:=mr) (mt:=mt) hok) ?_
  intro lp lc
  generalize findD T=l at hat hl3 ⊢
  repeat' first|apply step|(apply g_op;·repeat first|exact Evs.nil|(apply Evs.cons;exact rfl))|refine g_keep ?_
  refine at_loopS (ι:=Nat) (E:=fun k=>[(1,.pointer (some ⟨hb,0,none⟩)),(3,.pointer (some ⟨b,0,none⟩)),(5,.slice lp l.length lc),(6,.int .i64 (k:Int))]) (Δ:=fun k=>own kFd lp lc l::tabC b T mr mt::pt hb [.slice p h.length c] 0::fro kHTx p c h::F) (P:=fun k=>k≤l.length) (μ:=fun k=>l.length - k) 0 (Nat.zero_le _) ?_
  rintro k hkl
  try dsimp only
  rcases Nat.lt_or_ge k l.length with hlt|hge
  ·obtain ⟨w,hw,hw1,hw2,hw3,hw4,hw5⟩:=hat l[k] (List.getElem_mem _)
   repeat' first|apply step|(apply g_op;·repeat first|exact Evs.nil|(apply Evs.cons;exact rfl))|(refine Br.mk (fun _=>?_) (fun _=>?_)<;>try (exfalso;omega))|(refine Sd.mk ?_ ?_;·((repeat' apply And.intro)<;>first|omega|trivial|assumption|(simp;done)|(simp;omega)))|(refine Sx.mk ?_ ?_;·omega)|refine Fa.mk fun _=>?_|refine Im.mk fun _=>?_|refine g_cond ?_
   generalize l[k]=f at hw hw1 hw2 hw3 hw4 hw5 ⊢
   refine at_callS (table_Table_Writer_specC (T:=T) (x:=f.key) (y:=f.value)) ?_
   rw [hw]
   unfold wrO
   repeat' first|apply step|(apply g_op;·repeat first|exact Evs.nil|(apply Evs.cons;exact rfl))|(refine Br.mk (fun _=>?_) (fun _=>?_)<;>try (exfalso;omega))|refine Fa.mk fun _=>?_|refine g_cond ?_|refine g_guard ?_|refine g_keep ?_|refine g_fin ?_
   have hcl:f.cyc.length=0:=by rw [hw4];rfl
   all_goals try (exfalso;first|omega|(rename_i q;by_cases h7:f.kind=7 <;> simp_all;done))
   all_goals
    rename_i y _ fb wb _ _ _ _ _
    clear hw1 hw2 hw3 hw4
    have hL1:=hLR f.key
    have hL2:=hLL f.key
    refine at_callS (hRd f.key) ?_
    intro p1 c1
    generalize rdK h f.key=L at hw5 hL1 hL2 ⊢
    obtain ⟨r,hr,g1,g2,g3⟩:=hw5
    obtain ⟨m,hm,rfl⟩:=List.getElem_of_mem hr
    repeat' first|apply step|(apply g_op;·repeat first|exact Evs.nil|(apply Evs.cons;exact rfl))|refine g_keep ?_
    refine at_loopS (ι:=Nat × Bool) (E:=fun z=>[(1,.pointer (some ⟨hb,0,none⟩)),(3,.pointer (some ⟨b,0,none⟩)),(5,.slice lp l.length lc),(6,.int .i64 (k:Int)),(7,.pointer (some ⟨fb,0,none⟩)),(10,.bool z.2),(11,.slice p1 L.length c1),(12,.int .i64 (z.1:Int))]) (Δ:=fun z=>own kHRd p1 c1 L::pt fb [.int .i64 f.kind,.int .i64 f.txn,.int .i64 f.op,.int .i64 f.key,.int .i64 f.value,.int .i64 f.other,.slice y.1 f.cyc.length y.2] 0::own kFd lp lc l::tabC b T mr mt::pt hb [.slice p h.length c] 0::fro kHTx p c h::F) (P:=fun z=>z.1≤L.length∧(z.2=true∨z.1≤m)) (μ:=fun z=>L.length - z.1) (0,false) ⟨Nat.zero_le _,.inr (Nat.zero_le _)⟩ ?_
    rintro ⟨j,fo⟩ ⟨hj,hfo⟩
    dsimp only at hj hfo ⊢
    rcases Nat.lt_or_ge j L.length with hlj|hgj
    ·have hLj:=hL2 L[j] (List.getElem_mem _)
     repeat' first|apply step|(apply g_op;·repeat first|exact Evs.nil|(apply Evs.cons;exact rfl))|(refine Br.mk (fun _=>?_) (fun _=>?_)<;>try (exfalso;omega))|refine g_cond ?_|refine g_keep ?_
     refine at_loopS (ι:=Nat × Bool) (E:=fun z=>[(1,.pointer (some ⟨hb,0,none⟩)),(3,.pointer (some ⟨b,0,none⟩)),(5,.slice lp l.length lc),(6,.int .i64 (k:Int)),(7,.pointer (some ⟨fb,0,none⟩)),(10,.bool z.2),(11,.slice p1 L.length c1),(12,.int .i64 (j:Int)),(13,.int .i64 (z.1:Int))]) (Δ:=fun z=>own kHRd p1 c1 L::pt fb [.int .i64 f.kind,.int .i64 f.txn,.int .i64 f.op,.int .i64 f.key,.int .i64 f.value,.int .i64 f.other,.slice y.1 f.cyc.length y.2] 0::own kFd lp lc l::tabC b T mr mt::pt hb [.slice p h.length c] 0::fro kHTx p c h::F) (P:=fun z=>z.1≤L[j].list.length∧(z.2=true∨(j + 1≤m∨(L[j].txn=f.txn∧L[j].op=f.op∧∃ i',∃ hi:i' < L[j].list.length,z.1≤i'∧L[j].list[i']=f.value)))) (μ:=fun z=>L[j].list.length - z.1) (0,fo) ⟨Nat.zero_le _,?_⟩ ?_
     ·rcases hfo with hfo|hfo
      ·exact .inl hfo
      ·rcases Nat.lt_or_ge j m with hjm|hjm
       ·exact .inr (.inl hjm)
       ·have e:j=m:=by omega
        subst e
        obtain ⟨i',hi',e⟩:=List.getElem_of_mem g3
        exact .inr (.inr ⟨g1,g2,i',hi',Nat.zero_le _,e⟩)
     rintro ⟨i,fu⟩ ⟨hi,hfu⟩
     dsimp only at hi hfu ⊢
     rcases Nat.lt_or_ge i L[j].list.length with hli|hgi
     ·cases fu with
      | true =>
       repeat' first|apply step|(apply g_op;·repeat first|exact Evs.nil|(apply Evs.cons;exact rfl))|(refine Br.mk (fun _=>?_) (fun _=>?_)<;>try (exfalso;omega))|(refine Sd.mk ?_ ?_;·((repeat' apply And.intro)<;>first|omega|trivial|assumption|(simp;done)|(simp;omega)))|(refine Sx.mk ?_ ?_;·omega)|refine Fa.mk fun _=>?_|refine Im.mk fun _=>?_|refine g_cond ?_|refine g_guard ?_|refine g_keep ?_
       exact lp_next (i + 1,true) ⟨by dsimp only;omega,.inl rfl⟩ (by dsimp only;omega)
      | false =>
       have hfu2:=hfu.resolve_left (by simp)
       repeat' first|apply step|(apply g_op;·repeat first|exact Evs.nil|(apply Evs.cons;exact rfl))|(refine Br.mk (fun _=>?_) (fun _=>?_)<;>try (exfalso;omega))|(refine Sd.mk ?_ ?_;·((repeat' apply And.intro)<;>first|omega|trivial|assumption|(simp;done)|(simp;omega)))|(refine Sx.mk ?_ ?_;·omega)|refine Fa.mk fun _=>?_|refine Im.mk fun _=>?_|refine g_cond ?_|refine g_guard ?_|refine g_keep ?_
       all_goals first
        | exact lp_next (i + 1,true) ⟨by dsimp only;omega,.inl rfl⟩ (by dsimp only;omega)
        | exact lp_next (i + 1,false) ⟨by dsimp only;omega,.inr (nm_next hli hfu2 (fun q=>by obtain ⟨q1,q2,q3⟩:=q;first|contradiction|omega))⟩ (by dsimp only;omega)
     ·repeat' first|apply step|(apply g_op;·repeat first|exact Evs.nil|(apply Evs.cons;exact rfl))|(refine Br.mk (fun _=>?_) (fun _=>?_)<;>try (exfalso;omega))|(refine Sd.mk ?_ ?_;·((repeat' apply And.intro)<;>first|omega|trivial|assumption|(simp;done)|(simp;omega)))|(refine Sx.mk ?_ ?_;·omega)|refine Fa.mk fun _=>?_|refine Im.mk fun _=>?_|refine g_cond ?_|refine g_keep ?_
      refine lp_next (j + 1,fu) ⟨by dsimp only;omega,?_⟩ (by dsimp only;omega)
      rcases hfu with q|q|⟨_,_,i',hi',q,_⟩
      ·exact .inl q
      ·exact .inr q
      ·exact absurd q (by omega)
    ·have e:fo=true:=hfo.resolve_right (by omega)
     subst e
     repeat' first|apply step|(apply g_op;·repeat first|exact Evs.nil|(apply Evs.cons;exact rfl))|(refine Br.mk (fun _=>?_) (fun _=>?_)<;>try (exfalso;omega))|(refine Sd.mk ?_ ?_;·((repeat' apply And.intro)<;>first|omega|trivial|assumption|(simp;done)|(simp;omega)))|refine g_cond ?_|refine g_keep ?_
     exact lp_next (k + 1) (by omega) (by omega)
  ·repeat' first|apply step|(apply g_op;·repeat first|exact Evs.nil|(apply Evs.cons;exact rfl))|(refine Br.mk (fun _=>?_) (fun _=>?_)<;>try (exfalso;omega))|refine g_cond ?_|refine g_keep ?_
   refine at_callS (l14_works_spec) ?_
   repeat' first|apply step|(apply g_op;·repeat first|exact Evs.nil|(apply Evs.cons;exact rfl))|refine g_fin ?_
   exact fin hR
 ·repeat' first|apply step|(apply g_op;·repeat first|exact Evs.nil|(apply Evs.cons;exact rfl))|refine g_cond ?_
  refine at_callS (l14_works_spec) ?_
  repeat' first|apply step|(apply g_op;·repeat first|exact Evs.nil|(apply Evs.cons;exact rfl))|refine g_fin ?_
  exact fin hR
end
end Go.AMS

