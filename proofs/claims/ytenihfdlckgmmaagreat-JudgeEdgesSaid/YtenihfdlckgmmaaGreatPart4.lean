/- What the functions do, part 4. -/
import Derived.Test.YtenihfdlckgmmaaGreatPart3
import Derived.Test.YtenihfdlckgmmaaGreatSetLaw
namespace Go.AMS
open Go.AM hiding Kt At WP WL Runs RunsY
open Go.AM.G
set_option linter.unusedVariables false
set_option linter.unusedSimpArgs false
set_option linter.unusedSectionVars false
set_option maxRecDepth 100000
set_option maxHeartbeats 1000000
attribute [local irreducible] AtS AtV AtC AtG FinA Spec Post LP G.At G.WP G.WL pt own fro rdl ro hx mp lrec elt sub

open Go.AM.G.Set Go.AM.G.Pre
section
variable {h:List HTx} {p q:Option Addr} {c d:Nat} {key:Int}
theorem zeI (hk:OkH h) (x:Int):bI (wtx (wK (TH h) key) x):=by
 unfold wtx
 cases hw:wK (TH h) key x with
 | none=>exact ⟨by decide,by decide⟩
 | some w =>
  obtain ⟨t,ht,i,hi,_,rfl⟩:=wr_at hk hw
  have:=(hk.m t ht).1
  unfold mayN at this
  unfold txZ bI
  dsimp only;omega
theorem ziZ {x:Int} (hf:FewH h 20 60) (hk:OkH h):Spec prog1 zc [.agg #[.slice p h.length c],.int .i64 key,.int .i64 x] [fro kHTx p c h] (fun R=>R (.int .i64 (wtx (wK (TH h) key) x)) []):=by
 refine spec_code zk4 rfl ?_;intro n F R hR;unfold zb4
 have hwr:Spec prog1 zb [.agg #[.slice p h.length c],.int .i64 key,.int .i64 x] [fro kHTx p c h] (fun R=>R (wrO (wK (TH h) key x)) []):=zdt hf hk
 unfold wtx at hR
 generalize wK (TH h) key x=o at hR hwr
 repeat' first|apply step|(apply gO;·repeat first|exact eZ|(apply eS;exact rfl))|refine Fa.mk fun _=>?_
 refine at_callR (hwr) ?_
 cases o with
 | none =>
  unfold wrO
  unfold txZ at hR
  repeat' first|apply step|(apply gO;·repeat first|exact eZ|(apply eS;exact rfl))|refine Fa.mk fun _=>?_|apply Lw.go|refine g_keep ?_|refine g_fin ?_
  exact fin hR
 | some w =>
  unfold wrO
  unfold txZ at hR
  repeat' first|apply step|(apply gO;·repeat first|exact eZ|(apply eS;exact rfl))|refine Fa.mk fun _=>?_|apply Lw.go|refine g_keep ?_|refine g_fin ?_
  exact fin hR
theorem zlQ (W:Wf) (ch:List Int) (i:Nat):chE W key ch (i + 1)=chE W key ch i++[⟨wtx W (ch.getD i 0),wtx W (ch.getD (i + 1) 0),1,key,ch.getD i 0,ch.getD (i + 1) 0⟩]:=by
 unfold chE;rw [List.range_succ,List.map_append];rfl
theorem zj4 {W:Wf} {x:Int} {rs:List Int} {j:Nat} (hj:j < rs.length):rsE W key x (rs.take (j + 1))=rsE W key x (rs.take j)++[⟨wtx W x,wtx W rs[j],1,key,x,rs[j]⟩]:=by
 unfold rsE;rw [List.take_succ_eq_append_getElem hj,List.map_append];rfl
theorem zlH {W:Wf} {r:HRd} {Y:List Int} {j:Nat} (hj:j < Y.length):rwE W key r (Y.take (j + 1))=rwE W key r (Y.take j)++[⟨r.txn,wtx W Y[j],4,key,lastD (cleanL W r.list),Y[j]⟩]:=by
 unfold rwE;rw [List.take_succ_eq_append_getElem hj,List.map_append];rfl
theorem zfN {ch rs:List Int} {n:Nat} (h1:rs.length≤1200):(nxI ch rs n).length≤1200:=by
 unfold nxI
 split
 ·exact h1
 ·split <;> simp
theorem zej {W:Wf} {ch rs:List Int} (h1:rs.length≤1200) (r:HRd):(rdE W key ch rs r).length≤1201:=by
 unfold rdE frE rwE
 rw [List.length_append,List.length_map]
 have:=zfN (ch:=ch) (n:=(cleanL W r.list).length) h1
 split <;> simp <;> omega
theorem ziR {W:Wf} {r:HRd} (hi:(((cleanL W (frontL r)).length:Int) - 1).toNat < (cleanL W (frontL r)).length):frE W key r=[⟨wtx W (cleanL W (frontL r))[(((cleanL W (frontL r)).length:Int) - 1).toNat],r.txn,2,key,(cleanL W (frontL r))[(((cleanL W (frontL r)).length:Int) - 1).toNat],-1⟩]:=by
 have e:(((cleanL W (frontL r)).length:Int) - 1).toNat=(cleanL W (frontL r)).length - 1:=by omega
 unfold frE
 rw [List.getLast?_eq_getElem?,List.getElem?_eq_getElem (by omega)]
 simp only [e]
theorem zi7 {W:Wf} {r:HRd} (hi:(cleanL W (frontL r)).length=0):frE W key r=[]:=by
 unfold frE
 rw [List.eq_nil_of_length_eq_zero hi];rfl
theorem zd5 {l:List Int} (hi:((l.length:Int) - 1).toNat < l.length):lastD l=l[((l.length:Int) - 1).toNat]:=by
 have e:((l.length:Int) - 1).toNat=l.length - 1:=by omega
 rw [zdL (by omega)]
 simp only [e]
theorem zeY {α β:Type} (f:α→List β) {l:List α} {n:Nat} (hn:n < l.length):(l.take (n + 1)).flatMap f=(l.take n).flatMap f++f l[n]:=by
 rw [List.take_succ_eq_append_getElem hn,List.flatMap_append]
 congr 1
 simp
theorem zhk {q1 q2:Option Addr} {d1 d2:Nat} {ch rs:List Int} {m:Nat} (h1:ch.length≤100000) (h2:m≤100000):Spec prog1 zau [.agg #[.int .i64 key,.slice q1 ch.length d1,.slice q2 rs.length d2,.bool false,.int .i64 0,.int .i64 0,.int .i64 0,.slice none 0 0,.slice none 0 0,.int .i64 0,.int .i64 0,.int .i64 0,.slice none 0 0,.slice none 0 0],.int .i64 (m:Int)] [fro (kInt .i64) q1 d1 ch,fro (kInt .i64) q2 d2 rs] (fun R=>∀ q' d',R (.slice q' (nxI ch rs m).length d') [fro (kInt .i64) q' d' (nxI ch rs m)]):=by
 refine spec_code zjQ rfl ?_;intro n F R hR;unfold zb7
 unfold nxI at hR
 by_cases e1:m=ch.length
 ·rw [if_pos e1] at hR
  repeat' first|apply step|(apply gO;·repeat first|exact eZ|(apply eS;exact rfl))|(refine Br.mk (fun _=>?_) (fun _=>?_)<;>try (exfalso;omega))|refine Fa.mk fun _=>?_|refine g_cond ?_|refine g_guard ?_|refine g_keep ?_|refine g_fin ?_
  all_goals first|exact fin (hR _ _)|(exfalso;omega)
 ·rw [if_neg e1] at hR
  by_cases e2:m < ch.length
  ·rw [if_pos e2,getD_lt e2] at hR
   have e3:m + 1 - m=1:=by omega
   have e4:(ch.drop m).take 1=[ch[m]]:=by rw [List.drop_eq_getElem_cons e2];rfl
   repeat' first|apply step|(apply gO;·repeat first|exact eZ|(apply eS;exact rfl))|(refine Br.mk (fun _=>?_) (fun _=>?_)<;>try (exfalso;omega))|(refine Sd.mk ?_ ?_;·exact qD)|refine Fa.mk fun _=>?_|refine g_cond ?_|refine g_guard ?_|refine g_keep ?_|refine g_fin ?_
   all_goals try (exfalso;omega)
   all_goals
    refine fin_via (ziT (K:=kInt .i64) (p:=q1) (c:=d1) (l:=ch) (i:=m) (n:=1) (z:=1) rfl (by omega)) ?_
    rw [e4]
    try rw [e3]
    exact fin (hR _ _)
  ·rw [if_neg e2] at hR
   repeat' first|apply step|(apply gO;·repeat first|exact eZ|(apply eS;exact rfl))|(refine Br.mk (fun _=>?_) (fun _=>?_)<;>try (exfalso;omega))|refine Fa.mk fun _=>?_|refine g_cond ?_|refine g_guard ?_|refine g_keep ?_|refine g_fin ?_
   all_goals first|(refine fin_ent (ent_fnil (K:=kInt .i64)) ?_;exact fin (hR _ _))|(exfalso;omega)
theorem zkA (hf:FewH h 20 60) (hk:OkH h) (w1:-9223372036854775808≤key∧key≤9223372036854775807):Spec prog1 za1 [.agg #[.slice p h.length c],.int .i64 key] [fro kHTx p c h] (fun R=>∀ p' c',R (.slice p' (keyE h key).length c') [own kHEd p' c' (keyE h key)]):=by
 refine spec_code zh6 rfl ?_;intro n F R hR;unfold zbX
 have ok:=of_ok (key:=key) hf hk
 have hSnd:=zfv (p:=p) (c:=c) (key:=key) hf hk
 rw [ok.se] at hSnd
 repeat' first|apply step|(apply gO;·repeat first|exact eZ|(apply eS;exact rfl))|refine Fa.mk fun _=>?_
 rename_i hb
 refine at_callS (zhW (S:=ofS (TH h) key) (L:=agl key (TH h).wt) hf hk w1 ok.se ok.le) ?_
 refine ⟨fun k j hk1 hj1 hb1 w v=>?_,fun hb1 q1 d1 q2 d2=>?_⟩
 ·have hke:keyE h key=[]:=by unfold keyE;rw [hb1]
  rw [hke] at hR
  unfold agA
  repeat' first|apply step|(apply gO;·repeat first|exact eZ|(apply eS;exact rfl))|refine Fa.mk fun _=>?_|refine g_cond ?_|refine g_fin ?_
  exact fin (hR none 0)
 ·have hke:keyE h key=ofE (wK (TH h) key) key (ofS (TH h) key) (chH h key) (rsH h key):=by unfold keyE;rw [hb1]
  rw [hke] at hR
  have how:∀ x,Spec prog1 zc [.agg #[.slice p h.length c],.int .i64 key,.int .i64 x] [fro kHTx p c h] (fun R=>R (.int .i64 (wtx (wK (TH h) key) x)) []):=fun x=>ziZ hf hk
  have hwb:=fun x=>zeI (key:=key) hk x
  have hsl:=ok.sl
  have hll:=ok.ll
  have hcl:∀ l ∈ ofL (wK (TH h) key) (ofS (TH h) key),l.length≤100:=fun l hl=>by
   obtain ⟨r,hr,rfl⟩:=List.mem_map.1 hl
   exact Nat.le_trans (zf _ _) (ok.ll r hr).1.1
  have hchl:(chH h key).length≤100:=zav hcl
  have hrsl:(rsH h key).length≤1200:=by
   unfold rsH restL
   rw [List.length_map]
   exact Nat.le_trans (List.length_filter_le _ _) ok.wt
  have hclr:∀ r ∈ ofS (TH h) key,cleanL (wK (TH h) r.key) r.list=cleanL (wK (TH h) key) r.list:=fun r hr=>by rw [(ok.ll r hr).2]
  dsimp only [List.cons_append,List.nil_append]
  rw [show restL (bestL (ofL (wK (TH h) key) (ofS (TH h) key))) (agl key (TH h).wt)=rsH h key from rfl,show bestL (ofL (wK (TH h) key) (ofS (TH h) key))=chH h key from rfl]
  generalize hW:wK (TH h) key=W at *
  generalize ofS (TH h) key=S at hR hSnd hsl hll hclr
  generalize chH h key=ch at hR hchl ⊢
  generalize rsH h key=rs at hR hrsl ⊢
  refine at_freezeO (K:=kInt .i64) (l:=rs) ?_
  repeat' first|apply step|(apply gO;·repeat first|exact eZ|(apply eS;exact rfl))|refine Fa.mk fun _=>?_|refine g_cond ?_|refine g_keep ?_
  rename_i k2
  have hrdl:∀ n,((S.take n).flatMap (rdE W key ch rs)).length≤1500000:=fun n=>by
   have h1:=zb9 (rdE W key ch rs) 1201 (fun r=>zej hrsl r) (S.take n)
   have h2:(S.take n).length≤1200:=by rw [List.length_take];omega
   have h3:=Nat.mul_le_mul_right 1201 h2
   omega
  unfold ofE at hR
  refine at_loopS (ι:=Nat × (Option Addr × Nat)) (E:=fun z=>[(1,.int .i64 key),(2,.pointer (some ⟨hb,0,none⟩)),(5,.slice z.2.1 (chE W key ch z.1).length z.2.2),(6,.pointer (some ⟨k2,0,none⟩)),(7,.int .i64 ((z.1 + 1:Nat):Int))]) (Δ:=fun z=>own kHEd z.2.1 z.2.2 (chE W key ch z.1)::pt k2 [.int .i64 key,.slice q1 ch.length d1,.slice q2 rs.length d2,.bool false,.int .i64 0,.int .i64 0,.int .i64 0,.slice none 0 0,.slice none 0 0,.int .i64 0,.int .i64 0,.int .i64 0,.slice none 0 0,.slice none 0 0] 0::fro (kInt .i64) q1 d1 ch::fro (kInt .i64) q2 d2 rs::pt hb [.slice p h.length c] 0::fro kHTx p c h::F) (P:=fun z=>z.1≤ch.length - 1) (μ:=fun z=>ch.length - z.1) (0,(none,0)) (Nat.zero_le _) ?_
  rintro ⟨i,p3,c3⟩ hi
  dsimp only at hi ⊢
  have hcE:(chE W key ch i).length=i:=by unfold chE;simp
  rcases Nat.lt_or_ge (i + 1) ch.length with hlt|hge
  ·have hnx:=zlQ (key:=key) W ch i
   rw [getD_lt (by omega:i < ch.length),getD_lt hlt] at hnx
   have e1:(((i + 1:Nat):Int) - 1).toNat=i:=by omega
   have hb1:=hwb (ch[i]'(by omega))
   have hb2:=hwb ch[i + 1]
   unfold bI at hb1 hb2
   obtain ⟨O,hOe⟩:∃ O,chE W key ch i=O:=⟨_,rfl⟩
   rw [hOe] at hnx hcE ⊢
   repeat' first|apply step|(apply gO;·repeat first|exact eZ|(apply eS;exact rfl))|(refine Br.mk (fun _=>?_) (fun _=>?_)<;>try (exfalso;omega))|(refine Sd.mk ?_ ?_;·exact qD)|(refine Sx.mk ?_ ?_;·omega)|refine Im.mk fun _=>?_|refine g_cond ?_|refine g_keep ?_
   simp only [e1] at *
   repeat' first|apply step
   refine at_callR (how (ch[i]'(by omega))) ?_
   repeat' first|apply step|(apply gO;·repeat first|exact eZ|(apply eS;exact rfl))|apply Lw.go
   refine at_callR (how ch[i + 1]) ?_
   repeat' first|apply step|(apply gO;·repeat first|exact eZ|(apply eS;exact rfl))|(refine Sd.mk ?_ ?_;·exact qD)|refine Fa.mk fun _=>?_|apply Lw.go|refine g_keep ?_
   exact lp_next (i + 1,_,_) (by first|omega|(dsimp only;omega)) (by first|omega|(dsimp only;omega)) (by first|(dsimp only;rw [hnx];done)|(dsimp only;rw [hnx];rfl)|(rw [hnx];rfl)|rw [hnx]) (by try dsimp only;rw [hnx];repeat first|exact Ent.refl _|(apply Ent.more;· repeat first|exact Ent.keep|exact Ent.here|exact Ent.lend|exact ent_nil|apply Ent.there)|apply Ent.drop)
  have e:i=ch.length - 1:=by omega
  subst e
  obtain ⟨O0,hO0⟩:∃ O,chE W key ch (ch.length - 1)=O:=⟨_,rfl⟩
  rw [hO0] at hR hcE ⊢
  have hrE:∀ n,(rsE W key (lastD ch) (rs.take n)).length≤1200:=fun n=>by unfold rsE;rw [List.length_map,List.length_take];omega
  obtain ⟨O1,hO1⟩:∃ O,(O0++if 0 < ch.length then rsE W key (lastD ch) rs else [])=O:=⟨_,rfl⟩
  have hOl:O1.length≤1400:=by
   have:=hrE rs.length
   rw [List.take_of_length_le (Nat.le_refl _)] at this
   rw [← hO1,List.length_append];split <;> simp <;> omega
  rw [← List.append_assoc,hO1] at hR
  repeat (fail_if_success (refine at_cutK (ι:=Unit) (fun _=>[]) (fun _=>[]) (fun _=>True) ?_ ?_));(first|apply step|(apply g_op;· repeat first|exact Evs.nil|(apply Evs.cons;exact rfl))|(refine Br.mk (fun _=>?_) (fun _=>?_) <;> try (exfalso;omega))|(refine Sd.mk ?_ ?_;· ((repeat' apply And.intro) <;> first|omega|trivial|assumption|(simp;done)|(simp;omega)))|(refine Sx.mk ?_ ?_;· omega)|refine Fa.mk (fun _=>?_)|refine Im.mk (fun _=>?_)|apply Lw.go|refine g_cond ?_|refine g_guard ?_|refine g_keep ?_|refine g_pass ?_|refine g_fin ?_|(apply g_ap;exact rfl;exact rfl;assumption))
  refine at_cutK (E:=fun (z:Option Addr × Nat)=>[(1,.int .i64 key),(2,.pointer (some ⟨hb,0,none⟩)),(5,.slice z.1 O1.length z.2),(6,.pointer (some ⟨k2,0,none⟩))]) (Δ:=fun z=>own kHEd z.1 z.2 O1::pt k2 [.int .i64 key,.slice q1 ch.length d1,.slice q2 rs.length d2,.bool false,.int .i64 0,.int .i64 0,.int .i64 0,.slice none 0 0,.slice none 0 0,.int .i64 0,.int .i64 0,.int .i64 0,.slice none 0 0,.slice none 0 0] 0::fro (kInt .i64) q1 d1 ch::fro (kInt .i64) q2 d2 rs::pt hb [.slice p h.length c] 0::fro kHTx p c h::F) (P:=fun _=>True) ?_ ?_
  ·repeat' first|apply step|(apply gO;·repeat first|exact eZ|(apply eS;exact rfl))|refine g_keep ?_
   refine at_loopS (ι:=Nat × (Option Addr × Nat)) (E:=fun z=>[(1,.int .i64 key),(2,.pointer (some ⟨hb,0,none⟩)),(5,.slice z.2.1 (O0++if 0 < ch.length then rsE W key (lastD ch) (rs.take z.1) else []).length z.2.2),(6,.pointer (some ⟨k2,0,none⟩)),(10,.int .i64 (z.1:Int))]) (Δ:=fun z=>own kHEd z.2.1 z.2.2 (O0++if 0 < ch.length then rsE W key (lastD ch) (rs.take z.1) else [])::pt k2 [.int .i64 key,.slice q1 ch.length d1,.slice q2 rs.length d2,.bool false,.int .i64 0,.int .i64 0,.int .i64 0,.slice none 0 0,.slice none 0 0,.int .i64 0,.int .i64 0,.int .i64 0,.slice none 0 0,.slice none 0 0] 0::fro (kInt .i64) q1 d1 ch::fro (kInt .i64) q2 d2 rs::pt hb [.slice p h.length c] 0::fro kHTx p c h::F) (P:=fun z=>z.1≤rs.length) (μ:=fun z=>rs.length - z.1) (0,(p3,c3)) (Nat.zero_le _) ?_ (by dsimp only;rw [show (if 0 < ch.length then rsE W key (lastD ch) (rs.take 0) else [])=[] by split <;> rfl,List.append_nil];rfl) (by dsimp only;rw [show (if 0 < ch.length then rsE W key (lastD ch) (rs.take 0) else [])=[] by split <;> rfl,List.append_nil];repeat first|exact Ent.refl _|(apply Ent.more;· repeat first|exact Ent.keep|exact Ent.here|exact Ent.lend|exact ent_nil|apply Ent.there)|apply Ent.drop)
   rintro ⟨j,p4,c4⟩ hj
   dsimp only at hj ⊢
   by_cases hgo:j < rs.length∧0 < ch.length
   ·obtain ⟨hlj,hc0⟩:=hgo
    have iL:((ch.length:Int) - 1).toNat < ch.length:=by omega
    have hld:=zd5 iL
    rw [if_pos hc0]
    have hnx:=zj4 (key:=key) (W:=W) (x:=lastD ch) hlj
    have hrl:=hrE j
    have hb1:=hwb (ch[((ch.length:Int) - 1).toNat])
    have hb2:=hwb rs[j]
    unfold bI at hb1 hb2
    generalize rsE W key (lastD ch) (rs.take j)=O1 at hnx hrl ⊢
    have hOl:(O0++O1).length≤1400:=by rw [List.length_append];omega
    rw [hld] at hnx
    repeat' first|apply step|(apply gO;·repeat first|exact eZ|(apply eS;exact rfl))|(refine Br.mk (fun _=>?_) (fun _=>?_)<;>try (exfalso;omega))|(refine Sd.mk ?_ ?_;·exact qD)|(refine Sx.mk ?_ ?_;·omega)|refine Im.mk fun _=>?_|refine g_cond ?_|refine g_guard ?_|refine g_keep ?_
    all_goals try (exfalso;omega)
    refine at_callR (how (ch[((ch.length:Int) - 1).toNat])) ?_
    repeat' first|apply step|(apply gO;·repeat first|exact eZ|(apply eS;exact rfl))|apply Lw.go
    refine at_callR (how rs[j]) ?_
    repeat' first|apply step|(apply gO;·repeat first|exact eZ|(apply eS;exact rfl))|(refine Sd.mk ?_ ?_;·exact qD)|refine Fa.mk fun _=>?_|apply Lw.go|refine g_keep ?_
    have hnx3:(O0++if 0 < ch.length then rsE W key (lastD ch) (rs.take (j + 1)) else [])=(O0++O1)++[⟨wtx W (ch[((ch.length:Int) - 1).toNat]),wtx W rs[j],1,key,ch[((ch.length:Int) - 1).toNat],rs[j]⟩]:=by rw [if_pos hc0,hld,hnx,List.append_assoc]
    exact lp_next (j + 1,_,_) (by first|omega|(dsimp only;omega)) (by first|omega|(dsimp only;omega)) (by first|(dsimp only;rw [hnx3];done)|(dsimp only;rw [hnx3];rfl)|(rw [hnx3];rfl)|rw [hnx3]) (by try dsimp only;rw [hnx3];repeat first|exact Ent.refl _|(apply Ent.more;· repeat first|exact Ent.keep|exact Ent.here|exact Ent.lend|exact ent_nil|apply Ent.there)|apply Ent.drop)
   have hfin:(O0++if 0 < ch.length then rsE W key (lastD ch) (rs.take j) else [])=O1:=by
    rw [← hO1]
    by_cases hc0:0 < ch.length
    ·rw [List.take_of_length_le (by omega)]
    ·rw [if_neg hc0,if_neg hc0]
   rw [hfin]
   clear hfin hO1
   repeat' first|apply step|(apply gO;·repeat first|exact eZ|(apply eS;exact rfl))|(refine Br.mk (fun _=>?_) (fun _=>?_)<;>try (exfalso;omega))|refine g_cond ?_|refine g_guard ?_|refine g_keep ?_
   all_goals try (exfalso;omega)
   all_goals exact cut_end (_,_) trivial
  rintro ⟨p4,c4⟩ -
  dsimp only
  repeat' first|apply step|(apply gO;·repeat first|exact eZ|(apply eS;exact rfl))
  refine at_callS (hSnd) ?_
  intro ps cs
  repeat' first|apply step|(apply gO;·repeat first|exact eZ|(apply eS;exact rfl))|refine g_keep ?_
  refine at_loopS (ι:=Nat × (Option Addr × Nat)) (E:=fun z=>[(1,.int .i64 key),(2,.pointer (some ⟨hb,0,none⟩)),(5,.slice z.2.1 (O1++(S.take z.1).flatMap (rdE W key ch rs)).length z.2.2),(6,.pointer (some ⟨k2,0,none⟩)),(13,.slice ps S.length cs),(14,.int .i64 (z.1:Int))]) (Δ:=fun z=>own kHEd z.2.1 z.2.2 (O1++(S.take z.1).flatMap (rdE W key ch rs))::own kHRd ps cs S::pt k2 [.int .i64 key,.slice q1 ch.length d1,.slice q2 rs.length d2,.bool false,.int .i64 0,.int .i64 0,.int .i64 0,.slice none 0 0,.slice none 0 0,.int .i64 0,.int .i64 0,.int .i64 0,.slice none 0 0,.slice none 0 0] 0::fro (kInt .i64) q1 d1 ch::fro (kInt .i64) q2 d2 rs::pt hb [.slice p h.length c] 0::fro kHTx p c h::F) (P:=fun z=>z.1≤S.length) (μ:=fun z=>S.length - z.1) (0,(p4,c4)) (Nat.zero_le _) ?_ (by dsimp only;rw [List.take_zero,List.flatMap_nil,List.append_nil];rfl) (by dsimp only;rw [List.take_zero,List.flatMap_nil,List.append_nil];repeat first|exact Ent.refl _|(apply Ent.more;· repeat first|exact Ent.keep|exact Ent.here|exact Ent.lend|exact ent_nil|apply Ent.there)|apply Ent.drop)
  rintro ⟨n1,p5,c5⟩ hn1
  dsimp only at hn1 ⊢
  rcases Nat.lt_or_ge n1 S.length with hln|hgn
  ·have hnx:=zeY (rdE W key ch rs) hln
   have hrl:=hrdl n1
   obtain ⟨⟨k1,k3⟩,k4⟩:=hll S[n1] (List.getElem_mem _)
   have hcr:=hclr S[n1] (List.getElem_mem _)
   obtain ⟨O2,hO2⟩:∃ O,O1++(S.take n1).flatMap (rdE W key ch rs)=O:=⟨_,rfl⟩
   have hO2l:O2.length≤1501400:=by rw [← hO2,List.length_append];omega
   have hnx2:O1++(S.take (n1 + 1)).flatMap (rdE W key ch rs)=O2++(frE W key S[n1]++rwE W key S[n1] (nxI ch rs (cleanL W S[n1].list).length)):=by rw [hnx,← List.append_assoc,hO2];rfl
   rw [hO2]
   have hfl:=zQ S[n1]
   repeat' first|apply step|(apply gO;·repeat first|exact eZ|(apply eS;exact rfl))|(refine Br.mk (fun _=>?_) (fun _=>?_)<;>try (exfalso;omega))|(refine Sd.mk ?_ ?_;·exact qD)|(refine Sx.mk ?_ ?_;·omega)|refine Fa.mk fun _=>?_|refine Im.mk fun _=>?_|refine g_cond ?_
   rename_i w0 _ rb
   refine at_callR (zeM (r:=S[n1]) (by omega) (by omega)) ?_
   intro pf cf
   refine Lw.go ?_
   refine at_freezeO (K:=kInt .i64) (l:=frontL S[n1]) ?_
   repeat' first|apply step|(apply gO;·repeat first|exact eZ|(apply eS;exact rfl))
   have hc1:=zbk (p:=p) (c:=c) (r:=⟨0,0,key,frontL S[n1],[]⟩) (p1:=pf) (c1:=cf) (p2:=none) (c2:=0) hf hk (by dsimp only;omega)
   dsimp only at hc1
   rw [hW] at hc1
   refine at_callS (hc1) ?_
   intro pa ca
   have hcf:(cleanL W (frontL S[n1])).length≤100:=Nat.le_trans (zf _ _) (by omega)
   obtain ⟨O3,hO3⟩:∃ O,O2++frE W key S[n1]=O:=⟨_,rfl⟩
   have hO3l:O3.length≤1501401:=by
    rw [← hO3];unfold frE;rw [List.length_append];split <;> simp <;> omega
   rw [← List.append_assoc,hO3] at hnx2
   repeat (fail_if_success (refine at_cutK (ι:=Unit) (fun _=>[]) (fun _=>[]) (fun _=>True) ?_ ?_));(first|apply step|(apply g_op;· repeat first|exact Evs.nil|(apply Evs.cons;exact rfl))|(refine Br.mk (fun _=>?_) (fun _=>?_) <;> try (exfalso;omega))|(refine Sd.mk ?_ ?_;· ((repeat' apply And.intro) <;> first|omega|trivial|assumption|(simp;done)|(simp;omega)))|(refine Sx.mk ?_ ?_;· omega)|refine Fa.mk (fun _=>?_)|refine Im.mk (fun _=>?_)|apply Lw.go|refine g_cond ?_|refine g_guard ?_|refine g_keep ?_|refine g_pass ?_|refine g_fin ?_|(apply g_ap;exact rfl;exact rfl;assumption))
   refine at_cutK (E:=fun (z:Option Addr × Nat)=>[(1,.int .i64 key),(2,.pointer (some ⟨hb,0,none⟩)),(5,.slice z.1 O3.length z.2),(6,.pointer (some ⟨k2,0,none⟩)),(13,.slice ps S.length cs),(14,.int .i64 (n1:Int)),(15,.pointer (some ⟨rb,0,none⟩))]) (Δ:=fun z=>own kHEd z.1 z.2 O3::pt rb [.int .i64 S[n1].txn,.int .i64 S[n1].op,.int .i64 S[n1].key,.slice w0.1.1 S[n1].list.length w0.1.2,.slice w0.2.1 S[n1].own.length w0.2.2] 0::fro (kInt .i64) w0.1.1 w0.1.2 S[n1].list::own kHRd ps cs S::pt k2 [.int .i64 key,.slice q1 ch.length d1,.slice q2 rs.length d2,.bool false,.int .i64 0,.int .i64 0,.int .i64 0,.slice none 0 0,.slice none 0 0,.int .i64 0,.int .i64 0,.int .i64 0,.slice none 0 0,.slice none 0 0] 0::fro (kInt .i64) q1 d1 ch::fro (kInt .i64) q2 d2 rs::pt hb [.slice p h.length c] 0::fro kHTx p c h::F) (P:=fun _=>True) ?_ ?_
   ·by_cases hcp:0 < (cleanL W (frontL S[n1])).length
    ·have hi3:(((cleanL W (frontL S[n1])).length:Int) - 1).toNat < (cleanL W (frontL S[n1])).length:=by omega
     rw [ziR (key:=key) (r:=S[n1]) hi3] at hO3
     have hb1:=hwb ((cleanL W (frontL S[n1]))[(((cleanL W (frontL S[n1])).length:Int) - 1).toNat])
     unfold bI at hb1
     repeat' first|apply step|(apply gO;·repeat first|exact eZ|(apply eS;exact rfl))|(refine Br.mk (fun _=>?_) (fun _=>?_)<;>try (exfalso;omega))|(refine Sd.mk ?_ ?_;·exact qD)|(refine Sx.mk ?_ ?_;·omega)|refine Im.mk fun _=>?_|refine g_cond ?_|refine g_keep ?_
     refine at_callR (how ((cleanL W (frontL S[n1]))[(((cleanL W (frontL S[n1])).length:Int) - 1).toNat])) ?_
     repeat' first|apply step|(apply gO;·repeat first|exact eZ|(apply eS;exact rfl))|(refine Sd.mk ?_ ?_;·exact qD)|refine Fa.mk fun _=>?_|apply Lw.go|refine g_keep ?_
     rw [hO3]
     exact cut_end (_,_) trivial
    ·rw [zi7 (key:=key) (W:=W) (r:=S[n1]) (by omega),List.append_nil] at hO3
     rw [hO3]
     repeat' first|apply step|(apply gO;·repeat first|exact eZ|(apply eS;exact rfl))|(refine Br.mk (fun _=>?_) (fun _=>?_)<;>try (exfalso;omega))|refine g_cond ?_|refine g_keep ?_
     exact cut_end (_,_) trivial
   rintro ⟨p6,c6⟩ -
   dsimp only
   repeat' first|apply step|(apply gO;·repeat first|exact eZ|(apply eS;exact rfl))
   refine at_callS (zbk (r:=S[n1]) hf hk (by omega)) ?_
   intro pb cb
   rw [hcr]
   have hcl2:(cleanL W S[n1].list).length≤100:=Nat.le_trans (zf _ _) (by omega)
   have hnl:=zfN (ch:=ch) (n:=(cleanL W S[n1].list).length) hrsl
   obtain ⟨ld,hld⟩:∃ x,lastD (cleanL W S[n1].list)=x:=⟨_,rfl⟩
   have hNx:=zhk (key:=key) (q1:=q1) (q2:=q2) (d1:=d1) (d2:=d2) (ch:=ch) (rs:=rs) (m:=(cleanL W S[n1].list).length) (by omega) (by omega)
   obtain ⟨Y,hY⟩:∃ Y,nxI ch rs (cleanL W S[n1].list).length=Y:=⟨_,rfl⟩
   have hwn:∀ {m:Nat} (hm:m < Y.length),rwE W key S[n1] (Y.take (m + 1))=rwE W key S[n1] (Y.take m)++[⟨S[n1].txn,wtx W Y[m],4,key,ld,Y[m]⟩]:=fun hm=>by rw [zlH hm,hld]
   rw [hY] at hNx hnx2 hnl
   generalize cleanL W S[n1].list=B at hld hNx hcl2 ⊢
   repeat (fail_if_success (refine at_cutK (ι:=Unit) (fun _=>[]) (fun _=>[]) (fun _=>True) ?_ ?_));(first|apply step|(apply g_op;· repeat first|exact Evs.nil|(apply Evs.cons;exact rfl))|(refine Br.mk (fun _=>?_) (fun _=>?_) <;> try (exfalso;omega))|(refine Sd.mk ?_ ?_;· ((repeat' apply And.intro) <;> first|omega|trivial|assumption|(simp;done)|(simp;omega)))|(refine Sx.mk ?_ ?_;· omega)|refine Fa.mk (fun _=>?_)|refine Im.mk (fun _=>?_)|apply Lw.go|refine g_cond ?_|refine g_guard ?_|refine g_keep ?_|refine g_pass ?_|refine g_fin ?_|(apply g_ap;exact rfl;exact rfl;assumption))
   refine at_cutK (E:=fun (z:Unit)=>[(1,.int .i64 key),(2,.pointer (some ⟨hb,0,none⟩)),(5,.slice p6 O3.length c6),(6,.pointer (some ⟨k2,0,none⟩)),(13,.slice ps S.length cs),(14,.int .i64 (n1:Int)),(15,.pointer (some ⟨rb,0,none⟩)),(18,.slice pb B.length cb),(19,.int .i64 ld)]) (Δ:=fun z=>own kHEd p6 c6 O3::own (kInt .i64) pb cb B::pt rb [.int .i64 S[n1].txn,.int .i64 S[n1].op,.int .i64 S[n1].key,.slice w0.1.1 S[n1].list.length w0.1.2,.slice w0.2.1 S[n1].own.length w0.2.2] 0::fro (kInt .i64) w0.1.1 w0.1.2 S[n1].list::own kHRd ps cs S::pt k2 [.int .i64 key,.slice q1 ch.length d1,.slice q2 rs.length d2,.bool false,.int .i64 0,.int .i64 0,.int .i64 0,.slice none 0 0,.slice none 0 0,.int .i64 0,.int .i64 0,.int .i64 0,.slice none 0 0,.slice none 0 0] 0::fro (kInt .i64) q1 d1 ch::fro (kInt .i64) q2 d2 rs::pt hb [.slice p h.length c] 0::fro kHTx p c h::F) (P:=fun _=>bI ld) ?_ ?_
   ·by_cases hcq:0 < B.length
    ·have hi4:((B.length:Int) - 1).toNat < B.length:=by omega
     rw [zd5 hi4] at hld
     repeat' first|apply step|(apply gO;·repeat first|exact eZ|(apply eS;exact rfl))|(refine Br.mk (fun _=>?_) (fun _=>?_)<;>try (exfalso;omega))|(refine Sd.mk ?_ ?_;·exact qD)|(refine Sx.mk ?_ ?_;·omega)|refine Im.mk fun _=>?_|refine g_cond ?_|refine g_keep ?_
     rw [hld]
     exact cut_end () (by rw [← hld];unfold bI;omega)
    ·rw [List.eq_nil_of_length_eq_zero (by omega:B.length=0)] at hld
     rw [show lastD []=-1 from rfl] at hld
     repeat' first|apply step|(apply gO;·repeat first|exact eZ|(apply eS;exact rfl))|(refine Br.mk (fun _=>?_) (fun _=>?_)<;>try (exfalso;omega))|refine g_cond ?_|refine g_keep ?_
     rw [← hld]
     exact cut_end () ⟨by decide,by decide⟩
   rintro ⟨⟩ hbl
   unfold bI at hbl
   repeat' first|apply step|(apply gO;·repeat first|exact eZ|(apply eS;exact rfl))
   refine at_callR (hNx) ?_
   intro qy dy
   repeat' first|apply step|(apply gO;·repeat first|exact eZ|(apply eS;exact rfl))|apply Lw.go|refine g_keep ?_
   have hrw:∀ m,(rwE W key S[n1] (Y.take m)).length≤1200:=fun m=>by unfold rwE;rw [List.length_map,List.length_take];omega
   refine at_loopS (ι:=Nat × (Option Addr × Nat)) (E:=fun z=>[(1,.int .i64 key),(2,.pointer (some ⟨hb,0,none⟩)),(5,.slice z.2.1 (O3++rwE W key S[n1] (Y.take z.1)).length z.2.2),(6,.pointer (some ⟨k2,0,none⟩)),(13,.slice ps S.length cs),(14,.int .i64 (n1:Int)),(15,.pointer (some ⟨rb,0,none⟩)),(19,.int .i64 ld),(20,.slice qy Y.length dy),(21,.int .i64 (z.1:Int))]) (Δ:=fun z=>own kHEd z.2.1 z.2.2 (O3++rwE W key S[n1] (Y.take z.1))::fro (kInt .i64) qy dy Y::pt rb [.int .i64 S[n1].txn,.int .i64 S[n1].op,.int .i64 S[n1].key,.slice w0.1.1 S[n1].list.length w0.1.2,.slice w0.2.1 S[n1].own.length w0.2.2] 0::fro (kInt .i64) w0.1.1 w0.1.2 S[n1].list::own kHRd ps cs S::pt k2 [.int .i64 key,.slice q1 ch.length d1,.slice q2 rs.length d2,.bool false,.int .i64 0,.int .i64 0,.int .i64 0,.slice none 0 0,.slice none 0 0,.int .i64 0,.int .i64 0,.int .i64 0,.slice none 0 0,.slice none 0 0] 0::fro (kInt .i64) q1 d1 ch::fro (kInt .i64) q2 d2 rs::pt hb [.slice p h.length c] 0::fro kHTx p c h::F) (P:=fun z=>z.1≤Y.length) (μ:=fun z=>Y.length - z.1) (0,(p6,c6)) (Nat.zero_le _) ?_ (by dsimp only;rw [List.take_zero,show rwE W key S[n1] []=[] from rfl,List.append_nil];rfl) (by dsimp only;rw [List.take_zero,show rwE W key S[n1] []=[] from rfl,List.append_nil];repeat first|exact Ent.refl _|(apply Ent.more;· repeat first|exact Ent.keep|exact Ent.here|exact Ent.lend|exact ent_nil|apply Ent.there)|apply Ent.drop)
   rintro ⟨m,p7,c7⟩ hm
   dsimp only at hm ⊢
   have hrm:=hrw m
   obtain ⟨O4,hO4⟩:∃ O,O3++rwE W key S[n1] (Y.take m)=O:=⟨_,rfl⟩
   have hO4l:O4.length≤1502700:=by rw [← hO4,List.length_append];omega
   rcases Nat.lt_or_ge m Y.length with hlm|hgm
   ·have hnx4:O3++rwE W key S[n1] (Y.take (m + 1))=O4++[⟨S[n1].txn,wtx W Y[m],4,key,ld,Y[m]⟩]:=by rw [hwn hlm,← List.append_assoc,hO4]
    have hb2:=hwb Y[m]
    unfold bI at hb2
    rw [hO4]
    repeat' first|apply step|(apply gO;·repeat first|exact eZ|(apply eS;exact rfl))|(refine Br.mk (fun _=>?_) (fun _=>?_)<;>try (exfalso;omega))|(refine Sd.mk ?_ ?_;·exact qD)|(refine Sx.mk ?_ ?_;·omega)|refine Im.mk fun _=>?_|refine g_cond ?_
    refine at_callR (how Y[m]) ?_
    repeat' first|apply step|(apply gO;·repeat first|exact eZ|(apply eS;exact rfl))|(refine Sd.mk ?_ ?_;·exact qD)|(refine Sx.mk ?_ ?_;·omega)|refine Fa.mk fun _=>?_|refine Im.mk fun _=>?_|apply Lw.go|refine g_keep ?_
    exact lp_next (m + 1,_,_) (by first|omega|(dsimp only;omega)) (by first|omega|(dsimp only;omega)) (by first|(dsimp only;rw [hnx4];done)|(dsimp only;rw [hnx4];rfl)|(rw [hnx4];rfl)|rw [hnx4]) (by try dsimp only;rw [hnx4];repeat first|exact Ent.refl _|(apply Ent.more;· repeat first|exact Ent.keep|exact Ent.here|exact Ent.lend|exact ent_nil|apply Ent.there)|apply Ent.drop)
   ·rw [List.take_of_length_le hgm] at hO4 ⊢
    rw [← hnx2]
    repeat' first|apply step|(apply gO;·repeat first|exact eZ|(apply eS;exact rfl))|(refine Br.mk (fun _=>?_) (fun _=>?_)<;>try (exfalso;omega))|(refine Sd.mk ?_ ?_;·exact qD)|refine g_cond ?_|refine g_keep ?_
    exact lp_next (n1 + 1,_,_) (by first|omega|(dsimp only;omega)) (by first|omega|(dsimp only;omega))
  ·rw [List.take_of_length_le hgn]
   repeat' first|apply step|(apply gO;·repeat first|exact eZ|(apply eS;exact rfl))|(refine Br.mk (fun _=>?_) (fun _=>?_)<;>try (exfalso;omega))|refine g_cond ?_|refine g_keep ?_|refine g_fin ?_
   exact fin (hR _ _)
end
end Go.AMS

namespace Go.AMS
open Go.AM hiding Kt At WP WL Runs RunsY
open Go.AM.G
set_option linter.unusedVariables false
set_option linter.unusedSimpArgs false
set_option linter.unusedSectionVars false
set_option maxRecDepth 100000
set_option maxHeartbeats 1000000
attribute [local irreducible] AtS AtV AtC AtG FinA Spec Post LP G.At G.WP G.WL pt own fro rdl ro hx mp lrec elt sub

open Go.AM.G.Set Go.AM.G.Pre
section
variable {h:List HTx} {p q pk:Option Addr} {c d ck:Nat} {key:Int} {keys:List Int}
theorem zhX (W:Wf) (ch:List Int) (n:Nat):(chE W key ch n).length=n:=by unfold chE;simp
theorem zef (hf:FewH h 20 60) (hk:OkH h):(chH h key).length≤100:=zav fun l hl=>by
 obtain ⟨r,hr,rfl⟩:=List.mem_map.1 hl
 exact Nat.le_trans (zf _ _) ((of_ok hf hk).ll r hr).1.1
theorem zfO (hf:FewH h 20 60) (hk:OkH h):(rsH h key).length≤1200:=by
 unfold rsH restL
 rw [List.length_map]
 exact Nat.le_trans (List.length_filter_le _ _) (of_ok hf hk).wt
theorem zfk (hf:FewH h 20 60) (hk:OkH h):(keyE h key).length≤1501400:=by
 unfold keyE
 split
 ·unfold ofE
  rw [List.length_append,List.length_append,zhX]
  have h1:=zef (key:=key) hf hk
  have h2:=zfO (key:=key) hf hk
  have h3:=zb9 (rdE (wK (TH h) key) key (chH h key) (rsH h key)) 1201 (fun r=>zej h2 r) (ofS (TH h) key)
  have h4:=(of_ok (key:=key) hf hk).sl
  have h5:=Nat.mul_le_mul_right 1201 h4
  have h6:(if 0 < (chH h key).length then rsE (wK (TH h) key) key (lastD (chH h key)) (rsH h key) else []).length≤1200:=by
   split
   ·unfold rsE;rw [List.length_map];exact h2
   ·simp
  omega
 ·simp
theorem wr_bI (hk:OkH h) {x:Int} {w:HWr} (hw:wK (TH h) key x=some w):bI x:=by
 obtain ⟨t,ht,i,hi,⟨g1,g2,g3⟩,_⟩:=wr_at hk hw
 have hmo:=(hk.m t ht).2 _ (List.getElem_mem hi)
 unfold mayO at hmo
 rw [g1] at hmo
 have h2:mayN t.ops[i].value∧t.ops[i].list=[]:=by simpa using hmo.2
 unfold mayN at h2
 unfold bI;omega
theorem zp (hk:OkH h) {u x:Int} (ho:ownsP (wK (TH h) key) u x):bI u∧bI x:=by
 obtain ⟨w,hw,_⟩:=id ho
 have:=zeI (key:=key) hk x
 rw [zat ho] at this
 exact ⟨this,wr_bI hk hw⟩
theorem zkk {l:List Int} (hl:∀ x ∈ l,bI x):bI (lastD l):=by
 unfold lastD
 cases hq:l.getLast? with
 | none=>exact ⟨by decide,by decide⟩
 | some x=>exact hl x (List.mem_of_getLast? hq)
theorem zin (hk:OkH h) {r:HRd} (hr:r ∈ ofS (TH h) key):∀ x ∈ cleanL (wK (TH h) key) r.list,bI x:=fun x hx=>by
 obtain ⟨h1,_⟩:=List.mem_filter.1 hx
 obtain ⟨_,k2⟩:=zdA (zed hr)
 obtain ⟨w,hw⟩:=zbx k2 x h1
 exact wr_bI hk hw
theorem zgc (hf:FewH h 20 60) (hk:OkH h) (hy:bI key) {x:HEd} (hx:x ∈ keyE h key):bE x:=by
 unfold keyE at hx
 split at hx
 ·obtain ⟨e,hj⟩:=(zdP zdJ (zdR hf hk) zdu (zdZ hk) x).1 hx
  have hn:∀ n:Int,n=1∨n=2∨n=4→bI n:=fun n hn=>by unfold bI;omega
  unfold bE
  rw [e]
  rcases hj with ⟨e2,i,_,_,h1,h2⟩|⟨e2,e3,h1,r,hr,h2,_⟩|⟨e2,h1,r,hr,h2,h3,_⟩
  ·exact ⟨(zp hk h1).1,(zp hk h2).1,hn _ (by omega),hy,(zp hk h1).2,(zp hk h2).2⟩
  ·rw [e3,← h2]
   exact ⟨(zp hk h1).1,((of_ok hf hk).bd r hr).1,hn _ (by omega),hy,(zp hk h1).2,by decide,by decide⟩
  ·rw [← h2,← h3]
   exact ⟨((of_ok hf hk).bd r hr).1,(zp hk h1).1,hn _ (by omega),hy,zkk (zin hk hr),(zp hk h1).2⟩
 ·cases hx
theorem zcr (hf:FewH h 20 60) (hk:OkH h):∀ keys:List Int,(allE h keys).length≤keys.length * 1501400:=fun keys=>by
 unfold allE
 exact zb9 _ 1501400 (fun k=>Nat.le_trans (List.length_filter_le _ _) (zfk hf hk)) keys
theorem zdH (hf:FewH h 20 60) (hk:OkH h) {keys:List Int} (hy:∀ k ∈ keys,bI k) {x:HEd} (hx:x ∈ allE h keys):bE x:=by
 obtain ⟨k,h0,h1⟩:=List.mem_flatMap.1 hx
 exact zgc hf hk (hy k h0) (List.mem_filter.1 h1).1
theorem zkx {α:Type} (f:α→Bool) {l:List α} {n:Nat} (hn:n < l.length):(l.take (n + 1)).filter f=(l.take n).filter f++if f l[n]=true then [l[n]] else []:=by
 rw [List.take_succ_eq_append_getElem hn,List.filter_append]
 cases hq:f l[n] <;> simp [hq]
theorem zeC (hf:FewH h 20 60) (hk:OkH h) (hl:keys.length≤1200) (hy:∀ k ∈ keys,bI k):Spec prog1 zai [.agg #[.slice p h.length c],.slice pk keys.length ck] [fro kHTx p c h,rdl (kInt .i64) pk keys] (fun R=>∀ Z p' c',SrtI (allE h keys) Z→(∀ x,x ∈ Z ↔ x ∈ allE h keys)→R (.slice p' Z.length c') [own kHEd p' c' Z]):=by
 refine spec_code zkr rfl ?_;intro n F R hR;unfold zcc
 repeat' first|apply step|(apply gO;·repeat first|exact eZ|(apply eS;exact rfl))|refine Fa.mk fun _=>?_|refine g_keep ?_
 rename_i hb
 refine at_loopS (ι:=Nat × (Option Addr × Nat)) (E:=fun z=>[(1,.slice pk keys.length ck),(2,.pointer (some ⟨hb,0,none⟩)),(5,.slice z.2.1 (allE h (keys.take z.1)).length z.2.2),(6,.int .i64 (z.1:Int))]) (Δ:=fun z=>own kHEd z.2.1 z.2.2 (allE h (keys.take z.1))::pt hb [.slice p h.length c] 0::fro kHTx p c h::rdl (kInt .i64) pk keys::F) (P:=fun z=>z.1≤keys.length) (μ:=fun z=>keys.length - z.1) (0,(none,0)) (Nat.zero_le _) ?_
 rintro ⟨i,p3,c3⟩ hi
 dsimp only at hi ⊢
 have hlen:=zcr hf hk (keys.take i)
 have hle:(keys.take i).length * 1501400≤1200 * 1501400:=Nat.mul_le_mul_right _ (by rw [List.length_take];omega)
 rcases Nat.lt_or_ge i keys.length with hlt|hge
 ·have hnx:allE h (keys.take (i + 1))=allE h (keys.take i)++(keyE h keys[i]).filter neE:=zeY (fun key=>(keyE h key).filter neE) hlt
  have hyi:=hy keys[i] (List.getElem_mem _)
  unfold bI at hyi
  have hkl:=zfk (key:=keys[i]) hf hk
  generalize allE h (keys.take i)=O at hnx hlen ⊢
  repeat' first|apply step|(apply gO;·repeat first|exact eZ|(apply eS;exact rfl))|(refine Br.mk (fun _=>?_) (fun _=>?_)<;>try (exfalso;omega))|(refine Sd.mk ?_ ?_;·exact qD)|(refine Sx.mk ?_ ?_;·omega)|refine Im.mk fun _=>?_|refine g_cond ?_
  refine at_callS (zkA (key:=keys[i]) hf hk hyi) ?_
  intro p4 c4
  generalize keyE h keys[i]=Y at hnx hkl ⊢
  repeat' first|apply step|(apply gO;·repeat first|exact eZ|(apply eS;exact rfl))|refine g_keep ?_
  refine at_loopS (ι:=Nat × (Option Addr × Nat)) (E:=fun z=>[(1,.slice pk keys.length ck),(2,.pointer (some ⟨hb,0,none⟩)),(5,.slice z.2.1 (O++(Y.take z.1).filter neE).length z.2.2),(6,.int .i64 (i:Int)),(7,.slice p4 Y.length c4),(8,.int .i64 (z.1:Int))]) (Δ:=fun z=>own kHEd z.2.1 z.2.2 (O++(Y.take z.1).filter neE)::own kHEd p4 c4 Y::pt hb [.slice p h.length c] 0::fro kHTx p c h::rdl (kInt .i64) pk keys::F) (P:=fun z=>z.1≤Y.length) (μ:=fun z=>Y.length - z.1) (0,(p3,c3)) (Nat.zero_le _) ?_ (by dsimp only;rw [List.take_zero,List.filter_nil,List.append_nil];rfl) (by dsimp only;rw [List.take_zero,List.filter_nil,List.append_nil];repeat first|exact Ent.refl _|(apply Ent.more;· repeat first|exact Ent.keep|exact Ent.here|exact Ent.lend|exact ent_nil|apply Ent.there)|apply Ent.drop)
  rintro ⟨j,p5,c5⟩ hj
  dsimp only at hj ⊢
  have hfl:(O++(Y.take j).filter neE).length≤1803181401:=by
   rw [List.length_append]
   have h1:=List.length_filter_le neE (Y.take j)
   rw [List.length_take] at h1
   omega
  rcases Nat.lt_or_ge j Y.length with hlj|hgj
  ·have hn2:=zkx neE hlj
   by_cases hne:Y[j].src=Y[j].dst
   ·rw [show neE Y[j]=false by unfold neE;simp [hne],if_neg (by decide),List.append_nil] at hn2
    repeat' first|apply step|(apply gO;·repeat first|exact eZ|(apply eS;exact rfl))|(refine Br.mk (fun _=>?_) (fun _=>?_)<;>try (exfalso;omega))|(refine Sd.mk ?_ ?_;·exact qD)|(refine Sx.mk ?_ ?_;·omega)|refine Im.mk fun _=>?_|refine g_cond ?_|refine g_keep ?_
    all_goals first|(exfalso;omega)|exact lp_next (j + 1,p5,c5) (by first|omega|(dsimp only;omega)) (by first|omega|(dsimp only;omega)) (by dsimp only;rw [hn2];done) (by dsimp only;rw [hn2];repeat first|exact Ent.refl _|(apply Ent.more;· repeat first|exact Ent.keep|exact Ent.here|exact Ent.lend|exact ent_nil|apply Ent.there)|apply Ent.drop)
   ·rw [show neE Y[j]=true by unfold neE;simp [hne],if_pos rfl] at hn2
    have hn3:O++(Y.take (j + 1)).filter neE=(O++(Y.take j).filter neE)++[Y[j]]:=by rw [hn2,List.append_assoc]
    generalize O++(Y.take j).filter neE=O2 at hn3 hfl ⊢
    have hfl2:O2.length < 20000000000:=by omega
    clear hfl hle hlen
    repeat' first|apply step|(apply gO;·repeat first|exact eZ|(apply eS;exact rfl))|(refine Br.mk (fun _=>?_) (fun _=>?_)<;>try (exfalso;omega))|(refine Sd.mk ?_ ?_;·exact qD)|(refine Sx.mk ?_ ?_;·omega)|refine Fa.mk fun _=>?_|refine Im.mk fun _=>?_|refine g_cond ?_|refine g_keep ?_
    all_goals first|(exfalso;omega)|exact lp_next (j + 1,_,_) (by first|omega|(dsimp only;omega)) (by first|omega|(dsimp only;omega)) (by first|(dsimp only;rw [hn3];done)|(dsimp only;rw [hn3];rfl)) (by try dsimp only;rw [hn3];repeat first|exact Ent.refl _|(apply Ent.more;· repeat first|exact Ent.keep|exact Ent.here|exact Ent.lend|exact ent_nil|apply Ent.there)|apply Ent.drop)
  ·rw [List.take_of_length_le hgj,← hnx]
   repeat' first|apply step|(apply gO;·repeat first|exact eZ|(apply eS;exact rfl))|(refine Br.mk (fun _=>?_) (fun _=>?_)<;>try (exfalso;omega))|(refine Sd.mk ?_ ?_;·exact qD)|refine g_cond ?_|refine g_keep ?_
   exact lp_next (i + 1,_,_) (by first|omega|(dsimp only;omega)) (by first|omega|(dsimp only;omega))
 ·rw [List.take_of_length_le hge] at hlen hle ⊢
  have hbe:=fun x hx=>zdH (x:=x) hf hk hy hx
  generalize allE h keys=O at hlen hR hbe ⊢
  repeat' first|apply step|(apply gO;·repeat first|exact eZ|(apply eS;exact rfl))|(refine Br.mk (fun _=>?_) (fun _=>?_)<;>try (exfalso;omega))|refine g_cond ?_|refine g_keep ?_
  refine at_callR (zkQ (l:=O) (by omega) hbe) ?_
  intro Z p' c' h1 h2
  repeat' first|apply step|(apply gO;·repeat first|exact eZ|(apply eS;exact rfl))|apply Lw.go|refine g_fin ?_
  exact fin (hR Z p' c' h1 h2)
theorem zeJ (hk:OkH h):∀ t ∈ h,∀ o ∈ t.ops,mayN o.key:=fun t ht o ho=>by have:=(hk.m t ht).2 o ho;unfold mayO at this;split at this <;> exact this.1
theorem zdU (hk:OkH h):∀ k ∈ setL (keysH h),bI k:=fun k hx=>by
 have h1:=mem_setL.1 hx
 unfold keysH at h1
 obtain ⟨t,ht,h2⟩:=List.mem_flatMap.1 h1
 obtain ⟨o,ho,rfl⟩:=List.mem_map.1 h2
 have:=zeJ hk t ht o ho
 unfold mayN at this
 unfold bI;omega
theorem zd8 (hf:FewH h 20 60):(setL (keysH h)).length≤60:=Nat.le_trans (setL_le _) (by rw [zbz];exact hf.o)
theorem zfz (hf:FewH h 20 60) (hk:OkH h):Spec prog1 za6 [.agg #[.slice p h.length c]] [fro kHTx p c h] (fun R=>∀ Z p' c',SrtI (allE h (setL (keysH h))) Z→(∀ x,x ∈ Z ↔ x ∈ allE h (setL (keysH h)))→R (.slice p' Z.length c') [own kHEd p' c' Z]):=by
 refine spec_code zkm rfl ?_;intro n F R hR;unfold zdo
 repeat' first|apply step|(apply gO;·repeat first|exact eZ|(apply eS;exact rfl))|refine Fa.mk fun _=>?_
 refine at_callR (zir hf (zeJ hk)) ?_
 intro pk ck
 have hl:(setL (keysH h)).length≤1200:=Nat.le_trans (zd8 hf) (by decide)
 repeat' first|apply step|(apply gO;·repeat first|exact eZ|(apply eS;exact rfl))|apply Lw.go
 refine at_callR (zeC (keys:=setL (keysH h)) hf hk hl (zdU hk)) ?_
 intro Z p' c' h1 h2
 repeat' first|apply step|(apply gO;·repeat first|exact eZ|(apply eS;exact rfl))|apply Lw.go|refine g_fin ?_
 exact fin (hR Z p' c' h1 h2)
end
end Go.AMS

namespace Go.AMS
open Go.AM hiding Kt At WP WL Runs RunsY
open Go.AM.G
set_option linter.unusedVariables false
set_option linter.unusedSimpArgs false
set_option linter.unusedSectionVars false
set_option maxRecDepth 100000
set_option maxHeartbeats 1000000
attribute [local irreducible] AtS AtV AtC AtG FinA Spec Post LP G.At G.WP G.WL pt own fro rdl ro hx mp lrec elt sub

open Go.AM.G.Set Go.AM.G.Pre
section
variable {h:List HTx} {p q pk:Option Addr} {c d ck:Nat} {key:Int} {keys:List Int} {x:HEd}
theorem zf8 (hf:FewH h 20 60) (hk:OkH h) (hx:bE x):Spec prog1 zaO [.agg #[.slice p h.length c],.agg #[.int .i64 x.src,.int .i64 x.dst,.int .i64 x.kind,.int .i64 x.key,.int .i64 x.left,.int .i64 x.right]] [fro kHTx p c h] (fun R=>(x ∈ allE h [x.key]→R (.bool true) [])∧(x ∉ allE h [x.key]→R (.bool false) [])):=by
 refine spec_code zgi rfl ?_;intro n F R hR;unfold zdd
 obtain ⟨hR1,hR2⟩:=hR
 have hx0:=hx
 unfold bE bI at hx
 obtain ⟨hx1,hx2,hx3,hx4,hx5,hx6⟩:=hx
 repeat' first|apply step|(apply gO;·repeat first|exact eZ|(apply eS;exact rfl))|refine Fa.mk fun _=>?_
 rename_i hb xb lb
 refine av_lit lb 1 x.key hx4 ?_
 refine at_callR (zeC (keys:=[x.key]) hf hk (by simp) (fun k hk2=>by rw [List.mem_singleton.1 hk2];exact hx4)) ?_
 intro Z p' c' h1 h2
 have hZ:=h1.len
 have hA:=zcr hf hk [x.key]
 generalize allE h [x.key]=A at hZ hA
 have hZ2:Z.length < 10000000:=by simp only [List.length_cons,List.length_nil] at hA;omega
 clear hZ hA
 rw [← h2] at hR1 hR2
 repeat' first|apply step|(apply gO;·repeat first|exact eZ|(apply eS;exact rfl))|apply Lw.go|refine g_keep ?_
 refine at_loopS (ι:=Nat) (E:=fun i=>[(3,.pointer (some ⟨xb,0,none⟩)),(5,.slice p' Z.length c'),(6,.int .i64 (i:Int))]) (Δ:=fun _=>own kHEd p' c' Z::pt xb [.int .i64 x.src,.int .i64 x.dst,.int .i64 x.kind,.int .i64 x.key,.int .i64 x.left,.int .i64 x.right] 0::F) (P:=fun i=>i≤Z.length∧x ∉ Z.take i) (μ:=fun i=>Z.length - i) 0 ⟨Nat.zero_le _,by simp⟩ ?_
 rintro i ⟨hi,hn⟩
 try dsimp only at hi hn ⊢
 rcases Nat.lt_or_ge i Z.length with hlt|hge
 ·by_cases he:Z[i]=x
  ·have hm:x ∈ Z:=by rw [← he];exact List.getElem_mem _
   have h5:=congrArg HEd.src he
   have h6:=congrArg HEd.dst he
   have h7:=congrArg HEd.kind he
   have h8:=congrArg HEd.key he
   have h9:=congrArg HEd.left he
   have ha:=congrArg HEd.right he
   repeat' first|apply step|(apply gO;·repeat first|exact eZ|(apply eS;exact rfl))|(refine Br.mk (fun _=>?_) (fun _=>?_)<;>try (exfalso;omega))|(refine Sd.mk ?_ ?_;·exact qD)|(refine Sx.mk ?_ ?_;·omega)|refine Fa.mk fun _=>?_|refine Im.mk fun _=>?_|refine g_cond ?_|refine g_fin ?_
   all_goals first|(exact fin (hR1 hm))|(exfalso;rename_i q;exact q (by simp [h5,h6,h7,h8,h9,ha]))|(exfalso;omega)
  ·have hn2:x ∉ Z.take (i + 1):=by
    rw [List.take_succ_eq_append_getElem hlt,List.mem_append,List.mem_singleton]
    rintro (q|q)
    ·exact hn q
    ·exact he q.symm
   have hne:¬ (Z[i].src=x.src∧Z[i].dst=x.dst∧Z[i].kind=x.kind∧Z[i].key=x.key∧Z[i].left=x.left∧Z[i].right=x.right):=by
    rintro ⟨e1,e2,e3,e4,e5,e6⟩
    apply he
    apply ze5
    unfold tupE
    rw [e1,e2,e3,e4,e5,e6]
   repeat' first|apply step|(apply gO;·repeat first|exact eZ|(apply eS;exact rfl))|(refine Br.mk (fun _=>?_) (fun _=>?_)<;>try (exfalso;omega))|(refine Sd.mk ?_ ?_;·exact qD)|(refine Sx.mk ?_ ?_;·omega)|refine Fa.mk fun _=>?_|refine Im.mk fun _=>?_|refine g_cond ?_|refine g_keep ?_
   all_goals first|(exfalso;omega)|exact lp_next (i + 1) ⟨by omega,hn2⟩ (by omega)|trace_state
 ·rw [List.take_of_length_le hge] at hn
  repeat' first|apply step|(apply gO;·repeat first|exact eZ|(apply eS;exact rfl))|(refine Br.mk (fun _=>?_) (fun _=>?_)<;>try (exfalso;omega))|refine g_cond ?_|refine g_keep ?_|refine g_fin ?_
  exact fin (hR2 hn)
end
end Go.AMS

namespace Go.AMS
open Go.AM hiding Kt At WP WL Runs RunsY
open Go.AM.G
set_option linter.unusedVariables false
set_option linter.unusedSimpArgs false
set_option linter.unusedSectionVars false
set_option maxRecDepth 100000
set_option maxHeartbeats 1000000
attribute [local irreducible] AtS AtV AtC AtG FinA Spec Post LP G.At G.WP G.WL pt own fro rdl ro hx mp lrec elt sub

open Go.AM.G.Set Go.AM.G.Pre
section
variable {h:List HTx} {T:Tb} {r:HRd} {l:List Int} {p q p1 p2 p3 q1 q2:Option Addr} {c d c1 c2 c3 d1 d2 b mr mt tb xb kb:Nat} {ch rs:List Int} {key:Int} {x:HEd}
theorem zeu {y:Int} (hl:l.length≤1000000):Spec prog1 zaf [.slice p l.length c,.int .i64 y] [rdl (kInt .i64) p l] (fun R=>(∀ i (hi:i < l.length),l[i]=y→y ∉ l.take i→R (.int .i64 (i:Int)) [])∧(y ∉ l→R (.int .i64 (-1)) [])):=by
 refine spec_code zkl rfl ?_;intro n F R hR;unfold zcy
 obtain ⟨hR1,hR2⟩:=hR
 repeat' first|apply step|(apply gO;·repeat first|exact eZ|(apply eS;exact rfl))|refine g_keep ?_
 refine at_loopS (ι:=Nat) (E:=fun j=>[(0,.slice p l.length c),(1,.int .i64 y),(7,.int .i64 (l.length:Int)),(8,.int .i64 (j:Int))]) (Δ:=fun j=>rdl (kInt .i64) p l::F) (P:=fun j=>j≤l.length∧y ∉ l.take j) (μ:=fun j=>l.length - j) 0 ⟨Nat.zero_le _,by simp⟩ ?_
 rintro j ⟨hj,hne⟩
 try dsimp only
 rcases Nat.lt_or_ge j l.length with hlt|hge
 ·by_cases e:l[j]=y
  ·repeat' first|apply step|(apply gO;·repeat first|exact eZ|(apply eS;exact rfl))|(refine Br.mk (fun _=>?_) (fun _=>?_)<;>try (exfalso;omega))|(refine Sd.mk ?_ ?_;·exact qD)|(refine Sx.mk ?_ ?_;·omega)|refine Im.mk fun _=>?_|refine g_cond ?_|refine g_fin ?_
   all_goals first|exact fin (hR1 j hlt e hne)|(exfalso;omega)
  ·have hn2:y ∉ l.take (j + 1):=by
    rw [List.take_succ_eq_append_getElem hlt,List.mem_append,List.mem_singleton]
    rintro (q|q)
    ·exact hne q
    ·exact e q.symm
   repeat' first|apply step|(apply gO;·repeat first|exact eZ|(apply eS;exact rfl))|(refine Br.mk (fun _=>?_) (fun _=>?_)<;>try (exfalso;omega))|(refine Sd.mk ?_ ?_;·exact qD)|(refine Sx.mk ?_ ?_;·omega)|refine Im.mk fun _=>?_|refine g_cond ?_|refine g_keep ?_
   all_goals first|(exfalso;omega)|exact lp_next (j + 1) ⟨by omega,hn2⟩ (by omega)
 ·rw [List.take_of_length_le hge] at hne
  repeat' first|apply step|(apply gO;·repeat first|exact eZ|(apply eS;exact rfl))|(refine Br.mk (fun _=>?_) (fun _=>?_)<;>try (exfalso;omega))|refine g_cond ?_|refine g_keep ?_|refine g_fin ?_
  exact fin (hR2 hne)
theorem ze7 {y:Int} (hl:l.length≤1000000):Spec prog1 zX [.slice p l.length c,.int .i64 y] [rdl (kInt .i64) p l] (fun R=>R (.bool (decide (y ∈ l))) []):=by
 refine spec_code zhr rfl ?_;intro n F R hR;unfold zbY
 repeat' first|apply step|(apply gO;·repeat first|exact eZ|(apply eS;exact rfl))
 refine at_callR (zeu (y:=y) (l:=l) (p:=p) (c:=c) hl) ?_
 refine ⟨fun i hi e hn=>?_,fun hn=>?_⟩
 ·have hm:y ∈ l:=by rw [← e];exact List.getElem_mem _
  rw [decide_eq_true hm] at hR
  repeat' first|apply step|(apply gO;·repeat first|exact eZ|(apply eS;exact rfl))|(refine Br.mk (fun _=>?_) (fun _=>?_)<;>try (exfalso;omega))|apply Lw.go|refine g_fin ?_
  all_goals first|exact fin hR|(exfalso;omega)
 ·rw [decide_eq_false hn] at hR
  repeat' first|apply step|(apply gO;·repeat first|exact eZ|(apply eS;exact rfl))|(refine Br.mk (fun _=>?_) (fun _=>?_)<;>try (exfalso;omega))|apply Lw.go|refine g_fin ?_
  all_goals first|exact fin hR|(exfalso;omega)
theorem zfr (hl:l.length≤1000000):Spec prog1 zab [.slice p l.length c] [rdl (kInt .i64) p l] (fun R=>R (.int .i64 (lastD l)) []):=by
 refine spec_code zkp rfl ?_;intro n F R hR;unfold zdn
 by_cases h0:0 < l.length
 ·have hi:((l.length:Int) - 1).toNat < l.length:=by omega
  rw [zd5 hi] at hR
  repeat' first|apply step|(apply gO;·repeat first|exact eZ|(apply eS;exact rfl))|(refine Br.mk (fun _=>?_) (fun _=>?_)<;>try (exfalso;omega))|(refine Sd.mk ?_ ?_;·exact qD)|(refine Sx.mk ?_ ?_;·omega)|refine Im.mk fun _=>?_|refine g_cond ?_|refine g_keep ?_|refine g_fin ?_
  all_goals first|exact fin hR|(exfalso;omega)
 ·have e:=List.eq_nil_of_length_eq_zero (by omega:l.length=0)
  subst e
  rw [show lastD []=-1 from rfl] at hR
  repeat' first|apply step|(apply gO;·repeat first|exact eZ|(apply eS;exact rfl))|(refine Br.mk (fun _=>?_) (fun _=>?_)<;>try (exfalso;omega))|refine g_cond ?_|refine g_fin ?_
  all_goals first|exact fin hR|(exfalso;omega)
def ownsB (W:Wf) (u x:Int):Bool:=match W x with
 | some w=>decide (w.txn=u) && !w.ab
 | none=>false
theorem zk {W:Wf} {u x:Int}:ownsB W u x=true ↔ ownsP W u x:=by
 unfold ownsB ownsP
 cases hw:W x with
 | none=>simp
 | some w=>simp
theorem zdT {u k y:Int}:Spec prog1 zi [.pointer (some ⟨b,0,none⟩),.int .i64 u,.int .i64 k,.int .i64 y] [ro (tabC b T mr mt)] (fun R=>R (.bool (ownsB (wK T k) u y)) []):=by
 refine spec_code zhh rfl ?_;intro n F R hR;unfold zcn
 repeat' first|apply step|(apply gO;·repeat first|exact eZ|(apply eS;exact rfl))
 refine at_callR (zdk (T:=T) (mr:=mr) (mt:=mt) (x:=k) (y:=y)) ?_
 rw [show aget (k,y) T.wr=wK T k y from rfl]
 unfold ownsB at hR
 cases hw:wK T k y with
 | none =>
  rw [hw] at hR
  unfold wrO
  repeat' first|apply step|(apply gO;·repeat first|exact eZ|(apply eS;exact rfl))|refine Fa.mk fun _=>?_|apply Lw.go|refine g_guard ?_|refine g_keep ?_|refine g_fin ?_
  all_goals first|exact fin hR|(exfalso;omega)
 | some w =>
  rw [hw] at hR
  unfold wrO
  dsimp only at hR
  by_cases e:w.txn=u
  ·rw [decide_eq_true e,Bool.true_and] at hR
   repeat' first|apply step|(apply gO;·repeat first|exact eZ|(apply eS;exact rfl))|(refine Br.mk (fun _=>?_) (fun _=>?_)<;>try (exfalso;omega))|refine Fa.mk fun _=>?_|apply Lw.go|refine g_guard ?_|refine g_keep ?_|refine g_fin ?_
   all_goals first|exact fin hR|(exfalso;omega)
  ·rw [decide_eq_false e,Bool.false_and] at hR
   repeat' first|apply step|(apply gO;·repeat first|exact eZ|(apply eS;exact rfl))|(refine Br.mk (fun _=>?_) (fun _=>?_)<;>try (exfalso;omega))|refine Fa.mk fun _=>?_|apply Lw.go|refine g_guard ?_|refine g_keep ?_|refine g_fin ?_
   all_goals first|exact fin hR|(exfalso;omega)
theorem zeh {m:Nat} (h1:ch.length≤100000) (h2:rs.length≤100000) (h3:m≤100000) (hb:∀ v ∈ ch,bI v):Spec prog1 zV [.agg #[.int .i64 key,.slice q1 ch.length d1,.slice q2 rs.length d2,.bool false,.int .i64 0,.int .i64 0,.int .i64 0,.slice none 0 0,.slice none 0 0,.int .i64 0,.int .i64 0,.int .i64 0,.slice none 0 0,.slice none 0 0],.int .i64 (m:Int)] [rdl (kInt .i64) q1 ch,rdl (kInt .i64) q2 rs] (fun R=>∀ q' d',R (.slice q' (nxI ch rs m).length d') [own (kInt .i64) q' d' (nxI ch rs m)]):=by
 refine spec_code zlP rfl ?_;intro n F R hR;unfold zco
 unfold nxI at hR
 by_cases e1:m=ch.length
 ·rw [if_pos e1] at hR
  repeat' first|apply step|(apply gO;·repeat first|exact eZ|(apply eS;exact rfl))|(refine Br.mk (fun _=>?_) (fun _=>?_)<;>try (exfalso;omega))|refine Fa.mk fun _=>?_|refine g_cond ?_
  all_goals try (exfalso;omega)
  refine at_callR (zo (l:=rs) (by omega)) ?_
  intro p' c'
  repeat' first|apply step|(apply gO;·repeat first|exact eZ|(apply eS;exact rfl))|apply Lw.go|refine g_fin ?_
  exact fin (hR _ _)
 ·rw [if_neg e1] at hR
  by_cases e2:m < ch.length
  ·rw [if_pos e2,getD_lt e2] at hR
   have hbm:=hb _ (List.getElem_mem e2)
   repeat' first|apply step|(apply gO;·repeat first|exact eZ|(apply eS;exact rfl))|(refine Br.mk (fun _=>?_) (fun _=>?_)<;>try (exfalso;omega))|(refine Sd.mk ?_ ?_;·exact qD)|(refine Sx.mk ?_ ?_;·omega)|refine Fa.mk fun _=>?_|refine Im.mk fun _=>?_|refine g_cond ?_|refine g_guard ?_|refine g_keep ?_|refine g_fin ?_
   all_goals try (exfalso;omega)
   all_goals
    refine fin_via (pt_own (K:=kInt .i64) (l:=[ch[m]]) (cap:=1) rfl inferInstance hbm) ?_
    exact fin (hR _ _)
  ·rw [if_neg e2] at hR
   repeat' first|apply step|(apply gO;·repeat first|exact eZ|(apply eS;exact rfl))|(refine Br.mk (fun _=>?_) (fun _=>?_)<;>try (exfalso;omega))|refine Fa.mk fun _=>?_|refine g_cond ?_|refine g_guard ?_|refine g_keep ?_|refine g_fin ?_
   all_goals first|exact fin (hR _ _)|(exfalso;omega)
end
end Go.AMS

namespace Go.AMS
open Go.AM hiding Kt At WP WL Runs RunsY
open Go.AM.G
set_option linter.unusedVariables false
set_option linter.unusedSimpArgs false
set_option linter.unusedSectionVars false
set_option maxRecDepth 100000
set_option maxHeartbeats 1000000
attribute [local irreducible] AtS AtV AtC AtG FinA Spec Post LP G.At G.WP G.WL pt own fro rdl ro hx mp lrec elt sub

open Go.AM.G.Set Go.AM.G.Pre
section
variable {h:List HTx} {T:Tb} {r:HRd} {l:List Int} {p q p1 p2 p3 q1 q2:Option Addr} {c d c1 c2 c3 d1 d2 b mr mt tb xb kb:Nat} {ch rs:List Int} {key:Int} {x:HEd} {P1 P2 P3 P4 P5 P6:HP}
theorem zek {α:Type} {f:α→Bool} {l:List α} {i:Nat} (hi:i < l.length):(l.take (i + 1)).any f=((l.take i).any f || f l[i]):=by
 rw [List.take_succ_eq_append_getElem hi,List.any_append];simp
theorem zkq {so:Nat} {u1 u2 u3:Value} {Bo:HRd→Bool} {y z:Nat} (hrd:RdOk T) (hsl:(ofS T key).length≤2000)
  (hso:∀ r ∈ ofS T key,∀ p1 c1 p2 c2,Spec prog1 so [.agg #[.int .i64 r.txn,.int .i64 r.op,.int .i64 r.key,.slice p1 r.list.length c1,.slice p2 r.own.length c2],u1,u2] [ro P1,ro P2,ro P3,fro (kInt .i64) p1 c1 r.list,fro (kInt .i64) p2 c2 r.own] (fun R=>R (.bool (Bo r)) [])) :
  Spec prog1 zF [.func (.func zu) #[] #[.pointer (some ⟨y,0,none⟩),.pointer (some ⟨z,0,none⟩)],.func (.func so) #[] #[u1,u2]] [pt y [.pointer (some ⟨b,0,none⟩)] 0,pt z [.int .i64 key] 0,ro (tabC b T mr mt),ro (mapF mr kI kHRd T.rd),P1,P2,ro P3] (fun R=>R (.bool ((ofS T key).any Bo)) []):=by
 refine spec_code ze3 rfl ?_;intro n F R hR;unfold zba
 obtain ⟨hn1,hn2⟩:=hrd key
 repeat' first|apply step|(apply gO;·repeat first|exact eZ|(apply eS;exact rfl))|refine Fa.mk fun _=>?_
 rename_i sb rb
 obtain ⟨I,hI⟩:∃ I:Nat→HP,∀ i,I i=hx fun (_:Unit)=>(((ofS T key).take i).any Bo=false,[pt sb [.func (.func so) #[] #[u1,u2]] 0,pt rb [.bool false] 0,P1,P2,ro P3]):=⟨_,fun _=>rfl⟩
 obtain ⟨J,hJ⟩:∃ J:AX→HP,∀ ax,J ax=hx fun (_:Unit)=>(ax=.ret∧(ofS T key).any Bo=true,[pt rb [.bool true] 0]):=⟨_,fun _=>rfl⟩
 refine at_foldP (I 0) (hI 0) () rfl ?_
 refine at_rfunSD (I:=I) (J:=J) (Po:=[]) (Ps:=[pt y [.pointer (some ⟨b,0,none⟩)] 0,pt z [.int .i64 key] 0,ro (tabC b T mr mt),ro (mapF mr kI kHRd T.rd)]) (ofS T key).length (fun i (d:wR)=>vaRead d (ofS T key)[i]?) (fun i d=>paRead d (ofS T key)[i]?) (fun ly A B h=>?_) (fun i hi d=>by rw [List.getElem?_eq_getElem hi];rfl) ?_ ?_ ?_
 ·exact zdI (L:=agl key T.rd) (key:=key) (x:=y) (y:=z) rfl (by omega) (fun r hr=>⟨⟨by have:=(hn2 r hr).1.1;omega,by have:=(hn2 r hr).1.2;omega⟩,(hn2 r hr).2⟩) h
 ·intro i hi d ly m F'
  rw [List.getElem?_eq_getElem hi]
  have ht:=zek (f:=Bo) hi
  have hin:=hI (i + 1)
  rw [ht] at hin
  have hs:=hso (ofS T key)[i] (List.getElem_mem hi) d.1.1 d.1.2 d.2.1 d.2.2
  have hany:Bo (ofS T key)[i]=true→(ofS T key).any Bo=true:=fun q=>List.any_eq_true.2 ⟨_,List.getElem_mem hi,q⟩
  dsimp only [vaRead,paRead,List.cons_append,List.nil_append]
  refine at_openP (I i) (hI i) ?_
  rintro u hu
  dsimp only [List.cons_append,List.nil_append] at hu ⊢
  rw [hu,Bool.false_or] at hin
  repeat' first|apply step|(apply gO;·repeat first|exact eZ|(apply eS;exact rfl))|refine Fa.mk fun _=>?_
  refine at_callR (hs) ?_
  cases hb:Bo (ofS T key)[i] with
  | true =>
   repeat' first|apply step|(apply gO;·repeat first|exact eZ|(apply eS;exact rfl))|apply Lw.go|refine g_cond ?_
   refine at_foldP (J .ret) (hJ _) () ⟨rfl,hany hb⟩ ?_
   exact y_exit
  | false =>
   rw [hb] at hin
   repeat' first|apply step|apply Lw.go|refine g_cond ?_
   refine at_foldP (I (i + 1)) hin () rfl ?_
   exact y_next
 ·refine at_openP (I _) (hI _) ?_
  rintro u hu
  dsimp only [List.cons_append,List.nil_append] at hu ⊢
  rw [List.take_length] at hu
  rw [hu] at hR
  repeat' first|apply step|(apply gO;·repeat first|exact eZ|(apply eS;exact rfl))|refine g_keep ?_|refine g_fin ?_
  exact fin hR
 ·intro ax hax
  refine at_openP (J ax) (hJ ax) ?_
  rintro u ⟨hx1,hx2⟩
  dsimp only [List.cons_append,List.nil_append]
  subst hx1
  rw [hx2] at hR
  repeat' first|apply step|refine g_fin ?_
  exact fin hR
theorem zla {so:Nat} {u1 u2 u3:Value} {Bo:HRd→Bool} {y z:Nat} (hrd:RdOk T) (hsl:(ofS T key).length≤2000)
  (hso:∀ r ∈ ofS T key,∀ p1 c1 p2 c2,Spec prog1 so [.agg #[.int .i64 r.txn,.int .i64 r.op,.int .i64 r.key,.slice p1 r.list.length c1,.slice p2 r.own.length c2],u1,u2,u3] [ro P1,ro P2,ro P3,ro P4,rdl (kInt .i64) q1 ch,rdl (kInt .i64) q2 rs,fro (kInt .i64) p1 c1 r.list,fro (kInt .i64) p2 c2 r.own] (fun R=>R (.bool (Bo r)) [])) :
  Spec prog1 zF [.func (.func zu) #[] #[.pointer (some ⟨y,0,none⟩),.pointer (some ⟨z,0,none⟩)],.func (.func so) #[] #[u1,u2,u3]] [pt y [.pointer (some ⟨b,0,none⟩)] 0,pt z [.int .i64 key] 0,ro (tabC b T mr mt),ro (mapF mr kI kHRd T.rd),P1,P2,P3,ro P4,rdl (kInt .i64) q1 ch,rdl (kInt .i64) q2 rs] (fun R=>R (.bool ((ofS T key).any Bo)) []):=by
 refine spec_code ze3 rfl ?_;intro n F R hR;unfold zba
 obtain ⟨hn1,hn2⟩:=hrd key
 repeat' first|apply step|(apply gO;·repeat first|exact eZ|(apply eS;exact rfl))|refine Fa.mk fun _=>?_
 rename_i sb rb
 obtain ⟨I,hI⟩:∃ I:Nat→HP,∀ i,I i=hx fun (_:Unit)=>(((ofS T key).take i).any Bo=false,[pt sb [.func (.func so) #[] #[u1,u2,u3]] 0,pt rb [.bool false] 0,P1,P2,P3,ro P4,rdl (kInt .i64) q1 ch,rdl (kInt .i64) q2 rs]):=⟨_,fun _=>rfl⟩
 obtain ⟨J,hJ⟩:∃ J:AX→HP,∀ ax,J ax=hx fun (_:Unit)=>(ax=.ret∧(ofS T key).any Bo=true,[pt rb [.bool true] 0]):=⟨_,fun _=>rfl⟩
 refine at_foldP (I 0) (hI 0) () rfl ?_
 refine at_rfunSD (I:=I) (J:=J) (Po:=[]) (Ps:=[pt y [.pointer (some ⟨b,0,none⟩)] 0,pt z [.int .i64 key] 0,ro (tabC b T mr mt),ro (mapF mr kI kHRd T.rd)]) (ofS T key).length (fun i (d:wR)=>vaRead d (ofS T key)[i]?) (fun i d=>paRead d (ofS T key)[i]?) (fun ly A B h=>?_) (fun i hi d=>by rw [List.getElem?_eq_getElem hi];rfl) ?_ ?_ ?_
 ·exact zdI (L:=agl key T.rd) (key:=key) (x:=y) (y:=z) rfl (by omega) (fun r hr=>⟨⟨by have:=(hn2 r hr).1.1;omega,by have:=(hn2 r hr).1.2;omega⟩,(hn2 r hr).2⟩) h
 ·intro i hi d ly m F'
  rw [List.getElem?_eq_getElem hi]
  have ht:=zek (f:=Bo) hi
  have hin:=hI (i + 1)
  rw [ht] at hin
  have hs:=hso (ofS T key)[i] (List.getElem_mem hi) d.1.1 d.1.2 d.2.1 d.2.2
  have hany:Bo (ofS T key)[i]=true→(ofS T key).any Bo=true:=fun q=>List.any_eq_true.2 ⟨_,List.getElem_mem hi,q⟩
  dsimp only [vaRead,paRead,List.cons_append,List.nil_append]
  refine at_openP (I i) (hI i) ?_
  rintro u hu
  dsimp only [List.cons_append,List.nil_append] at hu ⊢
  rw [hu,Bool.false_or] at hin
  repeat' first|apply step|(apply gO;·repeat first|exact eZ|(apply eS;exact rfl))|refine Fa.mk fun _=>?_
  refine at_callR (hs) ?_
  cases hb:Bo (ofS T key)[i] with
  | true =>
   repeat' first|apply step|(apply gO;·repeat first|exact eZ|(apply eS;exact rfl))|apply Lw.go|refine g_cond ?_
   refine at_foldP (J .ret) (hJ _) () ⟨rfl,hany hb⟩ ?_
   exact y_exit
  | false =>
   rw [hb] at hin
   repeat' first|apply step|apply Lw.go|refine g_cond ?_
   refine at_foldP (I (i + 1)) hin () rfl ?_
   exact y_next
 ·refine at_openP (I _) (hI _) ?_
  rintro u hu
  dsimp only [List.cons_append,List.nil_append] at hu ⊢
  rw [List.take_length] at hu
  rw [hu] at hR
  repeat' first|apply step|(apply gO;·repeat first|exact eZ|(apply eS;exact rfl))|refine g_keep ?_|refine g_fin ?_
  exact fin hR
 ·intro ax hax
  refine at_openP (J ax) (hJ ax) ?_
  rintro u ⟨hx1,hx2⟩
  dsimp only [List.cons_append,List.nil_append]
  subst hx1
  rw [hx2] at hR
  repeat' first|apply step|refine g_fin ?_
  exact fin hR
end
end Go.AMS

namespace Go.AMS
open Go.AM hiding Kt At WP WL Runs RunsY
open Go.AM.G
set_option linter.unusedVariables false
set_option linter.unusedSimpArgs false
set_option linter.unusedSectionVars false
set_option maxRecDepth 100000
set_option maxHeartbeats 1000000
attribute [local irreducible] AtS AtV AtC AtG FinA Spec Post LP G.At G.WP G.WL pt own fro rdl ro hx mp lrec elt sub

open Go.AM.G.Set Go.AM.G.Pre
section
variable {h:List HTx} {T:Tb} {r:HRd} {l:List Int} {p q p1 p2 p3 q1 q2:Option Addr} {c d c1 c2 c3 d1 d2 b mr mt tb xb kb:Nat} {ch rs:List Int} {key:Int} {x:HEd}
theorem zkG {W:Wf} {i:Nat} (hnd:ch.Nodup) (hi:i < ch.length) (e:ch[i]=x.left):jdgW W ch rs x ↔ x.right ∈ nxI ch rs (i + 1)∧ownsP W x.src x.left∧ownsP W x.dst x.right:=by
 unfold jdgW
 constructor
 ·rintro ⟨j,hj,h2⟩
  have:i=j:=List.getElem?_inj hi hnd |>.1 (by rw [hj,List.getElem?_eq_getElem hi,e])
  subst this
  exact h2
 ·intro h2
  exact ⟨i,by rw [List.getElem?_eq_getElem hi,e],h2⟩
theorem zlm {W:Wf} (hW:wK T x.key=W) (hx:bE x) (hnd:ch.Nodup) (hcl:ch.length≤1000) (hrl:rs.length≤100000) (hb:∀ v ∈ ch,bI v):Spec prog1 zaE [.pointer (some ⟨b,0,none⟩),.agg #[.int .i64 key,.slice q1 ch.length d1,.slice q2 rs.length d2,.bool false,.int .i64 0,.int .i64 0,.int .i64 0,.slice none 0 0,.slice none 0 0,.int .i64 0,.int .i64 0,.int .i64 0,.slice none 0 0,.slice none 0 0],.agg #[.int .i64 x.src,.int .i64 x.dst,.int .i64 x.kind,.int .i64 x.key,.int .i64 x.left,.int .i64 x.right]] [ro (tabC b T mr mt),rdl (kInt .i64) q1 ch,rdl (kInt .i64) q2 rs] (fun R=>∀ v:Bool,(v=true ↔ jdgW W ch rs x)→R (.bool v) []):=by
 refine spec_code zgu rfl ?_;intro n F R hR;unfold zbE
 have how:∀ u y,Spec prog1 zi [.pointer (some ⟨b,0,none⟩),.int .i64 u,.int .i64 x.key,.int .i64 y] [ro (tabC b T mr mt)] (fun R=>R (.bool (ownsB W u y)) []):=fun u y=>by rw [← hW];exact zdT
 unfold bE bI at hx
 obtain ⟨hx1,hx2,hx3,hx4,hx5,hx6⟩:=hx
 repeat' first|apply step|(apply gO;·repeat first|exact eZ|(apply eS;exact rfl))|refine Fa.mk fun _=>?_
 refine at_callR (zeu (y:=x.left) (l:=ch) (p:=q1) (c:=d1) (by omega)) ?_
 refine ⟨fun i hi e hn=>?_,fun hn=>?_⟩
 ·rw [zkG hnd hi e] at hR
  have hnl:(nxI ch rs (i + 1)).length≤100000:=by
   unfold nxI;split
   ·exact hrl
   ·split <;> simp
  repeat' first|apply step|(apply gO;·repeat first|exact eZ|(apply eS;exact rfl))|(refine Br.mk (fun _=>?_) (fun _=>?_)<;>try (exfalso;omega))|(refine Sd.mk ?_ ?_;·exact qD)|apply Lw.go|refine g_guard ?_
  all_goals try (exfalso;omega)
  refine at_callR (zeh (m:=i + 1) (ch:=ch) (rs:=rs) (q1:=q1) (d1:=d1) (q2:=q2) (d2:=d2) (key:=key) (by omega) (by omega) (by omega) hb) ?_
  intro qy dy
  generalize nxI ch rs (i + 1)=Y at hR hnl ⊢
  repeat' first|apply step|(apply gO;·repeat first|exact eZ|(apply eS;exact rfl))|apply Lw.go|refine g_guard ?_
  refine at_callR (ze7 (y:=x.right) (l:=Y) (by omega)) ?_
  by_cases h1:x.right ∈ Y
  ·rw [decide_eq_true h1]
   repeat' first|apply step|(apply gO;·repeat first|exact eZ|(apply eS;exact rfl))|apply Lw.go|refine g_guard ?_
   refine at_callR (how x.src x.left) ?_
   cases h2:ownsB W x.src x.left with
   | true =>
    repeat' first|apply step|(apply gO;·repeat first|exact eZ|(apply eS;exact rfl))|apply Lw.go|refine g_guard ?_
    refine at_callR (how x.dst x.right) ?_
    have hv:=hR (ownsB W x.dst x.right) ⟨fun q=>⟨h1,zk.1 h2,zk.1 q⟩,fun q=>zk.2 q.2.2⟩
    repeat' first|apply step|(apply gO;·repeat first|exact eZ|(apply eS;exact rfl))|apply Lw.go|refine g_keep ?_|refine g_fin ?_
    exact fin hv
   | false =>
    have hv:=hR false ⟨fun q=>(by cases q),fun q=>by have:=zk.2 q.2.1;rw [h2] at this;cases this⟩
    repeat' first|apply step|(apply gO;·repeat first|exact eZ|(apply eS;exact rfl))|apply Lw.go|refine g_guard ?_|refine g_keep ?_|refine g_fin ?_
    exact fin hv
  ·rw [decide_eq_false h1]
   have hv:=hR false ⟨fun q=>(by cases q),fun q=>absurd q.1 h1⟩
   repeat' first|apply step|(apply gO;·repeat first|exact eZ|(apply eS;exact rfl))|apply Lw.go|refine g_guard ?_|refine g_keep ?_|refine g_fin ?_
   exact fin hv
 ·have hv:=hR false ⟨fun q=>(by cases q),fun ⟨j,hj,_⟩=>absurd (List.mem_of_getElem? hj) hn⟩
  repeat' first|apply step|(apply gO;·repeat first|exact eZ|(apply eS;exact rfl))|(refine Br.mk (fun _=>?_) (fun _=>?_)<;>try (exfalso;omega))|apply Lw.go|refine g_guard ?_|refine g_keep ?_|refine g_fin ?_
  all_goals first|exact fin hv|(exfalso;omega)
end
end Go.AMS

namespace Go.AMS
open Go.AM hiding Kt At WP WL Runs RunsY
open Go.AM.G
set_option linter.unusedVariables false
set_option linter.unusedSimpArgs false
set_option linter.unusedSectionVars false
set_option maxRecDepth 100000
set_option maxHeartbeats 1000000
attribute [local irreducible] AtS AtV AtC AtG FinA Spec Post LP G.At G.WP G.WL pt own fro rdl ro hx mp lrec elt sub

open Go.AM.G.Set Go.AM.G.Pre
section
variable {h:List HTx} {T:Tb} {r:HRd} {l:List Int} {p q p1 p2 p3 q1 q2:Option Addr} {c d c1 c2 c3 d1 d2 b mr mt tb xb kb:Nat} {ch rs:List Int} {key:Int} {x:HEd}
def seenB (W:Wf) (x:HEd) (r:HRd):Bool:=decide (r.txn=x.dst) && decide (lastD (cleanL W (frontL r))=x.left)
theorem zli {W:Wf} (hW:wK T r.key=W) (h1:r.list.length≤100) (h2:r.own.length≤100):Spec prog1 zak [.agg #[.int .i64 r.txn,.int .i64 r.op,.int .i64 r.key,.slice p1 r.list.length c1,.slice p2 r.own.length c2],.pointer (some ⟨xb,0,none⟩),.pointer (some ⟨tb,0,none⟩)] [ro (pt xb [.int .i64 x.src,.int .i64 x.dst,.int .i64 x.kind,.int .i64 x.key,.int .i64 x.left,.int .i64 x.right] 0),ro (pt tb [.pointer (some ⟨b,0,none⟩)] 0),ro (tabC b T mr mt),fro (kInt .i64) p1 c1 r.list,fro (kInt .i64) p2 c2 r.own] (fun R=>R (.bool (seenB W x r)) []):=by
 refine spec_code zhC rfl ?_;intro n F R hR;unfold zdl
 unfold seenB at hR
 have hfl:=zQ r
 by_cases h3:r.txn=x.dst
 ·rw [decide_eq_true h3,Bool.true_and] at hR
  repeat' first|apply step|(apply gO;·repeat first|exact eZ|(apply eS;exact rfl))|(refine Br.mk (fun _=>?_) (fun _=>?_)<;>try (exfalso;omega))|refine Fa.mk fun _=>?_|refine g_guard ?_
  all_goals try (exfalso;omega)
  refine at_callR (zfS (r:=r) (by omega) (by omega)) ?_
  intro pf cf
  refine Lw.go ?_
  refine at_freezeO (K:=kInt .i64) (l:=frontL r) ?_
  repeat' first|apply step|(apply gO;·repeat first|exact eZ|(apply eS;exact rfl))|refine g_guard ?_
  have hc1:=zdx (T:=T) (b:=b) (mr:=mr) (mt:=mt) (r:=⟨0,0,r.key,frontL r,[]⟩) (p1:=pf) (c1:=cf) (p2:=none) (c2:=0) (by dsimp only;omega)
  dsimp only at hc1
  rw [hW] at hc1
  refine at_callR (hc1) ?_
  intro pa ca
  refine Lw.go ?_
  dsimp only [List.append,List.nil_append,List.cons_append]
  have hcl:=zf W (frontL r)
  repeat' first|apply step|(apply gO;·repeat first|exact eZ|(apply eS;exact rfl))|refine g_guard ?_
  refine at_callR (zfr (l:=cleanL W (frontL r)) (by omega)) ?_
  by_cases h4:lastD (cleanL W (frontL r))=x.left
  ·rw [decide_eq_true h4] at hR
   repeat' first|apply step|(apply gO;·repeat first|exact eZ|(apply eS;exact rfl))|(refine Br.mk (fun _=>?_) (fun _=>?_)<;>try (exfalso;omega))|apply Lw.go|refine g_guard ?_|refine g_keep ?_|refine g_fin ?_
   all_goals first|exact fin hR|(exfalso;omega)
  ·rw [decide_eq_false h4] at hR
   repeat' first|apply step|(apply gO;·repeat first|exact eZ|(apply eS;exact rfl))|(refine Br.mk (fun _=>?_) (fun _=>?_)<;>try (exfalso;omega))|apply Lw.go|refine g_guard ?_|refine g_keep ?_|refine g_fin ?_
   all_goals first|exact fin hR|(exfalso;omega)
 ·rw [decide_eq_false h3,Bool.false_and] at hR
  repeat' first|apply step|(apply gO;·repeat first|exact eZ|(apply eS;exact rfl))|(refine Br.mk (fun _=>?_) (fun _=>?_)<;>try (exfalso;omega))|refine Fa.mk fun _=>?_|refine g_guard ?_|refine g_keep ?_|refine g_fin ?_
  all_goals first|exact fin hR|(exfalso;omega)
theorem zkb {W:Wf} {S:List HRd}:S.any (seenB W x)=true ↔ ∃ r ∈ S,r.txn=x.dst∧lastD (cleanL W (frontL r))=x.left:=by
 rw [List.any_eq_true]
 simp only [seenB,Bool.and_eq_true,decide_eq_true_eq]
theorem zgw (hrd:RdOk T) (hsl:(ofS T x.key).length≤2000):Spec prog1 za9 [.pointer (some ⟨b,0,none⟩),.agg #[.int .i64 x.src,.int .i64 x.dst,.int .i64 x.kind,.int .i64 x.key,.int .i64 x.left,.int .i64 x.right]] [ro (tabC b T mr mt),ro (mapF mr kI kHRd T.rd)] (fun R=>∀ v:Bool,(v=true ↔ jdgS (wK T x.key) (ofS T x.key) x)→R (.bool v) []):=by
 refine spec_code zhp rfl ?_;intro n F R hR;unfold zci
 obtain ⟨hn1,hn2⟩:=hrd x.key
 unfold jdgS at hR
 rw [← zkb] at hR
 by_cases h1:x.right=-1
 ·repeat' first|apply step|(apply gO;·repeat first|exact eZ|(apply eS;exact rfl))|(refine Br.mk (fun _=>?_) (fun _=>?_)<;>try (exfalso;omega))|refine Fa.mk fun _=>?_|refine g_guard ?_
  all_goals try (exfalso;omega)
  refine at_callR (zdT (T:=T) (b:=b) (mr:=mr) (mt:=mt) (u:=x.src) (k:=x.key) (y:=x.left)) ?_
  cases h2:ownsB (wK T x.key) x.src x.left with
  | false =>
   have hv:=hR false ⟨fun q=>(by cases q),fun q=>by have:=zk.2 q.2.1;rw [h2] at this;cases this⟩
   repeat' first|apply step|(apply gO;·repeat first|exact eZ|(apply eS;exact rfl))|apply Lw.go|refine g_guard ?_|refine g_keep ?_|refine g_fin ?_
   exact fin hv
  | true =>
   repeat' first|apply step|(apply gO;·repeat first|exact eZ|(apply eS;exact rfl))|apply Lw.go|refine g_guard ?_
   refine at_callS (zd1 (b:=b) (key:=x.key)) ?_
   intro y z
   rename_i tb xb _
   repeat' first|apply step|(apply gO;·repeat first|exact eZ|(apply eS;exact rfl))|refine g_guard ?_
   refine at_callS (zkq (T:=T) (b:=b) (mr:=mr) (mt:=mt) (key:=x.key) (y:=y) (z:=z) (so:=zak) (u1:=.pointer (some ⟨xb,0,none⟩)) (u2:=.pointer (some ⟨tb,0,none⟩)) (u3:=.bool true) (Bo:=seenB (wK T x.key) x) (P1:=pt xb [.int .i64 x.src,.int .i64 x.dst,.int .i64 x.kind,.int .i64 x.key,.int .i64 x.left,.int .i64 x.right] 0) (P2:=pt tb [.pointer (some ⟨b,0,none⟩)] 0) (P3:=tabC b T mr mt) hrd hsl (fun r hr p1 c1 p2 c2=>by have hk:=hn2 r (List.mem_filter.1 hr).1;exact zli (by rw [hk.2]) hk.1.1 hk.1.2)) ?_
   have hv:=hR _ ⟨fun q=>⟨h1,zk.1 h2,q⟩,fun q=>q.2.2⟩
   repeat' first|apply step|(apply gO;·repeat first|exact eZ|(apply eS;exact rfl))|refine g_keep ?_|refine g_fin ?_
   exact fin hv
 ·have hv:=hR false ⟨fun q=>(by cases q),fun q=>absurd q.1 h1⟩
  repeat' first|apply step|(apply gO;·repeat first|exact eZ|(apply eS;exact rfl))|(refine Br.mk (fun _=>?_) (fun _=>?_)<;>try (exfalso;omega))|refine Fa.mk fun _=>?_|refine g_guard ?_|refine g_keep ?_|refine g_fin ?_
  all_goals first|exact fin hv|(exfalso;omega)
def missB (W:Wf) (ch rs:List Int) (x:HEd) (r:HRd):Bool:=decide (r.txn=x.src) && (decide (lastD (cleanL W r.list)=x.left) && decide (x.right ∈ nxI ch rs (cleanL W r.list).length))
theorem zlM {n:Nat} (hrl:rs.length≤100000):(nxI ch rs n).length≤100000:=by
 unfold nxI;split
 ·exact hrl
 ·split <;> simp
theorem zix {W:Wf} (hW:wK T r.key=W) (h1:r.list.length≤100) (hcl:ch.length≤1000) (hrl:rs.length≤100000) (hb:∀ v ∈ ch,bI v):Spec prog1 z9 [.agg #[.int .i64 r.txn,.int .i64 r.op,.int .i64 r.key,.slice p1 r.list.length c1,.slice p2 r.own.length c2],.pointer (some ⟨tb,0,none⟩),.pointer (some ⟨xb,0,none⟩),.pointer (some ⟨kb,0,none⟩)] [ro (pt tb [.pointer (some ⟨b,0,none⟩)] 0),ro (pt xb [.int .i64 x.src,.int .i64 x.dst,.int .i64 x.kind,.int .i64 x.key,.int .i64 x.left,.int .i64 x.right] 0),ro (pt kb [.int .i64 key,.slice q1 ch.length d1,.slice q2 rs.length d2,.bool false,.int .i64 0,.int .i64 0,.int .i64 0,.slice none 0 0,.slice none 0 0,.int .i64 0,.int .i64 0,.int .i64 0,.slice none 0 0,.slice none 0 0] 0),ro (tabC b T mr mt),rdl (kInt .i64) q1 ch,rdl (kInt .i64) q2 rs,fro (kInt .i64) p1 c1 r.list,fro (kInt .i64) p2 c2 r.own] (fun R=>R (.bool (missB W ch rs x r)) []):=by
 refine spec_code zip rfl ?_;intro n F R hR;unfold zbL
 unfold missB at hR
 have hc1:=zdx (T:=T) (b:=b) (mr:=mr) (mt:=mt) (r:=r) (p1:=p1) (c1:=c1) (p2:=p2) (c2:=c2) (by omega)
 rw [hW] at hc1
 have hcl2:=zf W r.list
 generalize cleanL W r.list=B at hR hc1 hcl2
 repeat' first|apply step|(apply gO;·repeat first|exact eZ|(apply eS;exact rfl))|refine Fa.mk fun _=>?_
 refine at_callR (hc1) ?_
 intro pa ca
 by_cases h3:r.txn=x.src
 ·rw [decide_eq_true h3,Bool.true_and] at hR
  repeat' first|apply step|(apply gO;·repeat first|exact eZ|(apply eS;exact rfl))|(refine Br.mk (fun _=>?_) (fun _=>?_)<;>try (exfalso;omega))|apply Lw.go|refine g_guard ?_
  all_goals try (exfalso;omega)
  refine at_callR (zfr (l:=B) (by omega)) ?_
  by_cases h4:lastD B=x.left
  ·rw [decide_eq_true h4,Bool.true_and] at hR
   repeat' first|apply step|(apply gO;·repeat first|exact eZ|(apply eS;exact rfl))|(refine Br.mk (fun _=>?_) (fun _=>?_)<;>try (exfalso;omega))|apply Lw.go|refine g_guard ?_
   all_goals try (exfalso;omega)
   refine at_callR (zeh (m:=B.length) (ch:=ch) (rs:=rs) (q1:=q1) (d1:=d1) (q2:=q2) (d2:=d2) (key:=key) (by omega) (by omega) (by omega) hb) ?_
   intro qy dy
   have hnl:=zlM (ch:=ch) (n:=B.length) hrl
   generalize nxI ch rs B.length=Y at hR hnl ⊢
   repeat' first|apply step|(apply gO;·repeat first|exact eZ|(apply eS;exact rfl))|apply Lw.go|refine g_guard ?_
   refine at_callR (ze7 (y:=x.right) (l:=Y) (by omega)) ?_
   repeat' first|apply step|(apply gO;·repeat first|exact eZ|(apply eS;exact rfl))|apply Lw.go|refine g_keep ?_|refine g_fin ?_
   exact fin hR
  ·rw [decide_eq_false h4,Bool.false_and] at hR
   repeat' first|apply step|(apply gO;·repeat first|exact eZ|(apply eS;exact rfl))|(refine Br.mk (fun _=>?_) (fun _=>?_)<;>try (exfalso;omega))|apply Lw.go|refine g_guard ?_|refine g_keep ?_|refine g_fin ?_
   all_goals first|exact fin hR|(exfalso;omega)
 ·rw [decide_eq_false h3,Bool.false_and] at hR
  repeat' first|apply step|(apply gO;·repeat first|exact eZ|(apply eS;exact rfl))|(refine Br.mk (fun _=>?_) (fun _=>?_)<;>try (exfalso;omega))|apply Lw.go|refine g_guard ?_|refine g_keep ?_|refine g_fin ?_
  all_goals first|exact fin hR|(exfalso;omega)
theorem zkN {W:Wf} {S:List HRd}:S.any (missB W ch rs x)=true ↔ ∃ r ∈ S,r.txn=x.src∧lastD (cleanL W r.list)=x.left∧x.right ∈ nxI ch rs (cleanL W r.list).length:=by
 rw [List.any_eq_true]
 simp only [missB,Bool.and_eq_true,decide_eq_true_eq]
theorem zhw (hrd:RdOk T) (hsl:(ofS T x.key).length≤2000) (hcl:ch.length≤1000) (hrl:rs.length≤100000) (hb:∀ v ∈ ch,bI v):Spec prog1 zaz [.pointer (some ⟨b,0,none⟩),.agg #[.int .i64 key,.slice q1 ch.length d1,.slice q2 rs.length d2,.bool false,.int .i64 0,.int .i64 0,.int .i64 0,.slice none 0 0,.slice none 0 0,.int .i64 0,.int .i64 0,.int .i64 0,.slice none 0 0,.slice none 0 0],.agg #[.int .i64 x.src,.int .i64 x.dst,.int .i64 x.kind,.int .i64 x.key,.int .i64 x.left,.int .i64 x.right]] [ro (tabC b T mr mt),ro (mapF mr kI kHRd T.rd),rdl (kInt .i64) q1 ch,rdl (kInt .i64) q2 rs] (fun R=>∀ v:Bool,(v=true ↔ jdgM (wK T x.key) (ofS T x.key) ch rs x)→R (.bool v) []):=by
 refine spec_code zjK rfl ?_;intro n F R hR;unfold zcf
 obtain ⟨hn1,hn2⟩:=hrd x.key
 unfold jdgM at hR
 rw [← zkN] at hR
 repeat' first|apply step|(apply gO;·repeat first|exact eZ|(apply eS;exact rfl))|refine Fa.mk fun _=>?_
 rename_i tb kb xb
 refine at_callR (zdT (T:=T) (b:=b) (mr:=mr) (mt:=mt) (u:=x.dst) (k:=x.key) (y:=x.right)) ?_
 cases h2:ownsB (wK T x.key) x.dst x.right with
 | false =>
  have hv:=hR false ⟨fun q=>(by cases q),fun q=>by have:=zk.2 q.1;rw [h2] at this;cases this⟩
  repeat' first|apply step|(apply gO;·repeat first|exact eZ|(apply eS;exact rfl))|apply Lw.go|refine g_guard ?_|refine g_keep ?_|refine g_fin ?_
  exact fin hv
 | true =>
  repeat' first|apply step|(apply gO;·repeat first|exact eZ|(apply eS;exact rfl))|apply Lw.go|refine g_guard ?_
  refine at_callS (zd1 (b:=b) (key:=x.key)) ?_
  intro y z
  repeat' first|apply step|(apply gO;·repeat first|exact eZ|(apply eS;exact rfl))|refine g_guard ?_
  refine at_callS (zla (T:=T) (b:=b) (mr:=mr) (mt:=mt) (key:=x.key) (y:=y) (z:=z) (so:=z9) (u1:=.pointer (some ⟨tb,0,none⟩)) (u2:=.pointer (some ⟨xb,0,none⟩)) (u3:=.pointer (some ⟨kb,0,none⟩)) (Bo:=missB (wK T x.key) ch rs x) (P1:=pt tb [.pointer (some ⟨b,0,none⟩)] 0) (P2:=pt xb [.int .i64 x.src,.int .i64 x.dst,.int .i64 x.kind,.int .i64 x.key,.int .i64 x.left,.int .i64 x.right] 0) (P3:=pt kb [.int .i64 key,.slice q1 ch.length d1,.slice q2 rs.length d2,.bool false,.int .i64 0,.int .i64 0,.int .i64 0,.slice none 0 0,.slice none 0 0,.int .i64 0,.int .i64 0,.int .i64 0,.slice none 0 0,.slice none 0 0] 0) (P4:=tabC b T mr mt) (ch:=ch) (rs:=rs) (q1:=q1) (q2:=q2) hrd hsl (fun r hr p1 c1 p2 c2=>by have hk:=hn2 r (List.mem_filter.1 hr).1;exact zix (by rw [hk.2]) hk.1.1 hcl hrl hb)) ?_
  have hv:=hR _ ⟨fun q=>⟨zk.1 h2,q⟩,fun q=>q.2⟩
  repeat' first|apply step|(apply gO;·repeat first|exact eZ|(apply eS;exact rfl))|refine g_keep ?_|refine g_fin ?_
  exact fin hv
end
end Go.AMS

namespace Go.AMS
open Go.AM hiding Kt At WP WL Runs RunsY
open Go.AM.G
set_option linter.unusedVariables false
set_option linter.unusedSimpArgs false
set_option linter.unusedSectionVars false
set_option maxRecDepth 100000
set_option maxHeartbeats 1000000
attribute [local irreducible] AtS AtV AtC AtG FinA Spec Post LP G.At G.WP G.WL pt own fro rdl ro hx mp lrec elt sub

open Go.AM.G.Set Go.AM.G.Pre
section
variable {h:List HTx} {T:Tb} {r:HRd} {l:List Int} {p q p1 p2 p3 q1 q2:Option Addr} {c d c1 c2 c3 d1 d2 b mr mt tb xb kb:Nat} {ch rs:List Int} {key:Int} {x:HEd}
theorem zeb (hf:FewH h 20 60) (hk:OkH h) (hx:bE x):Spec prog1 zac [.pointer (some ⟨b,0,none⟩),.agg #[.int .i64 x.src,.int .i64 x.dst,.int .i64 x.kind,.int .i64 x.key,.int .i64 x.left,.int .i64 x.right]] [ro (tabC b (TH h) mr mt),ro (mapF mr kI kHRd (TH h).rd),ro (mapF mt kI kHWr (TH h).wt)] (fun R=>∀ v:Bool,(v=true ↔ judgeE h x)→R (.bool v) []):=by
 refine spec_code zjT rfl ?_;intro n F R hR;unfold zcg
 have ok:=of_ok (key:=x.key) hf hk
 have hxx:=hx
 unfold bE bI at hx
 obtain ⟨hx1,hx2,hx3,hx4,hx5,hx6⟩:=hx
 repeat' first|apply step|(apply gO;·repeat first|exact eZ|(apply eS;exact rfl))|refine Fa.mk fun _=>?_
 refine at_callR (zlK (T:=TH h) (b:=b) (mr:=mr) (mt:=mt) (key:=x.key) ok.rd (by have:=ok.wt;omega) ok.wb (by have:=ok.sl;omega) ok.bd hx4) ?_
 unfold judgeE at hR
 refine ⟨fun k j hk1 hj1 hb1 w v=>?_,fun hb1 q1 d1 q2 d2=>?_⟩
 ·have hv:=hR false ⟨fun q=>(by cases q),fun q=>by rw [hb1] at q;cases q.1⟩
  repeat' first|apply step|(apply gO;·repeat first|exact eZ|(apply eS;exact rfl))|refine Fa.mk fun _=>?_|apply Lw.go|refine g_cond ?_|refine g_guard ?_|refine g_keep ?_|refine g_fin ?_
  exact fin hv
 ·have hnd:(chH h x.key).Nodup:=zfg.1
  have hcl:=zef (key:=x.key) hf hk
  have hrl:=zfO (key:=x.key) hf hk
  have hcb:∀ v ∈ chH h x.key,bI v:=fun v hv=>ch_bI hk hv
  rw [hb1] at hR
  rw [show restL (bestL (ofL (wK (TH h) x.key) (ofS (TH h) x.key))) (agl x.key (TH h).wt)=rsH h x.key from rfl,show bestL (ofL (wK (TH h) x.key) (ofS (TH h) x.key))=chH h x.key from rfl]
  have hjw:=zlm (T:=TH h) (b:=b) (mr:=mr) (mt:=mt) (W:=wK (TH h) x.key) (ch:=chH h x.key) (rs:=rsH h x.key) (q1:=q1) (d1:=d1) (q2:=q2) (d2:=d2) (key:=x.key) rfl hxx hnd (by omega) (by omega) hcb
  have hjs:=zgw (T:=TH h) (b:=b) (mr:=mr) (mt:=mt) (x:=x) ok.rd (by have:=ok.sl;omega)
  have hjm:=zhw (T:=TH h) (b:=b) (mr:=mr) (mt:=mt) (x:=x) (ch:=chH h x.key) (rs:=rsH h x.key) (q1:=q1) (d1:=d1) (q2:=q2) (d2:=d2) (key:=x.key) ok.rd (by have:=ok.sl;omega) (by omega) (by omega) hcb
  unfold jdgE at hR
  generalize chH h x.key=ch at hR hjw hjs hjm ⊢
  generalize rsH h x.key=rs at hR hjw hjs hjm ⊢
  by_cases h1:x.src=x.dst
  ·have hv:=hR false ⟨fun q=>(by cases q),fun q=>absurd h1 q.2.1⟩
   repeat' first|apply step|(apply gO;·repeat first|exact eZ|(apply eS;exact rfl))|(refine Br.mk (fun _=>?_) (fun _=>?_)<;>try (exfalso;omega))|refine Fa.mk fun _=>?_|apply Lw.go|refine g_cond ?_|refine g_guard ?_|refine g_keep ?_|refine g_fin ?_
   all_goals first|exact fin hv|(exfalso;omega)
  ·by_cases k1:x.kind=1
   ·repeat' first|apply step|(apply gO;·repeat first|exact eZ|(apply eS;exact rfl))|(refine Br.mk (fun _=>?_) (fun _=>?_)<;>try (exfalso;omega))|refine Fa.mk fun _=>?_|apply Lw.go|refine g_cond ?_|refine g_guard ?_|refine g_keep ?_
    all_goals try (exfalso;omega)
    refine at_callR (hjw) ?_
    intro v hv
    have hv2:=hR v (hv.trans ⟨fun q=>⟨rfl,h1,.inl ⟨k1,q⟩⟩,fun q=>by rcases q.2.2 with ⟨_,q⟩|⟨e,_⟩|⟨e,_⟩;exact q;omega;omega⟩)
    repeat' first|apply step|(apply gO;·repeat first|exact eZ|(apply eS;exact rfl))|apply Lw.go|refine g_fin ?_
    exact fin hv2
   ·by_cases k2:x.kind=2
    ·repeat' first|apply step|(apply gO;·repeat first|exact eZ|(apply eS;exact rfl))|(refine Br.mk (fun _=>?_) (fun _=>?_)<;>try (exfalso;omega))|refine Fa.mk fun _=>?_|apply Lw.go|refine g_cond ?_|refine g_guard ?_|refine g_keep ?_
     all_goals try (exfalso;omega)
     refine at_callR (hjs) ?_
     intro v hv
     have hv2:=hR v (hv.trans ⟨fun q=>⟨rfl,h1,.inr (.inl ⟨k2,q⟩)⟩,fun q=>by rcases q.2.2 with ⟨e,_⟩|⟨_,q⟩|⟨e,_⟩;omega;exact q;omega⟩)
     repeat' first|apply step|(apply gO;·repeat first|exact eZ|(apply eS;exact rfl))|apply Lw.go|refine g_fin ?_
     exact fin hv2
    ·by_cases k4:x.kind=4
     ·repeat' first|apply step|(apply gO;·repeat first|exact eZ|(apply eS;exact rfl))|(refine Br.mk (fun _=>?_) (fun _=>?_)<;>try (exfalso;omega))|refine Fa.mk fun _=>?_|apply Lw.go|refine g_cond ?_|refine g_guard ?_|refine g_keep ?_
      all_goals try (exfalso;omega)
      refine at_callR (hjm) ?_
      intro v hv
      have hv2:=hR v (hv.trans ⟨fun q=>⟨rfl,h1,.inr (.inr ⟨k4,q⟩)⟩,fun q=>by rcases q.2.2 with ⟨e,_⟩|⟨e,_⟩|⟨_,q⟩;omega;omega;exact q⟩)
      repeat' first|apply step|(apply gO;·repeat first|exact eZ|(apply eS;exact rfl))|apply Lw.go|refine g_fin ?_
      exact fin hv2
     ·have hv:=hR false ⟨fun q=>(by cases q),fun q=>by rcases q.2.2 with ⟨e,_⟩|⟨e,_⟩|⟨e,_⟩ <;> omega⟩
      repeat' first|apply step|(apply gO;·repeat first|exact eZ|(apply eS;exact rfl))|(refine Br.mk (fun _=>?_) (fun _=>?_)<;>try (exfalso;omega))|refine Fa.mk fun _=>?_|apply Lw.go|refine g_cond ?_|refine g_guard ?_|refine g_keep ?_|refine g_fin ?_
      all_goals first|exact fin hv|(exfalso;omega)
end
end Go.AMS

namespace Go.AMS
open Go.AM hiding Kt At WP WL Runs RunsY
open Go.AM.G
set_option linter.unusedVariables false
set_option linter.unusedSimpArgs false
set_option linter.unusedSectionVars false
set_option maxRecDepth 100000
set_option maxHeartbeats 1000000
attribute [local irreducible] AtS AtV AtC AtG FinA Spec Post LP G.At G.WP G.WL pt own fro rdl ro hx mp lrec elt sub

open Go.AM.G.Set Go.AM.G.Pre
section
variable {h:List HTx} {p:Option Addr} {c:Nat} {x:HEd}
theorem zd7:Spec prog1 zG [] [] (fun R=>R (.bool true) []):=closed_spec ziX
theorem zlz:Spec prog1 zbg [.agg #[.slice p h.length c]] [fro kHTx p c h] (fun R=>(FewH h 20 60→chkH h=0→R (.bool true) [])∧R (.bool false) []):=by
 refine spec_code zlS rfl ?_;intro n F R hR;unfold zcu
 repeat' first|apply step|(apply gO;·repeat first|exact eZ|(apply eS;exact rfl))|refine Fa.mk fun _=>?_
 refine at_callS (zgx (h:=h) (a:=20) (b:=60) (by omega) (by omega)) ?_
 refine ⟨fun hf=>?_,?_⟩
 ·repeat' first|apply step|(apply gO;·repeat first|exact eZ|(apply eS;exact rfl))|refine g_guard ?_
  refine at_callS (zf5 hf) ?_
  repeat' first|apply step|(apply gO;·repeat first|exact eZ|(apply eS;exact rfl))|(refine Br.mk (fun _=>?_) (fun _=>?_)<;>try (exfalso;omega))|refine g_guard ?_|refine g_keep ?_|refine g_fin ?_
  ·exact fin (hR.1 hf ‹_›)
  ·exact fin hR.2
 ·repeat' first|apply step|(apply gO;·repeat first|exact eZ|(apply eS;exact rfl))|refine g_guard ?_|refine g_keep ?_|refine g_fin ?_
  exact fin hR.2
theorem zkt (hf:FewH h 20 60) (hk:OkH h) (x:HEd):x ∈ allE h [x.key] ↔ judgeE h x:=by
 rw [zlG];exact zfL hf hk x
theorem zlt (hx:bE x):Spec prog1 zcJ [.agg #[.slice p h.length c],.agg #[.int .i64 x.src,.int .i64 x.dst,.int .i64 x.kind,.int .i64 x.key,.int .i64 x.left,.int .i64 x.right]] [fro kHTx p c h] (fun R=>R (.bool true) []):=by
 refine spec_code zhR rfl ?_;intro n F R hR;unfold zcV
 repeat' first|apply step|(apply gO;·repeat first|exact eZ|(apply eS;exact rfl))|refine Fa.mk fun _=>?_
 refine at_callS (zlz (h:=h)) ?_
 refine ⟨fun hf hc=>?_,?_⟩
 ·have hk:=zca hc
  have ok:=of_ok (key:=x.key) hf hk
  repeat' first|apply step|(apply gO;·repeat first|exact eZ|(apply eS;exact rfl))|refine g_cond ?_
  refine at_callS (zf2 hf) ?_
  refine ⟨fun hc2=>absurd hc hc2,fun _ b=>?_⟩
  dsimp only [List.cons_append,List.nil_append]
  rw [show (tabS (sortK HTx.id h)).fin=TH h from rfl]
  refine zhQ (fun mr mt=>?_)
  repeat' first|apply step|(apply gO;·repeat first|exact eZ|(apply eS;exact rfl))|(refine Br.mk (fun _=>?_) (fun _=>?_)<;>try (exfalso;omega))|refine g_guard ?_|refine g_keep ?_
  refine at_callR (zeb (h:=h) (b:=b) (mr:=mr) (mt:=mt) (x:=x) hf hk hx) ?_
  intro v hv
  have hja:=zkt hf hk x
  repeat' first|apply step|(apply gO;·repeat first|exact eZ|(apply eS;exact rfl))|apply Lw.go|refine g_guard ?_
  refine at_callR (zf8 (h:=h) (x:=x) hf hk hx) ?_
  refine ⟨fun hm=>?_,fun hm=>?_⟩
  ·have e:v=true:=hv.2 (hja.1 hm)
   subst e
   repeat' first|apply step|(apply gO;·repeat first|exact eZ|(apply eS;exact rfl))|(refine Br.mk (fun _=>?_) (fun _=>?_)<;>try (exfalso;omega))|apply Lw.go|refine g_cond ?_|refine g_guard ?_|refine g_keep ?_|refine g_fin ?_
   all_goals try (rename_i q;exact absurd rfl q)
   refine at_callS (zfz hf hk) ?_
   intro Z pz cz h1 h2
   have hlz:=h1.len
   have hla:=zcr hf hk (setL (keysH h))
   have hkl:=Nat.mul_le_mul_right 1501400 (zd8 hf)
   have hZl:Z.length < 1000000000:=by omega
   clear hlz hla hkl
   repeat' first|apply step|(apply gO;·repeat first|exact eZ|(apply eS;exact rfl))|refine g_keep ?_
   refine at_loopS (ι:=Nat) (E:=fun i=>[(5,.pointer (some ⟨b,0,none⟩)),(7,.slice pz Z.length cz),(8,.int .i64 (i:Int))]) (Δ:=fun _=>own kHEd pz cz Z::tabC b (TH h) mr mt::mapF mr kI kHRd (TH h).rd::mapF mt kI kHWr (TH h).wt::F) (P:=fun i=>i≤Z.length) (μ:=fun i=>Z.length - i) 0 (Nat.zero_le _) ?_
   intro i hi
   try dsimp only at hi ⊢
   rcases Nat.lt_or_ge i Z.length with hlt|hge
   ·have hmi:=(h2 _).1 (List.getElem_mem hlt)
    have hji:=zen hf hk hmi
    have hbi:=zdH hf hk (zdU hk) hmi
    repeat' first|apply step|(apply gO;·repeat first|exact eZ|(apply eS;exact rfl))|(refine Br.mk (fun _=>?_) (fun _=>?_)<;>try (exfalso;omega))|(refine Sd.mk ?_ ?_;·exact qD)|(refine Sx.mk ?_ ?_;·omega)|refine Fa.mk fun _=>?_|refine Im.mk fun _=>?_|refine g_cond ?_
    refine at_callR (zeb (h:=h) (b:=b) (mr:=mr) (mt:=mt) (x:=Z[i]) hf hk hbi) ?_
    intro v2 hv2
    obtain rfl:v2=true:=hv2.2 hji
    repeat' first|apply step|(apply gO;·repeat first|exact eZ|(apply eS;exact rfl))|(refine Sd.mk ?_ ?_;·exact qD)|apply Lw.go|refine g_cond ?_|refine g_keep ?_
    exact lp_next (i + 1) (by omega) (by omega)
   ·repeat' first|apply step|(apply gO;·repeat first|exact eZ|(apply eS;exact rfl))|(refine Br.mk (fun _=>?_) (fun _=>?_)<;>try (exfalso;omega))|refine g_cond ?_|refine g_keep ?_
    refine at_callS (zd7) ?_
    repeat' first|apply step|(apply gO;·repeat first|exact eZ|(apply eS;exact rfl))|refine g_fin ?_
    exact fin hR
  ·have e:v=false:=by
    cases v with
    | false=>rfl
    | true=>exact absurd (hja.2 (hv.1 rfl)) hm
   subst e
   repeat' first|apply step|(apply gO;·repeat first|exact eZ|(apply eS;exact rfl))|(refine Br.mk (fun _=>?_) (fun _=>?_)<;>try (exfalso;omega))|apply Lw.go|refine g_cond ?_|refine g_guard ?_|refine g_keep ?_|refine g_fin ?_
   all_goals try (rename_i q;exact absurd rfl q)
   refine at_callS (zfz hf hk) ?_
   intro Z pz cz h1 h2
   have hlz:=h1.len
   have hla:=zcr hf hk (setL (keysH h))
   have hkl:=Nat.mul_le_mul_right 1501400 (zd8 hf)
   have hZl:Z.length < 1000000000:=by omega
   clear hlz hla hkl
   repeat' first|apply step|(apply gO;·repeat first|exact eZ|(apply eS;exact rfl))|refine g_keep ?_
   refine at_loopS (ι:=Nat) (E:=fun i=>[(5,.pointer (some ⟨b,0,none⟩)),(7,.slice pz Z.length cz),(8,.int .i64 (i:Int))]) (Δ:=fun _=>own kHEd pz cz Z::tabC b (TH h) mr mt::mapF mr kI kHRd (TH h).rd::mapF mt kI kHWr (TH h).wt::F) (P:=fun i=>i≤Z.length) (μ:=fun i=>Z.length - i) 0 (Nat.zero_le _) ?_
   intro i hi
   try dsimp only at hi ⊢
   rcases Nat.lt_or_ge i Z.length with hlt|hge
   ·have hmi:=(h2 _).1 (List.getElem_mem hlt)
    have hji:=zen hf hk hmi
    have hbi:=zdH hf hk (zdU hk) hmi
    repeat' first|apply step|(apply gO;·repeat first|exact eZ|(apply eS;exact rfl))|(refine Br.mk (fun _=>?_) (fun _=>?_)<;>try (exfalso;omega))|(refine Sd.mk ?_ ?_;·exact qD)|(refine Sx.mk ?_ ?_;·omega)|refine Fa.mk fun _=>?_|refine Im.mk fun _=>?_|refine g_cond ?_
    refine at_callR (zeb (h:=h) (b:=b) (mr:=mr) (mt:=mt) (x:=Z[i]) hf hk hbi) ?_
    intro v2 hv2
    obtain rfl:v2=true:=hv2.2 hji
    repeat' first|apply step|(apply gO;·repeat first|exact eZ|(apply eS;exact rfl))|(refine Sd.mk ?_ ?_;·exact qD)|apply Lw.go|refine g_cond ?_|refine g_keep ?_
    exact lp_next (i + 1) (by omega) (by omega)
   ·repeat' first|apply step|(apply gO;·repeat first|exact eZ|(apply eS;exact rfl))|(refine Br.mk (fun _=>?_) (fun _=>?_)<;>try (exfalso;omega))|refine g_cond ?_|refine g_keep ?_
    refine at_callS (zd7) ?_
    repeat' first|apply step|(apply gO;·repeat first|exact eZ|(apply eS;exact rfl))|refine g_fin ?_
    exact fin hR
 ·repeat' first|apply step|(apply gO;·repeat first|exact eZ|(apply eS;exact rfl))|refine g_cond ?_
  refine at_callS (zd7) ?_
  repeat' first|apply step|(apply gO;·repeat first|exact eZ|(apply eS;exact rfl))|refine g_fin ?_
  exact fin hR
end
end Go.AMS

