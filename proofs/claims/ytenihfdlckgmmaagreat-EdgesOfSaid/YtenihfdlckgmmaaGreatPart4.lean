/- What the functions do, part 4. -/
import Derived.Test.YtenihfdlckgmmaaGreatPart3
import Derived.Test.YtenihfdlckgmmaaGreatSetLaw
namespace Go.AMS
open Go.AM hiding Kt At WP WL Runs RunsY
open Go.AM.G
set_option linter.unusedVariables false
set_option linter.unusedSimpArgs false
set_option linter.unusedSectionVars false
set_option maxRecDepth 100000
set_option maxHeartbeats 1000000
attribute [local irreducible] AtS AtV AtC AtG FinA Spec Post LP G.At G.WP G.WL pt own fro rdl ro hx mp lrec elt sub

open Go.AM.G.Set Go.AM.G.Pre
section
variable {h:List HTx} {p q:Option Addr} {c d:Nat} {key:Int}
theorem zd5 (hk:OkH h) (x:Int):bI (wtx (wK (TH h) key) x):=by
 unfold wtx
 cases hw:wK (TH h) key x with
 | none=>exact ⟨by decide,by decide⟩
 | some w =>
  obtain ⟨t,ht,i,hi,_,rfl⟩:=wr_at hk hw
  have:=(hk.m t ht).1
  unfold mayN at this
  unfold txZ bI
  dsimp only;omega
theorem zhp {x:Int} (hf:FewH h 20 60) (hk:OkH h):Spec prog1 zg [.agg #[.slice p h.length c],.int .i64 key,.int .i64 x] [fro kHTx p c h] (fun R=>R (.int .i64 (wtx (wK (TH h) key) x)) []):=by
 refine spec_code zim rfl ?_;intro n F R hR;unfold zc0
 have hwr:Spec prog1 ze [.agg #[.slice p h.length c],.int .i64 key,.int .i64 x] [fro kHTx p c h] (fun R=>R (wrO (wK (TH h) key x)) []):=zec hf hk
 unfold wtx at hR
 generalize wK (TH h) key x=o at hR hwr
 repeat' first|apply step|(apply gO;·repeat first|exact eZ|(apply eS;exact rfl))|refine Fa.mk fun _=>?_
 refine at_callR (hwr) ?_
 cases o with
 | none =>
  unfold wrO
  unfold txZ at hR
  repeat' first|apply step|(apply gO;·repeat first|exact eZ|(apply eS;exact rfl))|refine Fa.mk fun _=>?_|apply Lw.go|refine g_keep ?_|refine g_fin ?_
  exact fin hR
 | some w =>
  unfold wrO
  unfold txZ at hR
  repeat' first|apply step|(apply gO;·repeat first|exact eZ|(apply eS;exact rfl))|refine Fa.mk fun _=>?_|apply Lw.go|refine g_keep ?_|refine g_fin ?_
  exact fin hR
theorem zjM (W:Wf) (ch:List Int) (i:Nat):chE W key ch (i + 1)=chE W key ch i++[⟨wtx W (ch.getD i 0),wtx W (ch.getD (i + 1) 0),1,key,ch.getD i 0,ch.getD (i + 1) 0⟩]:=by
 unfold chE;rw [List.range_succ,List.map_append];rfl
theorem zgh {W:Wf} {x:Int} {rs:List Int} {j:Nat} (hj:j < rs.length):rsE W key x (rs.take (j + 1))=rsE W key x (rs.take j)++[⟨wtx W x,wtx W rs[j],1,key,x,rs[j]⟩]:=by
 unfold rsE;rw [List.take_succ_eq_append_getElem hj,List.map_append];rfl
theorem zgq {W:Wf} {r:HRd} {Y:List Int} {j:Nat} (hj:j < Y.length):rwE W key r (Y.take (j + 1))=rwE W key r (Y.take j)++[⟨r.txn,wtx W Y[j],4,key,lastD (cleanL W r.list),Y[j]⟩]:=by
 unfold rwE;rw [List.take_succ_eq_append_getElem hj,List.map_append];rfl
theorem zaK {ch rs:List Int} {n:Nat} (h1:rs.length≤1200):(nxI ch rs n).length≤1200:=by
 unfold nxI
 split
 ·exact h1
 ·split <;> simp
theorem zdE {W:Wf} {ch rs:List Int} (h1:rs.length≤1200) (r:HRd):(rdE W key ch rs r).length≤1201:=by
 unfold rdE frE rwE
 rw [List.length_append,List.length_map]
 have:=zaK (ch:=ch) (n:=(cleanL W r.list).length) h1
 split <;> simp <;> omega
theorem zlA {W:Wf} {r:HRd} (hi:(((cleanL W (frontL r)).length:Int) - 1).toNat < (cleanL W (frontL r)).length):frE W key r=[⟨wtx W (cleanL W (frontL r))[(((cleanL W (frontL r)).length:Int) - 1).toNat],r.txn,2,key,(cleanL W (frontL r))[(((cleanL W (frontL r)).length:Int) - 1).toNat],-1⟩]:=by
 have e:(((cleanL W (frontL r)).length:Int) - 1).toNat=(cleanL W (frontL r)).length - 1:=by omega
 unfold frE
 rw [List.getLast?_eq_getElem?,List.getElem?_eq_getElem (by omega)]
 simp only [e]
theorem zg1 {W:Wf} {r:HRd} (hi:(cleanL W (frontL r)).length=0):frE W key r=[]:=by
 unfold frE
 rw [List.eq_nil_of_length_eq_zero hi];rfl
theorem zdL {l:List Int} (hi:((l.length:Int) - 1).toNat < l.length):lastD l=l[((l.length:Int) - 1).toNat]:=by
 have e:((l.length:Int) - 1).toNat=l.length - 1:=by omega
 rw [zat (by omega)]
 simp only [e]
theorem zcN {α β:Type} (f:α→List β) {l:List α} {n:Nat} (hn:n < l.length):(l.take (n + 1)).flatMap f=(l.take n).flatMap f++f l[n]:=by
 rw [List.take_succ_eq_append_getElem hn,List.flatMap_append]
 congr 1
 simp
theorem zjz {q1 q2:Option Addr} {d1 d2:Nat} {ch rs:List Int} {m:Nat} (h1:ch.length≤100000) (h2:m≤100000):Spec prog1 za0 [.agg #[.int .i64 key,.slice q1 ch.length d1,.slice q2 rs.length d2,.bool false,.int .i64 0,.int .i64 0,.int .i64 0,.slice none 0 0,.slice none 0 0,.int .i64 0,.int .i64 0,.int .i64 0,.slice none 0 0,.slice none 0 0],.int .i64 (m:Int)] [fro (kInt .i64) q1 d1 ch,fro (kInt .i64) q2 d2 rs] (fun R=>∀ q' d',R (.slice q' (nxI ch rs m).length d') [fro (kInt .i64) q' d' (nxI ch rs m)]):=by
 refine spec_code ziU rfl ?_;intro n F R hR;unfold zde
 unfold nxI at hR
 by_cases e1:m=ch.length
 ·rw [if_pos e1] at hR
  repeat' first|apply step|(apply gO;·repeat first|exact eZ|(apply eS;exact rfl))|(refine Br.mk (fun _=>?_) (fun _=>?_)<;>try (exfalso;omega))|refine Fa.mk fun _=>?_|refine g_cond ?_|refine g_guard ?_|refine g_keep ?_|refine g_fin ?_
  all_goals first|exact fin (hR _ _)|(exfalso;omega)
 ·rw [if_neg e1] at hR
  by_cases e2:m < ch.length
  ·rw [if_pos e2,getD_lt e2] at hR
   have e3:m + 1 - m=1:=by omega
   have e4:(ch.drop m).take 1=[ch[m]]:=by rw [List.drop_eq_getElem_cons e2];rfl
   repeat' first|apply step|(apply gO;·repeat first|exact eZ|(apply eS;exact rfl))|(refine Br.mk (fun _=>?_) (fun _=>?_)<;>try (exfalso;omega))|(refine Sd.mk ?_ ?_;·exact qD)|refine Fa.mk fun _=>?_|refine g_cond ?_|refine g_guard ?_|refine g_keep ?_|refine g_fin ?_
   all_goals try (exfalso;omega)
   all_goals
    refine fin_via (zes (K:=kInt .i64) (p:=q1) (c:=d1) (l:=ch) (i:=m) (n:=1) (z:=1) rfl (by omega)) ?_
    rw [e4]
    try rw [e3]
    exact fin (hR _ _)
  ·rw [if_neg e2] at hR
   repeat' first|apply step|(apply gO;·repeat first|exact eZ|(apply eS;exact rfl))|(refine Br.mk (fun _=>?_) (fun _=>?_)<;>try (exfalso;omega))|refine Fa.mk fun _=>?_|refine g_cond ?_|refine g_guard ?_|refine g_keep ?_|refine g_fin ?_
   all_goals first|(refine fin_ent (ent_fnil (K:=kInt .i64)) ?_;exact fin (hR _ _))|(exfalso;omega)
theorem zjl (hf:FewH h 20 60) (hk:OkH h) (w1:-9223372036854775808≤key∧key≤9223372036854775807):Spec prog1 zbo [.agg #[.slice p h.length c],.int .i64 key] [fro kHTx p c h] (fun R=>∀ p' c',R (.slice p' (keyE h key).length c') [own kHEd p' c' (keyE h key)]):=by
 refine spec_code zk4 rfl ?_;intro n F R hR;unfold zcK
 have ok:=of_ok (key:=key) hf hk
 have hSnd:=zf1 (p:=p) (c:=c) (key:=key) hf hk
 rw [ok.se] at hSnd
 repeat' first|apply step|(apply gO;·repeat first|exact eZ|(apply eS;exact rfl))|refine Fa.mk fun _=>?_
 rename_i hb
 refine at_callS (zhE (S:=ofS (TH h) key) (L:=agl key (TH h).wt) hf hk w1 ok.se ok.le) ?_
 refine ⟨fun k j hk1 hj1 hb1 w v=>?_,fun hb1 q1 d1 q2 d2=>?_⟩
 ·have hke:keyE h key=[]:=by unfold keyE;rw [hb1]
  rw [hke] at hR
  unfold agA
  repeat' first|apply step|(apply gO;·repeat first|exact eZ|(apply eS;exact rfl))|refine Fa.mk fun _=>?_|refine g_cond ?_|refine g_fin ?_
  exact fin (hR none 0)
 ·have hke:keyE h key=ofE (wK (TH h) key) key (ofS (TH h) key) (chH h key) (rsH h key):=by unfold keyE;rw [hb1]
  rw [hke] at hR
  have how:∀ x,Spec prog1 zg [.agg #[.slice p h.length c],.int .i64 key,.int .i64 x] [fro kHTx p c h] (fun R=>R (.int .i64 (wtx (wK (TH h) key) x)) []):=fun x=>zhp hf hk
  have hwb:=fun x=>zd5 (key:=key) hk x
  have hsl:=ok.sl
  have hll:=ok.ll
  have hcl:∀ l ∈ ofL (wK (TH h) key) (ofS (TH h) key),l.length≤100:=fun l hl=>by
   obtain ⟨r,hr,rfl⟩:=List.mem_map.1 hl
   exact Nat.le_trans (zk _ _) (ok.ll r hr).1.1
  have hchl:(chH h key).length≤100:=zbu hcl
  have hrsl:(rsH h key).length≤1200:=by
   unfold rsH restL
   rw [List.length_map]
   exact Nat.le_trans (List.length_filter_le _ _) ok.wt
  have hclr:∀ r ∈ ofS (TH h) key,cleanL (wK (TH h) r.key) r.list=cleanL (wK (TH h) key) r.list:=fun r hr=>by rw [(ok.ll r hr).2]
  dsimp only [List.cons_append,List.nil_append]
  rw [show restL (bestL (ofL (wK (TH h) key) (ofS (TH h) key))) (agl key (TH h).wt)=rsH h key from rfl,show bestL (ofL (wK (TH h) key) (ofS (TH h) key))=chH h key from rfl]
  generalize hW:wK (TH h) key=W at *
  generalize ofS (TH h) key=S at hR hSnd hsl hll hclr
  generalize chH h key=ch at hR hchl ⊢
  generalize rsH h key=rs at hR hrsl ⊢
  refine at_freezeO (K:=kInt .i64) (l:=rs) ?_
  repeat' first|apply step|(apply gO;·repeat first|exact eZ|(apply eS;exact rfl))|refine Fa.mk fun _=>?_|refine g_cond ?_|refine g_keep ?_
  rename_i k2
  have hrdl:∀ n,((S.take n).flatMap (rdE W key ch rs)).length≤1500000:=fun n=>by
   have h1:=zaj (rdE W key ch rs) 1201 (fun r=>zdE hrsl r) (S.take n)
   have h2:(S.take n).length≤1200:=by rw [List.length_take];omega
   have h3:=Nat.mul_le_mul_right 1201 h2
   omega
  unfold ofE at hR
  refine at_loopS (ι:=Nat × (Option Addr × Nat)) (E:=fun z=>[(1,.int .i64 key),(2,.pointer (some ⟨hb,0,none⟩)),(5,.slice z.2.1 (chE W key ch z.1).length z.2.2),(6,.pointer (some ⟨k2,0,none⟩)),(7,.int .i64 ((z.1 + 1:Nat):Int))]) (Δ:=fun z=>own kHEd z.2.1 z.2.2 (chE W key ch z.1)::pt k2 [.int .i64 key,.slice q1 ch.length d1,.slice q2 rs.length d2,.bool false,.int .i64 0,.int .i64 0,.int .i64 0,.slice none 0 0,.slice none 0 0,.int .i64 0,.int .i64 0,.int .i64 0,.slice none 0 0,.slice none 0 0] 0::fro (kInt .i64) q1 d1 ch::fro (kInt .i64) q2 d2 rs::pt hb [.slice p h.length c] 0::fro kHTx p c h::F) (P:=fun z=>z.1≤ch.length - 1) (μ:=fun z=>ch.length - z.1) (0,(none,0)) (Nat.zero_le _) ?_
  rintro ⟨i,p3,c3⟩ hi
  dsimp only at hi ⊢
  have hcE:(chE W key ch i).length=i:=by unfold chE;simp
  rcases Nat.lt_or_ge (i + 1) ch.length with hlt|hge
  ·have hnx:=zjM (key:=key) W ch i
   rw [getD_lt (by omega:i < ch.length),getD_lt hlt] at hnx
   have e1:(((i + 1:Nat):Int) - 1).toNat=i:=by omega
   have hb1:=hwb (ch[i]'(by omega))
   have hb2:=hwb ch[i + 1]
   unfold bI at hb1 hb2
   obtain ⟨O,hOe⟩:∃ O,chE W key ch i=O:=⟨_,rfl⟩
   rw [hOe] at hnx hcE ⊢
   repeat' first|apply step|(apply gO;·repeat first|exact eZ|(apply eS;exact rfl))|(refine Br.mk (fun _=>?_) (fun _=>?_)<;>try (exfalso;omega))|(refine Sd.mk ?_ ?_;·exact qD)|(refine Sx.mk ?_ ?_;·omega)|refine Im.mk fun _=>?_|refine g_cond ?_|refine g_keep ?_
   simp only [e1] at *
   repeat' first|apply step
   refine at_callR (how (ch[i]'(by omega))) ?_
   repeat' first|apply step|(apply gO;·repeat first|exact eZ|(apply eS;exact rfl))|apply Lw.go
   refine at_callR (how ch[i + 1]) ?_
   repeat' first|apply step|(apply gO;·repeat first|exact eZ|(apply eS;exact rfl))|(refine Sd.mk ?_ ?_;·exact qD)|refine Fa.mk fun _=>?_|apply Lw.go|refine g_keep ?_
   exact lp_next (i + 1,_,_) (by first|omega|(dsimp only;omega)) (by first|omega|(dsimp only;omega)) (by first|(dsimp only;rw [hnx];done)|(dsimp only;rw [hnx];rfl)|(rw [hnx];rfl)|rw [hnx]) (by try dsimp only;rw [hnx];repeat first|exact Ent.refl _|(apply Ent.more;· repeat first|exact Ent.keep|exact Ent.here|exact Ent.lend|exact ent_nil|apply Ent.there)|apply Ent.drop)
  have e:i=ch.length - 1:=by omega
  subst e
  obtain ⟨O0,hO0⟩:∃ O,chE W key ch (ch.length - 1)=O:=⟨_,rfl⟩
  rw [hO0] at hR hcE ⊢
  have hrE:∀ n,(rsE W key (lastD ch) (rs.take n)).length≤1200:=fun n=>by unfold rsE;rw [List.length_map,List.length_take];omega
  obtain ⟨O1,hO1⟩:∃ O,(O0++if 0 < ch.length then rsE W key (lastD ch) rs else [])=O:=⟨_,rfl⟩
  have hOl:O1.length≤1400:=by
   have:=hrE rs.length
   rw [List.take_of_length_le (Nat.le_refl _)] at this
   rw [← hO1,List.length_append];split <;> simp <;> omega
  rw [← List.append_assoc,hO1] at hR
  repeat (fail_if_success (refine at_cutK (ι:=Unit) (fun _=>[]) (fun _=>[]) (fun _=>True) ?_ ?_));(first|apply step|(apply g_op;· repeat first|exact Evs.nil|(apply Evs.cons;exact rfl))|(refine Br.mk (fun _=>?_) (fun _=>?_) <;> try (exfalso;omega))|(refine Sd.mk ?_ ?_;· ((repeat' apply And.intro) <;> first|omega|trivial|assumption|(simp;done)|(simp;omega)))|(refine Sx.mk ?_ ?_;· omega)|refine Fa.mk (fun _=>?_)|refine Im.mk (fun _=>?_)|apply Lw.go|refine g_cond ?_|refine g_guard ?_|refine g_keep ?_|refine g_pass ?_|refine g_fin ?_|(apply g_ap;exact rfl;exact rfl;assumption))
  refine at_cutK (E:=fun (z:Option Addr × Nat)=>[(1,.int .i64 key),(2,.pointer (some ⟨hb,0,none⟩)),(5,.slice z.1 O1.length z.2),(6,.pointer (some ⟨k2,0,none⟩))]) (Δ:=fun z=>own kHEd z.1 z.2 O1::pt k2 [.int .i64 key,.slice q1 ch.length d1,.slice q2 rs.length d2,.bool false,.int .i64 0,.int .i64 0,.int .i64 0,.slice none 0 0,.slice none 0 0,.int .i64 0,.int .i64 0,.int .i64 0,.slice none 0 0,.slice none 0 0] 0::fro (kInt .i64) q1 d1 ch::fro (kInt .i64) q2 d2 rs::pt hb [.slice p h.length c] 0::fro kHTx p c h::F) (P:=fun _=>True) ?_ ?_
  ·repeat' first|apply step|(apply gO;·repeat first|exact eZ|(apply eS;exact rfl))|refine g_keep ?_
   refine at_loopS (ι:=Nat × (Option Addr × Nat)) (E:=fun z=>[(1,.int .i64 key),(2,.pointer (some ⟨hb,0,none⟩)),(5,.slice z.2.1 (O0++if 0 < ch.length then rsE W key (lastD ch) (rs.take z.1) else []).length z.2.2),(6,.pointer (some ⟨k2,0,none⟩)),(10,.int .i64 (z.1:Int))]) (Δ:=fun z=>own kHEd z.2.1 z.2.2 (O0++if 0 < ch.length then rsE W key (lastD ch) (rs.take z.1) else [])::pt k2 [.int .i64 key,.slice q1 ch.length d1,.slice q2 rs.length d2,.bool false,.int .i64 0,.int .i64 0,.int .i64 0,.slice none 0 0,.slice none 0 0,.int .i64 0,.int .i64 0,.int .i64 0,.slice none 0 0,.slice none 0 0] 0::fro (kInt .i64) q1 d1 ch::fro (kInt .i64) q2 d2 rs::pt hb [.slice p h.length c] 0::fro kHTx p c h::F) (P:=fun z=>z.1≤rs.length) (μ:=fun z=>rs.length - z.1) (0,(p3,c3)) (Nat.zero_le _) ?_ (by dsimp only;rw [show (if 0 < ch.length then rsE W key (lastD ch) (rs.take 0) else [])=[] by split <;> rfl,List.append_nil];rfl) (by dsimp only;rw [show (if 0 < ch.length then rsE W key (lastD ch) (rs.take 0) else [])=[] by split <;> rfl,List.append_nil];repeat first|exact Ent.refl _|(apply Ent.more;· repeat first|exact Ent.keep|exact Ent.here|exact Ent.lend|exact ent_nil|apply Ent.there)|apply Ent.drop)
   rintro ⟨j,p4,c4⟩ hj
   dsimp only at hj ⊢
   by_cases hgo:j < rs.length∧0 < ch.length
   ·obtain ⟨hlj,hc0⟩:=hgo
    have iL:((ch.length:Int) - 1).toNat < ch.length:=by omega
    have hld:=zdL iL
    rw [if_pos hc0]
    have hnx:=zgh (key:=key) (W:=W) (x:=lastD ch) hlj
    have hrl:=hrE j
    have hb1:=hwb (ch[((ch.length:Int) - 1).toNat])
    have hb2:=hwb rs[j]
    unfold bI at hb1 hb2
    generalize rsE W key (lastD ch) (rs.take j)=O1 at hnx hrl ⊢
    have hOl:(O0++O1).length≤1400:=by rw [List.length_append];omega
    rw [hld] at hnx
    repeat' first|apply step|(apply gO;·repeat first|exact eZ|(apply eS;exact rfl))|(refine Br.mk (fun _=>?_) (fun _=>?_)<;>try (exfalso;omega))|(refine Sd.mk ?_ ?_;·exact qD)|(refine Sx.mk ?_ ?_;·omega)|refine Im.mk fun _=>?_|refine g_cond ?_|refine g_guard ?_|refine g_keep ?_
    all_goals try (exfalso;omega)
    refine at_callR (how (ch[((ch.length:Int) - 1).toNat])) ?_
    repeat' first|apply step|(apply gO;·repeat first|exact eZ|(apply eS;exact rfl))|apply Lw.go
    refine at_callR (how rs[j]) ?_
    repeat' first|apply step|(apply gO;·repeat first|exact eZ|(apply eS;exact rfl))|(refine Sd.mk ?_ ?_;·exact qD)|refine Fa.mk fun _=>?_|apply Lw.go|refine g_keep ?_
    have hnx3:(O0++if 0 < ch.length then rsE W key (lastD ch) (rs.take (j + 1)) else [])=(O0++O1)++[⟨wtx W (ch[((ch.length:Int) - 1).toNat]),wtx W rs[j],1,key,ch[((ch.length:Int) - 1).toNat],rs[j]⟩]:=by rw [if_pos hc0,hld,hnx,List.append_assoc]
    exact lp_next (j + 1,_,_) (by first|omega|(dsimp only;omega)) (by first|omega|(dsimp only;omega)) (by first|(dsimp only;rw [hnx3];done)|(dsimp only;rw [hnx3];rfl)|(rw [hnx3];rfl)|rw [hnx3]) (by try dsimp only;rw [hnx3];repeat first|exact Ent.refl _|(apply Ent.more;· repeat first|exact Ent.keep|exact Ent.here|exact Ent.lend|exact ent_nil|apply Ent.there)|apply Ent.drop)
   have hfin:(O0++if 0 < ch.length then rsE W key (lastD ch) (rs.take j) else [])=O1:=by
    rw [← hO1]
    by_cases hc0:0 < ch.length
    ·rw [List.take_of_length_le (by omega)]
    ·rw [if_neg hc0,if_neg hc0]
   rw [hfin]
   clear hfin hO1
   repeat' first|apply step|(apply gO;·repeat first|exact eZ|(apply eS;exact rfl))|(refine Br.mk (fun _=>?_) (fun _=>?_)<;>try (exfalso;omega))|refine g_cond ?_|refine g_guard ?_|refine g_keep ?_
   all_goals try (exfalso;omega)
   all_goals exact cut_end (_,_) trivial
  rintro ⟨p4,c4⟩ -
  dsimp only
  repeat' first|apply step|(apply gO;·repeat first|exact eZ|(apply eS;exact rfl))
  refine at_callS (hSnd) ?_
  intro ps cs
  repeat' first|apply step|(apply gO;·repeat first|exact eZ|(apply eS;exact rfl))|refine g_keep ?_
  refine at_loopS (ι:=Nat × (Option Addr × Nat)) (E:=fun z=>[(1,.int .i64 key),(2,.pointer (some ⟨hb,0,none⟩)),(5,.slice z.2.1 (O1++(S.take z.1).flatMap (rdE W key ch rs)).length z.2.2),(6,.pointer (some ⟨k2,0,none⟩)),(13,.slice ps S.length cs),(14,.int .i64 (z.1:Int))]) (Δ:=fun z=>own kHEd z.2.1 z.2.2 (O1++(S.take z.1).flatMap (rdE W key ch rs))::own kHRd ps cs S::pt k2 [.int .i64 key,.slice q1 ch.length d1,.slice q2 rs.length d2,.bool false,.int .i64 0,.int .i64 0,.int .i64 0,.slice none 0 0,.slice none 0 0,.int .i64 0,.int .i64 0,.int .i64 0,.slice none 0 0,.slice none 0 0] 0::fro (kInt .i64) q1 d1 ch::fro (kInt .i64) q2 d2 rs::pt hb [.slice p h.length c] 0::fro kHTx p c h::F) (P:=fun z=>z.1≤S.length) (μ:=fun z=>S.length - z.1) (0,(p4,c4)) (Nat.zero_le _) ?_ (by dsimp only;rw [List.take_zero,List.flatMap_nil,List.append_nil];rfl) (by dsimp only;rw [List.take_zero,List.flatMap_nil,List.append_nil];repeat first|exact Ent.refl _|(apply Ent.more;· repeat first|exact Ent.keep|exact Ent.here|exact Ent.lend|exact ent_nil|apply Ent.there)|apply Ent.drop)
  rintro ⟨n1,p5,c5⟩ hn1
  dsimp only at hn1 ⊢
  rcases Nat.lt_or_ge n1 S.length with hln|hgn
  ·have hnx:=zcN (rdE W key ch rs) hln
   have hrl:=hrdl n1
   obtain ⟨⟨k1,k3⟩,k4⟩:=hll S[n1] (List.getElem_mem _)
   have hcr:=hclr S[n1] (List.getElem_mem _)
   obtain ⟨O2,hO2⟩:∃ O,O1++(S.take n1).flatMap (rdE W key ch rs)=O:=⟨_,rfl⟩
   have hO2l:O2.length≤1501400:=by rw [← hO2,List.length_append];omega
   have hnx2:O1++(S.take (n1 + 1)).flatMap (rdE W key ch rs)=O2++(frE W key S[n1]++rwE W key S[n1] (nxI ch rs (cleanL W S[n1].list).length)):=by rw [hnx,← List.append_assoc,hO2];rfl
   rw [hO2]
   have hfl:=zak S[n1]
   repeat' first|apply step|(apply gO;·repeat first|exact eZ|(apply eS;exact rfl))|(refine Br.mk (fun _=>?_) (fun _=>?_)<;>try (exfalso;omega))|(refine Sd.mk ?_ ?_;·exact qD)|(refine Sx.mk ?_ ?_;·omega)|refine Fa.mk fun _=>?_|refine Im.mk fun _=>?_|refine g_cond ?_
   rename_i w0 _ rb
   refine at_callR (zf2 (r:=S[n1]) (by omega) (by omega)) ?_
   intro pf cf
   refine Lw.go ?_
   refine at_freezeO (K:=kInt .i64) (l:=frontL S[n1]) ?_
   repeat' first|apply step|(apply gO;·repeat first|exact eZ|(apply eS;exact rfl))
   have hc1:=zbC (p:=p) (c:=c) (r:=⟨0,0,key,frontL S[n1],[]⟩) (p1:=pf) (c1:=cf) (p2:=none) (c2:=0) hf hk (by dsimp only;omega)
   dsimp only at hc1
   rw [hW] at hc1
   refine at_callS (hc1) ?_
   intro pa ca
   have hcf:(cleanL W (frontL S[n1])).length≤100:=Nat.le_trans (zk _ _) (by omega)
   obtain ⟨O3,hO3⟩:∃ O,O2++frE W key S[n1]=O:=⟨_,rfl⟩
   have hO3l:O3.length≤1501401:=by
    rw [← hO3];unfold frE;rw [List.length_append];split <;> simp <;> omega
   rw [← List.append_assoc,hO3] at hnx2
   repeat (fail_if_success (refine at_cutK (ι:=Unit) (fun _=>[]) (fun _=>[]) (fun _=>True) ?_ ?_));(first|apply step|(apply g_op;· repeat first|exact Evs.nil|(apply Evs.cons;exact rfl))|(refine Br.mk (fun _=>?_) (fun _=>?_) <;> try (exfalso;omega))|(refine Sd.mk ?_ ?_;· ((repeat' apply And.intro) <;> first|omega|trivial|assumption|(simp;done)|(simp;omega)))|(refine Sx.mk ?_ ?_;· omega)|refine Fa.mk (fun _=>?_)|refine Im.mk (fun _=>?_)|apply Lw.go|refine g_cond ?_|refine g_guard ?_|refine g_keep ?_|refine g_pass ?_|refine g_fin ?_|(apply g_ap;exact rfl;exact rfl;assumption))
   refine at_cutK (E:=fun (z:Option Addr × Nat)=>[(1,.int .i64 key),(2,.pointer (some ⟨hb,0,none⟩)),(5,.slice z.1 O3.length z.2),(6,.pointer (some ⟨k2,0,none⟩)),(13,.slice ps S.length cs),(14,.int .i64 (n1:Int)),(15,.pointer (some ⟨rb,0,none⟩))]) (Δ:=fun z=>own kHEd z.1 z.2 O3::pt rb [.int .i64 S[n1].txn,.int .i64 S[n1].op,.int .i64 S[n1].key,.slice w0.1.1 S[n1].list.length w0.1.2,.slice w0.2.1 S[n1].own.length w0.2.2] 0::fro (kInt .i64) w0.1.1 w0.1.2 S[n1].list::own kHRd ps cs S::pt k2 [.int .i64 key,.slice q1 ch.length d1,.slice q2 rs.length d2,.bool false,.int .i64 0,.int .i64 0,.int .i64 0,.slice none 0 0,.slice none 0 0,.int .i64 0,.int .i64 0,.int .i64 0,.slice none 0 0,.slice none 0 0] 0::fro (kInt .i64) q1 d1 ch::fro (kInt .i64) q2 d2 rs::pt hb [.slice p h.length c] 0::fro kHTx p c h::F) (P:=fun _=>True) ?_ ?_
   ·by_cases hcp:0 < (cleanL W (frontL S[n1])).length
    ·have hi3:(((cleanL W (frontL S[n1])).length:Int) - 1).toNat < (cleanL W (frontL S[n1])).length:=by omega
     rw [zlA (key:=key) (r:=S[n1]) hi3] at hO3
     have hb1:=hwb ((cleanL W (frontL S[n1]))[(((cleanL W (frontL S[n1])).length:Int) - 1).toNat])
     unfold bI at hb1
     repeat' first|apply step|(apply gO;·repeat first|exact eZ|(apply eS;exact rfl))|(refine Br.mk (fun _=>?_) (fun _=>?_)<;>try (exfalso;omega))|(refine Sd.mk ?_ ?_;·exact qD)|(refine Sx.mk ?_ ?_;·omega)|refine Im.mk fun _=>?_|refine g_cond ?_|refine g_keep ?_
     refine at_callR (how ((cleanL W (frontL S[n1]))[(((cleanL W (frontL S[n1])).length:Int) - 1).toNat])) ?_
     repeat' first|apply step|(apply gO;·repeat first|exact eZ|(apply eS;exact rfl))|(refine Sd.mk ?_ ?_;·exact qD)|refine Fa.mk fun _=>?_|apply Lw.go|refine g_keep ?_
     rw [hO3]
     exact cut_end (_,_) trivial
    ·rw [zg1 (key:=key) (W:=W) (r:=S[n1]) (by omega),List.append_nil] at hO3
     rw [hO3]
     repeat' first|apply step|(apply gO;·repeat first|exact eZ|(apply eS;exact rfl))|(refine Br.mk (fun _=>?_) (fun _=>?_)<;>try (exfalso;omega))|refine g_cond ?_|refine g_keep ?_
     exact cut_end (_,_) trivial
   rintro ⟨p6,c6⟩ -
   dsimp only
   repeat' first|apply step|(apply gO;·repeat first|exact eZ|(apply eS;exact rfl))
   refine at_callS (zbC (r:=S[n1]) hf hk (by omega)) ?_
   intro pb cb
   rw [hcr]
   have hcl2:(cleanL W S[n1].list).length≤100:=Nat.le_trans (zk _ _) (by omega)
   have hnl:=zaK (ch:=ch) (n:=(cleanL W S[n1].list).length) hrsl
   obtain ⟨ld,hld⟩:∃ x,lastD (cleanL W S[n1].list)=x:=⟨_,rfl⟩
   have hNx:=zjz (key:=key) (q1:=q1) (q2:=q2) (d1:=d1) (d2:=d2) (ch:=ch) (rs:=rs) (m:=(cleanL W S[n1].list).length) (by omega) (by omega)
   obtain ⟨Y,hY⟩:∃ Y,nxI ch rs (cleanL W S[n1].list).length=Y:=⟨_,rfl⟩
   have hwn:∀ {m:Nat} (hm:m < Y.length),rwE W key S[n1] (Y.take (m + 1))=rwE W key S[n1] (Y.take m)++[⟨S[n1].txn,wtx W Y[m],4,key,ld,Y[m]⟩]:=fun hm=>by rw [zgq hm,hld]
   rw [hY] at hNx hnx2 hnl
   generalize cleanL W S[n1].list=B at hld hNx hcl2 ⊢
   repeat (fail_if_success (refine at_cutK (ι:=Unit) (fun _=>[]) (fun _=>[]) (fun _=>True) ?_ ?_));(first|apply step|(apply g_op;· repeat first|exact Evs.nil|(apply Evs.cons;exact rfl))|(refine Br.mk (fun _=>?_) (fun _=>?_) <;> try (exfalso;omega))|(refine Sd.mk ?_ ?_;· ((repeat' apply And.intro) <;> first|omega|trivial|assumption|(simp;done)|(simp;omega)))|(refine Sx.mk ?_ ?_;· omega)|refine Fa.mk (fun _=>?_)|refine Im.mk (fun _=>?_)|apply Lw.go|refine g_cond ?_|refine g_guard ?_|refine g_keep ?_|refine g_pass ?_|refine g_fin ?_|(apply g_ap;exact rfl;exact rfl;assumption))
   refine at_cutK (E:=fun (z:Unit)=>[(1,.int .i64 key),(2,.pointer (some ⟨hb,0,none⟩)),(5,.slice p6 O3.length c6),(6,.pointer (some ⟨k2,0,none⟩)),(13,.slice ps S.length cs),(14,.int .i64 (n1:Int)),(15,.pointer (some ⟨rb,0,none⟩)),(18,.slice pb B.length cb),(19,.int .i64 ld)]) (Δ:=fun z=>own kHEd p6 c6 O3::own (kInt .i64) pb cb B::pt rb [.int .i64 S[n1].txn,.int .i64 S[n1].op,.int .i64 S[n1].key,.slice w0.1.1 S[n1].list.length w0.1.2,.slice w0.2.1 S[n1].own.length w0.2.2] 0::fro (kInt .i64) w0.1.1 w0.1.2 S[n1].list::own kHRd ps cs S::pt k2 [.int .i64 key,.slice q1 ch.length d1,.slice q2 rs.length d2,.bool false,.int .i64 0,.int .i64 0,.int .i64 0,.slice none 0 0,.slice none 0 0,.int .i64 0,.int .i64 0,.int .i64 0,.slice none 0 0,.slice none 0 0] 0::fro (kInt .i64) q1 d1 ch::fro (kInt .i64) q2 d2 rs::pt hb [.slice p h.length c] 0::fro kHTx p c h::F) (P:=fun _=>bI ld) ?_ ?_
   ·by_cases hcq:0 < B.length
    ·have hi4:((B.length:Int) - 1).toNat < B.length:=by omega
     rw [zdL hi4] at hld
     repeat' first|apply step|(apply gO;·repeat first|exact eZ|(apply eS;exact rfl))|(refine Br.mk (fun _=>?_) (fun _=>?_)<;>try (exfalso;omega))|(refine Sd.mk ?_ ?_;·exact qD)|(refine Sx.mk ?_ ?_;·omega)|refine Im.mk fun _=>?_|refine g_cond ?_|refine g_keep ?_
     rw [hld]
     exact cut_end () (by rw [← hld];unfold bI;omega)
    ·rw [List.eq_nil_of_length_eq_zero (by omega:B.length=0)] at hld
     rw [show lastD []=-1 from rfl] at hld
     repeat' first|apply step|(apply gO;·repeat first|exact eZ|(apply eS;exact rfl))|(refine Br.mk (fun _=>?_) (fun _=>?_)<;>try (exfalso;omega))|refine g_cond ?_|refine g_keep ?_
     rw [← hld]
     exact cut_end () ⟨by decide,by decide⟩
   rintro ⟨⟩ hbl
   unfold bI at hbl
   repeat' first|apply step|(apply gO;·repeat first|exact eZ|(apply eS;exact rfl))
   refine at_callR (hNx) ?_
   intro qy dy
   repeat' first|apply step|(apply gO;·repeat first|exact eZ|(apply eS;exact rfl))|apply Lw.go|refine g_keep ?_
   have hrw:∀ m,(rwE W key S[n1] (Y.take m)).length≤1200:=fun m=>by unfold rwE;rw [List.length_map,List.length_take];omega
   refine at_loopS (ι:=Nat × (Option Addr × Nat)) (E:=fun z=>[(1,.int .i64 key),(2,.pointer (some ⟨hb,0,none⟩)),(5,.slice z.2.1 (O3++rwE W key S[n1] (Y.take z.1)).length z.2.2),(6,.pointer (some ⟨k2,0,none⟩)),(13,.slice ps S.length cs),(14,.int .i64 (n1:Int)),(15,.pointer (some ⟨rb,0,none⟩)),(19,.int .i64 ld),(20,.slice qy Y.length dy),(21,.int .i64 (z.1:Int))]) (Δ:=fun z=>own kHEd z.2.1 z.2.2 (O3++rwE W key S[n1] (Y.take z.1))::fro (kInt .i64) qy dy Y::pt rb [.int .i64 S[n1].txn,.int .i64 S[n1].op,.int .i64 S[n1].key,.slice w0.1.1 S[n1].list.length w0.1.2,.slice w0.2.1 S[n1].own.length w0.2.2] 0::fro (kInt .i64) w0.1.1 w0.1.2 S[n1].list::own kHRd ps cs S::pt k2 [.int .i64 key,.slice q1 ch.length d1,.slice q2 rs.length d2,.bool false,.int .i64 0,.int .i64 0,.int .i64 0,.slice none 0 0,.slice none 0 0,.int .i64 0,.int .i64 0,.int .i64 0,.slice none 0 0,.slice none 0 0] 0::fro (kInt .i64) q1 d1 ch::fro (kInt .i64) q2 d2 rs::pt hb [.slice p h.length c] 0::fro kHTx p c h::F) (P:=fun z=>z.1≤Y.length) (μ:=fun z=>Y.length - z.1) (0,(p6,c6)) (Nat.zero_le _) ?_ (by dsimp only;rw [List.take_zero,show rwE W key S[n1] []=[] from rfl,List.append_nil];rfl) (by dsimp only;rw [List.take_zero,show rwE W key S[n1] []=[] from rfl,List.append_nil];repeat first|exact Ent.refl _|(apply Ent.more;· repeat first|exact Ent.keep|exact Ent.here|exact Ent.lend|exact ent_nil|apply Ent.there)|apply Ent.drop)
   rintro ⟨m,p7,c7⟩ hm
   dsimp only at hm ⊢
   have hrm:=hrw m
   obtain ⟨O4,hO4⟩:∃ O,O3++rwE W key S[n1] (Y.take m)=O:=⟨_,rfl⟩
   have hO4l:O4.length≤1502700:=by rw [← hO4,List.length_append];omega
   rcases Nat.lt_or_ge m Y.length with hlm|hgm
   ·have hnx4:O3++rwE W key S[n1] (Y.take (m + 1))=O4++[⟨S[n1].txn,wtx W Y[m],4,key,ld,Y[m]⟩]:=by rw [hwn hlm,← List.append_assoc,hO4]
    have hb2:=hwb Y[m]
    unfold bI at hb2
    rw [hO4]
    repeat' first|apply step|(apply gO;·repeat first|exact eZ|(apply eS;exact rfl))|(refine Br.mk (fun _=>?_) (fun _=>?_)<;>try (exfalso;omega))|(refine Sd.mk ?_ ?_;·exact qD)|(refine Sx.mk ?_ ?_;·omega)|refine Im.mk fun _=>?_|refine g_cond ?_
    refine at_callR (how Y[m]) ?_
    repeat' first|apply step|(apply gO;·repeat first|exact eZ|(apply eS;exact rfl))|(refine Sd.mk ?_ ?_;·exact qD)|(refine Sx.mk ?_ ?_;·omega)|refine Fa.mk fun _=>?_|refine Im.mk fun _=>?_|apply Lw.go|refine g_keep ?_
    exact lp_next (m + 1,_,_) (by first|omega|(dsimp only;omega)) (by first|omega|(dsimp only;omega)) (by first|(dsimp only;rw [hnx4];done)|(dsimp only;rw [hnx4];rfl)|(rw [hnx4];rfl)|rw [hnx4]) (by try dsimp only;rw [hnx4];repeat first|exact Ent.refl _|(apply Ent.more;· repeat first|exact Ent.keep|exact Ent.here|exact Ent.lend|exact ent_nil|apply Ent.there)|apply Ent.drop)
   ·rw [List.take_of_length_le hgm] at hO4 ⊢
    rw [← hnx2]
    repeat' first|apply step|(apply gO;·repeat first|exact eZ|(apply eS;exact rfl))|(refine Br.mk (fun _=>?_) (fun _=>?_)<;>try (exfalso;omega))|(refine Sd.mk ?_ ?_;·exact qD)|refine g_cond ?_|refine g_keep ?_
    exact lp_next (n1 + 1,_,_) (by first|omega|(dsimp only;omega)) (by first|omega|(dsimp only;omega))
  ·rw [List.take_of_length_le hgn]
   repeat' first|apply step|(apply gO;·repeat first|exact eZ|(apply eS;exact rfl))|(refine Br.mk (fun _=>?_) (fun _=>?_)<;>try (exfalso;omega))|refine g_cond ?_|refine g_keep ?_|refine g_fin ?_
   exact fin (hR _ _)
end
end Go.AMS

namespace Go.AMS
open Go.AM hiding Kt At WP WL Runs RunsY
open Go.AM.G
set_option linter.unusedVariables false
set_option linter.unusedSimpArgs false
set_option linter.unusedSectionVars false
set_option maxRecDepth 100000
set_option maxHeartbeats 1000000
attribute [local irreducible] AtS AtV AtC AtG FinA Spec Post LP G.At G.WP G.WL pt own fro rdl ro hx mp lrec elt sub

open Go.AM.G.Set Go.AM.G.Pre
section
variable {h:List HTx} {p q pk:Option Addr} {c d ck:Nat} {key:Int} {keys:List Int}
theorem zlv (W:Wf) (ch:List Int) (n:Nat):(chE W key ch n).length=n:=by unfold chE;simp
theorem zfb (hf:FewH h 20 60) (hk:OkH h):(chH h key).length≤100:=zbu fun l hl=>by
 obtain ⟨r,hr,rfl⟩:=List.mem_map.1 hl
 exact Nat.le_trans (zk _ _) ((of_ok hf hk).ll r hr).1.1
theorem zeX (hf:FewH h 20 60) (hk:OkH h):(rsH h key).length≤1200:=by
 unfold rsH restL
 rw [List.length_map]
 exact Nat.le_trans (List.length_filter_le _ _) (of_ok hf hk).wt
theorem zdg (hf:FewH h 20 60) (hk:OkH h):(keyE h key).length≤1501400:=by
 unfold keyE
 split
 ·unfold ofE
  rw [List.length_append,List.length_append,zlv]
  have h1:=zfb (key:=key) hf hk
  have h2:=zeX (key:=key) hf hk
  have h3:=zaj (rdE (wK (TH h) key) key (chH h key) (rsH h key)) 1201 (fun r=>zdE h2 r) (ofS (TH h) key)
  have h4:=(of_ok (key:=key) hf hk).sl
  have h5:=Nat.mul_le_mul_right 1201 h4
  have h6:(if 0 < (chH h key).length then rsE (wK (TH h) key) key (lastD (chH h key)) (rsH h key) else []).length≤1200:=by
   split
   ·unfold rsE;rw [List.length_map];exact h2
   ·simp
  omega
 ·simp
theorem wr_bI (hk:OkH h) {x:Int} {w:HWr} (hw:wK (TH h) key x=some w):bI x:=by
 obtain ⟨t,ht,i,hi,⟨g1,g2,g3⟩,_⟩:=wr_at hk hw
 have hmo:=(hk.m t ht).2 _ (List.getElem_mem hi)
 unfold mayO at hmo
 rw [g1] at hmo
 have h2:mayN t.ops[i].value∧t.ops[i].list=[]:=by simpa using hmo.2
 unfold mayN at h2
 unfold bI;omega
theorem zz (hk:OkH h) {u x:Int} (ho:ownsP (wK (TH h) key) u x):bI u∧bI x:=by
 obtain ⟨w,hw,_⟩:=id ho
 have:=zd5 (key:=key) hk x
 rw [zaC ho] at this
 exact ⟨this,wr_bI hk hw⟩
theorem zeO {l:List Int} (hl:∀ x ∈ l,bI x):bI (lastD l):=by
 unfold lastD
 cases hq:l.getLast? with
 | none=>exact ⟨by decide,by decide⟩
 | some x=>exact hl x (List.mem_of_getLast? hq)
theorem zfS (hk:OkH h) {r:HRd} (hr:r ∈ ofS (TH h) key):∀ x ∈ cleanL (wK (TH h) key) r.list,bI x:=fun x hx=>by
 obtain ⟨h1,_⟩:=List.mem_filter.1 hx
 obtain ⟨_,k2⟩:=zd3 (zdB hr)
 obtain ⟨w,hw⟩:=zbF k2 x h1
 exact wr_bI hk hw
theorem zly (hf:FewH h 20 60) (hk:OkH h) (hy:bI key) {x:HEd} (hx:x ∈ keyE h key):bE x:=by
 unfold keyE at hx
 split at hx
 ·obtain ⟨e,hj⟩:=(zjG zkk (zeT hf hk) zfM (zel hk) x).1 hx
  have hn:∀ n:Int,n=1∨n=2∨n=4→bI n:=fun n hn=>by unfold bI;omega
  unfold bE
  rw [e]
  rcases hj with ⟨e2,i,_,_,h1,h2⟩|⟨e2,e3,h1,r,hr,h2,_⟩|⟨e2,h1,r,hr,h2,h3,_⟩
  ·exact ⟨(zz hk h1).1,(zz hk h2).1,hn _ (by omega),hy,(zz hk h1).2,(zz hk h2).2⟩
  ·rw [e3,← h2]
   exact ⟨(zz hk h1).1,((of_ok hf hk).bd r hr).1,hn _ (by omega),hy,(zz hk h1).2,by decide,by decide⟩
  ·rw [← h2,← h3]
   exact ⟨((of_ok hf hk).bd r hr).1,(zz hk h1).1,hn _ (by omega),hy,zeO (zfS hk hr),(zz hk h1).2⟩
 ·cases hx
theorem zfK (hf:FewH h 20 60) (hk:OkH h):∀ keys:List Int,(allE h keys).length≤keys.length * 1501400:=fun keys=>by
 unfold allE
 exact zaj _ 1501400 (fun k=>Nat.le_trans (List.length_filter_le _ _) (zdg hf hk)) keys
theorem zl2 (hf:FewH h 20 60) (hk:OkH h) {keys:List Int} (hy:∀ k ∈ keys,bI k) {x:HEd} (hx:x ∈ allE h keys):bE x:=by
 obtain ⟨k,h0,h1⟩:=List.mem_flatMap.1 hx
 exact zly hf hk (hy k h0) (List.mem_filter.1 h1).1
theorem zff {α:Type} (f:α→Bool) {l:List α} {n:Nat} (hn:n < l.length):(l.take (n + 1)).filter f=(l.take n).filter f++if f l[n]=true then [l[n]] else []:=by
 rw [List.take_succ_eq_append_getElem hn,List.filter_append]
 cases hq:f l[n] <;> simp [hq]
theorem zey (hf:FewH h 20 60) (hk:OkH h) (hl:keys.length≤1200) (hy:∀ k ∈ keys,bI k):Spec prog1 zT [.agg #[.slice p h.length c],.slice pk keys.length ck] [fro kHTx p c h,rdl (kInt .i64) pk keys] (fun R=>∀ Z p' c',SrtI (allE h keys) Z→(∀ x,x ∈ Z ↔ x ∈ allE h keys)→R (.slice p' Z.length c') [own kHEd p' c' Z]):=by
 refine spec_code zlh rfl ?_;intro n F R hR;unfold zbK
 repeat' first|apply step|(apply gO;·repeat first|exact eZ|(apply eS;exact rfl))|refine Fa.mk fun _=>?_|refine g_keep ?_
 rename_i hb
 refine at_loopS (ι:=Nat × (Option Addr × Nat)) (E:=fun z=>[(1,.slice pk keys.length ck),(2,.pointer (some ⟨hb,0,none⟩)),(5,.slice z.2.1 (allE h (keys.take z.1)).length z.2.2),(6,.int .i64 (z.1:Int))]) (Δ:=fun z=>own kHEd z.2.1 z.2.2 (allE h (keys.take z.1))::pt hb [.slice p h.length c] 0::fro kHTx p c h::rdl (kInt .i64) pk keys::F) (P:=fun z=>z.1≤keys.length) (μ:=fun z=>keys.length - z.1) (0,(none,0)) (Nat.zero_le _) ?_
 rintro ⟨i,p3,c3⟩ hi
 dsimp only at hi ⊢
 have hlen:=zfK hf hk (keys.take i)
 have hle:(keys.take i).length * 1501400≤1200 * 1501400:=Nat.mul_le_mul_right _ (by rw [List.length_take];omega)
 rcases Nat.lt_or_ge i keys.length with hlt|hge
 ·have hnx:allE h (keys.take (i + 1))=allE h (keys.take i)++(keyE h keys[i]).filter neE:=zcN (fun key=>(keyE h key).filter neE) hlt
  have hyi:=hy keys[i] (List.getElem_mem _)
  unfold bI at hyi
  have hkl:=zdg (key:=keys[i]) hf hk
  generalize allE h (keys.take i)=O at hnx hlen ⊢
  repeat' first|apply step|(apply gO;·repeat first|exact eZ|(apply eS;exact rfl))|(refine Br.mk (fun _=>?_) (fun _=>?_)<;>try (exfalso;omega))|(refine Sd.mk ?_ ?_;·exact qD)|(refine Sx.mk ?_ ?_;·omega)|refine Im.mk fun _=>?_|refine g_cond ?_
  refine at_callS (zjl (key:=keys[i]) hf hk hyi) ?_
  intro p4 c4
  generalize keyE h keys[i]=Y at hnx hkl ⊢
  repeat' first|apply step|(apply gO;·repeat first|exact eZ|(apply eS;exact rfl))|refine g_keep ?_
  refine at_loopS (ι:=Nat × (Option Addr × Nat)) (E:=fun z=>[(1,.slice pk keys.length ck),(2,.pointer (some ⟨hb,0,none⟩)),(5,.slice z.2.1 (O++(Y.take z.1).filter neE).length z.2.2),(6,.int .i64 (i:Int)),(7,.slice p4 Y.length c4),(8,.int .i64 (z.1:Int))]) (Δ:=fun z=>own kHEd z.2.1 z.2.2 (O++(Y.take z.1).filter neE)::own kHEd p4 c4 Y::pt hb [.slice p h.length c] 0::fro kHTx p c h::rdl (kInt .i64) pk keys::F) (P:=fun z=>z.1≤Y.length) (μ:=fun z=>Y.length - z.1) (0,(p3,c3)) (Nat.zero_le _) ?_ (by dsimp only;rw [List.take_zero,List.filter_nil,List.append_nil];rfl) (by dsimp only;rw [List.take_zero,List.filter_nil,List.append_nil];repeat first|exact Ent.refl _|(apply Ent.more;· repeat first|exact Ent.keep|exact Ent.here|exact Ent.lend|exact ent_nil|apply Ent.there)|apply Ent.drop)
  rintro ⟨j,p5,c5⟩ hj
  dsimp only at hj ⊢
  have hfl:(O++(Y.take j).filter neE).length≤1803181401:=by
   rw [List.length_append]
   have h1:=List.length_filter_le neE (Y.take j)
   rw [List.length_take] at h1
   omega
  rcases Nat.lt_or_ge j Y.length with hlj|hgj
  ·have hn2:=zff neE hlj
   by_cases hne:Y[j].src=Y[j].dst
   ·rw [show neE Y[j]=false by unfold neE;simp [hne],if_neg (by decide),List.append_nil] at hn2
    repeat' first|apply step|(apply gO;·repeat first|exact eZ|(apply eS;exact rfl))|(refine Br.mk (fun _=>?_) (fun _=>?_)<;>try (exfalso;omega))|(refine Sd.mk ?_ ?_;·exact qD)|(refine Sx.mk ?_ ?_;·omega)|refine Im.mk fun _=>?_|refine g_cond ?_|refine g_keep ?_
    all_goals first|(exfalso;omega)|exact lp_next (j + 1,p5,c5) (by first|omega|(dsimp only;omega)) (by first|omega|(dsimp only;omega)) (by dsimp only;rw [hn2];done) (by dsimp only;rw [hn2];repeat first|exact Ent.refl _|(apply Ent.more;· repeat first|exact Ent.keep|exact Ent.here|exact Ent.lend|exact ent_nil|apply Ent.there)|apply Ent.drop)
   ·rw [show neE Y[j]=true by unfold neE;simp [hne],if_pos rfl] at hn2
    have hn3:O++(Y.take (j + 1)).filter neE=(O++(Y.take j).filter neE)++[Y[j]]:=by rw [hn2,List.append_assoc]
    generalize O++(Y.take j).filter neE=O2 at hn3 hfl ⊢
    have hfl2:O2.length < 20000000000:=by omega
    clear hfl hle hlen
    repeat' first|apply step|(apply gO;·repeat first|exact eZ|(apply eS;exact rfl))|(refine Br.mk (fun _=>?_) (fun _=>?_)<;>try (exfalso;omega))|(refine Sd.mk ?_ ?_;·exact qD)|(refine Sx.mk ?_ ?_;·omega)|refine Fa.mk fun _=>?_|refine Im.mk fun _=>?_|refine g_cond ?_|refine g_keep ?_
    all_goals first|(exfalso;omega)|exact lp_next (j + 1,_,_) (by first|omega|(dsimp only;omega)) (by first|omega|(dsimp only;omega)) (by first|(dsimp only;rw [hn3];done)|(dsimp only;rw [hn3];rfl)) (by try dsimp only;rw [hn3];repeat first|exact Ent.refl _|(apply Ent.more;· repeat first|exact Ent.keep|exact Ent.here|exact Ent.lend|exact ent_nil|apply Ent.there)|apply Ent.drop)
  ·rw [List.take_of_length_le hgj,← hnx]
   repeat' first|apply step|(apply gO;·repeat first|exact eZ|(apply eS;exact rfl))|(refine Br.mk (fun _=>?_) (fun _=>?_)<;>try (exfalso;omega))|(refine Sd.mk ?_ ?_;·exact qD)|refine g_cond ?_|refine g_keep ?_
   exact lp_next (i + 1,_,_) (by first|omega|(dsimp only;omega)) (by first|omega|(dsimp only;omega))
 ·rw [List.take_of_length_le hge] at hlen hle ⊢
  have hbe:=fun x hx=>zl2 (x:=x) hf hk hy hx
  generalize allE h keys=O at hlen hR hbe ⊢
  repeat' first|apply step|(apply gO;·repeat first|exact eZ|(apply eS;exact rfl))|(refine Br.mk (fun _=>?_) (fun _=>?_)<;>try (exfalso;omega))|refine g_cond ?_|refine g_keep ?_
  refine at_callR (ziH (l:=O) (by omega) hbe) ?_
  intro Z p' c' h1 h2
  repeat' first|apply step|(apply gO;·repeat first|exact eZ|(apply eS;exact rfl))|apply Lw.go|refine g_fin ?_
  exact fin (hR Z p' c' h1 h2)
end
end Go.AMS

namespace Go.AMS
open Go.AM hiding Kt At WP WL Runs RunsY
open Go.AM.G
set_option linter.unusedVariables false
set_option linter.unusedSimpArgs false
set_option linter.unusedSectionVars false
set_option maxRecDepth 100000
set_option maxHeartbeats 1000000
attribute [local irreducible] AtS AtV AtC AtG FinA Spec Post LP G.At G.WP G.WL pt own fro rdl ro hx mp lrec elt sub

open Go.AM.G.Set Go.AM.G.Pre
section
variable {h:List HTx} {T:Tb} {r:HRd} {l:List Int} {p q p1 p2 p3 q1 q2:Option Addr} {c d c1 c2 c3 d1 d2 b mr mt tb xb kb:Nat} {ch rs:List Int} {key:Int} {x:HEd}
theorem zfl {m:Nat} (h1:ch.length≤100000) (h2:rs.length≤100000) (h3:m≤100000) (hb:∀ v ∈ ch,bI v):Spec prog1 zaq [.agg #[.int .i64 key,.slice q1 ch.length d1,.slice q2 rs.length d2,.bool false,.int .i64 0,.int .i64 0,.int .i64 0,.slice none 0 0,.slice none 0 0,.int .i64 0,.int .i64 0,.int .i64 0,.slice none 0 0,.slice none 0 0],.int .i64 (m:Int)] [rdl (kInt .i64) q1 ch,rdl (kInt .i64) q2 rs] (fun R=>∀ q' d',R (.slice q' (nxI ch rs m).length d') [own (kInt .i64) q' d' (nxI ch rs m)]):=by
 refine spec_code zho rfl ?_;intro n F R hR;unfold zbM
 unfold nxI at hR
 by_cases e1:m=ch.length
 ·rw [if_pos e1] at hR
  repeat' first|apply step|(apply gO;·repeat first|exact eZ|(apply eS;exact rfl))|(refine Br.mk (fun _=>?_) (fun _=>?_)<;>try (exfalso;omega))|refine Fa.mk fun _=>?_|refine g_cond ?_
  all_goals try (exfalso;omega)
  refine at_callR (zr (l:=rs) (by omega)) ?_
  intro p' c'
  repeat' first|apply step|(apply gO;·repeat first|exact eZ|(apply eS;exact rfl))|apply Lw.go|refine g_fin ?_
  exact fin (hR _ _)
 ·rw [if_neg e1] at hR
  by_cases e2:m < ch.length
  ·rw [if_pos e2,getD_lt e2] at hR
   have hbm:=hb _ (List.getElem_mem e2)
   repeat' first|apply step|(apply gO;·repeat first|exact eZ|(apply eS;exact rfl))|(refine Br.mk (fun _=>?_) (fun _=>?_)<;>try (exfalso;omega))|(refine Sd.mk ?_ ?_;·exact qD)|(refine Sx.mk ?_ ?_;·omega)|refine Fa.mk fun _=>?_|refine Im.mk fun _=>?_|refine g_cond ?_|refine g_guard ?_|refine g_keep ?_|refine g_fin ?_
   all_goals try (exfalso;omega)
   all_goals
    refine fin_via (pt_own (K:=kInt .i64) (l:=[ch[m]]) (cap:=1) rfl inferInstance hbm) ?_
    exact fin (hR _ _)
  ·rw [if_neg e2] at hR
   repeat' first|apply step|(apply gO;·repeat first|exact eZ|(apply eS;exact rfl))|(refine Br.mk (fun _=>?_) (fun _=>?_)<;>try (exfalso;omega))|refine Fa.mk fun _=>?_|refine g_cond ?_|refine g_guard ?_|refine g_keep ?_|refine g_fin ?_
   all_goals first|exact fin (hR _ _)|(exfalso;omega)
end
end Go.AMS

namespace Go.AMS
open Go.AM hiding Kt At WP WL Runs RunsY
open Go.AM.G
set_option linter.unusedVariables false
set_option linter.unusedSimpArgs false
theorem zeD {m:M}:∀ {l:List HEd} {cs:List Value},Cells kHEd m cs l→cs=(l.map tupE).flatMap AM.x6c∧∀ a ∈ l,kHEd.rd m (AM.x6c (tupE a)) a
 | [],cs,h=>⟨h,by simp⟩
 | t::l,cs,⟨c,r,e,h1,h2⟩=>by
  obtain ⟨e1,e2⟩:=zeD h2
  obtain ⟨v0,v1,v2,v3,v4,v5,hc,q0,q1,q2,q3,q4,q5⟩:=id h1
  have k0:v0=.int .i64 t.src:=(List.cons.inj q0.1).1
  have k1:v1=.int .i64 t.dst:=(List.cons.inj q1.1).1
  have k2:v2=.int .i64 t.kind:=(List.cons.inj q2.1).1
  have k3:v3=.int .i64 t.key:=(List.cons.inj q3.1).1
  have k4:v4=.int .i64 t.left:=(List.cons.inj q4.1).1
  have k5:v5=.int .i64 t.right:=(List.cons.inj q5.1).1
  subst k0 k1 k2 k3 k4 k5
  have hx:c=AM.x6c (tupE t):=hc
  refine ⟨by rw [e,e1,hx];rfl,fun a ha=>?_⟩
  rcases List.mem_cons.1 ha with rfl|ha
  ·rw [← hx];exact h1
  ·exact e2 a ha
theorem zeo {m:M}:∀ {zs:List HEd},(∀ z ∈ zs,kHEd.rd m (AM.x6c (tupE z)) z)→Cells kHEd m ((zs.map tupE).flatMap AM.x6c) zs
 | [],_=>rfl
 | z::zs,h=>⟨_,_,by rw [List.map_cons,List.flatMap_cons],h z (by simp),zeo fun y hy=>h y (by simp [hy])⟩
theorem zdU:∀ a b:List Int,AM.cmpL a b=cmpL a b
 | [],b=>by cases b <;> rfl
 | x::a,[]=>rfl
 | x::a,y::b=>by
  simp only [AM.cmpL,cmpL,zdU a b]
def unT:List Int→HEd
 | [a,b,c,d,e,f]=>⟨a,b,c,d,e,f⟩
 | _=>⟨0,0,0,0,0,0⟩
theorem zhP (a:HEd):unT (tupE a)=a:=rfl
theorem zlp {x:List Int} (h:x.length=6):tupE (unT x)=x:=by
 obtain ⟨a,b,c,d,e,f,rfl⟩:=AM.six_inv h
 rfl
theorem zfx:∀ {l:List (List Int)},(∀ x ∈ l,x.length=6)→(l.map unT).map tupE=l
 | [],_=>rfl
 | x::l,h=>by
  rw [List.map_cons,List.map_cons,zlp (h x (by simp)),zfx fun y hy=>h y (List.mem_cons_of_mem _ hy)]
theorem tups6 (l:List HEd):∀ x ∈ l.map tupE,x.length=6:=fun x hx=>by
 obtain ⟨a,_,rfl⟩:=List.mem_map.1 hx;rfl
/-- Edges, sorted. -/
def sortE (l:List HEd):List HEd:=(AM.sortG (l.map tupE)).map unT
theorem zdQ (l:List HEd):(sortE l).Perm l:=by
 have:=(AM.sortG_perm (l.map tupE)).map unT
 rw [List.map_map] at this
 have e:l.map (unT ∘ tupE)=l:=by
  have:(unT ∘ tupE)=id:=by funext a;exact zhP a
  rw [this,List.map_id]
 rw [e] at this
 exact this
theorem zeM (l:List HEd):(sortE l).map tupE=AM.sortG (l.map tupE):=zfx fun x hx=>tups6 l x ((AM.sortG_perm _).mem_iff.1 hx)
theorem zka (l:List HEd):(sortE l).Pairwise fun a b=>¬ ltE b a:=by
 have h:=AM.sortG_sorted (tups6 l)
 rw [← zeM] at h
 have h:=List.pairwise_map.1 h
 refine h.imp fun {a b} q g=>q ?_
 rw [zdU]
 show cmpE b a < 0
 unfold ltE at g
 rw [g];decide
theorem zf4 (l:List HEd):(sortE l).length=l.length:=(zdQ l).length_eq
theorem zjL {p:Option Addr} {c:Nat} {l:List HEd} (hl:l.length≤100000000000):Spec prog1 zaS [.slice p l.length c,.func (.func zc) #[] #[]] [own kHEd p c l] (fun R=>R (.tuple #[]) [own kHEd p c (sortE l)]):=by
 intro n F h R hs hw H hH
 obtain ⟨⟨S,⟨t1,t2,k1,k3,k4,k5⟩,k6⟩,hp,hn⟩:=id hs
 by_cases h0:l=[]
 ·subst h0
  have e:sortE []=[]:=rfl
  rw [e] at hw
  refine ⟨1,.tuple #[],H,h,?_,rfl,hH,.refl h,rfl,_,hw,hs⟩
  simp only [callV,zfw,AM.sortEO,Nat.beq_refl,Bool.true_and,cond_true,List.isEmpty_nil,Bool.and_self]
  rfl
 ·have k1':∃ b cs,p=some ⟨b,0,none⟩∧b < h.size∧h.get b=some (.cells cs (some kHEd.esz))∧Cells kHEd (tz h) cs l∧t1=(·=b):=by
   unfold own at k1
   rcases k1 with ⟨_,_,h1,_⟩|k1
   ·exact absurd h1 h0
   ·exact k1
  obtain ⟨b,cs,rfl,h2,h3,h4,rfl⟩:=k1'
  obtain ⟨hz2,hz3⟩:=zeD h4
  have hcl:cs.length=l.length * 6:=by rw [hz2,AM.x6c_len (tups6 l),List.length_map]
  have hn0:¬ l.length=0:=by simpa using h0
  have hb:n≤b:=k6 b ((k5 b).2 (.inl rfl))
  obtain ⟨own',e1,e2⟩:=hH.cells h3
  have e3:H.get b=some (.cells cs (some 6)):=by
   rcases e2 with rfl|e2
   ·exact e1
   ·cases e2
  have hsp:splice cs 0 (((sortE l).map tupE).flatMap AM.x6c)=((sortE l).map tupE).flatMap AM.x6c:=by
   unfold splice
   simp only [List.take_zero,List.nil_append,Nat.zero_add]
   rw [AM.x6c_len (tups6 _),List.length_map,zf4,List.drop_eq_nil_of_le (by omega),List.append_nil]
  have hst:St h (h.set b (.cells (((sortE l).map tupE).flatMap AM.x6c) (some 6))):=.set _ (by rw [hp];exact hb) (fun x hx=>by rw [h3] at hx;cases hx)
  refine ⟨1,.tuple #[],H.set b (.cells (((sortE l).map tupE).flatMap AM.x6c) (some 6)),h.set b (.cells (((sortE l).map tupE).flatMap AM.x6c) (some 6)),?_,rfl,hH.set _ _,hst,rfl,_,hw,⟨S,⟨(·=b),t2,?_,k3.loc hst (fun x hx=>by rw [Heap.get_set,if_neg (fun e=>k4 x e hx)]),k4,k5⟩,k6⟩,hp,hn⟩
  ·simp only [callV,zfw,AM.sortEO]
   rw [show (Nat.beq zc zc && (#[]:Array Value).toList.isEmpty && (#[]:Array Value).toList.isEmpty)=true by simp,cond_true,if_neg hn0]
   simp only [e3]
   rw [if_pos ⟨trivial,by have:=hH.prot;omega,by omega,by omega⟩]
   rw [List.drop_zero,show l.length * 6=cs.length by omega,List.take_length,hz2,AM.x6s_of (tups6 l)]
   simp only []
   rw [← zeM,← hz2,hsp]
  ·unfold own
   refine .inr ⟨b,_,rfl,h2,by rw [Heap.get_set,if_pos rfl];rfl,?_,rfl⟩
   exact Cells.mono (St_tz hst) (zeo fun z hz=>hz3 z ((zdQ l).mem_iff.1 hz))
end Go.AMS

namespace Go.AMS
open Go.AM hiding Kt At WP WL Runs RunsY
open Go.AM.G
set_option linter.unusedVariables false
set_option linter.unusedSimpArgs false
set_option linter.unusedSectionVars false
set_option maxRecDepth 100000
set_option maxHeartbeats 1000000
attribute [local irreducible] AtS AtV AtC AtG FinA Spec Post LP G.At G.WP G.WL pt own fro rdl ro hx mp lrec elt sub

open Go.AM.G.Set Go.AM.G.Pre
def orL:List Int→Int
 | []=>0
 | x::l=>if x=0 then orL l else x
def cmI (x y:Int):Int:=if x < y then -1 else if y < x then 1 else 0
theorem zZ (x y:Int):-1≤cmI x y∧cmI x y≤1:=by
 unfold cmI
 split
 ·decide
 ·split <;> decide
theorem zeJ:∀ a b:List Int,a.length=b.length→cmpL a b=orL ((a.zip b).map fun z=>cmI z.1 z.2)
 | [],[],_=>rfl
 | [],_::_,h=>by simp at h
 | _::_,[],h=>by simp at h
 | x::a,y::b,h=>by
  have ih:=zeJ a b (by simpa using h)
  simp only [cmpL,List.zip_cons_cons,List.map_cons,orL,cmI,ih]
  by_cases h1:x < y
  ·simp [h1]
  ·by_cases h2:y < x
   ·simp [h1,h2]
   ·simp [h1,h2]
theorem ziy {l:List Int} {i:Nat} (h:i < l.length):orL (l.drop i)=if l[i]=0 then orL (l.drop (i + 1)) else l[i]:=by
 rw [List.drop_eq_getElem_cons h];rfl
section
variable {prog:AProg} {p:Option Addr} {c:Nat} {l:List Int} {x y:Int}
theorem zfF (zh:prog zd=some (.code zi)):Spec prog zd [.int .i64 x] [] (fun R=>R (.bool false) []):=by
 refine spec_code zh rfl ?_;intro n F R hR;unfold zi
 repeat' first|apply step|(apply gO;·repeat first|exact eZ|(apply eS;exact rfl))|(refine Br.mk (fun _=>?_) (fun _=>?_)<;>try (exfalso;omega))|refine g_fin ?_
 all_goals first|exact fin hR|(exfalso;omega)
theorem zkR (zh:prog zd=some (.code zi)) (zL:prog zb=some (.code zn)):Spec prog zb [.int .i64 x,.int .i64 y] [] (fun R=>R (.int .i64 (cmI x y)) []):=by
 refine spec_code zL rfl ?_;intro n F R hR;unfold zn
 repeat' first|apply step|(apply gO;·repeat first|exact eZ|(apply eS;exact rfl))
 refine at_callS (zfF zh) ?_
 repeat' first|apply step|(apply gO;·repeat first|exact eZ|(apply eS;exact rfl))
 refine at_callS (zfF zh) ?_
 unfold cmI at hR
 repeat' first|apply step|(apply gO;·repeat first|exact eZ|(apply eS;exact rfl))|(refine Br.mk (fun _=>?_) (fun _=>?_)<;>try (exfalso;omega))|refine g_cond ?_|refine g_fin ?_
 ·rw [if_pos ‹_›] at hR;exact fin hR
 ·rw [if_neg (by omega),if_pos ‹_›] at hR;exact fin hR
 ·rw [if_neg (by omega),if_neg (by omega)] at hR;exact fin hR
theorem zjd (zV:prog zl=some (.code zy)) (hl:l.length≤1000):Spec prog zl [.slice p l.length c] [own (kInt .i64) p c l] (fun R=>R (.int .i64 (orL l)) []):=by
 refine spec_code zV rfl ?_;intro n F R hR;unfold zy
 repeat' first|apply step|(apply gO;·repeat first|exact eZ|(apply eS;exact rfl))|refine g_keep ?_
 refine at_loopS (ι:=Nat) (E:=fun i=>[(3,.int .i64 0),(6,.slice p l.length c),(7,.int .i64 (l.length:Int)),(8,.int .i64 (i:Int))]) (Δ:=fun i=>own (kInt .i64) p c l::F) (P:=fun i=>i≤l.length∧orL (l.drop i)=orL l) (μ:=fun i=>l.length - i) 0 ⟨Nat.zero_le _,rfl⟩ ?_
 rintro i ⟨hi,hd⟩
 try dsimp only at hi hd ⊢
 rcases Nat.lt_or_ge i l.length with hlt|hge
 ·rw [ziy hlt] at hd
  by_cases e:l[i]=0
  ·rw [if_pos e] at hd
   repeat' first|apply step|(apply gO;·repeat first|exact eZ|(apply eS;exact rfl))|(refine Br.mk (fun _=>?_) (fun _=>?_)<;>try (exfalso;omega))|(refine Sd.mk ?_ ?_;·exact qD)|(refine Sx.mk ?_ ?_;·omega)|refine Im.mk fun _=>?_|refine g_cond ?_|refine g_keep ?_
   all_goals first|(exfalso;omega)|exact lp_next (i + 1) ⟨by omega,hd⟩ (by omega)
  ·rw [if_neg e] at hd
   rw [← hd] at hR
   repeat' first|apply step|(apply gO;·repeat first|exact eZ|(apply eS;exact rfl))|(refine Br.mk (fun _=>?_) (fun _=>?_)<;>try (exfalso;omega))|(refine Sd.mk ?_ ?_;·exact qD)|(refine Sx.mk ?_ ?_;·omega)|refine Im.mk fun _=>?_|refine g_cond ?_|refine g_fin ?_
   all_goals first|(exfalso;omega)|exact fin hR
 ·have e:i=l.length:=by omega
  subst e
  rw [List.drop_length] at hd
  have hd0:(0:Int)=orL l:=hd
  rw [← hd0] at hR
  repeat' first|apply step|(apply gO;·repeat first|exact eZ|(apply eS;exact rfl))|(refine Br.mk (fun _=>?_) (fun _=>?_)<;>try (exfalso;omega))|refine g_cond ?_|refine g_keep ?_|refine g_fin ?_
  all_goals first|(exfalso;omega)|exact fin hR
theorem zkv (zh:prog zd=some (.code zi)) (zL:prog zb=some (.code zn)) (zV:prog zl=some (.code zy)) (zb5:prog zc=some (.code zO)) {a b:HEd} :
  Spec prog zc [.agg #[.int .i64 a.src,.int .i64 a.dst,.int .i64 a.kind,.int .i64 a.key,.int .i64 a.left,.int .i64 a.right],.agg #[.int .i64 b.src,.int .i64 b.dst,.int .i64 b.kind,.int .i64 b.key,.int .i64 b.left,.int .i64 b.right]] [] (fun R=>R (.int .i64 (cmpE a b)) []):=by
 refine spec_code zb5 rfl ?_;intro n F R hR;unfold zO
 have hc:∀ x y:Int,Spec prog zb [.int .i64 x,.int .i64 y] [] (fun R=>R (.int .i64 (cmI x y)) []):=fun x y=>zkR zh zL
 have he:cmpE a b=orL [cmI a.src b.src,cmI a.dst b.dst,cmI a.kind b.kind,cmI a.key b.key,cmI a.left b.left,cmI a.right b.right]:=zeJ (tupE a) (tupE b) rfl
 rw [he] at hR
 have ho:=fun (p:Option Addr) (c:Nat)=>zjd (p:=p) (c:=c) (l:=[cmI a.src b.src,cmI a.dst b.dst,cmI a.kind b.kind,cmI a.key b.key,cmI a.left b.left,cmI a.right b.right]) zV (by simp)
 have b1:=zZ a.src b.src
 have b2:=zZ a.dst b.dst
 have b3:=zZ a.kind b.kind
 have b4:=zZ a.key b.key
 have b5:=zZ a.left b.left
 have b6:=zZ a.right b.right
 repeat' first|apply step|(apply gO;·repeat first|exact eZ|(apply eS;exact rfl))|refine Fa.mk fun _=>?_
 refine at_callR (hc a.src b.src) ?_
 repeat' first|apply step|(apply gO;·repeat first|exact eZ|(apply eS;exact rfl))|apply Lw.go
 refine at_callR (hc a.dst b.dst) ?_
 repeat' first|apply step|(apply gO;·repeat first|exact eZ|(apply eS;exact rfl))|apply Lw.go
 refine at_callR (hc a.kind b.kind) ?_
 repeat' first|apply step|(apply gO;·repeat first|exact eZ|(apply eS;exact rfl))|apply Lw.go
 refine at_callR (hc a.key b.key) ?_
 repeat' first|apply step|(apply gO;·repeat first|exact eZ|(apply eS;exact rfl))|apply Lw.go
 refine at_callR (hc a.left b.left) ?_
 repeat' first|apply step|(apply gO;·repeat first|exact eZ|(apply eS;exact rfl))|apply Lw.go
 refine at_callR (hc a.right b.right) ?_
 generalize cmI a.src b.src=m1 at *
 generalize cmI a.dst b.dst=m2 at *
 generalize cmI a.kind b.kind=m3 at *
 generalize cmI a.key b.key=m4 at *
 generalize cmI a.left b.left=m5 at *
 generalize cmI a.right b.right=m6 at *
 repeat' first|apply step|(apply gO;·repeat first|exact eZ|(apply eS;exact rfl))|refine Fa.mk fun _=>?_|apply Lw.go
 rename_i lb
 refine av_via (pt_own (K:=kInt .i64) (b:=lb) (cs:=[.int .i64 m1,.int .i64 m2,.int .i64 m3,.int .i64 m4,.int .i64 m5,.int .i64 m6]) (l:=[m1,m2,m3,m4,m5,m6]) (cap:=6) rfl (show OfVs _ (kInt .i64) [.int .i64 m1,.int .i64 m2,.int .i64 m3,.int .i64 m4,.int .i64 m5,.int .i64 m6] [m1,m2,m3,m4,m5,m6] _ from inferInstance) (by repeat' constructor;all_goals omega)) ?_
 refine at_callS (ho (some ⟨lb,0,none⟩) 6) ?_
 repeat' first|apply step|(apply gO;·repeat first|exact eZ|(apply eS;exact rfl))|refine g_keep ?_|refine g_fin ?_
 exact fin hR
end
section
instance dec_HEd:DecidableEq HEd:=fun a b=>decidable_of_iff (a.src=b.src∧a.dst=b.dst∧a.kind=b.kind∧a.key=b.key∧a.left=b.left∧a.right=b.right) (by cases a;cases b;simp)
instance zk_ed:ZeroK [.int .i64 0,.int .i64 0,.int .i64 0,.int .i64 0,.int .i64 0,.int .i64 0] kHEd ⟨0,0,0,0,0,0⟩:=⟨fun m=>⟨_,_,_,_,_,_,rfl,⟨rfl,by decide,by decide⟩,⟨rfl,by decide,by decide⟩,⟨rfl,by decide,by decide⟩,⟨rfl,by decide,by decide⟩,⟨rfl,by decide,by decide⟩,⟨rfl,by decide,by decide⟩⟩⟩
theorem zb1 {a b:HEd}:(a.src=b.src∧a.dst=b.dst∧a.kind=b.kind∧a.key=b.key∧a.left=b.left∧a.right=b.right) ↔ a=b:=by
 cases a;cases b
 simp
theorem zkW {l:List HEd} {i:Nat} {a:HEd} (h:i < l.length):(l.set i a).take (i + 1)=l.take i++[a]:=by
 rw [List.take_succ_eq_append_getElem (by simp;omega),List.take_set_of_le (Nat.le_refl _)];simp
theorem zir {p:Option Addr} {c:Nat} {l:List HEd} (hl:l.length≤100000000000):Spec prog1 zaz [.slice p l.length c] [own kHEd p c l] (fun R=>∀ c' (l':List HEd),l'.take (compactL l).length=compactL l→(compactL l).length≤l'.length→R (.slice p (compactL l).length c') [own kHEd p c l']):=by
 refine spec_code zhw rfl ?_;intro n F R hR;unfold zcX
 have same:compactL l=l→R (.slice p l.length c) [own kHEd p c l]:=fun e=>by
  have:=hR c l (by rw [e,List.take_length]) (by rw [e];exact Nat.le_refl _)
  rwa [e] at this
 repeat' first|apply step|(apply gO;·repeat first|exact eZ|(apply eS;exact rfl))|(refine Br.mk (fun _=>?_) (fun _=>?_)<;>try (exfalso;omega))|refine g_cond ?_|refine g_keep ?_|refine g_fin ?_
 ·exact fin (same (compactL_short (by omega)))
 refine at_loopS (ι:=Nat) (E:=fun k=>[(0,.slice p l.length c),(3,.int .i64 (k:Int))]) (Δ:=fun _=>own kHEd p c l::F) (P:=fun k=>0 < k∧k≤l.length∧∀ i,0 < i→(hi:i < l.length)→i < k→l[i]≠l[i - 1]) (μ:=fun k=>l.length - k) 1 ⟨by omega,by omega,fun i h1 h2 h3=>by omega⟩ ?_
 rintro k ⟨hk0,hk,hI⟩
 repeat' first|apply step|(apply gO;·repeat first|exact eZ|(apply eS;exact rfl))|(refine Br.mk (fun _=>?_) (fun _=>?_)<;>try (exfalso;omega))|(refine Sd.mk ?_ ?_;·exact qD)|(refine Sx.mk ?_ ?_;·omega)|refine Fa.mk fun _=>?_|refine Im.mk fun _=>?_|refine g_cond ?_|refine g_keep ?_|refine g_fin ?_
 ·-- two alike
  rename_i hi1 _ hi2 _ hdup
  have hk1:((k:Int) - 1).toNat=k - 1:=by omega
  simp only [hk1] at hdup
  replace hdup:=zb1.1 hdup
  have hkl:k < l.length:=by omega
  have hstart:compactL (l.take (k + 1))=l.take k:=by
   rw [compactL_take hk0 hkl,if_pos hdup]
   refine compactL_id fun i h1 h2=>?_
   have h3:i < k:=by simp at h2;omega
   simp only [List.getElem_take]
   exact hI i h1 (by omega) h3
  refine at_loopS (ι:=Nat × Nat × List HEd) (E:=fun w=>[(0,.slice p l.length c),(3,.int .i64 (w.2.1:Int)),(4,.slice (sub p k 6) (l.length - k) (l.length - k)),(5,.int .i64 (w.1:Int))]) (Δ:=fun w=>own kHEd p c w.2.2::F)
   (P:=fun w=>w.2.2.length=l.length∧1≤w.1∧w.1≤l.length - k∧w.2.1≤k + w.1 - 1∧w.2.2.take w.2.1=compactL (l.take (k + w.1))∧w.2.2.drop (k + w.1 - 1)=l.drop (k + w.1 - 1)) (μ:=fun w=>l.length - w.1) (1,k,l) ⟨rfl,by omega,by omega,by simp,hstart.symm,rfl⟩ ?_
  rintro ⟨j,kk,l2⟩ ⟨hl2,hj1,hj2,hkk,htk,hdr⟩
  simp only at hl2 hj1 hj2 hkk htk hdr
  have hdl:(l2.drop k).length=l.length - k:=by simp;omega
  have hsame:∀ q,k + j - 1≤q→(hq:q < l.length)→l2[q]'(by omega)=l[q]:=by
   intro q h1 h3
   have:=congrArg (fun z=>z[q - (k + j - 1)]?) hdr
   simp only [List.getElem?_drop] at this
   rw [show k + j - 1 + (q - (k + j - 1))=q by omega,List.getElem?_eq_getElem (by omega),List.getElem?_eq_getElem h3] at this
   exact Option.some.inj this
  have hct:∀ hq:k + j < l.length,compactL (l.take (k + j + 1))=if l[k + j]=l[k + j - 1] then compactL (l.take (k + j)) else compactL (l.take (k + j))++[l[k + j]]:=fun hq=>compactL_take (by omega) hq
  have hj:((j:Int) - 1).toNat=j - 1:=by omega
  dsimp only
  repeat' first|apply step|(apply gO;·repeat first|exact eZ|(apply eS;exact rfl))|(refine Br.mk (fun _=>?_) (fun _=>?_)<;>try (exfalso;omega))|(refine Sd.mk ?_ ?_;·exact qD)|(refine Sx.mk ?_ ?_;·omega)|refine Fa.mk fun _=>?_|refine Im.mk fun _=>?_|refine g_cond ?_|refine g_keep ?_|refine g_fin ?_
  ·have hjn:j < l.length - k:=by omega
   have hq:k + j < l.length:=by omega
   have e1:(l2.drop k)[j]'(by omega)=l[k + j]:=by rw [List.getElem_drop];exact hsame _ (by omega) hq
   have e2:(l2.drop k)[((j:Int) - 1).toNat]'(by omega)=l[k + j - 1]:=by
    rw [List.getElem_drop]
    have:=hsame (k + (j - 1)) (by omega) (by omega)
    simp only [hj]
    rw [this];congr 1;omega
   have hcmp:¬ l[k + j]=l[k + j - 1]:=by rw [← e1,← e2,← zb1];assumption
   have hkn:kk < l2.length:=by omega
   rw [e1]
   refine lp_next (j + 1,kk + 1,l2.set kk l[k + j]) ⟨by simp [hl2],by dsimp only;omega,by dsimp only;omega,by dsimp only;omega,?_,?_⟩ (by dsimp only;omega)
   ·show (l2.set kk l[k + j]).take (kk + 1)=compactL (l.take (k + (j + 1)))
    rw [show k + (j + 1)=k + j + 1 by omega,hct hq,if_neg hcmp,← htk,zkW hkn]
   ·show (l2.set kk l[k + j]).drop (k + (j + 1) - 1)=l.drop (k + (j + 1) - 1)
    rw [show k + (j + 1) - 1=k + j by omega,List.drop_set_of_lt (by omega)]
    have:=congrArg (List.drop 1) hdr
    rw [List.drop_drop,List.drop_drop,show k + j - 1 + 1=k + j by omega] at this
    exact this
  ·have hjn:j < l.length - k:=by omega
   have hq:k + j < l.length:=by omega
   have e1:(l2.drop k)[j]'(by omega)=l[k + j]:=by rw [List.getElem_drop];exact hsame _ (by omega) hq
   have e2:(l2.drop k)[((j:Int) - 1).toNat]'(by omega)=l[k + j - 1]:=by
    rw [List.getElem_drop]
    have:=hsame (k + (j - 1)) (by omega) (by omega)
    simp only [hj]
    rw [this];congr 1;omega
   have hcmp:¬ l[k + j]≠l[k + j - 1]:=by rw [← e1,← e2,ne_eq,← zb1];assumption
   refine lp_next (j + 1,kk,l2) ⟨hl2,by dsimp only;omega,by dsimp only;omega,by dsimp only;omega,?_,?_⟩ (by dsimp only;omega)
   ·show l2.take kk=compactL (l.take (k + (j + 1)))
    rw [show k + (j + 1)=k + j + 1 by omega,hct hq,if_pos (by simpa using hcmp)];exact htk
   ·show l2.drop (k + (j + 1) - 1)=l.drop (k + (j + 1) - 1)
    have:=congrArg (List.drop 1) hdr
    rw [List.drop_drop,List.drop_drop,show k + j - 1 + 1=k + j by omega] at this
    rw [show k + (j + 1) - 1=k + j by omega];exact this
  ·have hkl2:compactL l=l2.take kk:=by rw [htk,show k + j=l.length by omega,List.take_length]
   have hlen:(compactL l).length=kk:=by rw [hkl2];simp;omega
   have:=hR kk (l2.take kk++List.replicate (l.length - kk) ⟨0,0,0,0,0,0⟩++l2.drop (kk + (l.length - kk))) (by rw [hlen,hkl2,List.append_assoc,List.take_left' (by simp;omega)]) (by rw [hlen];simp;omega)
   rw [hlen] at this
   exact fin this
 ·refine lp_next (k + 1) ⟨by omega,by omega,fun i h1 h2 h3=>?_⟩ (by omega)
  rename_i hdup
  have hk1:((k:Int) - 1).toNat=k - 1:=by omega
  simp only [hk1] at hdup
  by_cases e:i=k
  ·subst e;exact fun q=>hdup (zb1.2 q)
  ·exact hI i h1 h2 (by omega)
 ·exact fin (same (compactL_id fun i h1 h2=>hI i h1 h2 (by omega)))
theorem zgF {p:Option Addr} {c:Nat} {l:List HEd} (hl:l.length≤10000000000):Spec prog1 zaD [.slice p l.length c] [rdl kHEd p l] (fun R=>∀ p' c',R (.slice p' l.length c') [own kHEd p' c' l]):=by
 refine spec_code zlU rfl ?_;intro n F R hR;unfold zbW
 repeat' first|apply step|(apply gO;·repeat first|exact eZ|(apply eS;exact rfl))|(refine Br.mk (fun _=>?_) (fun _=>?_)<;>try (exfalso;omega))|(refine Sd.mk ?_ ?_;·exact qD)|refine Fa.mk fun _=>?_|refine Im.mk fun _=>?_|refine g_cond ?_|refine g_fin ?_
 ·subst_vars
  exact fin (hR none 0)
 ·exact fin (hR _ _)
theorem zfr:∀ {l:List HEd},l.Pairwise (fun a b=>¬ ltE b a)→(compactL l).Pairwise ltE
 | [],_=>by simp [compactL]
 | [x],_=>by simp [compactL]
 | x::y::r,h=>by
  rw [List.pairwise_cons] at h
  have ih:=zfr h.2
  unfold compactL
  split
  ·exact ih
  ·rename_i hne
   rw [List.pairwise_cons]
   refine ⟨fun a ha=>?_,ih⟩
   have hxy:=h.1 y (by simp)
   rw [mem_compactL] at ha
   have hlt:ltE x y:=by
    rcases zdO x y with q|q|q
    ·exact q
    ·exact absurd q hne
    ·exact absurd q hxy
   rcases List.mem_cons.1 ha with rfl|ha
   ·exact hlt
   ·have h2:=h.2
    rw [List.pairwise_cons] at h2
    have h3:=h2.1 a ha
    rcases zdO y a with q|q|q
    ·exact zaQ hlt q
    ·rw [← q];exact hlt
    ·exact absurd q h3
theorem SrtI.of {l Z:List HEd} (h1:Z.Pairwise ltE) (h2:∀ x,x ∈ Z ↔ x ∈ l):SrtI l Z:=⟨h1,fun x hx=>(h2 x).1 hx,fun x hx hn=>absurd ((h2 x).2 hx) hn⟩
/-- edges.Sort: in order, each once. -/
theorem ze5 {p:Option Addr} {c:Nat} {l:List HEd} (hl:l.length≤10000000000):Spec prog1 z9 [.slice p l.length c] [rdl kHEd p l] (fun R=>∀ Z p' c',SrtI l Z→(∀ x,x ∈ Z ↔ x ∈ l)→R (.slice p' Z.length c') [lst kHEd p' Z]):=by
 refine spec_code ziv rfl ?_;intro n F R hR;unfold zcB
 have hm:∀ x,x ∈ compactL (sortE l) ↔ x ∈ l:=fun x=>by rw [mem_compactL];exact (zdQ l).mem_iff
 have hs:SrtI l (compactL (sortE l)):=.of (zfr (zka l)) hm
 have hsl:=zf4 l
 repeat' first|apply step|(apply gO;·repeat first|exact eZ|(apply eS;exact rfl))
 refine at_callS (zgF (l:=l) hl) ?_
 intro p1 c1
 repeat' first|apply step|(apply gO;·repeat first|exact eZ|(apply eS;exact rfl))
 refine at_callS (zjL (l:=l) (by omega)) ?_
 repeat' first|apply step|(apply gO;·repeat first|exact eZ|(apply eS;exact rfl))
 rw [← hsl]
 refine at_callS (zir (l:=sortE l) (by omega)) ?_
 intro c2 l2 h1 h2
 repeat' first|apply step|(apply gO;·repeat first|exact eZ|(apply eS;exact rfl))|refine g_fin ?_
 refine fin_via (own_lst (p:=p1) (l:=l2) _ h1) ?_
 exact fin (hR _ p1 c2 hs hm)
end
end Go.AMS

namespace Go.AMS
open Go.AM hiding Kt At WP WL Runs RunsY
open Go.AM.G
set_option linter.unusedVariables false
set_option linter.unusedSimpArgs false
section
variable {prog:AProg}
theorem zh5 (zh:prog zd=some (.code zi)) (zL:prog zb=some (.code zn)) (zV:prog zl=some (.code zy)) (zb5:prog zc=some (.code zO)) (x y:AM.M6) :
  ∃ n h',callV prog n (.func zc) [.agg x.enc.toArray,.agg y.enc.toArray] Heap.empty=some (.int .i64 (AM.M6.cf x y),h'):=by
 obtain ⟨x,hx⟩:=x
 obtain ⟨y,hy⟩:=y
 obtain ⟨a,b,c,d,e,f,rfl⟩:=AM.six_inv hx
 obtain ⟨a',b',c',d',e',f',rfl⟩:=AM.six_inv hy
 obtain ⟨n,v,H',h',h1,_,rfl⟩:=(zkv zh zL zV zb5 (a:=⟨a,b,c,d,e,f⟩) (b:=⟨a',b',c',d',e',f'⟩) 0 [] Heap.empty (fun v _=>v=.int .i64 (cmpL [a,b,c,d,e,f] [a',b',c',d',e',f'])) ⟨⟨fun _=>False,fun b q=>q,fun b q=>q.elim⟩,rfl,Nat.zero_le _⟩ rfl).mono (fun v _ _ _ ⟨_,h,_⟩=>h) |>.run
 refine ⟨n,H',?_⟩
 rw [show AM.M6.cf ⟨[a,b,c,d,e,f],hx⟩ ⟨[a',b',c',d',e',f'],hy⟩=cmpL [a,b,c,d,e,f] [a',b',c',d',e',f'] from zdU _ _]
 exact h1
end
end Go.AMS

namespace Go.AMS
open Go.AM hiding Kt At WP WL Runs RunsY
open Go.AM.G
set_option linter.unusedVariables false
set_option linter.unusedSimpArgs false
set_option linter.unusedSectionVars false
set_option maxRecDepth 100000
set_option maxHeartbeats 1000000
attribute [local irreducible] AtS AtV AtC AtG FinA Spec Post LP G.At G.WP G.WL pt own fro rdl ro hx mp lrec elt sub

open Go.AM.G.Set Go.AM.G.Pre
section
variable {h:List HTx} {T:Tb} {r:HRd} {l:List Int} {p q p1 p2 p3 q1 q2 po:Option Addr} {c d c1 c2 c3 d1 d2 co b mr mt mb tb xb kb:Nat} {ch rs:List Int} {key:Int} {x:HEd} {O:List HEd}
theorem bI_s (n:Int) (h:-10≤n∧n≤10):bI n:=by unfold bI;omega
theorem zev (hl:l.length≤1000000):Spec prog1 zR [.slice p l.length c] [rdl (kInt .i64) p l] (fun R=>R (.int .i64 (lastD l)) []):=by
 refine spec_code zgV rfl ?_;intro n F R hR;unfold zdy
 by_cases h0:0 < l.length
 ·have hi:((l.length:Int) - 1).toNat < l.length:=by omega
  rw [zdL hi] at hR
  repeat' first|apply step|(apply gO;·repeat first|exact eZ|(apply eS;exact rfl))|(refine Br.mk (fun _=>?_) (fun _=>?_)<;>try (exfalso;omega))|(refine Sd.mk ?_ ?_;·exact qD)|(refine Sx.mk ?_ ?_;·omega)|refine Im.mk fun _=>?_|refine g_cond ?_|refine g_keep ?_|refine g_fin ?_
  all_goals first|exact fin hR|(exfalso;omega)
 ·have e:=List.eq_nil_of_length_eq_zero (by omega:l.length=0)
  subst e
  rw [show lastD []=-1 from rfl] at hR
  repeat' first|apply step|(apply gO;·repeat first|exact eZ|(apply eS;exact rfl))|(refine Br.mk (fun _=>?_) (fun _=>?_)<;>try (exfalso;omega))|refine g_cond ?_|refine g_fin ?_
  all_goals first|exact fin hR|(exfalso;omega)
theorem zfA {x:Int} {cs:List Value} {v:Value} (hcs:cs=[.pointer (some ⟨b,0,none⟩),.int .i64 key,.slice q1 ch.length d1,.slice q2 rs.length d2,.bool false,.int .i64 0,.int .i64 0,.int .i64 0,.slice none 0 0,.slice none 0 0,.int .i64 0,.int .i64 0,.int .i64 0,.slice none 0 0,.slice none 0 0,v]):Spec prog1 zj [.pointer (some ⟨mb,0,none⟩),.int .i64 x] [ro (pt mb cs 0),ro (tabC b T mr mt)] (fun R=>R (.int .i64 (wtx (wK T key) x)) []):=by
 subst hcs
 refine spec_code zlY rfl ?_;intro n F R hR;unfold zbY
 unfold wtx at hR
 repeat' first|apply step|(apply gO;·repeat first|exact eZ|(apply eS;exact rfl))
 refine at_callR (zb3 (T:=T) (mr:=mr) (mt:=mt) (x:=key) (y:=x)) ?_
 rw [show aget (key,x) T.wr=wK T key x from rfl]
 cases hw:wK T key x with
 | none =>
  rw [hw] at hR
  unfold wrO
  unfold txZ at hR
  repeat' first|apply step|(apply gO;·repeat first|exact eZ|(apply eS;exact rfl))|refine Fa.mk fun _=>?_|apply Lw.go|refine g_keep ?_|refine g_fin ?_
  exact fin hR
 | some w =>
  rw [hw] at hR
  unfold wrO
  unfold txZ at hR
  repeat' first|apply step|(apply gO;·repeat first|exact eZ|(apply eS;exact rfl))|refine Fa.mk fun _=>?_|apply Lw.go|refine g_keep ?_|refine g_fin ?_
  exact fin hR
def pute (O:List HEd) (x:HEd):List HEd:=if x.src≠x.dst then O++[x] else O
theorem zea {u v w y z:Int} (hb:bE ⟨u,v,w,key,y,z⟩) (hO:O.length≤1000000000):Spec prog1 zG [.pointer (some ⟨mb,0,none⟩),.int .i64 u,.int .i64 v,.int .i64 w,.int .i64 y,.int .i64 z] [pt mb [.pointer (some ⟨b,0,none⟩),.int .i64 key,.slice q1 ch.length d1,.slice q2 rs.length d2,.bool false,.int .i64 0,.int .i64 0,.int .i64 0,.slice none 0 0,.slice none 0 0,.int .i64 0,.int .i64 0,.int .i64 0,.slice none 0 0,.slice none 0 0,.slice po O.length co] 0,own kHEd po co O] (fun R=>∀ p' c',R (.tuple #[]) [pt mb [.pointer (some ⟨b,0,none⟩),.int .i64 key,.slice q1 ch.length d1,.slice q2 rs.length d2,.bool false,.int .i64 0,.int .i64 0,.int .i64 0,.slice none 0 0,.slice none 0 0,.int .i64 0,.int .i64 0,.int .i64 0,.slice none 0 0,.slice none 0 0,.slice p' (pute O ⟨u,v,w,key,y,z⟩).length c'] 0,own kHEd p' c' (pute O ⟨u,v,w,key,y,z⟩)]):=by
 refine spec_code zjp rfl ?_;intro n F R hR;unfold zc3
 unfold pute at hR
 dsimp only at hR
 unfold bE bI at hb
 dsimp only at hb
 by_cases e:u=v
 ·rw [if_neg (by simpa using e)] at hR
  repeat' first|apply step|(apply gO;·repeat first|exact eZ|(apply eS;exact rfl))|(refine Br.mk (fun _=>?_) (fun _=>?_)<;>try (exfalso;omega))|refine g_cond ?_|refine g_fin ?_
  all_goals first|exact fin (hR _ _)|(exfalso;omega)
 ·rw [if_pos e] at hR
  repeat' first|apply step|(apply gO;·repeat first|exact eZ|(apply eS;exact rfl))|(refine Br.mk (fun _=>?_) (fun _=>?_)<;>try (exfalso;omega))|(refine Sd.mk ?_ ?_;·exact qD)|refine Fa.mk fun _=>?_|refine g_cond ?_|refine g_fin ?_
  exact fin (hR _ _)
def wrA (W:Wf) (key:Int) (ch rs:List Int) (n:Nat):List HEd:=(nxI ch rs (n + 1)).map fun y=>⟨wtx W (ch.getD n 0),wtx W y,1,key,ch.getD n 0,y⟩
def wrL (W:Wf) (key:Int) (ch rs:List Int) (n:Nat):List HEd:=(List.range n).flatMap fun i=>(wrA W key ch rs i).filter neE
theorem zkh (W:Wf) (n:Nat):wrL W key ch rs (n + 1)=wrL W key ch rs n++(wrA W key ch rs n).filter neE:=by
 unfold wrL;rw [List.range_succ,List.flatMap_append];simp
theorem zd9 {O l:List HEd} {j:Nat} (hj:j < l.length):pute (O++(l.take j).filter neE) l[j]=O++(l.take (j + 1)).filter neE:=by
 rw [zff neE hj,← List.append_assoc]
 unfold pute
 by_cases e:l[j].src=l[j].dst
 ·rw [if_neg (by simpa using e),if_neg (by unfold neE;simp [e]),List.append_nil]
 ·rw [if_pos e,if_pos (by unfold neE;simp [e])]
theorem zeR (h1:rs.length≤1200) (W:Wf) (n:Nat):(wrL W key ch rs n).length≤n * 1200:=by
 have:=zaj (fun i=>(wrA W key ch rs i).filter neE) 1200 (fun i=>by
  have h2:=List.length_filter_le neE (wrA W key ch rs i)
  have h3:(wrA W key ch rs i).length=(nxI ch rs (i + 1)).length:=by unfold wrA;rw [List.length_map]
  have h4:=zaK (ch:=ch) (n:=i + 1) h1
  omega) (List.range n)
 unfold wrL
 rw [List.length_range] at this
 exact this
theorem zk7 {W:Wf} (hW:wK T key=W) (h1:ch.length≤100) (h2:rs.length≤1200) (hb1:∀ v ∈ ch,bI v) (hb2:∀ v ∈ rs,bI v) (hwb:∀ x,bI (wtx W x)) (hkb:bI key) :
  Spec prog1 zba [.pointer (some ⟨mb,0,none⟩)] [pt mb [.pointer (some ⟨b,0,none⟩),.int .i64 key,.slice q1 ch.length d1,.slice q2 rs.length d2,.bool false,.int .i64 0,.int .i64 0,.int .i64 0,.slice none 0 0,.slice none 0 0,.int .i64 0,.int .i64 0,.int .i64 0,.slice none 0 0,.slice none 0 0,.slice none ([]:List HEd).length 0] 0,fro (kInt .i64) q1 d1 ch,fro (kInt .i64) q2 d2 rs,ro (tabC b T mr mt)] (fun R=>∀ p' c',R (.tuple #[]) [pt mb [.pointer (some ⟨b,0,none⟩),.int .i64 key,.slice q1 ch.length d1,.slice q2 rs.length d2,.bool false,.int .i64 0,.int .i64 0,.int .i64 0,.slice none 0 0,.slice none 0 0,.int .i64 0,.int .i64 0,.int .i64 0,.slice none 0 0,.slice none 0 0,.slice p' (wrL W key ch rs ch.length).length c'] 0,own kHEd p' c' (wrL W key ch rs ch.length),fro (kInt .i64) q1 d1 ch,fro (kInt .i64) q2 d2 rs,ro (tabC b T mr mt)]):=by
 refine spec_code zlX rfl ?_;intro n F R hR;unfold zcA
 have how:∀ (x:Int) (cs:List Value) (v:Value),cs=[.pointer (some ⟨b,0,none⟩),.int .i64 key,.slice q1 ch.length d1,.slice q2 rs.length d2,.bool false,.int .i64 0,.int .i64 0,.int .i64 0,.slice none 0 0,.slice none 0 0,.int .i64 0,.int .i64 0,.int .i64 0,.slice none 0 0,.slice none 0 0,v]→Spec prog1 zj [.pointer (some ⟨mb,0,none⟩),.int .i64 x] [ro (pt mb cs 0),ro (tabC b T mr mt)] (fun R=>R (.int .i64 (wtx W x)) []):=fun x cs v hc=>by
  rw [← hW];exact zfA hc
 repeat' first|apply step|(apply gO;·repeat first|exact eZ|(apply eS;exact rfl))|refine g_keep ?_
 refine at_loopS (ι:=Nat × (Option Addr × Nat)) (E:=fun z=>[(0,.pointer (some ⟨mb,0,none⟩)),(10,.slice q1 ch.length d1),(11,.int .i64 (ch.length:Int)),(12,.int .i64 (z.1:Int))]) (Δ:=fun z=>pt mb [.pointer (some ⟨b,0,none⟩),.int .i64 key,.slice q1 ch.length d1,.slice q2 rs.length d2,.bool false,.int .i64 0,.int .i64 0,.int .i64 0,.slice none 0 0,.slice none 0 0,.int .i64 0,.int .i64 0,.int .i64 0,.slice none 0 0,.slice none 0 0,.slice z.2.1 (wrL W key ch rs z.1).length z.2.2] 0::own kHEd z.2.1 z.2.2 (wrL W key ch rs z.1)::fro (kInt .i64) q1 d1 ch::fro (kInt .i64) q2 d2 rs::ro (tabC b T mr mt)::F) (P:=fun z=>z.1≤ch.length) (μ:=fun z=>ch.length - z.1) (0,(none,0)) (Nat.zero_le _) ?_
 rintro ⟨i,p3,c3⟩ hi
 dsimp only at hi ⊢
 have hlen:=zeR (key:=key) (ch:=ch) h2 W i
 have hmul:i * 1200≤100 * 1200:=Nat.mul_le_mul_right _ (by omega)
 rcases Nat.lt_or_ge i ch.length with hlt|hge
 ·have hnx:=zkh (key:=key) (ch:=ch) (rs:=rs) W i
  have hbi:=hb1 ch[i] (List.getElem_mem _)
  have hyb:∀ y ∈ nxI ch rs (i + 1),bI y:=fun y hy=>by
   rcases zb9 hy with ⟨_,q⟩|⟨q,rfl⟩
   ·exact hb2 y q
   ·exact hb1 _ (List.getElem_mem _)
  have hYl:=zaK (ch:=ch) (n:=i + 1) h2
  have hNx:=zfl (key:=key) (q1:=q1) (q2:=q2) (d1:=d1) (d2:=d2) (ch:=ch) (rs:=rs) (m:=i + 1) (by omega) (by omega) (by omega) hb1
  have hLe:wrA W key ch rs i=(nxI ch rs (i + 1)).map fun y=>⟨wtx W ch[i],wtx W y,1,key,ch[i],y⟩:=by unfold wrA;rw [getD_lt hlt]
  rw [hLe] at hnx
  clear hLe
  generalize nxI ch rs (i + 1)=Y at hyb hYl hNx hnx
  obtain ⟨L,hL⟩:∃ L:List HEd,(Y.map fun y=>(⟨wtx W ch[i],wtx W y,1,key,ch[i],y⟩:HEd))=L:=⟨_,rfl⟩
  have hLl:L.length=Y.length:=by rw [← hL,List.length_map]
  have hLa:∀ j (hj:j < L.length) (hj2:j < Y.length),L[j]=⟨wtx W ch[i],wtx W Y[j],1,key,ch[i],Y[j]⟩:=fun j hj hj2=>by
   subst hL
   rw [List.getElem_map]
  rw [hL] at hnx
  clear hL
  generalize wrL W key ch rs i=O at hnx hlen ⊢
  repeat' first|apply step|(apply gO;·repeat first|exact eZ|(apply eS;exact rfl))|(refine Br.mk (fun _=>?_) (fun _=>?_)<;>try (exfalso;omega))|(refine Sd.mk ?_ ?_;·exact qD)|(refine Sx.mk ?_ ?_;·omega)|refine Im.mk fun _=>?_|refine g_cond ?_
  refine at_callR (hNx) ?_
  intro py cy
  repeat' first|apply step|(apply gO;·repeat first|exact eZ|(apply eS;exact rfl))|apply Lw.go|refine g_keep ?_
  refine at_loopS (ι:=Nat × (Option Addr × Nat)) (E:=fun z=>[(0,.pointer (some ⟨mb,0,none⟩)),(3,.int .i64 ch[i]),(10,.slice q1 ch.length d1),(11,.int .i64 (ch.length:Int)),(12,.int .i64 (i:Int)),(23,.slice py Y.length cy),(24,.int .i64 (Y.length:Int)),(25,.int .i64 (z.1:Int))]) (Δ:=fun z=>pt mb [.pointer (some ⟨b,0,none⟩),.int .i64 key,.slice q1 ch.length d1,.slice q2 rs.length d2,.bool false,.int .i64 0,.int .i64 0,.int .i64 0,.slice none 0 0,.slice none 0 0,.int .i64 0,.int .i64 0,.int .i64 0,.slice none 0 0,.slice none 0 0,.slice z.2.1 (O++(L.take z.1).filter neE).length z.2.2] 0::own kHEd z.2.1 z.2.2 (O++(L.take z.1).filter neE)::own (kInt .i64) py cy Y::fro (kInt .i64) q1 d1 ch::fro (kInt .i64) q2 d2 rs::ro (tabC b T mr mt)::F) (P:=fun z=>z.1≤Y.length) (μ:=fun z=>Y.length - z.1) (0,(p3,c3)) (Nat.zero_le _) ?_ (by dsimp only;rfl) (by dsimp only;rw [List.take_zero,List.filter_nil,List.append_nil];repeat first|exact Ent.refl _|(apply Ent.more;· repeat first|exact Ent.keep|exact Ent.here|exact Ent.lend|exact ent_nil|apply Ent.there)|apply Ent.drop)
  rintro ⟨j,p5,c5⟩ hj
  dsimp only at hj ⊢
  have hfl:(O++(L.take j).filter neE).length≤200000:=by
   rw [List.length_append]
   have h3:=List.length_filter_le neE (L.take j)
   rw [List.length_take] at h3
   omega
  rcases Nat.lt_or_ge j Y.length with hlj|hgj
  ·have hp:=zd9 (O:=O) (l:=L) (j:=j) (by omega)
   rw [hLa j (by omega) hlj] at hp
   have hyj:=hyb Y[j] (List.getElem_mem _)
   have hw1:=hwb ch[i]
   have hw2:=hwb Y[j]
   generalize O++(L.take j).filter neE=O2 at hp hfl ⊢
   repeat' first|apply step|(apply gO;·repeat first|exact eZ|(apply eS;exact rfl))|(refine Br.mk (fun _=>?_) (fun _=>?_)<;>try (exfalso;omega))|(refine Sd.mk ?_ ?_;·exact qD)|(refine Sx.mk ?_ ?_;·omega)|refine Im.mk fun _=>?_|refine g_cond ?_
   refine at_callR (how ch[i] _ _ rfl) ?_
   repeat' first|apply step|(apply gO;·repeat first|exact eZ|(apply eS;exact rfl))|apply Lw.go
   refine at_callR (how Y[j] _ _ rfl) ?_
   repeat' first|apply step|(apply gO;·repeat first|exact eZ|(apply eS;exact rfl))|apply Lw.go
   refine at_callS (zea (mb:=mb) (b:=b) (key:=key) (po:=p5) (co:=c5) (O:=O2) (u:=wtx W ch[i]) (v:=wtx W Y[j]) (w:=1) (y:=ch[i]) (z:=Y[j]) ⟨hw1,hw2,bI_s 1 (by omega),hkb,hbi,hyj⟩ (by omega)) ?_
   intro p6 c6
   rw [hp]
   repeat' first|apply step|(apply gO;·repeat first|exact eZ|(apply eS;exact rfl))|(refine Sd.mk ?_ ?_;·exact qD)|refine g_keep ?_
   exact lp_next (j + 1,_,_) (by dsimp only;omega) (by dsimp only;omega)
  ·have hjl:L.take j=L:=List.take_of_length_le (by omega)
   rw [hjl,← hnx]
   repeat' first|apply step|(apply gO;·repeat first|exact eZ|(apply eS;exact rfl))|(refine Br.mk (fun _=>?_) (fun _=>?_)<;>try (exfalso;omega))|(refine Sd.mk ?_ ?_;·exact qD)|refine g_cond ?_|refine g_keep ?_
   exact lp_next (i + 1,_,_) (by dsimp only;omega) (by dsimp only;omega)
 ·have e:i=ch.length:=by omega
  subst e
  repeat' first|apply step|(apply gO;·repeat first|exact eZ|(apply eS;exact rfl))|(refine Br.mk (fun _=>?_) (fun _=>?_)<;>try (exfalso;omega))|refine g_cond ?_|refine g_fin ?_
  exact fin (hR _ _)
end
end Go.AMS

namespace Go.AMS
open Go.AM hiding Kt At WP WL Runs RunsY
open Go.AM.G
set_option linter.unusedVariables false
set_option linter.unusedSimpArgs false
set_option linter.unusedSectionVars false
set_option maxRecDepth 100000
set_option maxHeartbeats 1000000
attribute [local irreducible] AtS AtV AtC AtG FinA Spec Post LP G.At G.WP G.WL pt own fro rdl ro hx mp lrec elt sub

open Go.AM.G.Set Go.AM.G.Pre
section
variable {h:List HTx} {T:Tb} {r:HRd} {l:List Int} {p q p1 p2 p3 q1 q2 po:Option Addr} {c d c1 c2 c3 d1 d2 co b mr mt mb tb xb kb:Nat} {ch rs:List Int} {key:Int} {x:HEd} {O:List HEd}
theorem zif {W:Wf} (hW:wK T key=W) (hrk:r.key=key) (h3:r.list.length≤100) (h4:r.own.length≤100) (h1:ch.length≤100) (h2:rs.length≤1200) (hb1:∀ v ∈ ch,bI v) (hb2:∀ v ∈ rs,bI v) (hwb:∀ x,bI (wtx W x)) (hkb:bI key) (hrt:bI r.txn) (hcb:∀ v ∈ cleanL W r.list,bI v) (hfb:∀ v ∈ cleanL W (frontL r),bI v∧v≠-1) (hO:O.length≤2000000) :
  Spec prog1 zaA [.pointer (some ⟨mb,0,none⟩),.agg #[.int .i64 r.txn,.int .i64 r.op,.int .i64 r.key,.slice p1 r.list.length c1,.slice p2 r.own.length c2]] [pt mb [.pointer (some ⟨b,0,none⟩),.int .i64 key,.slice q1 ch.length d1,.slice q2 rs.length d2,.bool false,.int .i64 0,.int .i64 0,.int .i64 0,.slice none 0 0,.slice none 0 0,.int .i64 0,.int .i64 0,.int .i64 0,.slice none 0 0,.slice none 0 0,.slice po O.length co] 0,own kHEd po co O,fro (kInt .i64) p1 c1 r.list,fro (kInt .i64) p2 c2 r.own,fro (kInt .i64) q1 d1 ch,fro (kInt .i64) q2 d2 rs,ro (tabC b T mr mt)] (fun R=>∀ p' c',R (.tuple #[]) [pt mb [.pointer (some ⟨b,0,none⟩),.int .i64 key,.slice q1 ch.length d1,.slice q2 rs.length d2,.bool false,.int .i64 0,.int .i64 0,.int .i64 0,.slice none 0 0,.slice none 0 0,.int .i64 0,.int .i64 0,.int .i64 0,.slice none 0 0,.slice none 0 0,.slice p' (O++(rdE W key ch rs r).filter neE).length c'] 0,own kHEd p' c' (O++(rdE W key ch rs r).filter neE),fro (kInt .i64) q1 d1 ch,fro (kInt .i64) q2 d2 rs,ro (tabC b T mr mt)]):=by
 subst hrk
 refine spec_code zjW rfl ?_;intro n F R hR;unfold zdj
 have how:∀ (x:Int) (cs:List Value) (v:Value),cs=[.pointer (some ⟨b,0,none⟩),.int .i64 r.key,.slice q1 ch.length d1,.slice q2 rs.length d2,.bool false,.int .i64 0,.int .i64 0,.int .i64 0,.slice none 0 0,.slice none 0 0,.int .i64 0,.int .i64 0,.int .i64 0,.slice none 0 0,.slice none 0 0,v]→Spec prog1 zj [.pointer (some ⟨mb,0,none⟩),.int .i64 x] [ro (pt mb cs 0),ro (tabC b T mr mt)] (fun R=>R (.int .i64 (wtx W x)) []):=fun x cs v hc=>by
  rw [← hW];exact zfA hc
 have hfl:=zak r
 have hcl1:=zk W r.list
 have hcl2:=zk W (frontL r)
 repeat' first|apply step|(apply gO;·repeat first|exact eZ|(apply eS;exact rfl))|refine Fa.mk fun _=>?_
 rename_i rb
 refine at_callR (zdT (T:=T) (b:=b) (mr:=mr) (mt:=mt) (r:=r) (p1:=p1) (c1:=c1) (by omega)) ?_
 intro pb cb
 rw [hW]
 repeat' first|apply step|(apply gO;·repeat first|exact eZ|(apply eS;exact rfl))|apply Lw.go|refine g_keep ?_
 refine at_callR (zeC (r:=r) (by omega) (by omega)) ?_
 intro pf cf
 refine Lw.go ?_
 refine at_freezeO (K:=kInt .i64) (l:=frontL r) ?_
 repeat' first|apply step|(apply gO;·repeat first|exact eZ|(apply eS;exact rfl))
 have hc1:=zdT (T:=T) (b:=b) (mr:=mr) (mt:=mt) (r:=⟨0,0,r.key,frontL r,[]⟩) (p1:=pf) (c1:=cf) (p2:=none) (c2:=0) (by dsimp only;omega)
 dsimp only at hc1
 rw [hW] at hc1
 refine at_callR (hc1) ?_
 intro pa ca
 dsimp only [List.append,List.nil_append,List.cons_append]
 have hlast0:=zev (p:=pa) (c:=ca) (l:=cleanL W (frontL r)) (by omega)
 obtain ⟨x0,hx0⟩:∃ x,lastD (cleanL W (frontL r))=x:=⟨_,rfl⟩
 have hfr:(x0=-1∧frE W r.key r=[])∨(x0≠-1∧bI x0∧frE W r.key r=[⟨wtx W x0,r.txn,2,r.key,x0,-1⟩]):=by
  unfold lastD at hx0
  unfold frE
  cases hg:(cleanL W (frontL r)).getLast? with
  | none=>rw [hg] at hx0;exact .inl ⟨hx0.symm,rfl⟩
  | some y =>
   rw [hg] at hx0
   have hx0:y=x0:=hx0
   subst hx0
   obtain ⟨k1,k2⟩:=hfb y (List.mem_of_getLast? hg)
   exact .inr ⟨k2,k1,rfl⟩
 have htot:O++(rdE W r.key ch rs r).filter neE=(O++(frE W r.key r).filter neE)++(rwE W r.key r (nxI ch rs (cleanL W r.list).length)).filter neE:=by
  unfold rdE
  rw [List.filter_append,List.append_assoc]
 rw [htot] at hR
 clear htot
 rw [hx0] at hlast0
 clear hx0
 obtain ⟨O3,hO3⟩:∃ O3,O++(frE W r.key r).filter neE=O3:=⟨_,rfl⟩
 have hO3l:O3.length≤2000001:=by
  rw [← hO3,List.length_append]
  have:=List.length_filter_le neE (frE W r.key r)
  rcases hfr with ⟨_,q⟩|⟨_,_,q⟩ <;> rw [q] at this ⊢ <;> simp at this ⊢ <;> omega
 rw [hO3] at hR
 repeat (fail_if_success (refine at_cutK (ι:=Unit) (fun _=>[]) (fun _=>[]) (fun _=>True) ?_ ?_));(first|apply step|(apply g_op;· repeat first|exact Evs.nil|(apply Evs.cons;exact rfl))|(refine Br.mk (fun _=>?_) (fun _=>?_) <;> try (exfalso;omega))|(refine Sd.mk ?_ ?_;· ((repeat' apply And.intro) <;> first|omega|trivial|assumption|(simp;done)|(simp;omega)))|(refine Sx.mk ?_ ?_;· omega)|refine Fa.mk (fun _=>?_)|refine Im.mk (fun _=>?_)|apply Lw.go|refine g_cond ?_|refine g_guard ?_|refine g_keep ?_|refine g_pass ?_|refine g_fin ?_|(apply g_ap;exact rfl;exact rfl;assumption))
 refine at_cutK (E:=fun (z:Option Addr × Nat)=>[(0,.pointer (some ⟨mb,0,none⟩)),(3,.pointer (some ⟨rb,0,none⟩)),(4,.slice pb (cleanL W r.list).length cb)]) (Δ:=fun z=>pt mb [.pointer (some ⟨b,0,none⟩),.int .i64 r.key,.slice q1 ch.length d1,.slice q2 rs.length d2,.bool false,.int .i64 0,.int .i64 0,.int .i64 0,.slice none 0 0,.slice none 0 0,.int .i64 0,.int .i64 0,.int .i64 0,.slice none 0 0,.slice none 0 0,.slice z.1 O3.length z.2] 0::own kHEd z.1 z.2 O3::pt rb [.int .i64 r.txn,.int .i64 r.op,.int .i64 r.key,.slice p1 r.list.length c1,.slice p2 r.own.length c2] 0::fro (kInt .i64) pb cb (cleanL W r.list)::fro (kInt .i64) q1 d1 ch::fro (kInt .i64) q2 d2 rs::ro (tabC b T mr mt)::F) (P:=fun _=>True) ?_ ?_
 ·rcases hfr with ⟨k1,k2⟩|⟨k1,k2,k3⟩
  ·rw [k2,List.filter_nil,List.append_nil] at hO3
   subst hO3
   repeat' first|apply step|(apply gO;·repeat first|exact eZ|(apply eS;exact rfl))
   refine at_callR (hlast0) ?_
   repeat' first|apply step|(apply gO;·repeat first|exact eZ|(apply eS;exact rfl))|(refine Br.mk (fun _=>?_) (fun _=>?_)<;>try (exfalso;omega))|apply Lw.go|refine g_cond ?_|refine g_keep ?_
   all_goals first|(exfalso;omega)|exact cut_end (_,_) trivial
  ·have hp:=zd9 (O:=O) (l:=[⟨wtx W x0,r.txn,2,r.key,x0,-1⟩]) (j:=0) (by simp)
   rw [k3] at hO3
   rw [List.take_zero,List.filter_nil,List.append_nil,show (List.take (0 + 1) [(⟨wtx W x0,r.txn,2,r.key,x0,-1⟩:HEd)])=[⟨wtx W x0,r.txn,2,r.key,x0,-1⟩] from rfl,hO3] at hp
   have hp:pute O ⟨wtx W x0,r.txn,2,r.key,x0,-1⟩=O3:=hp
   have hw1:=hwb x0
   repeat' first|apply step|(apply gO;·repeat first|exact eZ|(apply eS;exact rfl))
   refine at_callR (hlast0) ?_
   repeat' first|apply step|(apply gO;·repeat first|exact eZ|(apply eS;exact rfl))|(refine Br.mk (fun _=>?_) (fun _=>?_)<;>try (exfalso;omega))|apply Lw.go|refine g_cond ?_
   all_goals try (exfalso;omega)
   refine at_callR (how x0 _ _ rfl) ?_
   repeat' first|apply step|(apply gO;·repeat first|exact eZ|(apply eS;exact rfl))|apply Lw.go
   refine at_callS (zea (mb:=mb) (b:=b) (key:=r.key) (po:=po) (co:=co) (O:=O) (u:=wtx W x0) (v:=r.txn) (w:=2) (y:=x0) (z:=-1) ⟨hw1,hrt,bI_s 2 (by omega),hkb,k2,bI_s (-1) (by omega)⟩ (by omega)) ?_
   intro p6 c6
   rw [hp]
   repeat' first|apply step|refine g_keep ?_
   exact cut_end (_,_) trivial
 rintro ⟨p6,c6⟩ -
 dsimp only
 have hcb2:(cleanL W r.list).length≤100:=by omega
 obtain ⟨ld,hld⟩:∃ x,lastD (cleanL W r.list)=x:=⟨_,rfl⟩
 have hldb:bI ld:=by rw [← hld];exact zeO hcb
 have hlast:=fun (p:Option Addr) (c:Nat)=>zev (p:=p) (c:=c) (l:=cleanL W r.list) (by omega)
 rw [hld] at hlast
 have hyb:∀ y ∈ nxI ch rs (cleanL W r.list).length,bI y:=fun y hy=>by
  rcases zb9 hy with ⟨_,q⟩|⟨q,rfl⟩
  ·exact hb2 y q
  ·exact hb1 _ (List.getElem_mem _)
 have hYl:=zaK (ch:=ch) (n:=(cleanL W r.list).length) h2
 have hNx:=zfl (key:=r.key) (q1:=q1) (q2:=q2) (d1:=d1) (d2:=d2) (ch:=ch) (rs:=rs) (m:=(cleanL W r.list).length) (by omega) (by omega) (by omega) hb1
 unfold rwE at hR
 rw [hld] at hR
 generalize nxI ch rs (cleanL W r.list).length=Y at hyb hYl hNx hR
 obtain ⟨L,hL⟩:∃ L:List HEd,(Y.map fun y=>(⟨r.txn,wtx W y,4,r.key,ld,y⟩:HEd))=L:=⟨_,rfl⟩
 have hLl:L.length=Y.length:=by rw [← hL,List.length_map]
 have hLa:∀ j (hj:j < L.length) (hj2:j < Y.length),L[j]=⟨r.txn,wtx W Y[j],4,r.key,ld,Y[j]⟩:=fun j hj hj2=>by
  subst hL
  rw [List.getElem_map]
 rw [hL] at hR
 clear hL hld
 generalize cleanL W r.list=B at hcb hcl1 hcb2 hlast hNx ⊢
 repeat' first|apply step|(apply gO;·repeat first|exact eZ|(apply eS;exact rfl))
 refine at_callR (hNx) ?_
 intro py cy
 repeat' first|apply step|(apply gO;·repeat first|exact eZ|(apply eS;exact rfl))|apply Lw.go|refine g_keep ?_
 refine at_loopS (ι:=Nat × (Option Addr × Nat)) (E:=fun z=>[(0,.pointer (some ⟨mb,0,none⟩)),(3,.pointer (some ⟨rb,0,none⟩)),(4,.slice pb B.length cb),(43,.slice py Y.length cy),(44,.int .i64 (Y.length:Int)),(45,.int .i64 (z.1:Int))]) (Δ:=fun z=>pt mb [.pointer (some ⟨b,0,none⟩),.int .i64 r.key,.slice q1 ch.length d1,.slice q2 rs.length d2,.bool false,.int .i64 0,.int .i64 0,.int .i64 0,.slice none 0 0,.slice none 0 0,.int .i64 0,.int .i64 0,.int .i64 0,.slice none 0 0,.slice none 0 0,.slice z.2.1 (O3++(L.take z.1).filter neE).length z.2.2] 0::own kHEd z.2.1 z.2.2 (O3++(L.take z.1).filter neE)::own (kInt .i64) py cy Y::pt rb [.int .i64 r.txn,.int .i64 r.op,.int .i64 r.key,.slice p1 r.list.length c1,.slice p2 r.own.length c2] 0::fro (kInt .i64) pb cb B::fro (kInt .i64) q1 d1 ch::fro (kInt .i64) q2 d2 rs::ro (tabC b T mr mt)::F) (P:=fun z=>z.1≤Y.length) (μ:=fun z=>Y.length - z.1) (0,(p6,c6)) (Nat.zero_le _) ?_ (by dsimp only;rfl) (by dsimp only;rw [List.take_zero,List.filter_nil,List.append_nil];repeat first|exact Ent.refl _|(apply Ent.more;· repeat first|exact Ent.keep|exact Ent.here|exact Ent.lend|exact ent_nil|apply Ent.there)|apply Ent.drop)
 rintro ⟨j,p7,c7⟩ hj
 dsimp only at hj ⊢
 have hfl2:(O3++(L.take j).filter neE).length≤3000000:=by
  rw [List.length_append]
  have h3:=List.length_filter_le neE (L.take j)
  rw [List.length_take] at h3
  omega
 rcases Nat.lt_or_ge j Y.length with hlj|hgj
 ·have hp:=zd9 (O:=O3) (l:=L) (j:=j) (by omega)
  rw [hLa j (by omega) hlj] at hp
  have hyj:=hyb Y[j] (List.getElem_mem _)
  have hw2:=hwb Y[j]
  generalize O3++(L.take j).filter neE=O2 at hp hfl2 ⊢
  repeat' first|apply step|(apply gO;·repeat first|exact eZ|(apply eS;exact rfl))|(refine Br.mk (fun _=>?_) (fun _=>?_)<;>try (exfalso;omega))|(refine Sd.mk ?_ ?_;·exact qD)|(refine Sx.mk ?_ ?_;·omega)|refine Im.mk fun _=>?_|refine g_cond ?_
  refine at_callR (how Y[j] _ _ rfl) ?_
  repeat' first|apply step|(apply gO;·repeat first|exact eZ|(apply eS;exact rfl))|apply Lw.go
  refine at_callR (hlast _ _) ?_
  repeat' first|apply step|(apply gO;·repeat first|exact eZ|(apply eS;exact rfl))|apply Lw.go
  refine at_callS (zea (mb:=mb) (b:=b) (key:=r.key) (po:=p7) (co:=c7) (O:=O2) (u:=r.txn) (v:=wtx W Y[j]) (w:=4) (y:=ld) (z:=Y[j]) ⟨hrt,hw2,bI_s 4 (by omega),hkb,hldb,hyj⟩ (by omega)) ?_
  intro p8 c8
  rw [hp]
  repeat' first|apply step|(apply gO;·repeat first|exact eZ|(apply eS;exact rfl))|(refine Sd.mk ?_ ?_;·exact qD)|refine g_keep ?_
  exact lp_next (j + 1,_,_) (by dsimp only;omega) (by dsimp only;omega)
 ·have hjl:L.take j=L:=List.take_of_length_le (by omega)
  rw [hjl]
  repeat' first|apply step|(apply gO;·repeat first|exact eZ|(apply eS;exact rfl))|(refine Br.mk (fun _=>?_) (fun _=>?_)<;>try (exfalso;omega))|refine g_cond ?_|refine g_fin ?_
  exact fin (hR _ _)
end
end Go.AMS

namespace Go.AMS
open Go.AM hiding Kt At WP WL Runs RunsY
open Go.AM.G
set_option linter.unusedVariables false
set_option linter.unusedSimpArgs false
set_option linter.unusedSectionVars false
set_option maxRecDepth 100000
set_option maxHeartbeats 1000000
attribute [local irreducible] AtS AtV AtC AtG FinA Spec Post LP G.At G.WP G.WL pt own fro rdl ro hx mp lrec elt sub

open Go.AM.G.Set Go.AM.G.Pre
section
variable {h:List HTx} {T:Tb} {r:HRd} {l:List Int} {p q p1 p2 p3 q1 q2 po:Option Addr} {c d c1 c2 c3 d1 d2 co b mr mt mb tb xb kb:Nat} {ch rs:List Int} {key:Int} {x:HEd} {O:List HEd}
theorem zkc {α:Type} {K:Kind α} {Γ:List HP}:Ent Γ (lst K none []::Γ):=Ent.trans (ent_nil (K:=K)) (own_lst 0 rfl)
/-- The edges of a key, but those that lead to themselves. -/
noncomputable def keyG (h:List HTx) (key:Int):List HEd:=(keyE h key).filter neE
/-- What edges.Of gathers. -/
def keyP (W:Wf) (key:Int) (S:List HRd) (ch rs:List Int) (n:Nat):List HEd:=wrL W key ch rs ch.length++(S.take n).flatMap fun r=>(rdE W key ch rs r).filter neE
theorem zjZ {W:Wf} {S:List HRd} {n:Nat} (hn:n < S.length):keyP W key S ch rs (n + 1)=keyP W key S ch rs n++(rdE W key ch rs S[n]).filter neE:=by
 unfold keyP
 rw [zcN _ hn,List.append_assoc]
theorem zgG {W:Wf} {S:List HRd} (h1:ch.length≤100) (h2:rs.length≤1200) (h3:S.length≤1200) (n:Nat):(keyP W key S ch rs n).length≤1700000:=by
 unfold keyP
 rw [List.length_append]
 have k1:=zeR (key:=key) (ch:=ch) h2 W ch.length
 have k2:=zaj (fun r=>(rdE W key ch rs r).filter neE) 1201 (fun r=>Nat.le_trans (List.length_filter_le _ _) (zdE h2 r)) (S.take n)
 have k3:(S.take n).length≤1200:=by rw [List.length_take];omega
 have k4:=Nat.mul_le_mul_right 1201 k3
 have k5:=Nat.mul_le_mul_right 1200 h1
 omega
theorem zlH {W:Wf} {S:List HRd} {x:HEd}:x ∈ keyP W key S ch rs S.length ↔ x ∈ (ofE W key S ch rs).filter neE:=by
 unfold keyP wrL ofE
 rw [List.take_length,List.mem_append,List.mem_filter,List.mem_append,List.mem_append,List.mem_flatMap,List.mem_flatMap,List.mem_flatMap]
 have key1:(∃ a ∈ List.range ch.length,x ∈ (wrA W key ch rs a).filter neE) ↔ (x ∈ chE W key ch (ch.length - 1)∨x ∈ (if 0 < ch.length then rsE W key (lastD ch) rs else []))∧neE x=true:=by
  constructor
  ·rintro ⟨a,ha,hx⟩
   have ha:=List.mem_range.1 ha
   obtain ⟨h1,h2⟩:=List.mem_filter.1 hx
   refine ⟨?_,h2⟩
   unfold wrA nxI at h1
   by_cases e:a + 1=ch.length
   ·rw [if_pos e] at h1
    right
    rw [if_pos (by omega)]
    unfold rsE
    have e2:lastD ch=ch.getD a 0:=by rw [zat (by omega),getD_lt ha];simp only [← e,Nat.add_sub_cancel]
    rw [e2]
    exact h1
   ·rw [if_neg e,if_pos (by omega)] at h1
    left
    unfold chE
    obtain ⟨y,hy,rfl⟩:=List.mem_map.1 h1
    rw [List.mem_singleton.1 hy]
    exact List.mem_map.2 ⟨a,List.mem_range.2 (by omega),rfl⟩
  ·rintro ⟨h1,h2⟩
   rcases h1 with h1|h1
   ·unfold chE at h1
    obtain ⟨a,ha,rfl⟩:=List.mem_map.1 h1
    have ha:=List.mem_range.1 ha
    refine ⟨a,List.mem_range.2 (by omega),List.mem_filter.2 ⟨?_,h2⟩⟩
    unfold wrA nxI
    rw [if_neg (by omega),if_pos (by omega)]
    exact List.mem_map.2 ⟨_,List.mem_singleton.2 rfl,rfl⟩
   ·split at h1
    ·rename_i hl
     refine ⟨ch.length - 1,List.mem_range.2 (by omega),List.mem_filter.2 ⟨?_,h2⟩⟩
     unfold wrA nxI
     rw [if_pos (by omega)]
     unfold rsE at h1
     rw [zat hl] at h1
     rw [getD_lt (by omega)]
     exact h1
    ·cases h1
 rw [key1]
 constructor
 ·rintro (⟨h1|h1,h2⟩|⟨r,hr,hx⟩)
  ·exact ⟨.inl h1,h2⟩
  ·exact ⟨.inr (.inl h1),h2⟩
  ·obtain ⟨h1,h2⟩:=List.mem_filter.1 hx
   exact ⟨.inr (.inr ⟨r,hr,h1⟩),h2⟩
 ·rintro ⟨h1|h1|⟨r,hr,h1⟩,h2⟩
  ·exact .inl ⟨.inl h1,h2⟩
  ·exact .inl ⟨.inr h1,h2⟩
  ·exact .inr ⟨r,hr,List.mem_filter.2 ⟨h1,h2⟩⟩
theorem SrtI.mem {l l' Z:List HEd} (h:∀ x,x ∈ l ↔ x ∈ l') (s:SrtI l Z) (m:∀ x,x ∈ Z ↔ x ∈ l):SrtI l' Z∧∀ x,x ∈ Z ↔ x ∈ l' :=
 ⟨⟨s.s,fun x hx=>(h x).1 (s.m x hx),fun x hx hn=>s.a x ((h x).2 hx) hn⟩,fun x=>(m x).trans (h x)⟩
theorem zew (hf:FewH h 20 60) (hk:OkH h) (hkb:bI key):Spec prog1 zac [.pointer (some ⟨b,0,none⟩),.int .i64 key] [ro (tabC b (TH h) mr mt),ro (mapF mr kI kHRd (TH h).rd),ro (mapF mt kI kHWr (TH h).wt)] (fun R=>∀ Z p' c',SrtI (keyG h key) Z→(∀ x,x ∈ Z ↔ x ∈ keyG h key)→R (.slice p' Z.length c') [lst kHEd p' Z]):=by
 refine spec_code zji rfl ?_;intro n F R hR;unfold zdu
 have ok:=of_ok (key:=key) hf hk
 have hkb2:=hkb
 unfold bI at hkb2
 repeat' first|apply step|(apply gO;·repeat first|exact eZ|(apply eS;exact rfl))
 refine at_callR (zki (T:=TH h) (b:=b) (mr:=mr) (mt:=mt) (key:=key) ok.rd (by have:=ok.wt;omega) ok.wb (by have:=ok.sl;omega) ok.bd hkb2) ?_
 unfold keyG keyE at hR
 refine ⟨fun k j hk1 hj1 hb1 w v=>?_,fun hb1 q1 d1 q2 d2=>?_⟩
 ·rw [hb1] at hR
  have hv:=hR [] none 0 (SrtI.nil _) (fun x=>Iff.rfl)
  repeat' first|apply step|(apply gO;·repeat first|exact eZ|(apply eS;exact rfl))|refine Fa.mk fun _=>?_|apply Lw.go|refine g_cond ?_|refine g_keep ?_|refine g_fin ?_
  refine fin_ent (zkc (K:=kHEd)) ?_
  exact fin hv
 ·rw [hb1] at hR
  rw [show restL (bestL (ofL (wK (TH h) key) (ofS (TH h) key))) (agl key (TH h).wt)=rsH h key from rfl,show bestL (ofL (wK (TH h) key) (ofS (TH h) key))=chH h key from rfl]
  have hwb:=fun x=>zd5 (key:=key) hk x
  have hsl:=ok.sl
  have hll:=ok.ll
  have hchl:=zfb (key:=key) hf hk
  have hrsl:=zeX (key:=key) hf hk
  have hb1:∀ v ∈ chH h key,bI v:=fun v hv=>ch_bI hk hv
  have hb2:∀ v ∈ rsH h key,bI v:=fun v hv=>by obtain ⟨w,hw,_⟩:=zeT hf hk v hv;exact wr_bI hk hw
  have hcb:∀ r ∈ ofS (TH h) key,∀ v ∈ cleanL (wK (TH h) key) r.list,bI v:=fun r hr=>zfS hk hr
  have hfb:∀ r ∈ ofS (TH h) key,∀ v ∈ cleanL (wK (TH h) key) (frontL r),bI v∧v≠-1:=fun r hr v hv=>by
   obtain ⟨w,hw,_⟩:=zfM r hr v hv
   refine ⟨wr_bI hk hw,fun e=>?_⟩
   rw [e,zel hk] at hw
   cases hw
  have hrt:∀ r ∈ ofS (TH h) key,bI r.txn:=fun r hr=>(ok.bd r hr).1
  obtain ⟨hn1,hn2⟩:=ok.rd key
  obtain ⟨L0,hL0⟩:∃ L,agl key (TH h).rd=L:=⟨_,rfl⟩
  obtain ⟨S,hS⟩:∃ S,ofS (TH h) key=S:=⟨_,rfl⟩
  have hS2:soundL (wK (TH h) key) L0=S:=by rw [← hL0];exact hS
  have hit:=fun (x y ly:Nat) (A:Nat→HP) (B:AX→HP)=>zeg (T:=TH h) (b:=b) (mr:=mr) (mt:=mt) (L:=L0) (key:=key) (x:=x) (y:=y) (ly:=ly) (A:=A) (B:=B) hL0 (by rw [← hL0];omega) (fun r hr=>by rw [← hL0] at hr;exact ⟨⟨by have:=(hn2 r hr).1.1;omega,by have:=(hn2 r hr).1.2;omega⟩,(hn2 r hr).2⟩)
  rw [hS2] at hit
  rw [hS] at hsl hll hcb hfb hrt hR
  obtain ⟨W,hW⟩:∃ W,wK (TH h) key=W:=⟨_,rfl⟩
  rw [hW] at hwb hcb hfb hR
  clear hS hS2 hL0
  generalize chH h key=ch at hR hchl hb1 ⊢
  generalize rsH h key=rs at hR hrsl hb2 ⊢
  dsimp only at hR
  refine Lw.go ?_
  dsimp only [List.append,List.cons_append,List.nil_append]
  refine at_freezeO (K:=kInt .i64) (l:=ch) ?_
  refine at_freezeO (K:=kInt .i64) (l:=rs) ?_
  repeat' first|apply step|(apply gO;·repeat first|exact eZ|(apply eS;exact rfl))|refine Fa.mk fun _=>?_|refine g_cond ?_|refine g_keep ?_
  rename_i mb xb
  refine at_callS (zk7 (T:=TH h) (mb:=mb) (b:=b) (mr:=mr) (mt:=mt) (q1:=q1) (d1:=d1) (q2:=q2) (d2:=d2) hW hchl hrsl hb1 hb2 hwb hkb) ?_
  intro p3 c3
  repeat' first|apply step|(apply gO;·repeat first|exact eZ|(apply eS;exact rfl))
  refine at_callS (zeL (b:=b) (key:=key)) ?_
  intro x y
  repeat' first|apply step
  have hk0:wrL W key ch rs ch.length=keyP W key S ch rs 0:=by unfold keyP;simp
  rw [hk0]
  have hkl:=fun n=>zgG (W:=W) (key:=key) (S:=S) hchl hrsl hsl n
  have hkn:=fun n (hn:n < S.length)=>zjZ (W:=W) (key:=key) (ch:=ch) (rs:=rs) hn
  have hkm:=fun x=>zlH (W:=W) (key:=key) (S:=S) (ch:=ch) (rs:=rs) (x:=x)
  clear hk0
  generalize keyP W key S ch rs=G at hkl hkn hkm ⊢
  obtain ⟨I,hI⟩:∃ I:Nat→HP,∀ i,I i=hx fun (z:Option Addr × Nat)=>(True,[pt xb [.pointer (some ⟨mb,0,none⟩)] 0,pt mb [.pointer (some ⟨b,0,none⟩),.int .i64 key,.slice q1 ch.length d1,.slice q2 rs.length d2,.bool false,.int .i64 0,.int .i64 0,.int .i64 0,.slice none 0 0,.slice none 0 0,.int .i64 0,.int .i64 0,.int .i64 0,.slice none 0 0,.slice none 0 0,.slice z.1 (G i).length z.2] 0,own kHEd z.1 z.2 (G i),fro (kInt .i64) q1 d1 ch,fro (kInt .i64) q2 d2 rs,ro (tabC b (TH h) mr mt)]):=⟨_,fun _=>rfl⟩
  obtain ⟨J,hJ⟩:∃ J:AX→HP,∀ ax,J ax=hx fun (_:Unit)=>(False,[]):=⟨_,fun _=>rfl⟩
  refine at_foldP (I 0) (hI 0) (p3,c3) trivial ?_
  refine at_rfunSD (I:=I) (J:=J) (Po:=[]) (Ps:=[pt x [.pointer (some ⟨b,0,none⟩)] 0,pt y [.int .i64 key] 0,ro (tabC b (TH h) mr mt),ro (mapF mr kI kHRd (TH h).rd)]) S.length (fun i (d:wR)=>vaRead d S[i]?) (fun i d=>paRead d S[i]?) (fun ly A B h=>hit x y ly A B h) (fun i hi d=>by rw [List.getElem?_eq_getElem hi];rfl) ?_ ?_ ?_
  ·intro i hi d ly m F'
   obtain ⟨⟨k1,k2⟩,k3⟩:=hll _ (List.getElem_mem hi)
   have hre:=fun (po:Option Addr) (co:Nat)=>zif (T:=TH h) (r:=S[i]) (po:=po) (co:=co) (p1:=d.1.1) (c1:=d.1.2) (p2:=d.2.1) (c2:=d.2.2) (mb:=mb) (b:=b) (mr:=mr) (mt:=mt) (q1:=q1) (d1:=d1) (q2:=q2) (d2:=d2) (ch:=ch) (rs:=rs) (O:=G i) (key:=key) hW k3 k1 k2 hchl hrsl hb1 hb2 hwb hkb (hrt _ (List.getElem_mem hi)) (hcb _ (List.getElem_mem hi)) (hfb _ (List.getElem_mem hi)) (by have:=hkl i;omega)
   rw [← hkn i hi] at hre
   rw [List.getElem?_eq_getElem hi]
   dsimp only [vaRead,paRead,List.cons_append,List.nil_append]
   refine at_openP (I i) (hI i) ?_
   rintro ⟨p4,c4⟩ -
   dsimp only [List.cons_append,List.nil_append]
   repeat' first|apply step|(apply gO;·repeat first|exact eZ|(apply eS;exact rfl))|refine Fa.mk fun _=>?_
   refine at_callS (hre p4 c4) ?_
   intro p5 c5
   repeat' first|apply step
   refine at_foldP (I (i + 1)) (hI (i + 1)) (p5,c5) trivial ?_
   exact y_next
  ·refine at_openP (I S.length) (hI S.length) ?_
   rintro ⟨p4,c4⟩ -
   dsimp only [List.cons_append,List.nil_append]
   have hgl:=hkl S.length
   repeat' first|apply step|(apply gO;·repeat first|exact eZ|(apply eS;exact rfl))|refine g_keep ?_
   refine at_callR (ze5 (p:=p4) (c:=c4) (l:=G S.length) (by omega)) ?_
   intro Z pz cz h1 h2
   obtain ⟨h1,h2⟩:=SrtI.mem hkm h1 h2
   repeat' first|apply step|(apply gO;·repeat first|exact eZ|(apply eS;exact rfl))|apply Lw.go|refine g_fin ?_
   exact fin (hR Z pz cz h1 h2)
  ·intro ax hax
   refine at_openP (J ax) (hJ ax) ?_
   intro u hu
   exact hu.elim
end
end Go.AMS

namespace Go.AMS
open Go.AM hiding Kt At WP WL Runs RunsY
open Go.AM.G
set_option linter.unusedVariables false
set_option linter.unusedSimpArgs false
set_option linter.unusedSectionVars false
set_option maxRecDepth 100000
set_option maxHeartbeats 1000000
attribute [local irreducible] AtS AtV AtC AtG FinA Spec Post LP G.At G.WP G.WL pt own fro rdl ro hx mp lrec elt sub

open Go.AM.G.Set Go.AM.G.Pre
section
variable {h:List HTx} {T:Tb} {p q pk:Option Addr} {c d ck b mr mt:Nat} {key:Int} {x a a2:HEd} {l Z Y:List HEd} {keys:List Int}
theorem zfi:∀ {l r:List HEd},l.Pairwise ltE→r.Pairwise ltE→(∀ x,x ∈ l ↔ x ∈ r)→l=r
 | [],[],_,_,_=>rfl
 | [],y::r,_,_,h=>absurd ((h y).2 (by simp)) (by simp)
 | x::l,[],_,_,h=>absurd ((h x).1 (by simp)) (by simp)
 | x::l,y::r,hl,hr,h=>by
  rw [List.pairwise_cons] at hl hr
  have hxy:x=y:=by
   rcases List.mem_cons.1 ((h x).1 (by simp)) with e|e
   ·exact e
   ·rcases List.mem_cons.1 ((h y).2 (by simp)) with e2|e2
    ·exact e2.symm
    ·exact absurd (zaQ (hl.1 y e2) (hr.1 x e)) (zo _)
  subst hxy
  congr 1
  refine zfi hl.2 hr.2 fun z=>⟨fun hz=>?_,fun hz=>?_⟩
  ·rcases List.mem_cons.1 ((h z).1 (by simp [hz])) with e|e
   ·subst e;exact absurd (hl.1 _ hz) (zo _)
   ·exact e
  ·rcases List.mem_cons.1 ((h z).2 (by simp [hz])) with e|e
   ·subst e;exact absurd (hr.1 _ hz) (zo _)
   ·exact e
theorem SrtI.uniq {l l':List HEd} (hm:∀ x,x ∈ l ↔ x ∈ l') (s:SrtI l Z) (m:∀ x,x ∈ Z ↔ x ∈ l) (s':SrtI l' Y) (m':∀ x,x ∈ Y ↔ x ∈ l'):Z=Y :=
 zfi s.s s'.s fun x=>(m x).trans ((hm x).trans (m' x).symm)
theorem ze7 (hl:Z.length≤100000000000):Spec prog1 zS [.slice p Z.length c,.slice q Z.length d] [rdl kHEd p Z,rdl kHEd q Z] (fun R=>R (.bool true) []):=by
 refine spec_code zlE rfl ?_;intro n F R hR;unfold zdl
 repeat' first|apply step|(apply gO;·repeat first|exact eZ|(apply eS;exact rfl))|(refine Br.mk (fun _=>?_) (fun _=>?_)<;>try (exfalso;omega))|refine g_cond ?_|refine g_keep ?_
 all_goals try (exfalso;omega)
 refine at_loopS (ι:=Nat) (E:=fun i=>[(0,.slice p Z.length c),(1,.slice q Z.length d),(5,.int .i64 (i:Int))]) (Δ:=fun i=>rdl kHEd p Z::rdl kHEd q Z::F) (P:=fun i=>i≤Z.length) (μ:=fun i=>Z.length - i) 0 (Nat.zero_le _) ?_
 rintro i hi
 try dsimp only at hi ⊢
 rcases Nat.lt_or_ge i Z.length with hlt|hge
 ·repeat' first|apply step|(apply gO;·repeat first|exact eZ|(apply eS;exact rfl))|(refine Br.mk (fun _=>?_) (fun _=>?_)<;>try (exfalso;omega))|(refine Sd.mk ?_ ?_;·exact qD)|(refine Sx.mk ?_ ?_;·omega)|refine Fa.mk fun _=>?_|refine Im.mk fun _=>?_|refine g_cond ?_|refine g_keep ?_
  all_goals first|exact lp_next (i + 1) (by omega) (by omega)|(exfalso;rename_i q;exact q ⟨rfl,rfl,rfl,rfl,rfl,rfl⟩)|(exfalso;omega)|(exfalso;simp_all;done)
 ·repeat' first|apply step|(apply gO;·repeat first|exact eZ|(apply eS;exact rfl))|(refine Br.mk (fun _=>?_) (fun _=>?_)<;>try (exfalso;omega))|refine g_cond ?_|refine g_keep ?_|refine g_fin ?_
  exact fin hR
theorem zd1:Spec prog1 zI [] [] (fun R=>R (.bool true) []):=closed_spec zlK
theorem zgu (hf:FewH h 20 60) (hk:OkH h) (hl:keys.length≤1200) (hy:∀ k ∈ keys,bI k):Spec prog1 zbv [.pointer (some ⟨b,0,none⟩),.slice pk keys.length ck] [rdl (kInt .i64) pk keys,ro (tabC b (TH h) mr mt),ro (mapF mr kI kHRd (TH h).rd),ro (mapF mt kI kHWr (TH h).wt)] (fun R=>∀ Z p' c',SrtI (allE h keys) Z→(∀ x,x ∈ Z ↔ x ∈ allE h keys)→R (.slice p' Z.length c') [lst kHEd p' Z]):=by
 refine spec_code zjn rfl ?_;intro n F R hR;unfold zcQ
 repeat' first|apply step|(apply gO;·repeat first|exact eZ|(apply eS;exact rfl))|refine g_keep ?_
 refine at_loopS (ι:=Nat × (Option Addr × Nat) × List HEd) (E:=fun z=>[(0,.pointer (some ⟨b,0,none⟩)),(5,.slice z.2.1.1 z.2.2.length z.2.1.2),(8,.slice pk keys.length ck),(9,.int .i64 (keys.length:Int)),(10,.int .i64 (z.1:Int))]) (Δ:=fun z=>own kHEd z.2.1.1 z.2.1.2 z.2.2::rdl (kInt .i64) pk keys::ro (tabC b (TH h) mr mt)::ro (mapF mr kI kHRd (TH h).rd)::ro (mapF mt kI kHWr (TH h).wt)::F) (P:=fun z=>z.1≤keys.length∧z.2.2.length≤z.1 * 1501400∧∀ x,x ∈ z.2.2 ↔ x ∈ allE h (keys.take z.1)) (μ:=fun z=>keys.length - z.1) (0,(none,0),[]) ⟨Nat.zero_le _,Nat.zero_le _,fun x=>by simp [allE]⟩ ?_
 rintro ⟨i,⟨p3,c3⟩,O⟩ ⟨hi,hOl,hOm⟩
 dsimp only at hi hOl hOm ⊢
 have hle:i * 1501400≤1200 * 1501400:=Nat.mul_le_mul_right _ (by omega)
 rcases Nat.lt_or_ge i keys.length with hlt|hge
 ·have hnx:allE h (keys.take (i + 1))=allE h (keys.take i)++keyG h keys[i]:=zcN (fun key=>(keyE h key).filter neE) hlt
  have hyi:=hy keys[i] (List.getElem_mem _)
  have hkl:(keyG h keys[i]).length≤1501400:=Nat.le_trans (List.length_filter_le _ _) (zdg hf hk)
  repeat' first|apply step|(apply gO;·repeat first|exact eZ|(apply eS;exact rfl))|(refine Br.mk (fun _=>?_) (fun _=>?_)<;>try (exfalso;omega))|(refine Sd.mk ?_ ?_;·exact qD)|(refine Sx.mk ?_ ?_;·omega)|refine Im.mk fun _=>?_|refine g_cond ?_
  refine at_callR (zew (h:=h) (b:=b) (mr:=mr) (mt:=mt) (key:=keys[i]) hf hk hyi) ?_
  intro Z pz cz h1 h2
  have hlz:=h1.len
  repeat' first|apply step|(apply gO;·repeat first|exact eZ|(apply eS;exact rfl))|(refine Sd.mk ?_ ?_;·exact qD)|refine Fa.mk fun _=>?_|apply Lw.go|refine g_keep ?_
  refine lp_next (i + 1,(_,_),O++Z) ⟨by dsimp only;omega,by dsimp only;rw [List.length_append];omega,fun x=>?_⟩ (by dsimp only;omega)
  dsimp only
  rw [hnx,List.mem_append,List.mem_append,hOm,h2]
 ·have e:i=keys.length:=by omega
  subst e
  rw [List.take_length] at hOm
  repeat' first|apply step|(apply gO;·repeat first|exact eZ|(apply eS;exact rfl))|(refine Br.mk (fun _=>?_) (fun _=>?_)<;>try (exfalso;omega))|refine g_cond ?_|refine g_keep ?_
  refine at_callR (ze5 (p:=p3) (c:=c3) (l:=O) (by omega)) ?_
  intro Z pz cz h1 h2
  obtain ⟨h1,h2⟩:=SrtI.mem hOm h1 h2
  repeat' first|apply step|(apply gO;·repeat first|exact eZ|(apply eS;exact rfl))|apply Lw.go|refine g_fin ?_
  exact fin (hR Z pz cz h1 h2)
theorem zg6:Spec prog1 zaY [.agg #[.slice p h.length c]] [fro kHTx p c h] (fun R=>(FewH h 20 60→chkH h=0→R (.bool true) [])∧R (.bool false) []):=by
 refine spec_code zlN rfl ?_;intro n F R hR;unfold zdr
 repeat' first|apply step|(apply gO;·repeat first|exact eZ|(apply eS;exact rfl))|refine Fa.mk fun _=>?_
 refine at_callS (zhW (h:=h) (a:=20) (b:=60) (by omega) (by omega)) ?_
 refine ⟨fun hf=>?_,?_⟩
 ·repeat' first|apply step|(apply gO;·repeat first|exact eZ|(apply eS;exact rfl))|refine g_guard ?_
  refine at_callS (zgs hf) ?_
  repeat' first|apply step|(apply gO;·repeat first|exact eZ|(apply eS;exact rfl))|(refine Br.mk (fun _=>?_) (fun _=>?_)<;>try (exfalso;omega))|refine g_guard ?_|refine g_keep ?_|refine g_fin ?_
  ·exact fin (hR.1 hf ‹_›)
  ·exact fin hR.2
 ·repeat' first|apply step|(apply gO;·repeat first|exact eZ|(apply eS;exact rfl))|refine g_guard ?_|refine g_keep ?_|refine g_fin ?_
  exact fin hR.2
theorem zhc (h:List HTx) (key:Int):allE h [key]=keyG h key:=by unfold allE keyG;simp
theorem zkK:Spec prog1 zcW [.agg #[.slice p h.length c],.slice pk keys.length ck] [fro kHTx p c h,fro (kInt .i64) pk ck keys] (fun R=>R (.bool true) []):=by
 refine spec_code zll rfl ?_;intro n F R hR;unfold zcC
 dsimp only [List.cons_append,List.nil_append]
 refine at_bnd (p:=pk) (l:=keys) (fun hy=>?_)
 have hy:∀ k ∈ keys,bI k:=hy
 repeat' first|apply step|(apply gO;·repeat first|exact eZ|(apply eS;exact rfl))|refine Fa.mk fun _=>?_
 rename_i hb
 refine at_callS (zg6 (h:=h)) ?_
 refine ⟨fun hf hc=>?_,?_⟩
 ·have hk:=zbN hc
  repeat' first|apply step|(apply gO;·repeat first|exact eZ|(apply eS;exact rfl))|(refine Br.mk (fun _=>?_) (fun _=>?_)<;>try (exfalso;omega))|refine g_cond ?_|refine g_guard ?_|refine g_keep ?_
  ·refine at_callS (zd1) ?_
   repeat' first|apply step|(apply gO;·repeat first|exact eZ|(apply eS;exact rfl))|refine g_fin ?_
   exact fin hR
  ·refine at_callS (zlI hf) ?_
   refine ⟨fun hc2=>absurd hc hc2,fun _ b=>?_⟩
   dsimp only [List.cons_append,List.nil_append]
   rw [show (tabS (sortK HTx.id h)).fin=TH h from rfl]
   refine zgU (fun mr mt=>?_)
   repeat' first|apply step|(apply gO;·repeat first|exact eZ|(apply eS;exact rfl))|(refine Br.mk (fun _=>?_) (fun _=>?_)<;>try (exfalso;omega))|refine g_cond ?_|refine g_guard ?_|refine g_keep ?_
   refine at_loopS (ι:=Nat) (E:=fun i=>[(1,.slice pk keys.length ck),(2,.pointer (some ⟨hb,0,none⟩)),(5,.pointer (some ⟨b,0,none⟩)),(7,.int .i64 (i:Int))]) (Δ:=fun _=>pt hb [.slice p h.length c] 0::fro kHTx p c h::fro (kInt .i64) pk ck keys::tabC b (TH h) mr mt::mapF mr kI kHRd (TH h).rd::mapF mt kI kHWr (TH h).wt::F) (P:=fun i=>i≤keys.length) (μ:=fun i=>keys.length - i) 0 (Nat.zero_le _) ?_
   intro i hi
   try dsimp only at hi ⊢
   rcases Nat.lt_or_ge i keys.length with hlt|hge
   ·have hyi:=hy keys[i] (List.getElem_mem _)
    have hkl:(keyG h keys[i]).length≤1501400:=Nat.le_trans (List.length_filter_le _ _) (zdg hf hk)
    repeat' first|apply step|(apply gO;·repeat first|exact eZ|(apply eS;exact rfl))|(refine Br.mk (fun _=>?_) (fun _=>?_)<;>try (exfalso;omega))|(refine Sd.mk ?_ ?_;·exact qD)|(refine Sx.mk ?_ ?_;·omega)|refine Im.mk fun _=>?_|refine g_cond ?_
    refine at_callR (zew (h:=h) (b:=b) (mr:=mr) (mt:=mt) (key:=keys[i]) hf hk hyi) ?_
    intro Z pz cz h1 h2
    have hlz:=h1.len
    repeat' first|apply step|(apply gO;·repeat first|exact eZ|(apply eS;exact rfl))|(refine Sd.mk ?_ ?_;·exact qD)|apply Lw.go
    simp only [show i + 1 - i=1 by omega]
    have e4:(keys.drop i).take 1=[keys[i]]:=by rw [List.drop_eq_getElem_cons hlt];rfl
    refine av_via (zes (K:=kInt .i64) (p:=pk) (c:=ck) (l:=keys) (i:=i) (n:=1) (z:=1) rfl (by omega)) ?_
    rw [e4]
    refine at_callR (zey (h:=h) (p:=p) (c:=c) (pk:=sub pk i 1) (ck:=1) (keys:=[keys[i]]) hf hk (by simp) (fun k hk2=>by rw [List.mem_singleton.1 hk2];exact hyi)) ?_
    intro Y p2 c2 h3 h4
    rw [zhc] at h3 h4
    obtain rfl:=SrtI.uniq (fun _=>Iff.rfl) h1 h2 h3 h4
    repeat' first|apply step|(apply gO;·repeat first|exact eZ|(apply eS;exact rfl))|apply Lw.go
    refine at_callR (ze7 (p:=pz) (c:=cz) (q:=p2) (d:=c2) (Z:=Z) (by omega)) ?_
    repeat' first|apply step|(apply gO;·repeat first|exact eZ|(apply eS;exact rfl))|(refine Sd.mk ?_ ?_;·exact qD)|apply Lw.go|refine g_cond ?_|refine g_keep ?_
    exact lp_next (i + 1) (by omega) (by omega)
   ·repeat' first|apply step|(apply gO;·repeat first|exact eZ|(apply eS;exact rfl))|(refine Br.mk (fun _=>?_) (fun _=>?_)<;>try (exfalso;omega))|refine g_cond ?_|refine g_keep ?_
    have hkl:=Nat.mul_le_mul_right 1501400 (show keys.length≤20 by omega)
    have hal:=zfK hf hk keys
    refine at_callR (zgu (h:=h) (b:=b) (mr:=mr) (mt:=mt) (keys:=keys) hf hk (by omega) hy) ?_
    intro Z pz cz h1 h2
    have hlz:=h1.len
    repeat' first|apply step|(apply gO;·repeat first|exact eZ|(apply eS;exact rfl))|apply Lw.go
    refine at_callR (zey (h:=h) (p:=p) (c:=c) (pk:=pk) (ck:=ck) (keys:=keys) hf hk (by omega) hy) ?_
    intro Y p2 c2 h3 h4
    obtain rfl:=SrtI.uniq (fun _=>Iff.rfl) h1 h2 h3 h4
    repeat' first|apply step|(apply gO;·repeat first|exact eZ|(apply eS;exact rfl))|apply Lw.go
    refine at_callR (ze7 (p:=pz) (c:=cz) (q:=p2) (d:=c2) (Z:=Z) (by omega)) ?_
    repeat' first|apply step|(apply gO;·repeat first|exact eZ|(apply eS;exact rfl))|apply Lw.go|refine g_guard ?_
    refine at_callS (zd1) ?_
    repeat' first|apply step|(apply gO;·repeat first|exact eZ|(apply eS;exact rfl))|refine g_keep ?_|refine g_fin ?_
    exact fin hR
 ·repeat' first|apply step|(apply gO;·repeat first|exact eZ|(apply eS;exact rfl))|refine g_cond ?_|refine g_guard ?_|refine g_keep ?_
  refine at_callS (zd1) ?_
  repeat' first|apply step|(apply gO;·repeat first|exact eZ|(apply eS;exact rfl))|refine g_fin ?_
  exact fin hR
end
end Go.AMS

