/- What the functions do, part 3. -/
import Derived.Test.YtmcnnojklgjgdaaGreatPart2
import Derived.Test.YtmcnnojklgjgdaaGreatSetLaw
namespace Go.AMS
open Go.AM hiding Kt At WP WL Runs RunsY
open Go.AM.G
set_option linter.unusedVariables false
set_option linter.unusedSimpArgs false
set_option linter.unusedSectionVars false
set_option maxRecDepth 100000
set_option maxHeartbeats 1000000
attribute [local irreducible] AtS AtV AtC AtG FinA Spec Post LP G.At G.WP G.WL pt own fro rdl ro hx mp lrec elt sub

open Go.AM.G.Set
section
variable {h:List HTx} {T:Tb} {r:HRd} {p q p1 p2:Option Addr} {c d c1 c2 b mr mt:Nat}
theorem reads_unborn_specR (h1:r.list.length≤1000):Spec prog1 n_reads_unborn [.pointer (some ⟨b,0,none⟩),.agg #[.int .i64 r.txn,.int .i64 r.op,.int .i64 r.key,.slice p1 r.list.length c1,.slice p2 r.own.length c2]] [ro (tabC b T mr mt),fro (kInt .i64) p1 c1 r.list] (fun R=>R (twoV (bornL (wK T r.key) r.list)) []):=by
 refine spec_code c_reads_unborn rfl ?_;intro n F R hR;unfold F_reads_unborn
 generalize hW:wK T r.key=W at hR ⊢
 repeat' first|apply step|(apply g_op;·repeat first|exact Evs.nil|(apply Evs.cons;exact rfl))|refine Fa.mk fun _=>?_|refine g_keep ?_
 rename_i rb
 refine at_loopS (ι:=Nat) (E:=fun j=>[(0,.pointer (some ⟨b,0,none⟩)),(3,.pointer (some ⟨rb,0,none⟩)),(11,.slice p1 r.list.length c1),(12,.int .i64 (r.list.length:Int)),(13,.int .i64 (j:Int))]) (Δ:=fun j=>ro (tabC b T mr mt)::fro (kInt .i64) p1 c1 r.list::pt rb [.int .i64 r.txn,.int .i64 r.op,.int .i64 r.key,.slice p1 r.list.length c1,.slice p2 r.own.length c2] 0::F) (P:=fun j=>j≤r.list.length∧bornL W (r.list.drop j)=bornL W r.list) (μ:=fun j=>r.list.length - j) 0 ⟨Nat.zero_le _,rfl⟩ ?_
 rintro j ⟨hj,hd⟩
 try dsimp only
 rcases Nat.lt_or_ge j r.list.length with hlt|hge
 ·rw [bornL_drop hlt] at hd
  repeat' first|apply step|(apply g_op;·repeat first|exact Evs.nil|(apply Evs.cons;exact rfl))|(refine Br.mk (fun _=>?_) (fun _=>?_)<;>try (exfalso;omega))|(refine Sd.mk ?_ ?_;·((repeat' apply And.intro)<;>first|omega|trivial|assumption|(simp;done)|(simp;omega)))|(refine Sx.mk ?_ ?_;·omega)|refine Im.mk fun _=>?_|refine g_cond ?_
  refine at_callR (table_Table_Writer_specR (T:=T) (mr:=mr) (mt:=mt) (x:=r.key) (y:=r.list[j])) ?_
  rw [show aget (r.key,r.list[j]) T.wr=W r.list[j] by rw [← hW]]
  cases hw:W r.list[j] with
  | none =>
   rw [hw] at hd
   dsimp only at hd
   rw [← hd] at hR
   unfold wrO
   repeat' first|apply step|(apply g_op;·repeat first|exact Evs.nil|(apply Evs.cons;exact rfl))|refine Fa.mk fun _=>?_|apply Lw.go|refine g_cond ?_|refine g_keep ?_|refine g_fin ?_
   exact fin hR
  | some w =>
   rw [hw] at hd
   dsimp only at hd
   unfold wrO
   repeat' first|apply step|(apply g_op;·repeat first|exact Evs.nil|(apply Evs.cons;exact rfl))|(refine Sd.mk ?_ ?_;·((repeat' apply And.intro)<;>first|omega|trivial|assumption|(simp;done)|(simp;omega)))|refine Fa.mk fun _=>?_|apply Lw.go|refine g_cond ?_|refine g_keep ?_
   exact lp_next (j + 1) ⟨by omega,hd⟩ (by omega)
 ·rw [List.drop_eq_nil_of_le hge] at hd
  rw [← hd] at hR
  repeat' first|apply step|(apply g_op;·repeat first|exact Evs.nil|(apply Evs.cons;exact rfl))|(refine Br.mk (fun _=>?_) (fun _=>?_)<;>try (exfalso;omega))|refine g_cond ?_|refine g_keep ?_|refine g_fin ?_
  exact fin hR
theorem reads_inner_specR (h1:r.list.length≤1000) (h2:r.own.length≤1000):Spec prog1 n_reads_inner [.pointer (some ⟨b,0,none⟩),.agg #[.int .i64 r.txn,.int .i64 r.op,.int .i64 r.key,.slice p1 r.list.length c1,.slice p2 r.own.length c2]] [ro (tabC b T mr mt),fro (kInt .i64) p1 c1 r.list,fro (kInt .i64) p2 c2 r.own] (fun R=>R (twoV (innL (wK T r.key) r)) []):=by
 refine spec_code c_reads_inner rfl ?_;intro n F R hR;unfold F_reads_inner
 have hfl:=frontL_len r
 repeat' first|apply step|(apply g_op;·repeat first|exact Evs.nil|(apply Evs.cons;exact rfl))|(refine Sd.mk ?_ ?_;·((repeat' apply And.intro)<;>first|omega|trivial|assumption|(simp;done)|(simp;omega)))|refine Fa.mk fun _=>?_|refine g_keep ?_
 rename_i rb
 refine at_loopS (ι:=Nat) (E:=fun j=>[(0,.pointer (some ⟨b,0,none⟩)),(3,.pointer (some ⟨rb,0,none⟩)),(6,.int .i64 ((r.list.length:Int) - (r.own.length:Int))),(21,.slice p2 r.own.length c2),(22,.int .i64 (r.own.length:Int)),(23,.int .i64 (j:Int))]) (Δ:=fun j=>ro (tabC b T mr mt)::fro (kInt .i64) p1 c1 r.list::fro (kInt .i64) p2 c2 r.own::pt rb [.int .i64 r.txn,.int .i64 r.op,.int .i64 r.key,.slice p1 r.list.length c1,.slice p2 r.own.length c2] 0::F) (P:=fun j=>j≤r.own.length∧innA r.list ((r.list.length:Int) - (r.own.length:Int)) (r.own.drop j) j=innA r.list ((r.list.length:Int) - (r.own.length:Int)) r.own 0) (μ:=fun j=>r.own.length - j) 0 ⟨Nat.zero_le _,rfl⟩ ?_
 rintro j ⟨hj,hd⟩
 try dsimp only
 rcases Nat.lt_or_ge j r.own.length with hlt|hge
 ·rw [innA_drop hlt] at hd
  by_cases hneg:(r.list.length:Int) - (r.own.length:Int) + (j:Int) < 0
  ·rw [if_pos (.inl hneg)] at hd
   unfold innL at hR
   rw [← hd] at hR
   repeat' first|apply step|(apply g_op;·repeat first|exact Evs.nil|(apply Evs.cons;exact rfl))|(refine Br.mk (fun _=>?_) (fun _=>?_)<;>try (exfalso;omega))|(refine Sd.mk ?_ ?_;·((repeat' apply And.intro)<;>first|omega|trivial|assumption|(simp;done)|(simp;omega)))|(refine Sx.mk ?_ ?_;·omega)|refine Im.mk fun _=>?_|refine g_cond ?_|refine g_guard ?_|refine g_keep ?_|refine g_fin ?_
   all_goals first|exact fin hR|(exfalso;omega)
  ·have hix:((r.list.length:Int) - (r.own.length:Int) + (j:Int)).toNat < r.list.length:=by omega
   by_cases he:r.list[((r.list.length:Int) - (r.own.length:Int) + (j:Int)).toNat]'hix=r.own[j]
   ·rw [if_neg (fun q=>by rcases q with q|q;exact hneg q;exact q (by rw [List.getElem?_eq_getElem hix,he]))] at hd
    repeat' first|apply step|(apply g_op;·repeat first|exact Evs.nil|(apply Evs.cons;exact rfl))|(refine Br.mk (fun _=>?_) (fun _=>?_)<;>try (exfalso;omega))|(refine Sd.mk ?_ ?_;·((repeat' apply And.intro)<;>first|omega|trivial|assumption|(simp;done)|(simp;omega)))|(refine Sx.mk ?_ ?_;·omega)|refine Im.mk fun _=>?_|refine g_cond ?_|refine g_guard ?_|refine g_keep ?_
    all_goals first|exact lp_next (j + 1) ⟨by omega,hd⟩ (by omega)|(exfalso;omega)
   ·rw [if_pos (.inr (fun q=>he (Option.some.inj (by rw [← q,List.getElem?_eq_getElem hix]))))] at hd
    unfold innL at hR
    rw [← hd] at hR
    repeat' first|apply step|(apply g_op;·repeat first|exact Evs.nil|(apply Evs.cons;exact rfl))|(refine Br.mk (fun _=>?_) (fun _=>?_)<;>try (exfalso;omega))|(refine Sd.mk ?_ ?_;·((repeat' apply And.intro)<;>first|omega|trivial|assumption|(simp;done)|(simp;omega)))|(refine Sx.mk ?_ ?_;·omega)|refine Im.mk fun _=>?_|refine g_cond ?_|refine g_guard ?_|refine g_keep ?_|refine g_fin ?_
    all_goals first|exact fin hR|(exfalso;omega)
 ·rw [List.drop_eq_nil_of_le hge] at hd
  unfold innL at hR
  rw [← hd] at hR
  dsimp only [innA] at hR
  unfold innB at hR
  repeat' first|apply step|(apply g_op;·repeat first|exact Evs.nil|(apply Evs.cons;exact rfl))|(refine Br.mk (fun _=>?_) (fun _=>?_)<;>try (exfalso;omega))|refine g_cond ?_|refine g_keep ?_
  refine at_callS (reads_Front_spec (r:=r) (by omega) (by omega)) ?_
  intro p3 c3
  generalize hW:wK T r.key=W at hR ⊢
  generalize frontL r=l at hR hfl ⊢
  repeat' first|apply step|(apply g_op;·repeat first|exact Evs.nil|(apply Evs.cons;exact rfl))|refine g_keep ?_
  refine at_loopS (ι:=Nat) (E:=fun j=>[(0,.pointer (some ⟨b,0,none⟩)),(3,.pointer (some ⟨rb,0,none⟩)),(46,.slice p3 l.length c3),(47,.int .i64 (l.length:Int)),(48,.int .i64 (j:Int))]) (Δ:=fun j=>own (kInt .i64) p3 c3 l::ro (tabC b T mr mt)::pt rb [.int .i64 r.txn,.int .i64 r.op,.int .i64 r.key,.slice p1 r.list.length c1,.slice p2 r.own.length c2] 0::F) (P:=fun j=>j≤l.length∧(l.drop j).find? (fun x=>decide (txZ (W x)=r.txn))=l.find? (fun x=>decide (txZ (W x)=r.txn))) (μ:=fun j=>l.length - j) 0 ⟨Nat.zero_le _,rfl⟩ ?_
  rintro k ⟨hk,hd2⟩
  try dsimp only
  rcases Nat.lt_or_ge k l.length with hlt|hge2
  ·rw [List.drop_eq_getElem_cons hlt,List.find?_cons] at hd2
   repeat' first|apply step|(apply g_op;·repeat first|exact Evs.nil|(apply Evs.cons;exact rfl))|(refine Br.mk (fun _=>?_) (fun _=>?_)<;>try (exfalso;omega))|(refine Sd.mk ?_ ?_;·((repeat' apply And.intro)<;>first|omega|trivial|assumption|(simp;done)|(simp;omega)))|(refine Sx.mk ?_ ?_;·omega)|refine Im.mk fun _=>?_|refine g_cond ?_
   refine at_callR (table_Table_Writer_specR (T:=T) (mr:=mr) (mt:=mt) (x:=r.key) (y:=l[k])) ?_
   rw [show aget (r.key,l[k]) T.wr=W l[k] by rw [← hW]]
   cases hw:W l[k] with
   | none =>
    rw [hw] at hd2
    unfold wrO
    by_cases h0:(0:Int)=r.txn
    ·rw [show decide (txZ none=r.txn)=true from decide_eq_true h0] at hd2
     rw [← hd2] at hR
     repeat' first|apply step|(apply g_op;·repeat first|exact Evs.nil|(apply Evs.cons;exact rfl))|(refine Br.mk (fun _=>?_) (fun _=>?_)<;>try (exfalso;omega))|refine Fa.mk fun _=>?_|apply Lw.go|refine g_cond ?_|refine g_keep ?_|refine g_fin ?_
     all_goals first|exact fin hR|(exfalso;omega)
    ·rw [show decide (txZ none=r.txn)=false from decide_eq_false h0] at hd2
     repeat' first|apply step|(apply g_op;·repeat first|exact Evs.nil|(apply Evs.cons;exact rfl))|(refine Br.mk (fun _=>?_) (fun _=>?_)<;>try (exfalso;omega))|(refine Sd.mk ?_ ?_;·((repeat' apply And.intro)<;>first|omega|trivial|assumption|(simp;done)|(simp;omega)))|refine Fa.mk fun _=>?_|apply Lw.go|refine g_cond ?_|refine g_keep ?_
     all_goals first|exact lp_next (k + 1) ⟨by omega,hd2⟩ (by omega)|(exfalso;omega)
   | some w =>
    rw [hw] at hd2
    unfold wrO
    by_cases h0:w.txn=r.txn
    ·rw [show decide (txZ (some w)=r.txn)=true from decide_eq_true h0] at hd2
     rw [← hd2] at hR
     repeat' first|apply step|(apply g_op;·repeat first|exact Evs.nil|(apply Evs.cons;exact rfl))|(refine Br.mk (fun _=>?_) (fun _=>?_)<;>try (exfalso;omega))|refine Fa.mk fun _=>?_|apply Lw.go|refine g_cond ?_|refine g_keep ?_|refine g_fin ?_
     all_goals first|exact fin hR|(exfalso;omega)
    ·rw [show decide (txZ (some w)=r.txn)=false from decide_eq_false h0] at hd2
     repeat' first|apply step|(apply g_op;·repeat first|exact Evs.nil|(apply Evs.cons;exact rfl))|(refine Br.mk (fun _=>?_) (fun _=>?_)<;>try (exfalso;omega))|(refine Sd.mk ?_ ?_;·((repeat' apply And.intro)<;>first|omega|trivial|assumption|(simp;done)|(simp;omega)))|refine Fa.mk fun _=>?_|apply Lw.go|refine g_cond ?_|refine g_keep ?_
     all_goals first|exact lp_next (k + 1) ⟨by omega,hd2⟩ (by omega)|(exfalso;omega)
  ·rw [List.drop_eq_nil_of_le hge2] at hd2
   rw [← hd2] at hR
   repeat' first|apply step|(apply g_op;·repeat first|exact Evs.nil|(apply Evs.cons;exact rfl))|(refine Br.mk (fun _=>?_) (fun _=>?_)<;>try (exfalso;omega))|refine g_cond ?_|refine g_keep ?_|refine g_fin ?_
   exact fin hR
theorem reads_Kind_specR (h1:r.list.length≤1000) (h2:r.own.length≤1000):Spec prog1 n_reads_Kind [.pointer (some ⟨b,0,none⟩),.agg #[.int .i64 r.txn,.int .i64 r.op,.int .i64 r.key,.slice p1 r.list.length c1,.slice p2 r.own.length c2]] [ro (tabC b T mr mt),fro (kInt .i64) p1 c1 r.list,fro (kInt .i64) p2 c2 r.own] (fun R=>R (.tuple #[.int .i64 (kindL (wK T r.key) r).1,.int .i64 (kindL (wK T r.key) r).2]) []):=by
 refine spec_code c_reads_Kind rfl ?_;intro n F R hR;unfold F_reads_Kind
 unfold kindL at hR
 repeat' first|apply step|(apply g_op;·repeat first|exact Evs.nil|(apply Evs.cons;exact rfl))|refine Fa.mk fun _=>?_
 refine at_callR (reads_twice_spec (l:=r.list) h1) ?_
 cases ht:twL [] r.list with
 | some x =>
  rw [ht] at hR
  unfold twoV
  repeat' first|apply step|(apply g_op;·repeat first|exact Evs.nil|(apply Evs.cons;exact rfl))|apply Lw.go|refine g_cond ?_|refine g_keep ?_|refine g_fin ?_
  exact fin hR
 | none =>
  rw [ht] at hR
  unfold twoV
  repeat' first|apply step|(apply g_op;·repeat first|exact Evs.nil|(apply Evs.cons;exact rfl))|apply Lw.go|refine g_cond ?_|refine g_keep ?_
  refine at_callR (reads_unborn_specR (T:=T) (r:=r) h1) ?_
  cases hb:bornL (wK T r.key) r.list with
  | some x =>
   rw [hb] at hR
   unfold twoV
   repeat' first|apply step|(apply g_op;·repeat first|exact Evs.nil|(apply Evs.cons;exact rfl))|apply Lw.go|refine g_cond ?_|refine g_keep ?_|refine g_fin ?_
   exact fin hR
  | none =>
   rw [hb] at hR
   unfold twoV
   repeat' first|apply step|(apply g_op;·repeat first|exact Evs.nil|(apply Evs.cons;exact rfl))|apply Lw.go|refine g_cond ?_|refine g_keep ?_
   refine at_callR (reads_inner_specR (T:=T) (r:=r) h1 h2) ?_
   cases hi:innL (wK T r.key) r with
   | some x =>
    rw [hi] at hR
    unfold twoV
    repeat' first|apply step|(apply g_op;·repeat first|exact Evs.nil|(apply Evs.cons;exact rfl))|apply Lw.go|refine g_cond ?_|refine g_keep ?_|refine g_fin ?_
    exact fin hR
   | none =>
    rw [hi] at hR
    unfold twoV
    repeat' first|apply step|(apply g_op;·repeat first|exact Evs.nil|(apply Evs.cons;exact rfl))|apply Lw.go|refine g_cond ?_|refine g_keep ?_|refine g_fin ?_
    exact fin hR
end
end Go.AMS

namespace Go.AMS
open Go.AM hiding Kt At WP WL Runs RunsY
open Go.AM.G
open Go.AM.G.Set
set_option linter.unusedVariables false
set_option linter.unusedSectionVars false
set_option linter.unusedSimpArgs false
section
variable {α κ:Type} [DecidableEq κ] {K:Kind α} {k:κ} {Z:List (LE κ α)} {Γ F:List HP}
theorem ro_fro {p:Option Addr} {c:Nat} {l:List α}:Ent (ro (fro K p c l)::Γ) (fro K p c l::Γ):=.one fun h s ⟨⟨s',h1,hf⟩,hs⟩=>⟨s,⟨h1.1,hs⟩,fun b hb=>hb⟩
theorem takeFR:Ent (ro (alls (froE K) Z)::Γ) (fro K (atE k Z).2.1 (atE k Z).2.2 (atE k Z).1::Γ):=(ro_ent takeF).trans ro_fro
end
end Go.AMS

namespace Go.AMS
open Go.AM hiding Kt At WP WL Runs RunsY
open Go.AM.G
set_option linter.unusedVariables false
set_option linter.unusedSimpArgs false
set_option linter.unusedSectionVars false
set_option maxRecDepth 100000
set_option maxHeartbeats 1000000
attribute [local irreducible] AtS AtV AtC AtG FinA Spec Post LP G.At G.WP G.WL pt own fro rdl ro hx mp lrec elt sub

open Go.AM.G.Set
section
variable {T:Tb} {p q:Option Addr} {c d b mr mt:Nat}
theorem table_Table_Reads_specL {y:Int}:Spec prog1 n_table_Table_Reads [.pointer (some ⟨b,0,none⟩),.int .i64 y] [ro (tabC b T mr mt),ro (mapF mr kI kHRd T.rd)] (fun R=>∀ x p' c',R (.func (.func n_table_goes_table_Read_c1) #[] #[.pointer (some ⟨x,0,none⟩)]) [pt x [.slice p' (agl y T.rd).length c'] 0,fro kHRd p' c' (agl y T.rd)]):=by
 refine spec_code c_table_Table_Reads rfl ?_;intro n F R hR;unfold F_table_Table_Reads
 refine at_openRP (tabC b T mr mt) rfl ?_
 rintro ⟨⟨⟨pi,ci⟩,⟨pk,ck⟩⟩,⟨mw,ma⟩⟩ -
 try dsimp only
 refine at_openRP (mapF mr kI kHRd T.rd) rfl ?_
 rintro Z hZ
 try dsimp only
 have hal:=atE_agl (k:=y) hZ
 repeat' first|apply step|(apply g_op;·repeat first|exact Evs.nil|(apply Evs.cons;exact rfl))
 refine at_callR (table_Table_is_spec) ?_
 repeat' first|apply step|(apply g_op;·repeat first|exact Evs.nil|(apply Evs.cons;exact rfl))|apply Lw.go|refine g_cond ?_
 refine av_atE (enc:=kI) (k:=y) inferInstance ?_
 refine at_via (takeFR (K:=kHRd) (k:=y) (Z:=Z)) ?_
 rw [hal]
 repeat' first|apply step|(apply g_op;·repeat first|exact Evs.nil|(apply Evs.cons;exact rfl))
 refine at_callS (table_goes_table_Read_spec) ?_
 intro x
 repeat' first|apply step|(apply g_op;·repeat first|exact Evs.nil|(apply Evs.cons;exact rfl))|refine g_keep ?_|refine g_fin ?_
 exact fin (hR _ _ _)
theorem table_Table_Writes_specL {y:Int}:Spec prog1 n_table_Table_Writes [.pointer (some ⟨b,0,none⟩),.int .i64 y] [ro (tabC b T mr mt),ro (mapF mt kI kHWr T.wt)] (fun R=>∀ x p' c',R (.func (.func n_table_goes_table_Write_c1) #[] #[.pointer (some ⟨x,0,none⟩)]) [pt x [.slice p' (agl y T.wt).length c'] 0,fro kHWr p' c' (agl y T.wt)]):=by
 refine spec_code c_table_Table_Writes rfl ?_;intro n F R hR;unfold F_table_Table_Writes
 refine at_openRP (tabC b T mr mt) rfl ?_
 rintro ⟨⟨⟨pi,ci⟩,⟨pk,ck⟩⟩,⟨mw,ma⟩⟩ -
 try dsimp only
 refine at_openRP (mapF mt kI kHWr T.wt) rfl ?_
 rintro Z hZ
 try dsimp only
 have hal:=atE_agl (k:=y) hZ
 repeat' first|apply step|(apply g_op;·repeat first|exact Evs.nil|(apply Evs.cons;exact rfl))
 refine at_callR (table_Table_is_spec) ?_
 repeat' first|apply step|(apply g_op;·repeat first|exact Evs.nil|(apply Evs.cons;exact rfl))|apply Lw.go|refine g_cond ?_
 refine av_atE (enc:=kI) (k:=y) inferInstance ?_
 refine at_via (takeFR (K:=kHWr) (k:=y) (Z:=Z)) ?_
 rw [hal]
 repeat' first|apply step|(apply g_op;·repeat first|exact Evs.nil|(apply Evs.cons;exact rfl))
 refine at_callS (table_goes_table_Write_spec) ?_
 intro x
 repeat' first|apply step|(apply g_op;·repeat first|exact Evs.nil|(apply Evs.cons;exact rfl))|refine g_keep ?_|refine g_fin ?_
 exact fin (hR _ _ _)
theorem reads_Sound_c1_specL {L:List HRd} {key:Int} {x y ly:Nat} {A:Nat→HP} {B:AX→HP} (hL:agl key T.rd=L) (hll:L.length≤100000) (hl:∀ r ∈ L,(r.list.length≤1000∧r.own.length≤1000)∧r.key=key) (hy:∀ i,i < (soundL (wK T key) L).length→∀ w:wR,YSpec prog1 ly (vaRead w (soundL (wK T key) L)[i]?) (A i::paRead w (soundL (wK T key) L)[i]?) (fun R=>R (.bool true) [A (i + 1)]∧∀ x,x≠.norm→R (.bool false) [B x])) :
  Spec prog1 n_reads_Sound_c1 [.func (.yield ly) #[] #[],.pointer (some ⟨x,0,none⟩),.pointer (some ⟨y,0,none⟩)] [A 0,pt x [.pointer (some ⟨b,0,none⟩)] 0,pt y [.int .i64 key] 0,ro (tabC b T mr mt),ro (mapF mr kI kHRd T.rd)] (fun R=>(∀ v,R v [A (soundL (wK T key) L).length])∧∀ x v,x≠.norm→R v [B x]):=by
 refine spec_code c_reads_Sound_c1 rfl ?_;intro n F R hR;unfold F_reads_Sound_c1
 generalize hW:wK T key=W at hR hy
 repeat' first|apply step|(apply g_op;·repeat first|exact Evs.nil|(apply Evs.cons;exact rfl))|refine Fa.mk fun _=>?_
 refine at_callR (table_Table_Reads_specL (T:=T) (mr:=mr) (mt:=mt) (y:=key)) ?_
 intro xr pr cr
 rw [hL]
 repeat' first|apply step|apply Lw.go
 rename_i fb
 obtain ⟨I,hI⟩:∃ I:Nat→HP,∀ i,I i=hx fun (_:Unit)=>(True,[A (soundL W (L.take i)).length,ro (tabC b T mr mt),pt x [.pointer (some ⟨b,0,none⟩)] 0,pt fb [.func (.yield ly) #[] #[]] 0]):=⟨_,fun _=>rfl⟩
 obtain ⟨J,hJ⟩:∃ J:AX→HP,∀ ax,J ax=hx fun (x0:AX)=>(ax=.ret∧x0≠.norm,[B x0]):=⟨_,fun _=>rfl⟩
 refine at_foldP (I 0) (hI 0) () trivial ?_
 refine at_rfunSD (I:=I) (J:=J) (Po:=[]) L.length (fun i (d:wR)=>vaRead d L[i]?) (fun i d=>paRead d L[i]?) (fun ly A B h=>table_goes_table_Read_c1_spec (l:=L) (by omega) h) (fun i hi d=>by rw [List.getElem?_eq_getElem hi];rfl) ?_ ?_ ?_
 ·intro i hi d ly2 m F'
  rw [List.getElem?_eq_getElem hi]
  obtain ⟨⟨k1,k2⟩,k3⟩:=hl L[i] (List.getElem_mem hi)
  have hnx:=soundL_next (W:=W) hi
  have hWr:wK T L[i].key=W:=by rw [k3,hW]
  dsimp only [vaRead,paRead,List.cons_append,List.nil_append]
  refine at_openP (I i) (hI i) ?_
  intro u hu
  dsimp only [List.cons_append,List.nil_append]
  repeat' first|apply step|(apply g_op;·repeat first|exact Evs.nil|(apply Evs.cons;exact rfl))|refine Fa.mk fun _=>?_
  refine at_callR (reads_Kind_specR (T:=T) (mr:=mr) (mt:=mt) (r:=L[i]) k1 k2) ?_
  rw [hWr]
  by_cases hs:(kindL W L[i]).1=0
  ·have hsb:soundB W L[i]=true:=decide_eq_true hs
   rw [if_pos hsb] at hnx
   have hat:=soundL_at hi hsb
   have hyi:=hy (soundL W (L.take i)).length (List.getElem?_eq_some_iff.1 hat).1 d
   rw [hat] at hyi
   dsimp only [vaRead,paRead] at hyi
   have hlen:(soundL W (L.take (i + 1))).length=(soundL W (L.take i)).length + 1:=by rw [hnx,List.length_append];rfl
   repeat' first|apply step|(apply g_op;·repeat first|exact Evs.nil|(apply Evs.cons;exact rfl))|(refine Br.mk (fun _=>?_) (fun _=>?_)<;>try (exfalso;omega))|apply Lw.go|refine g_guard ?_|refine g_keep ?_
   refine at_callY hyi ⟨?_,fun x0 hx0=>?_⟩
   ·repeat' first|apply step|(apply g_op;·repeat first|exact Evs.nil|(apply Evs.cons;exact rfl))|refine g_cond ?_|refine g_guard ?_|refine g_keep ?_
    rw [← hlen]
    refine at_foldP (I (i + 1)) (hI _) () trivial ?_
    exact y_next
   ·repeat' first|apply step|(apply g_op;·repeat first|exact Evs.nil|(apply Evs.cons;exact rfl))|refine g_cond ?_|refine g_guard ?_|refine g_keep ?_
    refine at_foldP (J .ret) (hJ _) x0 ⟨rfl,hx0⟩ ?_
    exact y_exit
  ·have hsb:soundB W L[i]=false:=decide_eq_false hs
   rw [hsb] at hnx
   simp only [Bool.false_eq_true,if_false,List.append_nil] at hnx
   repeat' first|apply step|(apply g_op;·repeat first|exact Evs.nil|(apply Evs.cons;exact rfl))|(refine Br.mk (fun _=>?_) (fun _=>?_)<;>try (exfalso;omega))|apply Lw.go|refine g_cond ?_|refine g_guard ?_|refine g_keep ?_
   rw [← hnx]
   refine at_foldP (I (i + 1)) (hI _) () trivial ?_
   exact y_next
 ·refine at_openP (I _) (hI _) ?_
  intro u hu
  dsimp only [List.cons_append,List.nil_append]
  rw [List.take_length]
  repeat' first|apply step|refine g_fin ?_
  exact fin (hR.1 _)
 ·intro ax hax
  refine at_openP (J ax) (hJ ax) ?_
  rintro x0 ⟨hx1,hx2⟩
  dsimp only [List.cons_append,List.nil_append]
  subst hx1
  repeat' first|apply step|refine g_fin ?_
  exact fin (hR.2 x0 _ hx2)
end
end Go.AMS

namespace Go.AMS
open Go.AM hiding Kt At WP WL Runs RunsY
open Go.AM.G
set_option linter.unusedVariables false
set_option linter.unusedSimpArgs false
set_option linter.unusedSectionVars false
set_option maxRecDepth 100000
set_option maxHeartbeats 1000000
attribute [local irreducible] AtS AtV AtC AtG FinA Spec Post LP G.At G.WP G.WL pt own fro rdl ro hx mp lrec elt sub

open Go.AM.G.Set
section
variable {h:List HTx} {r:HRd} {p q p1 p2 p3:Option Addr} {c d c1 c2 c3 b:Nat}
theorem soundL_le {W:Wf} (l:List HRd):(soundL W l).length≤l.length:=List.length_filter_le _ _
theorem r13_Sound_spec {key:Int} (hf:FewH h 20 60) (hk:OkH h):Spec prog1 n_r13_Sound [.agg #[.slice p h.length c],.int .i64 key] [fro kHTx p c h] (fun R=>∀ p' c',R (.slice p' (soundL (wK (TH h) key) (rdK h key)).length c') [own kHRd p' c' (soundL (wK (TH h) key) (rdK h key))]):=by
 refine spec_code c_r13_Sound rfl ?_;intro n F R hR;unfold F_r13_Sound
 have hL1:(rdK h key).length≤1200:=outR_len hf hk.m key
 have hL2:=outR_ok hf hk.m key
 have hRd:Spec prog1 n_r12_Reads [.agg #[.slice p h.length c],.int .i64 key] [fro kHTx p c h] (fun R=>∀ p' c',R (.slice p' (rdK h key).length c') [own kHRd p' c' (rdK h key)]):=r12_Reads_spec hf hk.m
 change ∀ r ∈ rdK h key,_ at hL2
 repeat' first|apply step|(apply g_op;·repeat first|exact Evs.nil|(apply Evs.cons;exact rfl))|refine Fa.mk fun _=>?_
 rename_i hb
 refine at_callS (hRd) ?_
 intro pa ca
 generalize rdK h key=L at hR hL1 hL2 ⊢
 generalize hW:wK (TH h) key=W at hR
 repeat' first|apply step|(apply g_op;·repeat first|exact Evs.nil|(apply Evs.cons;exact rfl))|refine g_keep ?_
 refine at_loopS (ι:=Nat × (Option Addr × Nat)) (E:=fun z=>[(2,.pointer (some ⟨hb,0,none⟩)),(5,.slice z.2.1 (soundL W (L.take z.1)).length z.2.2),(6,.slice pa L.length ca),(7,.int .i64 (z.1:Int))]) (Δ:=fun z=>own kHRd z.2.1 z.2.2 (soundL W (L.take z.1))::own kHRd pa ca L::pt hb [.slice p h.length c] 0::fro kHTx p c h::F) (P:=fun z=>z.1≤L.length) (μ:=fun z=>L.length - z.1) (0,(none,0)) (Nat.zero_le _) ?_
 rintro ⟨k,p1,c1⟩ hk1
 dsimp only at hk1 ⊢
 have hO:(soundL W (L.take k)).length≤1200:=Nat.le_trans (soundL_le _) (by rw [List.length_take];omega)
 rcases Nat.lt_or_ge k L.length with hlt|hge
 ·obtain ⟨⟨k1,k2⟩,⟨k3,k4⟩,⟨k5,k6⟩,k7⟩:=hL2 L[k] (List.getElem_mem hlt)
  have hnx:=soundL_next (W:=W) hlt
  have hWr:wK (TH h) L[k].key=W:=by rw [k7,hW]
  generalize soundL W (L.take k)=O at hnx hO ⊢
  repeat' first|apply step|(apply g_op;·repeat first|exact Evs.nil|(apply Evs.cons;exact rfl))|(refine Br.mk (fun _=>?_) (fun _=>?_)<;>try (exfalso;omega))|(refine Sd.mk ?_ ?_;·((repeat' apply And.intro)<;>first|omega|trivial|assumption|(simp;done)|(simp;omega)))|(refine Sx.mk ?_ ?_;·omega)|refine Fa.mk fun _=>?_|refine Im.mk fun _=>?_|refine g_cond ?_
  refine at_callS (r13_Kind_spec (r:=L[k]) hf hk k1 k2) ?_
  rw [hWr]
  by_cases hs:(kindL W L[k]).1=0
  ·rw [if_pos (show soundB W L[k]=true from decide_eq_true hs)] at hnx
   rw [show [L[k]]=[(⟨L[k].txn,L[k].op,L[k].key,L[k].list,L[k].own⟩:HRd)] from rfl] at hnx
   repeat' first|apply step|(apply g_op;·repeat first|exact Evs.nil|(apply Evs.cons;exact rfl))|(refine Br.mk (fun _=>?_) (fun _=>?_)<;>try (exfalso;omega))|(refine Sd.mk ?_ ?_;·((repeat' apply And.intro)<;>first|omega|trivial|assumption|(simp;done)|(simp;omega)))|(refine Sx.mk ?_ ?_;·omega)|refine Fa.mk fun _=>?_|refine Im.mk fun _=>?_|refine g_cond ?_|refine g_keep ?_
   all_goals first|(exfalso;omega)|exact lp_next (k + 1,_,_) (by dsimp only;omega) (by dsimp only;omega) (by dsimp only;rw [hnx]) (by dsimp only;rw [hnx];repeat first|exact Ent.refl _|(apply Ent.more;· repeat first|exact Ent.keep|exact Ent.here|exact Ent.lend|exact ent_nil|apply Ent.there)|apply Ent.drop)
  ·rw [if_neg (show ¬ soundB W L[k]=true from fun q=>hs (of_decide_eq_true q)),List.append_nil] at hnx
   repeat' first|apply step|(apply g_op;·repeat first|exact Evs.nil|(apply Evs.cons;exact rfl))|(refine Br.mk (fun _=>?_) (fun _=>?_)<;>try (exfalso;omega))|(refine Sd.mk ?_ ?_;·((repeat' apply And.intro)<;>first|omega|trivial|assumption|(simp;done)|(simp;omega)))|refine g_cond ?_|refine g_keep ?_
   all_goals first|(exfalso;omega)|exact lp_next (k + 1,_,_) (by dsimp only;omega) (by dsimp only;omega) (by dsimp only;rw [hnx]) (by dsimp only;rw [hnx];repeat first|exact Ent.refl _|(apply Ent.more;· repeat first|exact Ent.keep|exact Ent.here|exact Ent.lend|exact ent_nil|apply Ent.there)|apply Ent.drop)
 ·rw [List.take_of_length_le hge]
  repeat' first|apply step|(apply g_op;·repeat first|exact Evs.nil|(apply Evs.cons;exact rfl))|(refine Br.mk (fun _=>?_) (fun _=>?_)<;>try (exfalso;omega))|refine g_cond ?_|refine g_keep ?_|refine g_fin ?_
  exact fin (hR p1 c1)
end
end Go.AMS

namespace Go.AMS
open Go.AM hiding Kt At WP WL Runs RunsY
open Go.AM.G
set_option linter.unusedVariables false
set_option linter.unusedSimpArgs false
set_option linter.unusedSectionVars false
set_option maxRecDepth 100000
set_option maxHeartbeats 1000000
attribute [local irreducible] AtS AtV AtC AtG FinA Spec Post LP G.At G.WP G.WL pt own fro rdl ro hx mp lrec elt sub

open Go.AM.G.Set
section
variable {h:List HTx} {T:Tb} {r:HRd} {p q p1 p2 p3:Option Addr} {c d c1 c2 c3 b mr mt tb rb:Nat}
/-- Whether a value is an aborted transaction's. -/
def abW (W:Wf) (x:Int):Bool:=match W x with
 | some w=>w.ab
 | none=>false
def cleanL (W:Wf) (l:List Int):List Int:=l.filter fun x=>!abW W x
theorem order_Clean_c1_spec {x:Int}:Spec prog1 n_order_Clean_c1 [.int .i64 x,.pointer (some ⟨tb,0,none⟩),.pointer (some ⟨rb,0,none⟩)] [ro (pt tb [.pointer (some ⟨b,0,none⟩)] 0),ro (pt rb [.int .i64 r.txn,.int .i64 r.op,.int .i64 r.key,.slice p1 r.list.length c1,.slice p2 r.own.length c2] 0),ro (tabC b T mr mt)] (fun R=>R (.bool (abW (wK T r.key) x)) []):=by
 refine spec_code c_order_Clean_c1 rfl ?_;intro n F R hR;unfold F_order_Clean_c1
 repeat' first|apply step|(apply g_op;·repeat first|exact Evs.nil|(apply Evs.cons;exact rfl))
 refine at_callR (table_Table_Writer_specR (T:=T) (mr:=mr) (mt:=mt) (x:=r.key) (y:=x)) ?_
 rw [show aget (r.key,x) T.wr=wK T r.key x from rfl]
 unfold abW at hR
 cases hw:wK T r.key x with
 | none =>
  rw [hw] at hR
  unfold wrO
  repeat' first|apply step|(apply g_op;·repeat first|exact Evs.nil|(apply Evs.cons;exact rfl))|refine Fa.mk fun _=>?_|apply Lw.go|refine g_keep ?_|refine g_fin ?_
  exact fin hR
 | some w =>
  rw [hw] at hR
  unfold wrO
  repeat' first|apply step|(apply g_op;·repeat first|exact Evs.nil|(apply Evs.cons;exact rfl))|refine Fa.mk fun _=>?_|apply Lw.go|refine g_keep ?_|refine g_fin ?_
  exact fin hR
theorem slices_IndexFunc_Clean_spec {l:List Int} (hl:l.length≤1000):Spec prog1 n_slices_IndexFunc_int_int [.slice p l.length c,.func (.func n_order_Clean_c1) #[] #[.pointer (some ⟨tb,0,none⟩),.pointer (some ⟨rb,0,none⟩)]] [rdl (kInt .i64) p l,ro (pt tb [.pointer (some ⟨b,0,none⟩)] 0),ro (pt rb [.int .i64 r.txn,.int .i64 r.op,.int .i64 r.key,.slice p1 r.list.length c1,.slice p2 r.own.length c2] 0),ro (tabC b T mr mt)] (fun R=>(∀ k (hk:k < l.length),abW (wK T r.key) l[k]=true→(∀ i (hi:i < l.length),i < k→abW (wK T r.key) l[i]=false)→R (.int .i64 (k:Int)) [])∧((∀ i (hi:i < l.length),abW (wK T r.key) l[i]=false)→R (.int .i64 (-1)) [])):=by
 refine spec_code c_slices_IndexFunc_int_int rfl ?_;intro n F R hR;unfold F_slices_IndexFunc_int_int
 obtain ⟨hR1,hR2⟩:=hR
 repeat' first|apply step|(apply g_op;·repeat first|exact Evs.nil|(apply Evs.cons;exact rfl))|refine g_keep ?_
 refine at_loopS (ι:=Nat) (E:=fun j=>[(0,.slice p l.length c),(1,.func (.func n_order_Clean_c1) #[] #[.pointer (some ⟨tb,0,none⟩),.pointer (some ⟨rb,0,none⟩)]),(7,.int .i64 (l.length:Int)),(8,.int .i64 (j:Int))]) (Δ:=fun j=>rdl (kInt .i64) p l::ro (pt tb [.pointer (some ⟨b,0,none⟩)] 0)::ro (pt rb [.int .i64 r.txn,.int .i64 r.op,.int .i64 r.key,.slice p1 r.list.length c1,.slice p2 r.own.length c2] 0)::ro (tabC b T mr mt)::F) (P:=fun j=>j≤l.length∧∀ i (hi:i < l.length),i < j→abW (wK T r.key) l[i]=false) (μ:=fun j=>l.length - j) 0 ⟨Nat.zero_le _,fun _ _ q=>absurd q (Nat.not_lt_zero _)⟩ ?_
 rintro j ⟨hj,hne⟩
 try dsimp only
 rcases Nat.lt_or_ge j l.length with hlt|hge
 ·repeat' first|apply step|(apply g_op;·repeat first|exact Evs.nil|(apply Evs.cons;exact rfl))|(refine Br.mk (fun _=>?_) (fun _=>?_)<;>try (exfalso;omega))|(refine Sd.mk ?_ ?_;·((repeat' apply And.intro)<;>first|omega|trivial|assumption|(simp;done)|(simp;omega)))|(refine Sx.mk ?_ ?_;·omega)|refine Im.mk fun _=>?_|refine g_cond ?_
  refine at_callR (order_Clean_c1_spec (T:=T) (r:=r) (b:=b) (mr:=mr) (mt:=mt) (tb:=tb) (rb:=rb) (p1:=p1) (c1:=c1) (p2:=p2) (c2:=c2) (x:=l[j])) ?_
  cases hab:abW (wK T r.key) l[j] with
  | true =>
   repeat' first|apply step|(apply g_op;·repeat first|exact Evs.nil|(apply Evs.cons;exact rfl))|apply Lw.go|refine g_cond ?_|refine g_fin ?_
   exact fin (hR1 j hlt hab hne)
  | false =>
   repeat' first|apply step|(apply g_op;·repeat first|exact Evs.nil|(apply Evs.cons;exact rfl))|(refine Sd.mk ?_ ?_;·((repeat' apply And.intro)<;>first|omega|trivial|assumption|(simp;done)|(simp;omega)))|apply Lw.go|refine g_cond ?_|refine g_keep ?_
   exact lp_next (j + 1) ⟨by omega,fun i hi hij=>(Nat.lt_or_ge i j).elim (fun q=>hne i hi q) (fun q=>by have e:i=j:=(by omega);subst e;exact hab)⟩ (by omega)
 ·repeat' first|apply step|(apply g_op;·repeat first|exact Evs.nil|(apply Evs.cons;exact rfl))|(refine Br.mk (fun _=>?_) (fun _=>?_)<;>try (exfalso;omega))|refine g_cond ?_|refine g_keep ?_|refine g_fin ?_
  exact fin (hR2 fun i hi=>hne i hi (by omega))
theorem set_take {α:Type} {l:List α} {i:Nat} {v:α} (hi:i < l.length):(l.set i v).take (i + 1)=l.take i++[v]:=by
 rw [List.take_succ_eq_append_getElem (by rw [List.length_set];exact hi),List.take_set_of_le (Nat.le_refl _),List.getElem_set_self]
theorem set_drop {α:Type} {l:List α} {i j:Nat} {v:α} (hi:i < j):(l.set i v).drop j=l.drop j:=List.drop_set_of_lt hi
theorem filter_all {α:Type} {g:α→Bool} {l:List α} (h:∀ i (hi:i < l.length),g l[i]=true):l.filter g=l:=List.filter_eq_self.2 fun x hx=>by
 obtain ⟨i,hi,rfl⟩:=List.getElem_of_mem hx
 exact h i hi
theorem slices_DeleteFunc_Clean_spec {l:List Int} (hl:l.length≤1000):Spec prog1 n_slices_DeleteFunc_int_int [.slice p l.length c,.func (.func n_order_Clean_c1) #[] #[.pointer (some ⟨tb,0,none⟩),.pointer (some ⟨rb,0,none⟩)]] [own (kInt .i64) p c l,pt tb [.pointer (some ⟨b,0,none⟩)] 0,pt rb [.int .i64 r.txn,.int .i64 r.op,.int .i64 r.key,.slice p1 r.list.length c1,.slice p2 r.own.length c2] 0,ro (tabC b T mr mt)] (fun R=>(cleanL (wK T r.key) l=l→R (.slice p l.length c) [own (kInt .i64) p c l])∧∀ cur n,n≤cur.length→cur.take n=cleanL (wK T r.key) l→R (.slice p n n) [own (kInt .i64) p c cur]):=by
 refine spec_code c_slices_DeleteFunc_int_int rfl ?_;intro n F R hR;unfold F_slices_DeleteFunc_int_int
 obtain ⟨hR1,hR2⟩:=hR
 repeat' first|apply step|(apply g_op;·repeat first|exact Evs.nil|(apply Evs.cons;exact rfl))
 refine at_callR (slices_IndexFunc_Clean_spec (T:=T) (r:=r) (b:=b) (mr:=mr) (mt:=mt) (tb:=tb) (rb:=rb) (p1:=p1) (c1:=c1) (p2:=p2) (c2:=c2) (l:=l) hl) ?_
 refine ⟨fun k hk hab hne=>?_,fun hne=>?_⟩
 ·repeat' first|apply step|(apply g_op;·repeat first|exact Evs.nil|(apply Evs.cons;exact rfl))|(refine Br.mk (fun _=>?_) (fun _=>?_)<;>try (exfalso;omega))|(refine Sd.mk ?_ ?_;·((repeat' apply And.intro)<;>first|omega|trivial|assumption|(simp;done)|(simp;omega)))|apply Lw.go|refine g_cond ?_|refine g_keep ?_
  have hinit:l.take k=(l.take (k + 1)).filter fun x=>!abW (wK T r.key) x:=by
   have h1:(l.take k).filter (fun x=>!abW (wK T r.key) x)=l.take k:=filter_all fun i hi=>by
    rw [List.length_take] at hi
    rw [List.getElem_take,hne i (by omega) (by omega)];rfl
   rw [List.take_succ_eq_append_getElem hk,List.filter_append,h1]
   simp [hab]
  refine at_loopS (ι:=Nat × Nat × List Int) (E:=fun z=>[(0,.slice p l.length c),(1,.func (.func n_order_Clean_c1) #[] #[.pointer (some ⟨tb,0,none⟩),.pointer (some ⟨rb,0,none⟩)]),(5,.int .i64 (z.2.1:Int)),(6,.int .i64 (z.1:Int))]) (Δ:=fun z=>own (kInt .i64) p c z.2.2::pt tb [.pointer (some ⟨b,0,none⟩)] 0::pt rb [.int .i64 r.txn,.int .i64 r.op,.int .i64 r.key,.slice p1 r.list.length c1,.slice p2 r.own.length c2] 0::ro (tabC b T mr mt)::F) (P:=fun z=>z.1≤l.length∧z.2.1 < z.1∧z.2.2.length=l.length∧z.2.2.take z.2.1=(l.take z.1).filter (fun x=>!abW (wK T r.key) x)∧z.2.2.drop z.1=l.drop z.1) (μ:=fun z=>l.length - z.1) (k + 1,k,l) ⟨by dsimp only;omega,by dsimp only;omega,rfl,hinit,rfl⟩ ?_
  rintro ⟨j,i,cur⟩ ⟨hj,hij,hcl,hct,hcd⟩
  dsimp only at hj hij hcl hct hcd ⊢
  rcases Nat.lt_or_ge j l.length with hlt|hge
  ·have hjc:j < cur.length:=by omega
   have hcj:cur[j]=l[j]:=by
    rw [List.drop_eq_getElem_cons hjc,List.drop_eq_getElem_cons hlt] at hcd
    exact (List.cons.inj hcd).1
   have hcd2:cur.drop (j + 1)=l.drop (j + 1):=by
    rw [List.drop_eq_getElem_cons hjc,List.drop_eq_getElem_cons hlt] at hcd
    exact (List.cons.inj hcd).2
   have hnx:=filter_next (q:=fun x=>!abW (wK T r.key) x) hlt
   repeat' first|apply step|(apply g_op;·repeat first|exact Evs.nil|(apply Evs.cons;exact rfl))|(refine Br.mk (fun _=>?_) (fun _=>?_)<;>try (exfalso;omega))|(refine Sd.mk ?_ ?_;·((repeat' apply And.intro)<;>first|omega|trivial|assumption|(simp;done)|(simp;omega)))|(refine Sx.mk ?_ ?_;·omega)|refine Im.mk fun _=>?_|refine g_cond ?_
   refine at_callR (order_Clean_c1_spec (T:=T) (r:=r) (b:=b) (mr:=mr) (mt:=mt) (tb:=tb) (rb:=rb) (p1:=p1) (c1:=c1) (p2:=p2) (c2:=c2) (x:=cur[j])) ?_
   rw [hcj]
   cases hab:abW (wK T r.key) l[j] with
   | true =>
    rw [hab] at hnx
    repeat' first|apply step|(apply g_op;·repeat first|exact Evs.nil|(apply Evs.cons;exact rfl))|(refine Sd.mk ?_ ?_;·((repeat' apply And.intro)<;>first|omega|trivial|assumption|(simp;done)|(simp;omega)))|apply Lw.go|refine g_cond ?_|refine g_keep ?_
    exact lp_next (j + 1,i,cur) ⟨by dsimp only;omega,by dsimp only;omega,hcl,by dsimp only;rw [hnx,hct];simp,hcd2⟩ (by dsimp only;omega)
   | false =>
    rw [hab] at hnx
    repeat' first|apply step|(apply g_op;·repeat first|exact Evs.nil|(apply Evs.cons;exact rfl))|(refine Sd.mk ?_ ?_;·((repeat' apply And.intro)<;>first|omega|trivial|assumption|(simp;done)|(simp;omega)))|apply Lw.go|refine g_cond ?_|refine g_keep ?_
    exact lp_next (j + 1,i + 1,cur.set i l[j]) ⟨by dsimp only;omega,by dsimp only;omega,by dsimp only;rw [List.length_set];exact hcl,by dsimp only;rw [set_take (by omega),hnx,hct];simp,by dsimp only;rw [set_drop (by omega)];exact hcd2⟩ (by dsimp only;omega)
  ·rw [List.take_of_length_le hge] at hct
   rw [← hcl]
   repeat' first|apply step|(apply g_op;·repeat first|exact Evs.nil|(apply Evs.cons;exact rfl))|(refine Br.mk (fun _=>?_) (fun _=>?_)<;>try (exfalso;omega))|(refine Sd.mk ?_ ?_;·((repeat' apply And.intro)<;>first|omega|trivial|assumption|(simp;done)|(simp;omega)))|refine g_cond ?_|refine g_keep ?_|refine g_fin ?_
   refine fin (hR2 (cur.take i++List.replicate (cur.length - i) 0++cur.drop (i + (cur.length - i))) i (by rw [List.length_append,List.length_append,List.length_take,List.length_replicate,List.length_drop];omega) ?_)
   rw [List.append_assoc,List.take_append_of_le_length (by rw [List.length_take];omega),List.take_take,Nat.min_self]
   exact hct
 ·repeat' first|apply step|(apply g_op;·repeat first|exact Evs.nil|(apply Evs.cons;exact rfl))|(refine Br.mk (fun _=>?_) (fun _=>?_)<;>try (exfalso;omega))|apply Lw.go|refine g_cond ?_|refine g_fin ?_
  exact fin (hR1 (filter_all fun i hi=>by rw [hne i hi];rfl))
end
end Go.AMS

namespace Go.AMS
open Go.AM hiding Kt At WP WL Runs RunsY
open Go.AM.G
set_option linter.unusedVariables false
set_option linter.unusedSimpArgs false
set_option linter.unusedSectionVars false
set_option maxRecDepth 100000
set_option maxHeartbeats 1000000
attribute [local irreducible] AtS AtV AtC AtG FinA Spec Post LP G.At G.WP G.WL pt own fro rdl ro hx mp lrec elt sub

open Go.AM.G.Set
section
variable {h:List HTx} {T:Tb} {r:HRd} {p q p1 p2 p3:Option Addr} {c d c1 c2 c3 b mr mt tb rb:Nat}
theorem cleanL_len (W:Wf) (l:List Int):(cleanL W l).length≤l.length:=List.length_filter_le _ _
theorem order_Clean_spec (h1:r.list.length≤1000):Spec prog1 n_order_Clean [.pointer (some ⟨b,0,none⟩),.agg #[.int .i64 r.txn,.int .i64 r.op,.int .i64 r.key,.slice p1 r.list.length c1,.slice p2 r.own.length c2]] [ro (tabC b T mr mt),fro (kInt .i64) p1 c1 r.list] (fun R=>∀ p' c',R (.slice p' (cleanL (wK T r.key) r.list).length c') [fro (kInt .i64) p' c' (cleanL (wK T r.key) r.list)]):=by
 refine spec_code c_order_Clean rfl ?_;intro n F R hR;unfold F_order_Clean
 repeat' first|apply step|(apply g_op;·repeat first|exact Evs.nil|(apply Evs.cons;exact rfl))|refine Fa.mk fun _=>?_
 rename_i tb rb
 refine at_callR (slices_Clone_int_int_spec (l:=r.list) (by omega)) ?_
 intro p3 c3
 repeat' first|apply step|(apply g_op;·repeat first|exact Evs.nil|(apply Evs.cons;exact rfl))|apply Lw.go
 refine at_callS (slices_DeleteFunc_Clean_spec (T:=T) (r:=r) (b:=b) (mr:=mr) (mt:=mt) (tb:=tb) (rb:=rb) (p1:=p1) (c1:=c1) (p2:=p2) (c2:=c2) (l:=r.list) h1) ?_
 refine ⟨fun he=>?_,fun cur n1 hn hc=>?_⟩
 ·rw [he] at hR
  refine at_freezeO ?_
  repeat' first|apply step|(apply g_op;·repeat first|exact Evs.nil|(apply Evs.cons;exact rfl))|refine g_fin ?_
  exact fin (hR _ _)
 ·rw [← hc,List.length_take_of_le hn] at hR
  refine at_freezeO ?_
  refine at_via (fro_head (K:=kInt .i64) (p:=p3) (c:=c3) (l:=cur) (i:=n1) hn) ?_
  repeat' first|apply step|(apply g_op;·repeat first|exact Evs.nil|(apply Evs.cons;exact rfl))|refine g_fin ?_
  exact fin (hR _ _)
theorem r16_Clean_spec (hf:FewH h 20 60) (hk:OkH h) (h1:r.list.length≤1000):Spec prog1 n_r16_Clean [.agg #[.slice p h.length c],.agg #[.int .i64 r.txn,.int .i64 r.op,.int .i64 r.key,.slice p1 r.list.length c1,.slice p2 r.own.length c2]] [fro kHTx p c h,fro (kInt .i64) p1 c1 r.list] (fun R=>∀ p' c',R (.slice p' (cleanL (wK (TH h) r.key) r.list).length c') [own (kInt .i64) p' c' (cleanL (wK (TH h) r.key) r.list)]):=by
 refine spec_code c_r16_Clean rfl ?_;intro n F R hR;unfold F_r16_Clean
 have hwr:∀ x,Spec prog1 n_r12_Writer [.agg #[.slice p h.length c],.int .i64 r.key,.int .i64 x] [fro kHTx p c h] (fun R=>R (wrO (wK (TH h) r.key x)) []):=fun x=>r12W_spec hf hk
 generalize wK (TH h) r.key=W at hR hwr
 generalize hl:r.list=l at hR h1 ⊢
 repeat' first|apply step|(apply g_op;·repeat first|exact Evs.nil|(apply Evs.cons;exact rfl))|refine Fa.mk fun _=>?_|refine g_keep ?_
 rename_i hb rb
 refine at_loopS (ι:=Nat × (Option Addr × Nat)) (E:=fun z=>[(2,.pointer (some ⟨hb,0,none⟩)),(3,.pointer (some ⟨rb,0,none⟩)),(5,.slice z.2.1 (cleanL W (l.take z.1)).length z.2.2),(6,.int .i64 (z.1:Int))]) (Δ:=fun z=>own (kInt .i64) z.2.1 z.2.2 (cleanL W (l.take z.1))::pt rb [.int .i64 r.txn,.int .i64 r.op,.int .i64 r.key,.slice p1 l.length c1,.slice p2 r.own.length c2] 0::pt hb [.slice p h.length c] 0::fro kHTx p c h::fro (kInt .i64) p1 c1 l::F) (P:=fun z=>z.1≤l.length) (μ:=fun z=>l.length - z.1) (0,(none,0)) (Nat.zero_le _) ?_
 rintro ⟨k,p3,c3⟩ hk1
 dsimp only at hk1 ⊢
 have hO:(cleanL W (l.take k)).length≤1000:=Nat.le_trans (cleanL_len _ _) (by rw [List.length_take];omega)
 rcases Nat.lt_or_ge k l.length with hlt|hge
 ·have hn1:abW W l[k]=false→cleanL W (l.take (k + 1))=cleanL W (l.take k)++[l[k]]:=fun e=>by
   have:=filter_next (q:=fun x=>!abW W x) hlt
   rw [if_pos (by rw [e];rfl)] at this
   exact this
  have hn2:abW W l[k]=true→cleanL W (l.take (k + 1))=cleanL W (l.take k):=fun e=>by
   have:=filter_next (q:=fun x=>!abW W x) hlt
   rw [if_neg (by rw [e];decide),List.append_nil] at this
   exact this
  have hrj:=hwr l[k]
  generalize cleanL W (l.take k)=O at hn1 hn2 hO ⊢
  repeat' first|apply step|(apply g_op;·repeat first|exact Evs.nil|(apply Evs.cons;exact rfl))|(refine Br.mk (fun _=>?_) (fun _=>?_)<;>try (exfalso;omega))|(refine Sd.mk ?_ ?_;·((repeat' apply And.intro)<;>first|omega|trivial|assumption|(simp;done)|(simp;omega)))|(refine Sx.mk ?_ ?_;·omega)|refine Im.mk fun _=>?_|refine g_cond ?_
  refine at_callR (hrj) ?_
  cases hw:W l[k] with
  | none =>
   have hnx:=hn1 (by unfold abW;rw [hw])
   unfold wrO
   repeat' first|apply step|(apply g_op;·repeat first|exact Evs.nil|(apply Evs.cons;exact rfl))|(refine Sd.mk ?_ ?_;·((repeat' apply And.intro)<;>first|omega|trivial|assumption|(simp;done)|(simp;omega)))|(refine Sx.mk ?_ ?_;·omega)|refine Fa.mk fun _=>?_|refine Im.mk fun _=>?_|apply Lw.go|refine g_cond ?_|refine g_guard ?_|refine g_keep ?_
   exact lp_next (k + 1,_,_) (by dsimp only;omega) (by dsimp only;omega) (by dsimp only;rw [hnx]) (by dsimp only;rw [hnx];repeat first|exact Ent.refl _|(apply Ent.more;· repeat first|exact Ent.keep|exact Ent.here|exact Ent.lend|exact ent_nil|apply Ent.there)|apply Ent.drop)
  | some w =>
   unfold wrO
   cases hb2:w.ab with
   | true =>
    have hnx:=hn2 (by unfold abW;rw [hw];exact hb2)
    repeat' first|apply step|(apply g_op;·repeat first|exact Evs.nil|(apply Evs.cons;exact rfl))|(refine Br.mk (fun _=>?_) (fun _=>?_)<;>try (exfalso;omega))|(refine Sd.mk ?_ ?_;·((repeat' apply And.intro)<;>first|omega|trivial|assumption|(simp;done)|(simp;omega)))|(refine Sx.mk ?_ ?_;·omega)|refine Fa.mk fun _=>?_|refine Im.mk fun _=>?_|apply Lw.go|refine g_cond ?_|refine g_guard ?_|refine g_keep ?_
    all_goals first|exact absurd hb2 (by assumption)|exact absurd (hb2.symm.trans ‹w.ab=true›) (by decide)|exact lp_next (k + 1,_,_) (by dsimp only;omega) (by dsimp only;omega) (by dsimp only;rw [hnx]) (by dsimp only;rw [hnx];repeat first|exact Ent.refl _|(apply Ent.more;· repeat first|exact Ent.keep|exact Ent.here|exact Ent.lend|exact ent_nil|apply Ent.there)|apply Ent.drop)
   | false =>
    have hnx:=hn1 (by unfold abW;rw [hw];exact hb2)
    repeat' first|apply step|(apply g_op;·repeat first|exact Evs.nil|(apply Evs.cons;exact rfl))|(refine Br.mk (fun _=>?_) (fun _=>?_)<;>try (exfalso;omega))|(refine Sd.mk ?_ ?_;·((repeat' apply And.intro)<;>first|omega|trivial|assumption|(simp;done)|(simp;omega)))|(refine Sx.mk ?_ ?_;·omega)|refine Fa.mk fun _=>?_|refine Im.mk fun _=>?_|apply Lw.go|refine g_cond ?_|refine g_guard ?_|refine g_keep ?_
    all_goals first|exact absurd hb2 (by assumption)|exact absurd (hb2.symm.trans ‹w.ab=true›) (by decide)|exact lp_next (k + 1,_,_) (by dsimp only;omega) (by dsimp only;omega) (by dsimp only;rw [hnx]) (by dsimp only;rw [hnx];repeat first|exact Ent.refl _|(apply Ent.more;· repeat first|exact Ent.keep|exact Ent.here|exact Ent.lend|exact ent_nil|apply Ent.there)|apply Ent.drop)
 ·rw [List.take_of_length_le hge]
  repeat' first|apply step|(apply g_op;·repeat first|exact Evs.nil|(apply Evs.cons;exact rfl))|(refine Br.mk (fun _=>?_) (fun _=>?_)<;>try (exfalso;omega))|refine g_cond ?_|refine g_keep ?_|refine g_fin ?_
  exact fin (hR p3 c3)
theorem l16_works_spec:Spec prog1 n_l16_works [] [] (fun R=>R (.bool true) []):=closed_spec c_l16_works
theorem l16_few_spec:Spec prog1 n_l16_few [.agg #[.slice p h.length c]] [fro kHTx p c h] (fun R=>(FewH h 20 60→chkH h=0→R (.bool true) [])∧R (.bool false) []):=by
 refine spec_code c_l16_few rfl ?_;intro n F R hR;unfold F_l16_few
 repeat' first|apply step|(apply g_op;·repeat first|exact Evs.nil|(apply Evs.cons;exact rfl))|refine Fa.mk fun _=>?_
 refine at_callS (r03_Few_spec (h:=h) (a:=20) (b:=60) (by omega) (by omega)) ?_
 refine ⟨fun hf=>?_,?_⟩
 ·repeat' first|apply step|(apply g_op;·repeat first|exact Evs.nil|(apply Evs.cons;exact rfl))|refine g_guard ?_
  refine at_callS (r04_Check_spec hf) ?_
  repeat' first|apply step|(apply g_op;·repeat first|exact Evs.nil|(apply Evs.cons;exact rfl))|(refine Br.mk (fun _=>?_) (fun _=>?_)<;>try (exfalso;omega))|refine g_guard ?_|refine g_keep ?_|refine g_fin ?_
  ·exact fin (hR.1 hf ‹_›)
  ·exact fin hR.2
 ·repeat' first|apply step|(apply g_op;·repeat first|exact Evs.nil|(apply Evs.cons;exact rfl))|refine g_guard ?_|refine g_keep ?_|refine g_fin ?_
  exact fin hR.2
end
end Go.AMS

namespace Go.AM.G.Pre
set_option linter.unusedVariables false
set_option linter.unusedSectionVars false
set_option linter.unusedSimpArgs false
section
variable {α:Type} [DecidableEq α]

def commonL:List α→List α→Nat
 | x::a,y::b=>if x=y then commonL a b + 1 else 0
 | _,_=>0

theorem commonL_step {a b:List α} {n:Nat} (ha:n < a.length) (hb:n < b.length):commonL (a.drop n) (b.drop n)=if a[n]=b[n] then commonL (a.drop (n + 1)) (b.drop (n + 1)) + 1 else 0:=by
 rw [List.drop_eq_getElem_cons ha,List.drop_eq_getElem_cons hb];rfl
theorem commonL_end {a b:List α} {n:Nat} (h:¬ n < a.length∨¬ n < b.length):commonL (a.drop n) (b.drop n)=0:=by
 rcases h with h|h
 ·rw [List.drop_eq_nil_of_le (by omega)];rfl
 ·rw [show b.drop n=[] from List.drop_eq_nil_of_le (by omega)];cases a.drop n <;> rfl


def isL (a b:List α):Bool:=commonL a b == a.length
def fitL (a b:List α):Bool:=isL a b || isL b a


theorem isL_iff:∀ {a b:List α},isL a b=true ↔ a.length≤b.length∧a=b.take a.length
 | [],b=>by simp [isL,commonL]
 | x::a,[]=>by simp [isL,commonL]
 | x::a,y::b=>by
  have ih:=isL_iff (a:=a) (b:=b)
  simp only [isL,commonL,beq_iff_eq] at ih ⊢
  by_cases h:x=y
  ·rw [if_pos h];simp only [List.length_cons,List.take_succ_cons,List.cons.injEq,Nat.add_le_add_iff_right,h,true_and,Nat.add_right_cancel_iff];exact ih
  ·rw [if_neg h];simp [h]


def apartL (x:List α):List (List α)→Nat→Option Nat
 | [],_=>none
 | y::r,j=>if fitL x y=true then apartL x r (j + 1) else some j


/-- The first two that do not fit. -/
def badL:List (List α)→Nat→Option (Nat × Nat)
 | [],_=>none
 | x::r,k=>match apartL x r (k + 1) with
  | some j=>some (k,j)
  | none=>badL r (k + 1)

def longer (b x:List α):List α:=if b.length < x.length then x else b
def bestL (l:List (List α)):List α:=l.foldl longer []

theorem badL_step {l:List (List α)} {n:Nat} (h:n < l.length):badL (l.drop n) n=match apartL l[n] (l.drop (n + 1)) (n + 1) with
  | some j=>some (n,j)
  | none=>badL (l.drop (n + 1)) (n + 1):=by
 rw [List.drop_eq_getElem_cons h];rfl

theorem bestL_step {l:List (List α)} {n:Nat} (h:n < l.length):bestL (l.take (n + 1))=longer (bestL (l.take n)) l[n]:=by
 unfold bestL;rw [List.take_succ_eq_append_getElem h,List.foldl_append];rfl


def fineSt (s:List α × Bool) (x:List α):List α × Bool:=(longer s.1 x,s.2 && fitL x s.1)
def fineS (l:List (List α)):List α × Bool:=l.foldl fineSt ([],true)
theorem fineS_step {l:List (List α)} {n:Nat} (h:n < l.length):fineS (l.take (n + 1))=fineSt (fineS (l.take n)) l[n]:=by
 unfold fineS;rw [List.take_succ_eq_append_getElem h,List.foldl_append];rfl
theorem longer_cases (b x:List α):longer b x=b∨longer b x=x:=by unfold longer;split <;> simp
theorem fineS_small {B:Nat}:∀ {l:List (List α)},(∀ x ∈ l,x.length < B)→0 < B→(fineS l).1.length < B:=by
 intro l hl hB
 have key:∀ (l:List (List α)) (s:List α × Bool),(∀ x ∈ l,x.length < B)→s.1.length < B→(l.foldl fineSt s).1.length < B:=by
  intro l
  induction l with
  | nil=>intro s _ hs;exact hs
  | cons x l ih =>
   intro s hx hs
   refine ih _ (fun y hy=>hx y (List.mem_cons_of_mem _ hy)) ?_
   show (longer s.1 x).length < B
   rcases longer_cases s.1 x with e|e <;> rw [e]
   ·exact hs
   ·exact hx x (by simp)
 exact key l _ hl hB


theorem fineS_fst (l:List (List α)):(fineS l).1=bestL l:=by
 have key:∀ (l:List (List α)) (s:List α × Bool),(l.foldl fineSt s).1=l.foldl longer s.1:=by
  intro l
  induction l with
  | nil=>intro s;rfl
  | cons x l ih=>intro s;exact ih _
 exact key l _
theorem isL_prefix {a b:List α}:isL a b=true ↔ a <+: b:=by
 rw [isL_iff]
 constructor
 ·rintro ⟨h1,h2⟩;rw [h2];exact List.take_prefix _ _
 ·intro h;exact ⟨h.length_le,(List.prefix_iff_eq_take.1 h)⟩
theorem fitL_iff {a b:List α}:fitL a b=true ↔ a <+: b∨b <+: a:=by
 simp only [fitL,Bool.or_eq_true,isL_prefix]
theorem apartL_none {x:List α}:∀ {l:List (List α)} {j:Nat},apartL x l j=none ↔ ∀ y ∈ l,fitL x y=true:=by
 intro l
 induction l with
 | nil=>intro j;simp [apartL]
 | cons y l ih =>
  intro j
  simp only [apartL,List.mem_cons,forall_eq_or_imp]
  by_cases h:fitL x y=true
  ·rw [if_pos h,ih];simp [h]
  ·rw [if_neg h];simp [h]
theorem badL_none:∀ {l:List (List α)} {k:Nat},badL l k=none ↔ l.Pairwise (fun x y=>fitL x y=true):=by
 intro l
 induction l with
 | nil=>intro k;simp [badL]
 | cons x l ih =>
  intro k
  simp only [badL,List.pairwise_cons]
  cases hq:apartL x l (k + 1) with
  | some j =>
   simp only [reduceCtorEq,false_iff,not_and]
   intro h;rw [← apartL_none (j:=k + 1),hq] at h;cases h
  | none=>simp only;rw [ih];simp;exact fun _=>apartL_none.1 hq
theorem fine_false:∀ (l:List (List α)) (s:List α × Bool),s.2=false→(l.foldl fineSt s).2=false:=by
 intro l
 induction l with
 | nil=>intro s h;exact h
 | cons x l ih=>intro s h;exact ih _ (by show (s.2 && _)=false;rw [h];rfl)
theorem fine_key:∀ (l D:List (List α)) (b:List α),(∀ y ∈ D,y <+: b)→(b=[]∨b ∈ D) →
  ((l.foldl fineSt (b,true)).2=true ↔ l.Pairwise (fun x y=>fitL x y=true)∧∀ x ∈ l,∀ y ∈ D,fitL y x=true):=by
 intro l
 induction l with
 | nil=>intro D b _ _;simp
 | cons x l ih =>
  intro D b hD hb
  have hx:fitL x b=true ↔ ∀ y ∈ D,fitL y x=true:=by
   constructor
   ·intro h y hy
    rw [fitL_iff] at h ⊢
    rcases h with h|h
    ·rcases Nat.le_total y.length x.length with hl|hl
     ·exact .inl (List.prefix_of_prefix_length_le (hD y hy) h hl)
     ·exact .inr (List.prefix_of_prefix_length_le h (hD y hy) hl)
    ·exact .inl ((hD y hy).trans h)
   ·intro h
    rcases hb with rfl|hb
    ·rw [fitL_iff];exact .inr List.nil_prefix
    ·have:=h b hb
     rw [fitL_iff] at this ⊢;exact this.symm
  show ((l.foldl fineSt (longer b x,(true && fitL x b))).2=true ↔ _)
  rw [Bool.true_and]
  cases hf:fitL x b with
  | false =>
   rw [fine_false _ _ rfl]
   constructor
   ·intro h;cases h
   ·rintro ⟨_,h⟩
    have:=hx.2 (h x (by simp))
    rw [hf] at this;cases this
  | true =>
   have hxD:=hx.1 hf
   rw [fitL_iff] at hf
   rw [ih (x::D) (longer b x) ?_ ?_]
   ·simp only [List.pairwise_cons,List.mem_cons,forall_eq_or_imp]
    constructor
    ·rintro ⟨h1,h2⟩;exact ⟨⟨fun y hy=>(h2 y hy).1,h1⟩,hxD,fun y hy=>(h2 y hy).2⟩
    ·rintro ⟨⟨h1,h2⟩,_,h3⟩;exact ⟨h2,fun y hy=>⟨h1 y hy,h3 y hy⟩⟩
   ·intro y hy
    unfold longer
    split
    ·rename_i hlt
     have hbx:b <+: x:=by
      rcases hf with h|h
      ·have:=h.length_le;omega
      ·exact h
     rcases List.mem_cons.1 hy with rfl|hy
     ·exact List.prefix_refl _
     ·exact (hD y hy).trans hbx
    ·rename_i hlt
     rcases List.mem_cons.1 hy with rfl|hy
     ·rcases hf with h|h
      ·exact h
      ·have:=h.eq_of_length_le (by omega);rw [this];exact List.prefix_refl _
     ·exact hD y hy
   ·unfold longer
    split
    ·exact .inr (by simp)
    ·rcases hb with h|h
     ·exact .inl h
     ·exact .inr (List.mem_cons_of_mem _ h)
theorem fineS_snd (l:List (List α)):(fineS l).2=true ↔ badL l 0=none:=by
 unfold fineS
 rw [fine_key l [] [] (fun y hy=>by cases hy) (.inl rfl),badL_none]
 simp

theorem fine_all:∀ (l D:List (List α)) (b:List α),(∀ y ∈ D,y <+: b)→(b=[]∨b ∈ D)→(l.foldl fineSt (b,true)).2=true →
  (∀ y,y ∈ l∨y ∈ D→y <+: (l.foldl fineSt (b,true)).1)∧((l.foldl fineSt (b,true)).1=[]∨(l.foldl fineSt (b,true)).1 ∈ l∨(l.foldl fineSt (b,true)).1 ∈ D):=by
 intro l
 induction l with
 | nil=>intro D b hD hb _;exact ⟨fun y hy=>hD y (by simpa using hy),hb.imp id .inr⟩
 | cons x l ih =>
  intro D b hD hb hf
  have e:(x::l).foldl fineSt (b,true)=l.foldl fineSt (longer b x,fitL x b):=by simp [List.foldl_cons,fineSt]
  rw [e] at hf ⊢
  cases hq:fitL x b with
  | false=>rw [hq,fine_false _ _ rfl] at hf;cases hf
  | true =>
   rw [hq] at hf
   have hfit:=fitL_iff.1 hq
   have h1:∀ y ∈ x::D,y <+: longer b x:=by
    intro y hy
    unfold longer
    split
    ·rename_i hlt
     have hbx:b <+: x:=by
      rcases hfit with h|h
      ·have:=h.length_le;omega
      ·exact h
     rcases List.mem_cons.1 hy with rfl|hy
     ·exact List.prefix_refl _
     ·exact (hD y hy).trans hbx
    ·rename_i hlt
     rcases List.mem_cons.1 hy with rfl|hy
     ·rcases hfit with h|h
      ·exact h
      ·have:=h.eq_of_length_le (by omega);rw [this];exact List.prefix_refl _
     ·exact hD y hy
   have h2:longer b x=[]∨longer b x ∈ x::D:=by
    unfold longer
    split
    ·exact .inr (by simp)
    ·exact hb.imp id (List.mem_cons_of_mem _)
   obtain ⟨k1,k2⟩:=ih (x::D) _ h1 h2 hf
   refine ⟨fun y hy=>k1 y ?_,?_⟩
   ·simp only [List.mem_cons] at hy ⊢
    rcases hy with (h|h)|h
    ·exact .inr (.inl h)
    ·exact .inl h
    ·exact .inr (.inr h)
   ·simp only [List.mem_cons] at k2 ⊢
    rcases k2 with h|h|h|h
    ·exact .inl h
    ·exact .inr (.inl (.inr h))
    ·exact .inr (.inl (.inl h))
    ·exact .inr (.inr h)
theorem fineS_all {l:List (List α)} (hf:(fineS l).2=true):(∀ y ∈ l,isL y (fineS l).1=true)∧((fineS l).1=[]∨(fineS l).1 ∈ l):=by
 obtain ⟨h1,h2⟩:=fine_all l [] [] (fun y hy=>by cases hy) (.inl rfl) hf
 exact ⟨fun y hy=>isL_prefix.2 (h1 y (.inl hy)),by unfold fineS;simpa using h2⟩
theorem apartL_some {x:List α}:∀ {l:List (List α)} {n j:Nat},apartL x l n=some j→∃ i,j=n + i∧∃ h:i < l.length,fitL x l[i]=false:=by
 intro l
 induction l with
 | nil=>intro n j h;cases h
 | cons y l ih =>
  intro n j h
  simp only [apartL] at h
  split at h
  ·obtain ⟨i,h1,h2,h3⟩:=ih h
   exact ⟨i + 1,by omega,by simpa using h2,by simpa using h3⟩
  ·rename_i hne
   cases h
   exact ⟨0,rfl,by simp,by simpa using hne⟩
theorem badL_some:∀ {l:List (List α)} {n k j:Nat},badL l n=some (k,j)→∃ a b,k=n + a∧j=n + b∧a < b∧∃ (h1:a < l.length) (h2:b < l.length),fitL l[a] l[b]=false:=by
 intro l
 induction l with
 | nil=>intro n k j h;cases h
 | cons x l ih =>
  intro n k j h
  simp only [badL] at h
  split at h
  ·rename_i i hi
   cases h
   obtain ⟨a,h1,h2,h3⟩:=apartL_some hi
   exact ⟨0,a + 1,by omega,by omega,by omega,by simp,by simpa using h2,by simpa using h3⟩
  ·obtain ⟨a,b,h1,h2,h3,h4,h5,h6⟩:=ih h
   exact ⟨a + 1,b + 1,by omega,by omega,by omega,by simpa using h4,by simpa using h5,by simpa using h6⟩

end
end Go.AM.G.Pre

namespace Go.AMS
open Go.AM hiding Kt At WP WL Runs RunsY
open Go.AM.G
set_option linter.unusedVariables false
set_option linter.unusedSimpArgs false
set_option linter.unusedSectionVars false
set_option maxRecDepth 100000
set_option maxHeartbeats 1000000
attribute [local irreducible] AtS AtV AtC AtG FinA Spec Post LP G.At G.WP G.WL pt own fro rdl ro hx mp lrec elt sub

open Go.AM.G.Set Go.AM.G.Pre
section
variable {p q:Option Addr} {c d:Nat} {a b:List Int} {L:List (List Int)}
theorem prefix_Common_int_spec (ha:a.length≤100000) (hb:b.length≤100000):Spec prog1 n_prefix_Common_int [.slice p a.length c,.slice q b.length d] [rdl (kInt .i64) p a,rdl (kInt .i64) q b] (fun R=>R (.int .i64 (commonL a b:Nat)) []):=by
 refine spec_code c_prefix_Common_int rfl ?_;intro n F R hR;unfold F_prefix_Common_int
 repeat' first|apply step|(apply g_op;·repeat first|exact Evs.nil|(apply Evs.cons;exact rfl))|refine g_keep ?_
 refine at_loopS (ι:=Nat) (E:=fun n=>[(0,.slice p a.length c),(1,.slice q b.length d),(5,.int .i64 (n:Int))]) (Δ:=fun _=>rdl (kInt .i64) p a::rdl (kInt .i64) q b::F) (P:=fun n=>n≤a.length∧n≤b.length∧commonL (a.drop n) (b.drop n) + n=commonL a b) (μ:=fun n=>a.length - n) 0 ⟨Nat.zero_le _,Nat.zero_le _,rfl⟩ ?_
 rintro k ⟨hk1,hk2,hc⟩
 try dsimp only
 by_cases h1:k < a.length
 ·by_cases h2:k < b.length
  ·rw [commonL_step h1 h2] at hc
   by_cases he:a[k]=b[k]
   ·rw [if_pos he] at hc
    repeat' first|apply step|(apply g_op;·repeat first|exact Evs.nil|(apply Evs.cons;exact rfl))|(refine Br.mk (fun _=>?_) (fun _=>?_)<;>try (exfalso;omega))|(refine Sd.mk ?_ ?_;·((repeat' apply And.intro)<;>first|omega|trivial|assumption|(simp;done)|(simp;omega)))|(refine Sx.mk ?_ ?_;·omega)|refine Im.mk fun _=>?_|refine g_cond ?_|refine g_guard ?_|refine g_keep ?_
    all_goals first|(exfalso;omega)|exact lp_next (k + 1) ⟨by omega,by omega,by omega⟩ (by omega)
   ·rw [if_neg he,Nat.zero_add] at hc
    rw [← hc] at hR
    repeat' first|apply step|(apply g_op;·repeat first|exact Evs.nil|(apply Evs.cons;exact rfl))|(refine Br.mk (fun _=>?_) (fun _=>?_)<;>try (exfalso;omega))|(refine Sd.mk ?_ ?_;·((repeat' apply And.intro)<;>first|omega|trivial|assumption|(simp;done)|(simp;omega)))|(refine Sx.mk ?_ ?_;·omega)|refine Im.mk fun _=>?_|refine g_cond ?_|refine g_guard ?_|refine g_keep ?_|refine g_fin ?_
    all_goals first|exact fin hR|(exfalso;omega)
  ·rw [commonL_end (.inr h2),Nat.zero_add] at hc
   rw [← hc] at hR
   repeat' first|apply step|(apply g_op;·repeat first|exact Evs.nil|(apply Evs.cons;exact rfl))|(refine Br.mk (fun _=>?_) (fun _=>?_)<;>try (exfalso;omega))|refine g_cond ?_|refine g_guard ?_|refine g_keep ?_|refine g_fin ?_
   all_goals first|exact fin hR|(exfalso;omega)
 ·rw [commonL_end (.inl h1),Nat.zero_add] at hc
  rw [← hc] at hR
  repeat' first|apply step|(apply g_op;·repeat first|exact Evs.nil|(apply Evs.cons;exact rfl))|(refine Br.mk (fun _=>?_) (fun _=>?_)<;>try (exfalso;omega))|refine g_cond ?_|refine g_guard ?_|refine g_keep ?_|refine g_fin ?_
  all_goals first|exact fin hR|(exfalso;omega)
theorem prefix_Is_int_spec (ha:a.length≤100000) (hb:b.length≤100000):Spec prog1 n_prefix_Is_int [.slice p a.length c,.slice q b.length d] [rdl (kInt .i64) p a,rdl (kInt .i64) q b] (fun R=>R (.bool (isL a b)) []):=by
 refine spec_code c_prefix_Is_int rfl ?_;intro n F R hR;unfold F_prefix_Is_int
 repeat' first|apply step|(apply g_op;·repeat first|exact Evs.nil|(apply Evs.cons;exact rfl))
 refine at_callS (prefix_Common_int_spec (a:=a) (b:=b) ha hb) ?_
 have hi:isL a b=decide (commonL a b=a.length):=by unfold isL;rw [Bool.eq_iff_iff];simp
 rw [hi] at hR
 by_cases he:commonL a b=a.length
 ·rw [decide_eq_true he] at hR
  repeat' first|apply step|(apply g_op;·repeat first|exact Evs.nil|(apply Evs.cons;exact rfl))|(refine Br.mk (fun _=>?_) (fun _=>?_)<;>try (exfalso;omega))|refine g_keep ?_|refine g_fin ?_
  all_goals first|exact fin hR|(exfalso;omega)
 ·rw [decide_eq_false he] at hR
  repeat' first|apply step|(apply g_op;·repeat first|exact Evs.nil|(apply Evs.cons;exact rfl))|(refine Br.mk (fun _=>?_) (fun _=>?_)<;>try (exfalso;omega))|refine g_keep ?_|refine g_fin ?_
  all_goals first|exact fin hR|(exfalso;omega)
theorem prefix_Fit_int_spec (ha:a.length≤100000) (hb:b.length≤100000):Spec prog1 n_prefix_Fit_int [.slice p a.length c,.slice q b.length d] [rdl (kInt .i64) p a,rdl (kInt .i64) q b] (fun R=>R (.bool (fitL a b)) []):=by
 refine spec_code c_prefix_Fit_int rfl ?_;intro n F R hR;unfold F_prefix_Fit_int
 unfold fitL at hR
 repeat' first|apply step|(apply g_op;·repeat first|exact Evs.nil|(apply Evs.cons;exact rfl))
 refine at_callR (prefix_Is_int_spec (a:=a) (b:=b) ha hb) ?_
 cases h1:isL a b with
 | true =>
  rw [h1,Bool.true_or] at hR
  repeat' first|apply step|(apply g_op;·repeat first|exact Evs.nil|(apply Evs.cons;exact rfl))|apply Lw.go|refine g_guard ?_|refine g_keep ?_|refine g_fin ?_
  exact fin hR
 | false =>
  rw [h1,Bool.false_or] at hR
  repeat' first|apply step|(apply g_op;·repeat first|exact Evs.nil|(apply Evs.cons;exact rfl))|apply Lw.go|refine g_guard ?_
  refine at_callR (prefix_Is_int_spec (a:=b) (b:=a) hb ha) ?_
  repeat' first|apply step|(apply g_op;·repeat first|exact Evs.nil|(apply Evs.cons;exact rfl))|apply Lw.go|refine g_keep ?_|refine g_fin ?_
  exact fin hR
theorem apartL_drop {x:List Int} {j:Nat} (hj:j < L.length):apartL x (L.drop j) j=if fitL x L[j]=true then apartL x (L.drop (j + 1)) (j + 1) else some j:=by
 rw [List.drop_eq_getElem_cons hj];rfl
def twoI:Option Nat→Value
 | some j=>.tuple #[.int .i64 (j:Int),.bool true]
 | none=>.tuple #[.int .i64 0,.bool false]
theorem prefix_apart_int_spec {k:Nat} (hL:L.length≤100000) (hl:∀ x ∈ L,x.length≤100000) (hk:k < L.length):Spec prog1 n_prefix_apart_int [.slice p L.length c,.int .i64 (k:Int)] [rdl (kSl (kInt .i64)) p L] (fun R=>R (twoI (apartL L[k] (L.drop (k + 1)) (k + 1))) []):=by
 refine spec_code c_prefix_apart_int rfl ?_;intro n F R hR;unfold F_prefix_apart_int
 repeat' first|apply step|(apply g_op;·repeat first|exact Evs.nil|(apply Evs.cons;exact rfl))|(refine Sd.mk ?_ ?_;·((repeat' apply And.intro)<;>first|omega|trivial|assumption|(simp;done)|(simp;omega)))|refine g_keep ?_
 refine at_loopS (ι:=Nat) (E:=fun j=>[(0,.slice p L.length c),(1,.int .i64 (k:Int)),(6,.int .i64 (j:Int))]) (Δ:=fun _=>rdl (kSl (kInt .i64)) p L::F) (P:=fun j=>k < j∧j≤L.length∧apartL L[k] (L.drop j) j=apartL L[k] (L.drop (k + 1)) (k + 1)) (μ:=fun j=>L.length - j) (k + 1) ⟨by omega,by omega,rfl⟩ ?_
 rintro j ⟨hj1,hj2,hd⟩
 try dsimp only
 rcases Nat.lt_or_ge j L.length with hlt|hge
 ·rw [apartL_drop hlt] at hd
  have l1:=hl L[k] (List.getElem_mem _)
  have l2:=hl L[j] (List.getElem_mem _)
  repeat' first|apply step|(apply g_op;·repeat first|exact Evs.nil|(apply Evs.cons;exact rfl))|(refine Br.mk (fun _=>?_) (fun _=>?_)<;>try (exfalso;omega))|(refine Sd.mk ?_ ?_;·((repeat' apply And.intro)<;>first|omega|trivial|assumption|(simp;done)|(simp;omega)))|(refine Sx.mk ?_ ?_;·omega)|refine Fa.mk fun _=>?_|refine Im.mk fun _=>?_|refine g_cond ?_
  refine at_callS (prefix_Fit_int_spec (a:=L[k]) (b:=L[j]) l1 l2) ?_
  cases hf:fitL L[k] L[j] with
  | true =>
   rw [if_pos hf] at hd
   repeat' first|apply step|(apply g_op;·repeat first|exact Evs.nil|(apply Evs.cons;exact rfl))|(refine Sd.mk ?_ ?_;·((repeat' apply And.intro)<;>first|omega|trivial|assumption|(simp;done)|(simp;omega)))|refine g_cond ?_|refine g_keep ?_
   exact lp_next (j + 1) ⟨by omega,by omega,hd⟩ (by omega)
  | false =>
   rw [if_neg (by rw [hf];decide)] at hd
   rw [← hd] at hR
   unfold twoI at hR
   repeat' first|apply step|(apply g_op;·repeat first|exact Evs.nil|(apply Evs.cons;exact rfl))|refine g_cond ?_|refine g_keep ?_|refine g_fin ?_
   exact fin hR
 ·rw [List.drop_eq_nil_of_le hge] at hd
  rw [← hd] at hR
  repeat' first|apply step|(apply g_op;·repeat first|exact Evs.nil|(apply Evs.cons;exact rfl))|(refine Br.mk (fun _=>?_) (fun _=>?_)<;>try (exfalso;omega))|refine g_cond ?_|refine g_keep ?_|refine g_fin ?_
  exact fin hR
theorem bestL_len {n:Nat} (hl:∀ x ∈ L,x.length≤n):(bestL L).length≤n:=by
 have:=fineS_small (B:=n + 1) (l:=L) (fun x hx=>by have:=hl x hx;omega) (by omega)
 rw [fineS_fst] at this;omega
theorem prefix_Longest_int_spec (hL:L.length≤100000) (hl:∀ x ∈ L,x.length≤100000):Spec prog1 n_prefix_Longest_int [.slice p L.length c] [rdl (kSl (kInt .i64)) p L] (fun R=>(badL L 0=none→∀ p' c',R (.tuple #[.slice p' (bestL L).length c',.int .i64 0,.int .i64 0,.bool true]) [own (kInt .i64) p' c' (bestL L)])∧(∀ k j:Nat,badL L 0=some (k,j)→R (.tuple #[.slice none 0 0,.int .i64 (k:Int),.int .i64 (j:Int),.bool false]) [])):=by
 refine spec_code c_prefix_Longest_int rfl ?_;intro n F R hR;unfold F_prefix_Longest_int
 obtain ⟨hR1,hR2⟩:=hR
 refine at_ent (ent_fnil (K:=kInt .i64)) ?_
 repeat' first|apply step|(apply g_op;·repeat first|exact Evs.nil|(apply Evs.cons;exact rfl))|refine g_keep ?_
 refine at_loopS (ι:=Nat × (Option Addr × Nat)) (E:=fun z=>[(0,.slice p L.length c),(6,.slice z.2.1 (bestL (L.take z.1)).length z.2.2),(7,.bool (fineS (L.take z.1)).2),(13,.slice p L.length c),(14,.int .i64 (L.length:Int)),(15,.int .i64 (z.1:Int))]) (Δ:=fun z=>rdl (kSl (kInt .i64)) p L::fro (kInt .i64) z.2.1 z.2.2 (bestL (L.take z.1))::F) (P:=fun z=>z.1≤L.length) (μ:=fun z=>L.length - z.1) (0,(none,0)) (Nat.zero_le _) ?_
 rintro ⟨i,q,d⟩ hi
 dsimp only at hi ⊢
 have hbl:(bestL (L.take i)).length≤100000:=bestL_len fun x hx=>hl x (List.mem_of_mem_take hx)
 rcases Nat.lt_or_ge i L.length with hlt|hge
 ·have hb1:=bestL_step (l:=L) hlt
  have hf1:=fineS_step (l:=L) hlt
  have l1:=hl L[i] (List.getElem_mem _)
  have hf2:(fineS (L.take (i + 1))).2=((fineS (L.take i)).2 && fitL L[i] (bestL (L.take i))):=by rw [hf1,← fineS_fst];rfl
  generalize (fineS (L.take i)).2=f at hf2 ⊢
  generalize bestL (L.take i)=B at hbl hb1 hf2 ⊢
  unfold longer at hb1
  by_cases hlen:B.length < L[i].length
  ·rw [if_pos hlen] at hb1
   cases f with
   | true =>
    rw [Bool.true_and] at hf2
    repeat' first|apply step|(apply g_op;·repeat first|exact Evs.nil|(apply Evs.cons;exact rfl))|(refine Br.mk (fun _=>?_) (fun _=>?_)<;>try (exfalso;omega))|(refine Sd.mk ?_ ?_;·((repeat' apply And.intro)<;>first|omega|trivial|assumption|(simp;done)|(simp;omega)))|(refine Sx.mk ?_ ?_;·omega)|refine Fa.mk fun _=>?_|refine Im.mk fun _=>?_|refine g_cond ?_|refine g_guard ?_
    refine at_callR (prefix_Fit_int_spec (a:=L[i]) (b:=B) l1 hbl) ?_
    repeat' first|apply step|(apply g_op;·repeat first|exact Evs.nil|(apply Evs.cons;exact rfl))|(refine Br.mk (fun _=>?_) (fun _=>?_)<;>try (exfalso;omega))|(refine Sd.mk ?_ ?_;·((repeat' apply And.intro)<;>first|omega|trivial|assumption|(simp;done)|(simp;omega)))|apply Lw.go|refine g_cond ?_|refine g_keep ?_
    all_goals first|(exfalso;omega)|exact lp_next (i + 1,_,_) (by dsimp only;omega) (by dsimp only;omega) (by dsimp only;rw [hb1,hf2]) (by dsimp only;rw [hb1];repeat first|exact Ent.refl _|(apply Ent.more;· repeat first|exact Ent.keep|exact Ent.here|exact Ent.lend|exact ent_nil|apply Ent.there)|apply Ent.drop)
   | false =>
    rw [Bool.false_and] at hf2
    repeat' first|apply step|(apply g_op;·repeat first|exact Evs.nil|(apply Evs.cons;exact rfl))|(refine Br.mk (fun _=>?_) (fun _=>?_)<;>try (exfalso;omega))|(refine Sd.mk ?_ ?_;·((repeat' apply And.intro)<;>first|omega|trivial|assumption|(simp;done)|(simp;omega)))|(refine Sx.mk ?_ ?_;·omega)|refine Fa.mk fun _=>?_|refine Im.mk fun _=>?_|refine g_cond ?_|refine g_guard ?_|refine g_keep ?_
    all_goals first|(exfalso;omega)|exact lp_next (i + 1,_,_) (by dsimp only;omega) (by dsimp only;omega) (by dsimp only;rw [hb1,hf2]) (by dsimp only;rw [hb1];repeat first|exact Ent.refl _|(apply Ent.more;· repeat first|exact Ent.keep|exact Ent.here|exact Ent.lend|exact ent_nil|apply Ent.there)|apply Ent.drop)
  ·rw [if_neg hlen] at hb1
   cases f with
   | true =>
    rw [Bool.true_and] at hf2
    repeat' first|apply step|(apply g_op;·repeat first|exact Evs.nil|(apply Evs.cons;exact rfl))|(refine Br.mk (fun _=>?_) (fun _=>?_)<;>try (exfalso;omega))|(refine Sd.mk ?_ ?_;·((repeat' apply And.intro)<;>first|omega|trivial|assumption|(simp;done)|(simp;omega)))|(refine Sx.mk ?_ ?_;·omega)|refine Fa.mk fun _=>?_|refine Im.mk fun _=>?_|refine g_cond ?_|refine g_guard ?_
    refine at_callR (prefix_Fit_int_spec (a:=L[i]) (b:=B) l1 hbl) ?_
    repeat' first|apply step|(apply g_op;·repeat first|exact Evs.nil|(apply Evs.cons;exact rfl))|(refine Br.mk (fun _=>?_) (fun _=>?_)<;>try (exfalso;omega))|(refine Sd.mk ?_ ?_;·((repeat' apply And.intro)<;>first|omega|trivial|assumption|(simp;done)|(simp;omega)))|apply Lw.go|refine g_cond ?_|refine g_keep ?_
    all_goals first|(exfalso;omega)|exact lp_next (i + 1,_,_) (by dsimp only;omega) (by dsimp only;omega) (by dsimp only;rw [hb1,hf2]) (by dsimp only;rw [hb1];repeat first|exact Ent.refl _|(apply Ent.more;· repeat first|exact Ent.keep|exact Ent.here|exact Ent.lend|exact ent_nil|apply Ent.there)|apply Ent.drop)
   | false =>
    rw [Bool.false_and] at hf2
    repeat' first|apply step|(apply g_op;·repeat first|exact Evs.nil|(apply Evs.cons;exact rfl))|(refine Br.mk (fun _=>?_) (fun _=>?_)<;>try (exfalso;omega))|(refine Sd.mk ?_ ?_;·((repeat' apply And.intro)<;>first|omega|trivial|assumption|(simp;done)|(simp;omega)))|(refine Sx.mk ?_ ?_;·omega)|refine Fa.mk fun _=>?_|refine Im.mk fun _=>?_|refine g_cond ?_|refine g_guard ?_|refine g_keep ?_
    all_goals first|(exfalso;omega)|exact lp_next (i + 1,_,_) (by dsimp only;omega) (by dsimp only;omega) (by dsimp only;rw [hb1,hf2]) (by dsimp only;rw [hb1];repeat first|exact Ent.refl _|(apply Ent.more;· repeat first|exact Ent.keep|exact Ent.here|exact Ent.lend|exact ent_nil|apply Ent.there)|apply Ent.drop)
 ·rw [List.take_of_length_le hge] at hbl ⊢
  cases hf:(fineS L).2 with
  | true =>
   repeat' first|apply step|(apply g_op;·repeat first|exact Evs.nil|(apply Evs.cons;exact rfl))|(refine Br.mk (fun _=>?_) (fun _=>?_)<;>try (exfalso;omega))|refine g_cond ?_|refine g_keep ?_
   refine at_callR (slices_Clone_int_int_spec (l:=bestL L) (by omega)) ?_
   intro p' c'
   repeat' first|apply step|(apply g_op;·repeat first|exact Evs.nil|(apply Evs.cons;exact rfl))|apply Lw.go|refine g_fin ?_
   exact fin (hR1 ((fineS_snd L).1 hf) _ _)
  | false =>
   repeat' first|apply step|(apply g_op;·repeat first|exact Evs.nil|(apply Evs.cons;exact rfl))|(refine Br.mk (fun _=>?_) (fun _=>?_)<;>try (exfalso;omega))|refine g_cond ?_|refine g_keep ?_
   refine at_loopS (ι:=Nat) (E:=fun k=>[(0,.slice p L.length c),(36,.int .i64 (L.length:Int)),(37,.int .i64 (k:Int))]) (Δ:=fun _=>rdl (kSl (kInt .i64)) p L::F) (P:=fun k=>k≤L.length∧badL (L.drop k) k=badL L 0) (μ:=fun k=>L.length - k) 0 ⟨Nat.zero_le _,rfl⟩ ?_
   rintro k ⟨hk,hd⟩
   try dsimp only
   rcases Nat.lt_or_ge k L.length with hlk|hgk
   ·rw [badL_step hlk] at hd
    repeat' first|apply step|(apply g_op;·repeat first|exact Evs.nil|(apply Evs.cons;exact rfl))|(refine Br.mk (fun _=>?_) (fun _=>?_)<;>try (exfalso;omega))|refine g_cond ?_
    refine at_callR (prefix_apart_int_spec (L:=L) (k:=k) hL hl hlk) ?_
    cases ha:apartL L[k] (L.drop (k + 1)) (k + 1) with
    | some j =>
     rw [ha] at hd
     unfold twoI
     repeat' first|apply step|(apply g_op;·repeat first|exact Evs.nil|(apply Evs.cons;exact rfl))|apply Lw.go|refine g_cond ?_|refine g_keep ?_|refine g_fin ?_
     exact fin (hR2 k j hd.symm)
    | none =>
     rw [ha] at hd
     unfold twoI
     repeat' first|apply step|(apply g_op;·repeat first|exact Evs.nil|(apply Evs.cons;exact rfl))|(refine Sd.mk ?_ ?_;·((repeat' apply And.intro)<;>first|omega|trivial|assumption|(simp;done)|(simp;omega)))|apply Lw.go|refine g_cond ?_|refine g_keep ?_
     exact lp_next (k + 1) ⟨by omega,hd⟩ (by omega)
   ·rw [List.drop_eq_nil_of_le hgk] at hd
    rw [(fineS_snd L).2 hd.symm] at hf
    cases hf
end
end Go.AMS

namespace Go.AMS
open Go.AM hiding Kt At WP WL Runs RunsY
open Go.AM.G
set_option linter.unusedVariables false
set_option linter.unusedSimpArgs false
set_option linter.unusedSectionVars false
set_option maxRecDepth 100000
set_option maxHeartbeats 1000000
attribute [local irreducible] AtS AtV AtC AtG FinA Spec Post LP G.At G.WP G.WL pt own fro rdl ro hx mp lrec elt sub

open Go.AM.G.Set Go.AM.G.Pre
section
variable {h:List HTx} {T:Tb} {r:HRd} {p q p1 p2 p3:Option Addr} {c d c1 c2 c3 b mr mt tb rb:Nat}
/-- The sound reads of a key, and their cleaned lists. -/
def ofS (T:Tb) (key:Int):List HRd:=soundL (wK T key) (agl key T.rd)
def ofL (W:Wf) (S:List HRd):List (List Int):=S.map fun r=>cleanL W r.list
def restL (ch:List Int) (l:List HWr):List Int:=(l.filter fun w=>decide (w.value ∉ ch)).map HWr.value
/-- Which values stand in a list, by a map. -/
def inM (l:List Int):Nat→List (Int × Int)
 | 0=>[]
 | n + 1=>aset (l.getD n 0) ((n + 1:Nat):Int) (inM l n)
theorem inM_at {l:List Int} {x:Int}:∀ n,n≤l.length→(x ∈ l.take n∧∃ v:Int,0 < v∧aget x (inM l n)=some v)∨(x ∉ l.take n∧aget x (inM l n)=none)
 | 0,_=>.inr ⟨by simp,rfl⟩
 | n + 1,hn=>by
  have ih:=inM_at (l:=l) (x:=x) n (by omega)
  rw [List.take_succ_eq_append_getElem (by omega)]
  unfold inM
  rw [getD_lt (by omega),aget_aset]
  by_cases e:x=l[n]
  ·rw [if_pos e]
   exact .inl ⟨List.mem_append.2 (.inr (List.mem_singleton.2 e)),_,by omega,rfl⟩
  ·rw [if_neg e]
   rcases ih with ⟨h1,h2⟩|⟨h1,h2⟩
   ·exact .inl ⟨List.mem_append.2 (.inl h1),h2⟩
   ·refine .inr ⟨fun q=>?_,h2⟩
    rcases List.mem_append.1 q with q|q
    ·exact h1 q
    ·exact e (List.mem_singleton.1 q)
theorem restL_next {ch:List Int} {l:List HWr} {i:Nat} (hi:i < l.length):restL ch (l.take (i + 1))=restL ch (l.take i)++if l[i].value ∉ ch then [l[i].value] else []:=by
 unfold restL
 rw [filter_next hi,List.map_append]
 congr 1
 by_cases h:l[i].value ∈ ch <;> simp [h]
theorem order_Of_spec {key:Int} (hrd:RdOk T) (hwt:(agl key T.wt).length≤100000) (hwb:∀ w ∈ agl key T.wt,bI w.value) (hsl:(ofS T key).length≤2000) (hbd:∀ r ∈ ofS T key,bI r.txn∧bI r.op∧bI r.key) (hkb:-9223372036854775808≤key∧key≤9223372036854775807) :
  Spec prog1 n_order_Of [.pointer (some ⟨b,0,none⟩),.int .i64 key] [ro (tabC b T mr mt),ro (mapF mr kI kHRd T.rd),ro (mapF mt kI kHWr T.wt)] (fun R =>
   (∀ k j (hk:k < (ofS T key).length) (hj:j < (ofS T key).length),badL (ofL (wK T key) (ofS T key)) 0=some (k,j)→∀ w v:wR,R (.agg #[.int .i64 key,.slice none 0 0,.slice none 0 0,.bool true,.int .i64 (ofS T key)[k].txn,.int .i64 (ofS T key)[k].op,.int .i64 (ofS T key)[k].key,.slice w.1.1 (ofS T key)[k].list.length w.1.2,.slice w.2.1 (ofS T key)[k].own.length w.2.2,.int .i64 (ofS T key)[j].txn,.int .i64 (ofS T key)[j].op,.int .i64 (ofS T key)[j].key,.slice v.1.1 (ofS T key)[j].list.length v.1.2,.slice v.2.1 (ofS T key)[j].own.length v.2.2]) [fro (kInt .i64) w.1.1 w.1.2 (ofS T key)[k].list,fro (kInt .i64) w.2.1 w.2.2 (ofS T key)[k].own,fro (kInt .i64) v.1.1 v.1.2 (ofS T key)[j].list,fro (kInt .i64) v.2.1 v.2.2 (ofS T key)[j].own])
   ∧ (badL (ofL (wK T key) (ofS T key)) 0=none→∀ q1 d1 q2 d2,R (.agg #[.int .i64 key,.slice q1 (bestL (ofL (wK T key) (ofS T key))).length d1,.slice q2 (restL (bestL (ofL (wK T key) (ofS T key))) (agl key T.wt)).length d2,.bool false,.int .i64 0,.int .i64 0,.int .i64 0,.slice none 0 0,.slice none 0 0,.int .i64 0,.int .i64 0,.int .i64 0,.slice none 0 0,.slice none 0 0]) [own (kInt .i64) q1 d1 (bestL (ofL (wK T key) (ofS T key))),own (kInt .i64) q2 d2 (restL (bestL (ofL (wK T key) (ofS T key))) (agl key T.wt))])):=by
 refine spec_code c_order_Of rfl ?_;intro n F R hR;unfold F_order_Of
 obtain ⟨hR1,hR2⟩:=hR
 obtain ⟨hn1,hn2⟩:=hrd key
 have hS:∀ r ∈ ofS T key,(r.list.length≤100∧r.own.length≤100)∧r.key=key:=fun r hr=>hn2 r (List.mem_filter.1 hr).1
 repeat' first|apply step|(apply g_op;·repeat first|exact Evs.nil|(apply Evs.cons;exact rfl))|refine Fa.mk fun _=>?_
 rename_i bb kb ab lb
 refine at_callS (reads_Sound_spec (b:=b) (key:=key)) ?_
 intro x y
 repeat' first|apply step
 generalize hW:wK T key=W at hR1 hR2
 have hWr:∀ r ∈ ofS T key,wK T r.key=W:=fun r hr=>by rw [(hS r hr).2,hW]
 obtain ⟨I,hI⟩:∃ I:Nat→HP,∀ i,I i=hx fun (w:wR)=>(True,[ro (tabC b T mr mt),pt bb [.pointer (some ⟨b,0,none⟩)] 0,pt ab [.slice w.1.1 ((ofS T key).take i).length w.1.2] 0,own kHRd w.1.1 w.1.2 ((ofS T key).take i),pt lb [.slice w.2.1 (ofL W ((ofS T key).take i)).length w.2.2] 0,own (kSl (kInt .i64)) w.2.1 w.2.2 (ofL W ((ofS T key).take i))]):=⟨_,fun _=>rfl⟩
 obtain ⟨J,hJ⟩:∃ J:AX→HP,∀ ax,J ax=hx fun (_:Unit)=>(False,[]):=⟨_,fun _=>rfl⟩
 refine at_foldP (I 0) (hI 0) ((none,0),(none,0)) trivial ?_
 refine at_rfunSD (I:=I) (J:=J) (Po:=[]) (Ps:=[pt x [.pointer (some ⟨b,0,none⟩)] 0,pt y [.int .i64 key] 0,ro (tabC b T mr mt),ro (mapF mr kI kHRd T.rd)]) (ofS T key).length (fun i (d:wR)=>vaRead d (ofS T key)[i]?) (fun i d=>paRead d (ofS T key)[i]?) (fun ly A B h=>?_) (fun i hi d=>by rw [List.getElem?_eq_getElem hi];rfl) ?_ ?_ ?_
 ·exact reads_Sound_c1_specL (L:=agl key T.rd) (key:=key) (x:=x) (y:=y) rfl (by omega) (fun r hr=>⟨⟨by have:=(hn2 r hr).1.1;omega,by have:=(hn2 r hr).1.2;omega⟩,(hn2 r hr).2⟩) h
 ·intro i hi d ly m F'
  rw [List.getElem?_eq_getElem hi]
  obtain ⟨⟨k1,k2⟩,k3⟩:=hS _ (List.getElem_mem hi)
  have hWi:=hWr _ (List.getElem_mem hi)
  obtain ⟨⟨e1,e2⟩,⟨e3,e4⟩,⟨e5,e6⟩⟩:=hbd _ (List.getElem_mem hi)
  have ht1:(ofS T key).take (i + 1)=(ofS T key).take i++[(⟨(ofS T key)[i].txn,(ofS T key)[i].op,(ofS T key)[i].key,(ofS T key)[i].list,(ofS T key)[i].own⟩:HRd)]:=List.take_succ_eq_append_getElem hi
  have ht2:ofL W ((ofS T key).take (i + 1))=ofL W ((ofS T key).take i)++[cleanL W (ofS T key)[i].list]:=by
   unfold ofL;rw [List.take_succ_eq_append_getElem hi,List.map_append];rfl
  have hl1:((ofS T key).take i).length≤2000:=by rw [List.length_take];omega
  have hl2:(ofL W ((ofS T key).take i)).length≤2000:=by unfold ofL;rw [List.length_map];exact hl1
  have hcl:=cleanL_len W (ofS T key)[i].list
  have hIi:=hI i
  have hIn:=hI (i + 1)
  rw [ht2,ht1] at hIn
  generalize ofL W ((ofS T key).take i)=LL at hIi hIn hl2
  generalize (ofS T key).take i=SS at hIi hIn hl1
  generalize (ofS T key)[i]=s at hIn hcl k1 k2 hWi e1 e2 e3 e4 e5 e6 ⊢
  dsimp only [vaRead,paRead,List.cons_append,List.nil_append]
  refine at_openP (I i) hIi ?_
  rintro ⟨⟨q1,d1⟩,⟨q2,d2⟩⟩ -
  dsimp only [List.cons_append,List.nil_append]
  repeat' first|apply step|(apply g_op;·repeat first|exact Evs.nil|(apply Evs.cons;exact rfl))|(refine Sd.mk ?_ ?_;·((repeat' apply And.intro)<;>first|omega|trivial|assumption|(simp;done)|(simp;omega)))|refine Fa.mk fun _=>?_
  refine at_callR (order_Clean_spec (T:=T) (r:=s) (b:=b) (mr:=mr) (mt:=mt) (by omega)) ?_
  rw [hWi]
  intro p3 c3
  repeat' first|apply step|(apply g_op;·repeat first|exact Evs.nil|(apply Evs.cons;exact rfl))|(refine Sd.mk ?_ ?_;·((repeat' apply And.intro)<;>first|omega|trivial|assumption|(simp;done)|(simp;omega)))|refine Fa.mk fun _=>?_|apply Lw.go
  refine at_foldP (I (i + 1)) hIn ((_,_),(_,_)) trivial ?_
  exact y_next
 ·refine at_openP (I _) (hI _) ?_
  rintro ⟨⟨q1,d1⟩,⟨q2,d2⟩⟩ -
  dsimp only [List.cons_append,List.nil_append]
  rw [List.take_length]
  have hLl:(ofL W (ofS T key)).length=(ofS T key).length:=by unfold ofL;rw [List.length_map]
  have hLx:∀ l ∈ ofL W (ofS T key),l.length≤100:=fun l hl=>by
   obtain ⟨r,hr,rfl⟩:=List.mem_map.1 hl
   exact Nat.le_trans (cleanL_len _ _) (hS r hr).1.1
  have hch:=bestL_len hLx
  repeat' first|apply step|(apply g_op;·repeat first|exact Evs.nil|(apply Evs.cons;exact rfl))|refine g_keep ?_
  refine at_callR (prefix_Longest_int_spec (L:=ofL W (ofS T key)) (by omega) (fun l hl=>by have:=hLx l hl;omega)) ?_
  refine ⟨fun hb0 p8 c8=>?_,fun k j hkj=>?_⟩
  ·have hR2:=hR2 hb0
   generalize bestL (ofL W (ofS T key))=ch at hR2 hch ⊢
   repeat' first|apply step|(apply g_op;·repeat first|exact Evs.nil|(apply Evs.cons;exact rfl))|refine Fa.mk fun _=>?_|apply Lw.go|refine g_cond ?_|refine g_keep ?_
   rename_i k2 mm mb
   refine at_loopS (ι:=Nat) (E:=fun i=>[(1,.int .i64 key),(2,.pointer (some ⟨bb,0,none⟩)),(4,.pointer (some ⟨kb,0,none⟩)),(12,.pointer (some ⟨k2,0,none⟩)),(13,.pointer (some ⟨mb,0,none⟩)),(54,.slice p8 ch.length c8),(55,.int .i64 (ch.length:Int)),(56,.int .i64 (i:Int))]) (Δ:=fun i=>own (kInt .i64) p8 c8 ch::mp mm (amap kI kI (inM ch i))::pt mb [.map (some mm)] 0::pt k2 [.int .i64 key,.slice p8 ch.length c8,.slice none 0 0,.bool false,.int .i64 0,.int .i64 0,.int .i64 0,.slice none 0 0,.slice none 0 0,.int .i64 0,.int .i64 0,.int .i64 0,.slice none 0 0,.slice none 0 0] 0::pt bb [.pointer (some ⟨b,0,none⟩)] 0::pt kb [.int .i64 0,.slice none 0 0,.slice none 0 0,.bool false,.int .i64 0,.int .i64 0,.int .i64 0,.slice none 0 0,.slice none 0 0,.int .i64 0,.int .i64 0,.int .i64 0,.slice none 0 0,.slice none 0 0] 0::ro (tabC b T mr mt)::ro (mapF mt kI kHWr T.wt)::F) (P:=fun i=>i≤ch.length) (μ:=fun i=>ch.length - i) 0 (Nat.zero_le _) ?_
   rintro i hi
   try dsimp only
   rcases Nat.lt_or_ge i ch.length with hlt|hge
   ·have hnx:inM ch (i + 1)=aset ch[i] ((i + 1:Nat):Int) (inM ch i):=by rw [← getD_lt (d:=0) hlt];rfl
    repeat' first|apply step|(apply g_op;·repeat first|exact Evs.nil|(apply Evs.cons;exact rfl))|(refine Br.mk (fun _=>?_) (fun _=>?_)<;>try (exfalso;omega))|(refine Sd.mk ?_ ?_;·((repeat' apply And.intro)<;>first|omega|trivial|assumption|(simp;done)|(simp;omega)))|(refine Sx.mk ?_ ?_;·omega)|refine Im.mk fun _=>?_|refine g_cond ?_
    refine av_put (d:=false) (bar:=false) (s:=.one 1) (m:=mm) (l:=inM ch i) (enc:=kI) (vv:=kI) (key:=ch[i]) (val:=((i + 1:Nat):Int)) rfl inferInstance ?_
    rw [← hnx]
    repeat' first|apply step|(apply g_op;·repeat first|exact Evs.nil|(apply Evs.cons;exact rfl))|(refine Sd.mk ?_ ?_;·((repeat' apply And.intro)<;>first|omega|trivial|assumption|(simp;done)|(simp;omega)))|refine g_keep ?_
    exact lp_next (i + 1) (by omega) (by omega)
   ·have e:i=ch.length:=by omega
    subst e
    have hin:=fun x=>inM_at (l:=ch) (x:=x) ch.length (Nat.le_refl _)
    simp only [List.take_length] at hin
    generalize inM ch ch.length=M at hin ⊢
    repeat' first|apply step|(apply g_op;·repeat first|exact Evs.nil|(apply Evs.cons;exact rfl))|(refine Br.mk (fun _=>?_) (fun _=>?_)<;>try (exfalso;omega))|refine g_cond ?_|refine g_keep ?_
    refine at_callR (table_Table_Writes_specL (T:=T) (b:=b) (mr:=mr) (mt:=mt) (y:=key)) ?_
    intro xw pw cw
    generalize agl key T.wt=L at hR2 hwt hwb ⊢
    repeat' first|apply step|apply Lw.go
    obtain ⟨I2,hI2⟩:∃ I:Nat→HP,∀ i,I i=hx fun (w:Option Addr × Nat)=>(True,[pt mb [.map (some mm)] 0,mp mm (amap kI kI M),pt k2 [.int .i64 key,.slice p8 ch.length c8,.slice w.1 (restL ch (L.take i)).length w.2,.bool false,.int .i64 0,.int .i64 0,.int .i64 0,.slice none 0 0,.slice none 0 0,.int .i64 0,.int .i64 0,.int .i64 0,.slice none 0 0,.slice none 0 0] 0,own (kInt .i64) w.1 w.2 (restL ch (L.take i))]):=⟨_,fun _=>rfl⟩
    refine at_foldP (I2 0) (hI2 0) (none,0) trivial ?_
    refine at_rfunSD (I:=I2) (J:=J) (Po:=[]) L.length (fun i (d:Unit)=>vaWrite d L[i]?) (fun i d=>paWrite d L[i]?) (fun ly A B h=>table_goes_table_Write_c1_spec (l:=L) (by omega) h) (fun i hi d=>by rw [List.getElem?_eq_getElem hi];rfl) ?_ ?_ ?_
    ·intro i hi d ly m F'
     rw [List.getElem?_eq_getElem hi]
     obtain ⟨v1,v2⟩:=hwb _ (List.getElem_mem hi)
     have hrx:=restL_next (ch:=ch) hi
     have hrl:(restL ch (L.take i)).length≤100000:=by
      unfold restL
      rw [List.length_map]
      have h1:=List.length_filter_le (fun w:HWr=>decide (w.value ∉ ch)) (L.take i)
      have h2:(L.take i).length≤100000:=by rw [List.length_take];omega
      omega
     have hIi:=hI2 i
     have hIn:=hI2 (i + 1)
     rw [hrx] at hIn
     generalize restL ch (L.take i)=O at hIi hIn hrl
     dsimp only [vaWrite,paWrite,List.cons_append,List.nil_append]
     rcases hin L[i].value with ⟨g1,v,g2,g3⟩|⟨g1,g2⟩
     ·rw [if_neg (fun q=>q g1),List.append_nil] at hIn
      refine at_openP (I2 i) hIi ?_
      rintro ⟨q2,d2⟩ -
      dsimp only [List.cons_append,List.nil_append]
      repeat' first|apply step|(apply g_op;·repeat first|exact Evs.nil|(apply Evs.cons;exact rfl))|refine Fa.mk fun _=>?_
      refine av_at1 (enc:=kI) (vv:=kI) (key:=L[i].value) inferInstance g3 ?_
      unfold kI
      repeat' first|apply step|(apply g_op;·repeat first|exact Evs.nil|(apply Evs.cons;exact rfl))|(refine Br.mk (fun _=>?_) (fun _=>?_)<;>try (exfalso;omega))|refine g_cond ?_
      all_goals first|(exfalso;omega)|(refine at_foldP (I2 (i + 1)) hIn (_,_) trivial ?_;exact y_next)
     ·rw [if_pos g1] at hIn
      refine at_openP (I2 i) hIi ?_
      rintro ⟨q2,d2⟩ -
      dsimp only [List.cons_append,List.nil_append]
      repeat' first|apply step|(apply g_op;·repeat first|exact Evs.nil|(apply Evs.cons;exact rfl))|refine Fa.mk fun _=>?_
      refine av_at0 (enc:=kI) (vv:=kI) (key:=L[i].value) inferInstance g2 ?_
      repeat' first|apply step|(apply g_op;·repeat first|exact Evs.nil|(apply Evs.cons;exact rfl))|(refine Br.mk (fun _=>?_) (fun _=>?_)<;>try (exfalso;omega))|(refine Sd.mk ?_ ?_;·((repeat' apply And.intro)<;>first|omega|trivial|assumption|(simp;done)|(simp;omega)))|refine Fa.mk fun _=>?_|refine g_cond ?_
      all_goals first|(exfalso;omega)|(refine at_foldP (I2 (i + 1)) hIn (_,_) trivial ?_;exact y_next)
    ·refine at_openP (I2 _) (hI2 _) ?_
     rintro ⟨q2,d2⟩ -
     dsimp only [List.cons_append,List.nil_append]
     rw [List.take_length]
     repeat' first|apply step|(apply g_op;·repeat first|exact Evs.nil|(apply Evs.cons;exact rfl))|refine g_keep ?_|refine g_fin ?_
     exact fin (hR2 _ _ _ _)
    ·intro ax hax
     refine at_openP (J ax) (hJ ax) ?_
     intro u hu
     exact (show False from hu).elim
  ·obtain ⟨a1,b1,e1,e2,hab,h1,h2,_⟩:=badL_some hkj
   rw [Nat.zero_add] at e1 e2
   subst e1
   subst e2
   rw [hLl] at h1 h2
   repeat' first|apply step|(apply g_op;·repeat first|exact Evs.nil|(apply Evs.cons;exact rfl))|(refine Sd.mk ?_ ?_;·((repeat' apply And.intro)<;>first|omega|trivial|assumption|(simp;done)|(simp;omega)))|(refine Sx.mk ?_ ?_;·omega)|refine Fa.mk fun _=>?_|refine Im.mk fun _=>?_|apply Lw.go|refine g_cond ?_|refine g_keep ?_|refine g_fin ?_
   refine fin (hR1 _ _ h1 h2 hkj ((_,_),(_,_)) ((_,_),(_,_)))
 ·intro ax hax
  refine at_openP (J ax) (hJ ax) ?_
  intro u hu
  exact (show False from hu).elim
end
end Go.AMS

namespace Go.AMS
open Go.AM hiding Kt At WP WL Runs RunsY
open Go.AM.G
open Go.AM.G.Set
set_option linter.unusedVariables false
set_option linter.unusedSectionVars false
set_option linter.unusedSimpArgs false
section
variable {α:Type} {K:Kind α} {p:Option Addr} {l:List α} {i:Nat} {Γ:List HP}
theorem rdl_head:Ent (rdl K p l::Γ) (rdl K p (l.take i)::rdl K p l::Γ):=Ent.dup.trans (.one fun h s ⟨h1,h2⟩=>⟨s,⟨h1.take i,h2⟩,fun b hb=>hb⟩)
end
end Go.AMS

namespace Go.AMS
open Go.AM hiding Kt At WP WL Runs RunsY
open Go.AM.G
set_option linter.unusedVariables false
set_option linter.unusedSimpArgs false
set_option linter.unusedSectionVars false
set_option maxRecDepth 100000
set_option maxHeartbeats 1000000
attribute [local irreducible] AtS AtV AtC AtG FinA Spec Post LP G.At G.WP G.WL pt own fro rdl ro hx mp lrec elt sub

open Go.AM.G.Set Go.AM.G.Pre
section
variable {h:List HTx} {T:Tb} {r:HRd} {p q p1 p2 p3:Option Addr} {c d c1 c2 c3:Nat} {a b:List Int}
theorem r15_Is_spec (ha:a.length≤100000) (hb:b.length≤100000):Spec prog1 n_r15_Is [.slice p a.length c,.slice q b.length d] [rdl (kInt .i64) p a,rdl (kInt .i64) q b] (fun R=>R (.bool (isL a b)) []):=by
 refine spec_code c_r15_Is rfl ?_;intro n F R hR;unfold F_r15_Is
 by_cases hl:a.length≤b.length
 ·have hbl:(b.take a.length).length=a.length:=List.length_take_of_le hl
  repeat' first|apply step|(apply g_op;·repeat first|exact Evs.nil|(apply Evs.cons;exact rfl))|(refine Br.mk (fun _=>?_) (fun _=>?_)<;>try (exfalso;omega))|(refine Sd.mk ?_ ?_;·((repeat' apply And.intro)<;>first|omega|trivial|assumption|(simp;done)|(simp;omega)))|refine g_guard ?_
  all_goals try (exfalso;omega)
  refine av_via (rdl_head (K:=kInt .i64) (p:=q) (l:=b) (i:=a.length)) ?_
  have hs:=r01_Same_spec (p:=p) (q:=q) (c:=c) (c':=a.length) (a:=a) (b:=b.take a.length) (by omega)
  rw [hbl] at hs
  refine at_callR (hs) ?_
  by_cases he:a=b.take a.length
  ·rw [isL_iff.2 ⟨hl,he⟩] at hR
   refine ⟨fun _=>?_,fun q=>absurd he q⟩
   repeat' first|apply step|(apply g_op;·repeat first|exact Evs.nil|(apply Evs.cons;exact rfl))|apply Lw.go|refine g_keep ?_|refine g_fin ?_
   exact fin hR
  ·rw [show isL a b=false from Bool.eq_false_iff.2 (fun q=>he (isL_iff.1 q).2)] at hR
   refine ⟨fun q=>absurd q he,fun _=>?_⟩
   repeat' first|apply step|(apply g_op;·repeat first|exact Evs.nil|(apply Evs.cons;exact rfl))|apply Lw.go|refine g_keep ?_|refine g_fin ?_
   exact fin hR
 ·rw [show isL a b=false from Bool.eq_false_iff.2 (fun q=>hl (isL_iff.1 q).1)] at hR
  repeat' first|apply step|(apply g_op;·repeat first|exact Evs.nil|(apply Evs.cons;exact rfl))|(refine Br.mk (fun _=>?_) (fun _=>?_)<;>try (exfalso;omega))|refine g_guard ?_|refine g_keep ?_|refine g_fin ?_
  all_goals first|exact fin hR|(exfalso;omega)
end
end Go.AMS

namespace Go.AMS
open Go.AM hiding Kt At WP WL Runs RunsY
open Go.AM.G
set_option linter.unusedVariables false
set_option linter.unusedSimpArgs false
set_option linter.unusedSectionVars false
set_option maxRecDepth 100000
set_option maxHeartbeats 1000000
attribute [local irreducible] AtS AtV AtC AtG FinA Spec Post LP G.At G.WP G.WL pt own fro rdl ro hx mp lrec elt sub

open Go.AM.G.Set Go.AM.G.Pre
section
variable {h:List HTx} {T:Tb} {r:HRd} {p q:Option Addr} {c d b:Nat}
theorem at_mapW {prog:AProg} {rr:Option Nat} {e:Env} {Q:Pst} {kk:List Kt} {n:Nat} {d:Bool} {r:List AI} {F:List HP} {f:List (Int × List HWr)} {mt:Nat} (w:AtS n prog rr (.o d r::kk) .norm e (mapF mt kI kHWr f::F) Q):AtS n prog rr (.o d r::kk) .norm e (mapL mt kI kHWr f::F) Q:=by
 refine at_openP (mapL mt kI kHWr f) rfl ?_
 rintro Z hZ
 dsimp only [List.cons_append,List.nil_append]
 refine at_ent (Δ:=alls (ownE kHWr) Z::mp mt (amap kI slV Z)::_) (by repeat first|exact Ent.refl _|(apply Ent.more;· repeat first|exact Ent.keep|exact Ent.here|exact Ent.lend|exact ent_nil|apply Ent.there)|apply Ent.drop) ?_
 refine at_freezeA ?_
 refine at_foldP (mapF mt kI kHWr f) rfl Z hZ ?_
 exact w
theorem at_tabD {prog:AProg} {rr:Option Nat} {e:Env} {Q:Pst} {kk:List Kt} {n:Nat} {d:Bool} {r:List AI} {F:List HP} (w:∀ mr mt,AtS n prog rr (.o d r::kk) .norm e (mapF mt kI kHWr T.wt::tabC b T mr mt::mapF mr kI kHRd T.rd::F) Q):AtS n prog rr (.o d r::kk) .norm e (tab b T::F) Q:=by
 refine at_tabC (fun mr mt=>?_)
 refine at_ent (Δ:=mapL mt kI kHWr T.wt::tabC b T mr mt::mapF mr kI kHRd T.rd::F) (by repeat first|exact Ent.refl _|(apply Ent.more;· repeat first|exact Ent.keep|exact Ent.here|exact Ent.lend|exact ent_nil|apply Ent.there)|apply Ent.drop) ?_
 exact at_mapW (w mr mt)
/-- What is known of a history's table, for orders. -/
structure OfOk (h:List HTx) (key:Int):Prop where
 rd:RdOk (TH h)
 wt:(agl key (TH h).wt).length≤1200
 wb:∀ w ∈ agl key (TH h).wt,bI w.value
 sl:(ofS (TH h) key).length≤1200
 bd:∀ r ∈ ofS (TH h) key,bI r.txn∧bI r.op∧bI r.key
 ll:∀ r ∈ ofS (TH h) key,(r.list.length≤100∧r.own.length≤100)∧r.key=key
 se:soundL (wK (TH h) key) (rdK h key)=ofS (TH h) key
 le:outW h key (setL (comm h))=agl key (TH h).wt
theorem mem_wtsN {key:Int} {t:HTx} {r:HWr}:∀ n,n≤t.ops.length→r ∈ wtsN key t n→∃ j,∃ hj:j < t.ops.length,t.ops[j].read=false∧r.value=t.ops[j].value
 | 0,_,hr=>by cases hr
 | n + 1,hn,hr=>by
  simp only [wtsN] at hr
  rw [getD_lt (by omega:n < t.ops.length)] at hr
  rcases List.mem_append.1 hr with hr|hr
  ·exact mem_wtsN n (by omega) hr
  ·split at hr
   ·rename_i hc
    rw [List.mem_singleton.1 hr]
    exact ⟨n,by omega,hc.1,rfl⟩
   ·cases hr
theorem of_ok {key:Int} (hf:FewH h 20 60) (hk:OkH h):OfOk h key:=by
 have hrd:agl key (TH h).rd=rdK h key:=rd_sort hk.i key
 have hwt:agl key (TH h).wt=outW h key (setL (comm h)):=wt_sort hk.i key
 have hby:∀ x,mayN x→bI x:=fun x hx=>by unfold mayN at hx;unfold bI;omega
 have hsm:∀ r ∈ ofS (TH h) key,r ∈ rdK h key:=fun r hr=>by rw [← hrd];exact (List.mem_filter.1 hr).1
 refine ⟨(th_ok hf hk).rd,by rw [hwt];exact outW_len hf hk.m key,fun w hw=>?_,?_,fun r hr=>?_,fun r hr=>?_,by unfold ofS;rw [hrd],hwt.symm⟩
 ·rw [hwt] at hw
  obtain ⟨x,hx,h1⟩:=List.mem_flatMap.1 hw
  obtain ⟨t,ht,hb,rfl⟩:=mem_comm.1 (mem_setL.1 hx)
  rw [txnOf_in hk.i ht] at h1
  obtain ⟨j,hj,h2,h3⟩:=mem_wtsN _ (Nat.le_refl _) h1
  have hmo:=(hk.m t ht).2 _ (List.getElem_mem hj)
  unfold mayO at hmo
  rw [h2] at hmo
  rw [h3]
  exact hby _ (show mayN t.ops[j].value∧t.ops[j].list=[] by simpa using hmo.2).1
 ·have h1:(rdK h key).length≤1200:=outR_len hf hk.m key
  have h2:=soundL_le (W:=wK (TH h) key) (agl key (TH h).rd)
  rw [hrd] at h2
  unfold ofS
  rw [hrd];omega
 ·obtain ⟨t,ht,hb,j,h1,h2,h3,h4,h5⟩:=rdK_at hk (hsm r hr)
  subst h4
  have h6:=txnOf_ok hf hk.m t.id (hk.m t ht).1
  rw [txnOf_in hk.i ht] at h6
  have hmo:=(hk.m t ht).2 _ (List.getElem_mem h1)
  rw [getD_lt h1] at h3
  refine ⟨hby _ (hk.m t ht).1,by unfold bI;dsimp only;omega,?_⟩
  dsimp only
  rw [← h3]
  unfold mayO at hmo
  split at hmo <;> exact hby _ hmo.1
 ·exact ((th_ok hf hk).rd key).2 r (List.mem_filter.1 hr).1
theorem bestL_mem (L:List (List Int)):bestL L=[]∨bestL L ∈ L:=by
 have key:∀ (l:List (List Int)) (b:List Int),l.foldl longer b=b∨l.foldl longer b ∈ l:=by
  intro l
  induction l with
  | nil=>intro b;exact .inl rfl
  | cons x l ih =>
   intro b
   rcases ih (longer b x) with h|h
   ·rcases longer_cases b x with e|e
    ·exact .inl (h.trans e)
    ·exact .inr (by rw [List.foldl_cons,h,e];exact List.mem_cons_self)
   ·exact .inr (List.mem_cons_of_mem _ h)
 exact key L []
end
end Go.AMS

namespace Go.AMS
open Go.AM hiding Kt At WP WL Runs RunsY
open Go.AM.G
set_option linter.unusedVariables false
set_option linter.unusedSectionVars false
set_option linter.unusedSimpArgs false
section
variable {prog:AProg} {rr:Option Nat} {e e1 e2:Env} {Q:Pst} {k:List Kt} {n:Nat} {Γ Γ1 Γ2 F F':List HP} {l l1 l2:List AI} {c:AI} {ks ap:List (Nat × Nat)} {sz:Nat} {x:AX}
theorem at_opsKS6 {z:Nat} {cs:List Value} (b:Nat) (j:Nat) [s:Splt l j l1 c l2] [a:LkW Γ b cs z F] (w:∀ sz,b < sz→AtS n prog rr [.o true l1] .norm e Γ (KP1 prog rr c l2 ks ap k sz Q)) (hk:ks.all (fun x=>x.1 == j)=true:=by rfl):AtS n prog rr (.c (.opsK ks ap l)::k) .norm e Γ Q:=fun h hs=>by
 rw [s.eq]
 refine at_opsK (fun x hx=>?_) ?_
 ·have:=List.all_eq_true.1 hk x hx
  rw [s.len];simpa using this
 ·have h1:=w h.size (lkw_get a hs).1 h hs
  exact wl_mono h1 (fun e1 h1 hq=>hq.2)
theorem at_ne {z z':Nat} {cs cs':List Value} (b b':Nat) [a:LkW Γ b cs z F] [c:LkW F b' cs' z' F'] (w:b'≠b→AtS n prog rr k x e Γ Q):AtS n prog rr k x e Γ Q:=fun h hs=>by
 have h1:=a.ent.sat hs
 obtain ⟨S,⟨s1,s2,k1,k2,k3,k4⟩,k5⟩:=h1.s
 have h2:b'≠b:=by
  obtain ⟨S',⟨t1,t2,j1,j2,j3,j4⟩,j5⟩:=c.ent h s2 k2
  intro e
  subst e
  have hb:=k1.2.2
  have hb':=j1.2.2
  refine k3 b' (by rw [hb]) (j5 b' ?_)
  exact (j4 b').2 (.inl (by rw [hb']))
 exact w h2 h hs
end
end Go.AMS

namespace Go.AMS
open Go.AM hiding Kt At WP WL Runs RunsY
open Go.AM.G
set_option linter.unusedVariables false
set_option linter.unusedSimpArgs false
set_option linter.unusedSectionVars false
set_option maxRecDepth 100000
set_option maxHeartbeats 1000000
attribute [local irreducible] AtS AtV AtC AtG FinA Spec Post LP G.At G.WP G.WL pt own fro rdl ro hx mp lrec elt sub

open Go.AM.G.Set Go.AM.G.Pre
section
variable {h:List HTx} {key:Int}
theorem twL_nodup:∀ (l s:List Int),s.Nodup→twL s l=none→(s++l).Nodup
 | [],s,hs,_=>by rw [List.append_nil];exact hs
 | x::l,s,hs,e=>by
  unfold twL at e
  split at e
  ·cases e
  ·rename_i hx
   have h1:=twL_nodup l (s++[x]) (by
    rw [List.nodup_append]
    exact ⟨hs,by simp,fun a ha b hb e2=>hx (by rw [List.mem_singleton.1 hb] at e2;exact e2 ▸ ha)⟩) e
   rw [List.append_assoc] at h1
   exact h1
theorem bornL_none {W:Wf}:∀ {l:List Int},bornL W l=none→∀ x ∈ l,∃ w,W x=some w
 | [],_,x,hx=>by cases hx
 | y::l,e,x,hx=>by
  unfold bornL at e
  split at e
  ·rename_i w hw
   rcases List.mem_cons.1 hx with q|q
   ·rw [q];exact ⟨w,hw⟩
   ·exact bornL_none e x q
  ·cases e
theorem kind_zero2 {W:Wf} {r:HRd} (h0:(kindL W r).1=0):twL [] r.list=none∧bornL W r.list=none:=by
 unfold kindL at h0
 split at h0
 ·cases h0
 ·rename_i e1
  split at h0
  ·cases h0
  ·rename_i e2
   exact ⟨e1,e2⟩
theorem ofS_kind {T:Tb} {r:HRd} (hr:r ∈ ofS T key):(kindL (wK T key) r).1=0:=of_decide_eq_true (List.mem_filter.1 hr).2
/-- The chain: no value twice, and each a committed transaction's. -/
theorem chain_ok {T:Tb}:(bestL (ofL (wK T key) (ofS T key))).Nodup∧∀ x ∈ bestL (ofL (wK T key) (ofS T key)),∃ w,wK T key x=some w∧w.ab=false:=by
 rcases bestL_mem (ofL (wK T key) (ofS T key)) with e|e
 ·rw [e];exact ⟨List.nodup_nil,fun x hx=>by cases hx⟩
 ·obtain ⟨r,hr,e2⟩:=List.mem_map.1 e
  rw [← e2]
  obtain ⟨k1,k2⟩:=kind_zero2 (ofS_kind hr)
  have hn:=twL_nodup r.list [] List.nodup_nil k1
  rw [List.nil_append] at hn
  refine ⟨hn.filter _,fun x hx=>?_⟩
  obtain ⟨h1,h2⟩:=List.mem_filter.1 hx
  obtain ⟨w,hw⟩:=bornL_none k2 x h1
  refine ⟨w,hw,?_⟩
  unfold abW at h2
  rw [hw] at h2
  simpa using h2
theorem mem_wtsN2 {key:Int} {t:HTx} {r:HWr}:∀ n,n≤t.ops.length→r ∈ wtsN key t n→∃ j,∃ hj:j < t.ops.length,j < n∧t.ops[j].read=false∧t.ops[j].key=key∧r=⟨t.id,(j:Nat),key,t.ops[j].value,false⟩
 | 0,_,hr=>by cases hr
 | n + 1,hn,hr=>by
  simp only [wtsN] at hr
  rw [getD_lt (by omega:n < t.ops.length)] at hr
  rcases List.mem_append.1 hr with hr|hr
  ·obtain ⟨j,hj,h1,h2⟩:=mem_wtsN2 n (by omega) hr
   exact ⟨j,hj,by omega,h2⟩
  ·split at hr
   ·rename_i hc
    exact ⟨n,by omega,by omega,hc.1,hc.2,List.mem_singleton.1 hr⟩
   ·cases hr
theorem wtsN_in {key:Int} {t:HTx}:∀ n,n≤t.ops.length→∀ j (hj:j < t.ops.length),j < n→t.ops[j].read=false→t.ops[j].key=key→(⟨t.id,(j:Nat),key,t.ops[j].value,false⟩:HWr) ∈ wtsN key t n
 | 0,_,j,hj,q,_,_=>absurd q (Nat.not_lt_zero _)
 | n + 1,hn,j,hj,q,h1,h2=>by
  simp only [wtsN]
  rw [getD_lt (by omega:n < t.ops.length)]
  rcases Nat.lt_or_ge j n with g|g
  ·exact List.mem_append.2 (.inl (wtsN_in n (by omega) j hj g h1 h2))
  ·have e:j=n:=by omega
   subst e
   rw [if_pos ⟨h1,h2⟩]
   exact List.mem_append.2 (.inr (List.mem_singleton.2 rfl))
theorem wtsN_pw {key:Int} {t:HTx}:∀ n,n≤t.ops.length→(wtsN key t n).Pairwise (fun a b=>a.op < b.op)
 | 0,_=>List.Pairwise.nil
 | n + 1,hn=>by
  simp only [wtsN]
  rw [List.pairwise_append]
  refine ⟨wtsN_pw n (by omega),?_,fun a ha b hb=>?_⟩
  ·split <;> simp
  ·obtain ⟨j,hj,h1,h2,h3,rfl⟩:=mem_wtsN2 n (by omega) ha
   split at hb
   ·rw [List.mem_singleton.1 hb];dsimp only;omega
   ·cases hb
theorem wt_at (hk:OkH h) {r:HWr} (hr:r ∈ outW h key (setL (comm h))):wK (TH h) key r.value=some r∧r.ab=false:=by
 obtain ⟨x,hx,h1⟩:=List.mem_flatMap.1 hr
 obtain ⟨t,ht,hb,rfl⟩:=mem_comm.1 (mem_setL.1 hx)
 rw [txnOf_in hk.i ht] at h1
 obtain ⟨j,hj,_,h2,h3,rfl⟩:=mem_wtsN2 _ (Nat.le_refl _) h1
 have:=wr_some hk.p ht hj h2 h3 rfl
 rw [hb] at this
 exact ⟨this,rfl⟩
theorem wt_nodup (hk:OkH h):((outW h key (setL (comm h))).map HWr.value).Nodup:=by
 have h1:(outW h key (setL (comm h))).Pairwise (fun a b=>a≠b):=by
  unfold outW
  rw [List.pairwise_flatMap]
  refine ⟨fun x _=>(wtsN_pw _ (Nat.le_refl _)).imp fun {a b} q e=>by rw [e] at q;omega,?_⟩
  have hs:(setL (comm h)).Pairwise (fun a b=>a < b):=by rw [comm_sort hk.i];exact comm_lt hk.i
  refine hs.imp_of_mem fun {a b} ha hb q u hu v hv e=>?_
  obtain ⟨t,ht,_,rfl⟩:=mem_comm.1 (mem_setL.1 ha)
  obtain ⟨t2,ht2,_,rfl⟩:=mem_comm.1 (mem_setL.1 hb)
  rw [txnOf_in hk.i ht] at hu
  rw [txnOf_in hk.i ht2] at hv
  obtain ⟨j,hj,_,_,_,rfl⟩:=mem_wtsN2 _ (Nat.le_refl _) hu
  obtain ⟨j2,hj2,_,_,_,rfl⟩:=mem_wtsN2 _ (Nat.le_refl _) hv
  have:=congrArg HWr.txn e
  dsimp only at this
  omega
 unfold List.Nodup
 rw [List.pairwise_map]
 refine h1.imp_of_mem fun {a b} ha hb q e=>q ?_
 have e1:=(wt_at hk ha).1
 have e2:=(wt_at hk hb).1
 rw [e,e2] at e1
 exact (Option.some.inj e1).symm
theorem want_in (hk:OkH h) {x:Int} {w:HWr} (hw:wK (TH h) key x=some w) (hb:w.ab=false):x ∈ (outW h key (setL (comm h))).map HWr.value:=by
 obtain ⟨t,ht,i,hi,⟨g1,g2,g3⟩,rfl⟩:=wr_at hk hw
 have hid:t.id ∈ setL (comm h):=mem_setL.2 (mem_comm.2 ⟨t,ht,hb,rfl⟩)
 refine List.mem_map.2 ⟨⟨t.id,(i:Nat),key,t.ops[i].value,false⟩,List.mem_flatMap.2 ⟨t.id,hid,?_⟩,g3⟩
 rw [txnOf_in hk.i ht]
 exact wtsN_in _ (Nat.le_refl _) i hi hi g1 g2
theorem restL_eq (ch:List Int) (L:List HWr):restL ch L=(L.map HWr.value).filter fun v=>decide (v ∉ ch):=by
 unfold restL
 rw [List.filter_map];rfl
/-- What is in the chain and in the rest. -/
theorem whole_perm (hk:OkH h):(bestL (ofL (wK (TH h) key) (ofS (TH h) key))++restL (bestL (ofL (wK (TH h) key) (ofS (TH h) key))) (outW h key (setL (comm h)))).Perm ((outW h key (setL (comm h))).map HWr.value):=by
 obtain ⟨c1,c2⟩:=chain_ok (T:=TH h) (key:=key)
 generalize bestL (ofL (wK (TH h) key) (ofS (TH h) key))=ch at c1 c2 ⊢
 have hn:=wt_nodup (key:=key) hk
 rw [restL_eq]
 refine (List.perm_ext_iff_of_nodup ?_ hn).2 fun x=>?_
 ·rw [List.nodup_append]
  exact ⟨c1,hn.filter _,fun a ha b hb e=>(of_decide_eq_true (List.mem_filter.1 hb).2) (e ▸ ha)⟩
 ·rw [List.mem_append,List.mem_filter]
  constructor
  ·rintro (q|q)
   ·obtain ⟨w,hw,hb⟩:=c2 x q
    exact want_in hk hw hb
   ·exact q.1
  ·intro q
   by_cases e:x ∈ ch
   ·exact .inl e
   ·exact .inr ⟨q,decide_eq_true e⟩
theorem fits_chain {L:List (List Int)} (hb:badL L 0=none):∀ y ∈ L,isL y (bestL L)=true:=by
 have h1:=(fineS_all ((fineS_snd L).2 hb)).1
 rw [fineS_fst] at h1
 exact h1
end
end Go.AMS

namespace Go.AMS
open Go.AM hiding Kt At WP WL Runs RunsY
open Go.AM.G
set_option linter.unusedVariables false
set_option linter.unusedSimpArgs false
set_option linter.unusedSectionVars false
set_option maxRecDepth 100000
set_option maxHeartbeats 1000000
attribute [local irreducible] AtS AtV AtC AtG FinA Spec Post LP G.At G.WP G.WL pt own fro rdl ro hx mp lrec elt sub

open Go.AM.G.Set Go.AM.G.Pre
section
variable {h:List HTx} {p q:Option Addr} {c d:Nat}
theorem l16_OrderWhole_spec {key:Int} (w1:-9223372036854775808≤key∧key≤9223372036854775807):Spec prog1 n_l16_OrderWhole [.agg #[.slice p h.length c],.int .i64 key] [fro kHTx p c h] (fun R=>R (.bool true) []):=by
 refine spec_code c_l16_OrderWhole rfl ?_;intro n F R hR;unfold F_l16_OrderWhole
 repeat' first|apply step|(apply g_op;·repeat first|exact Evs.nil|(apply Evs.cons;exact rfl))|refine Fa.mk fun _=>?_
 rename_i hb
 refine at_callS (l16_few_spec (h:=h)) ?_
 refine ⟨fun hf hc=>?_,?_⟩
 ·have hk:=chkH_ok hc
  have ok:=of_ok (key:=key) hf hk
  have hper:=whole_perm (key:=key) hk
  have hcs:=r13_Sound_spec (p:=p) (c:=c) (key:=key) hf hk
  have hws:=r12_Writes_spec (h:=h) (p:=p) (c:=c) (key:=key) hf hk.m
  have hwl:(outW h key (setL (comm h))).length≤1200:=outW_len hf hk.m key
  rw [ok.se] at hcs
  repeat' first|apply step|(apply g_op;·repeat first|exact Evs.nil|(apply Evs.cons;exact rfl))|refine g_cond ?_
  refine at_callS (table_New_spec hf) ?_
  refine ⟨fun hc2=>absurd hc hc2,fun _ b=>?_⟩
  dsimp only [List.cons_append,List.nil_append]
  rw [show (tabS (sortK HTx.id h)).fin=TH h from rfl]
  refine at_tabD (fun mr mt=>?_)
  repeat' first|apply step|(apply g_op;·repeat first|exact Evs.nil|(apply Evs.cons;exact rfl))|(refine Br.mk (fun _=>?_) (fun _=>?_)<;>try (exfalso;omega))|refine g_cond ?_|refine g_guard ?_|refine g_keep ?_
  refine at_callR (order_Of_spec (T:=TH h) (b:=b) (mr:=mr) (mt:=mt) (key:=key) ok.rd (by have:=ok.wt;omega) ok.wb (by have:=ok.sl;omega) ok.bd w1) ?_
  refine ⟨fun k j hk1 hj1 hb1 w v=>?_,fun hb1 q1 d1 q2 d2=>?_⟩
  ·repeat' first|apply step|(apply g_op;·repeat first|exact Evs.nil|(apply Evs.cons;exact rfl))|(refine Br.mk (fun _=>?_) (fun _=>?_)<;>try (exfalso;omega))|(refine Sd.mk ?_ ?_;·((repeat' apply And.intro)<;>first|omega|trivial|assumption|(simp;done)|(simp;omega)))|refine Fa.mk fun _=>?_|apply Lw.go|refine g_cond ?_|refine g_guard ?_
   all_goals try (exfalso;omega)
   refine at_callS (l16_works_spec) ?_
   repeat' first|apply step|(apply g_op;·repeat first|exact Evs.nil|(apply Evs.cons;exact rfl))|refine g_keep ?_|refine g_fin ?_
   exact fin hR
  ·have hfit:=fits_chain hb1
   rw [← ok.le]
   have hSl:=ok.sl
   have hS:=ok.ll
   have hcl:∀ r ∈ ofS (TH h) key,isL (cleanL (wK (TH h) r.key) r.list) (bestL (ofL (wK (TH h) key) (ofS (TH h) key)))=true:=fun r hr=>by
    rw [(hS r hr).2]
    exact hfit _ (List.mem_map.2 ⟨r,hr,rfl⟩)
   have hch0:(bestL (ofL (wK (TH h) key) (ofS (TH h) key))).length≤100:=bestL_len fun l hl=>by
    obtain ⟨r,hr,rfl⟩:=List.mem_map.1 hl
    exact Nat.le_trans (cleanL_len _ _) (hS r hr).1.1
   have hwb0:∀ w ∈ outW h key (setL (comm h)),-9223372036854775808≤w.value∧w.value≤9223372036854775807:=by rw [ok.le];exact ok.wb
   generalize hLe:outW h key (setL (comm h))=L at hper hws hwl ⊢
   generalize bestL (ofL (wK (TH h) key) (ofS (TH h) key))=ch at hper hcl hch0 ⊢
   have hlen:=hper.length_eq
   have hLb:∀ w ∈ L,-9223372036854775808≤w.value∧w.value≤9223372036854775807:=by rw [← hLe];exact hwb0
   rw [List.length_append,List.length_map] at hlen
   have hset:setL (ch++restL ch L)=setL (L.map HWr.value):=setL_congr fun x=>hper.mem_iff
   generalize restL ch L=rs at hlen hset ⊢
   repeat' first|apply step|(apply g_op;·repeat first|exact Evs.nil|(apply Evs.cons;exact rfl))|refine Fa.mk fun _=>?_|apply Lw.go|refine g_cond ?_|refine g_keep ?_
   rename_i k2
   refine at_opsKS6 k2 3 (fun sz hsz=>?_)
   repeat' first|apply step|(apply g_op;·repeat first|exact Evs.nil|(apply Evs.cons;exact rfl))|refine Fa.mk fun _=>?_
   rename_i xb
   refine at_ne k2 xb (fun hne=>?_)
   refine kp01 ?_ (fun x hx=>by simp only [List.mem_singleton] at hx;subst hx;rfl)
   repeat' first|apply step|(apply g_op;·repeat first|exact Evs.nil|(apply Evs.cons;exact rfl))|(refine Sd.mk ?_ ?_;·((repeat' apply And.intro)<;>first|omega|trivial|assumption|(simp;done)|(simp;omega)))|refine Fa.mk fun _=>?_
   refine kp02 ?_
   repeat' first|apply step|(apply g_op;·repeat first|exact Evs.nil|(apply Evs.cons;exact rfl))|(refine Sd.mk ?_ ?_;·((repeat' apply And.intro)<;>first|omega|trivial|assumption|(simp;done)|(simp;omega)))|refine Fa.mk fun _=>?_
   refine g_ap4 rfl rfl hsz (fun a ha=>by cases ha;exact hne) ?_
   repeat' first|apply step|(apply g_op;·repeat first|exact Evs.nil|(apply Evs.cons;exact rfl))|refine g_keep ?_
   rename_i pa ca
   have hAl:(ch++rs).length=ch.length + rs.length:=List.length_append
   generalize ch++rs=A at hset hAl ⊢
   have hwb:∀ w ∈ L,-9223372036854775808≤w.value∧w.value≤9223372036854775807:=hLb
   refine at_callS (hws) ?_
   intro pw cw
   repeat' first|apply step|(apply g_op;·repeat first|exact Evs.nil|(apply Evs.cons;exact rfl))|refine g_keep ?_
   refine at_loopS (ι:=Nat × (Option Addr × Nat)) (E:=fun z=>[(1,.int .i64 key),(2,.pointer (some ⟨hb,0,none⟩)),(7,.pointer (some ⟨k2,0,none⟩)),(8,.slice pa A.length ca),(9,.slice z.2.1 ((L.take z.1).map HWr.value).length z.2.2),(10,.slice pw L.length cw),(11,.int .i64 (z.1:Int))]) (Δ:=fun z=>own (kInt .i64) z.2.1 z.2.2 ((L.take z.1).map HWr.value)::own kHWr pw cw L::own (kInt .i64) pa ca A::pt k2 [.int .i64 key,.slice q1 ch.length d1,.slice q2 rs.length d2,.bool false,.int .i64 0,.int .i64 0,.int .i64 0,.slice none 0 0,.slice none 0 0,.int .i64 0,.int .i64 0,.int .i64 0,.slice none 0 0,.slice none 0 0] 0::own (kInt .i64) q1 d1 ch::pt hb [.slice p h.length c] 0::fro kHTx p c h::F) (P:=fun z=>z.1≤L.length) (μ:=fun z=>L.length - z.1) (0,(none,0)) (Nat.zero_le _) ?_
   rintro ⟨i,p3,c3⟩ hi
   dsimp only at hi ⊢
   have hml:((L.take i).map HWr.value).length≤1200:=by rw [List.length_map,List.length_take];omega
   rcases Nat.lt_or_ge i L.length with hlt|hge
   ·have hnx:(L.take (i + 1)).map HWr.value=(L.take i).map HWr.value++[L[i].value]:=by rw [List.take_succ_eq_append_getElem hlt,List.map_append];rfl
    generalize (L.take i).map HWr.value=O at hnx hml ⊢
    repeat' first|apply step|(apply g_op;·repeat first|exact Evs.nil|(apply Evs.cons;exact rfl))|(refine Br.mk (fun _=>?_) (fun _=>?_)<;>try (exfalso;omega))|(refine Sd.mk ?_ ?_;·((repeat' apply And.intro)<;>first|omega|trivial|assumption|(simp;done)|(simp;omega)))|(refine Sx.mk ?_ ?_;·omega)|refine Fa.mk fun _=>?_|refine Im.mk fun _=>?_|refine g_cond ?_|refine g_keep ?_
    exact lp_next (i + 1,_,_) (by dsimp only;omega) (by dsimp only;omega) (by dsimp only;rw [hnx]) (by dsimp only;rw [hnx];repeat first|exact Ent.refl _|(apply Ent.more;· repeat first|exact Ent.keep|exact Ent.here|exact Ent.lend|exact ent_nil|apply Ent.there)|apply Ent.drop)
   ·rw [List.take_of_length_le hge] at hml ⊢
    have hWl:(L.map HWr.value).length=L.length:=List.length_map _
    generalize L.map HWr.value=V at hset hWl hml ⊢
    repeat' first|apply step|(apply g_op;·repeat first|exact Evs.nil|(apply Evs.cons;exact rfl))|(refine Br.mk (fun _=>?_) (fun _=>?_)<;>try (exfalso;omega))|refine g_cond ?_|refine g_keep ?_
    refine at_callS (hcs) ?_
    intro ps cs
    generalize ofS (TH h) key=S at hSl hS hcl ⊢
    repeat' first|apply step|(apply g_op;·repeat first|exact Evs.nil|(apply Evs.cons;exact rfl))|refine g_keep ?_
    refine at_loopS (ι:=Nat) (E:=fun j=>[(2,.pointer (some ⟨hb,0,none⟩)),(7,.pointer (some ⟨k2,0,none⟩)),(8,.slice pa A.length ca),(9,.slice p3 V.length c3),(12,.slice ps S.length cs),(13,.int .i64 (j:Int))]) (Δ:=fun j=>own kHRd ps cs S::own (kInt .i64) p3 c3 V::own (kInt .i64) pa ca A::pt k2 [.int .i64 key,.slice q1 ch.length d1,.slice q2 rs.length d2,.bool false,.int .i64 0,.int .i64 0,.int .i64 0,.slice none 0 0,.slice none 0 0,.int .i64 0,.int .i64 0,.int .i64 0,.slice none 0 0,.slice none 0 0] 0::own (kInt .i64) q1 d1 ch::pt hb [.slice p h.length c] 0::fro kHTx p c h::F) (P:=fun j=>j≤S.length) (μ:=fun j=>S.length - j) 0 (Nat.zero_le _) ?_
    rintro j hj
    try dsimp only
    rcases Nat.lt_or_ge j S.length with hlj|hgj
    ·have hc1:=hcl S[j] (List.getElem_mem _)
     obtain ⟨⟨k1,k3⟩,_⟩:=hS S[j] (List.getElem_mem _)
     have hc3:=cleanL_len (wK (TH h) S[j].key) S[j].list
     repeat' first|apply step|(apply g_op;·repeat first|exact Evs.nil|(apply Evs.cons;exact rfl))|(refine Br.mk (fun _=>?_) (fun _=>?_)<;>try (exfalso;omega))|(refine Sd.mk ?_ ?_;·((repeat' apply And.intro)<;>first|omega|trivial|assumption|(simp;done)|(simp;omega)))|(refine Sx.mk ?_ ?_;·omega)|refine Fa.mk fun _=>?_|refine Im.mk fun _=>?_|refine g_cond ?_
     refine at_callR (r16_Clean_spec (r:=S[j]) hf hk (by omega)) ?_
     intro p4 c4
     generalize cleanL (wK (TH h) S[j].key) S[j].list=B at hc1 hc3 ⊢
     repeat' first|apply step|(apply g_op;·repeat first|exact Evs.nil|(apply Evs.cons;exact rfl))|apply Lw.go
     refine at_callR (r15_Is_spec (a:=B) (b:=ch) (by omega) (by omega)) ?_
     rw [hc1]
     repeat' first|apply step|(apply g_op;·repeat first|exact Evs.nil|(apply Evs.cons;exact rfl))|(refine Sd.mk ?_ ?_;·((repeat' apply And.intro)<;>first|omega|trivial|assumption|(simp;done)|(simp;omega)))|apply Lw.go|refine g_cond ?_|refine g_keep ?_
     exact lp_next (j + 1) (by omega) (by omega)
    ·repeat' first|apply step|(apply g_op;·repeat first|exact Evs.nil|(apply Evs.cons;exact rfl))|(refine Br.mk (fun _=>?_) (fun _=>?_)<;>try (exfalso;omega))|refine g_cond ?_|refine g_guard ?_|refine g_keep ?_
     all_goals try (exfalso;omega)
     refine at_callR (r05_Of_spec (l:=A) (by omega)) ?_
     intro p5 c5
     repeat' first|apply step|(apply g_op;·repeat first|exact Evs.nil|(apply Evs.cons;exact rfl))|apply Lw.go|refine g_guard ?_
     refine at_callR (r05_Of_spec (l:=V) (by omega)) ?_
     intro p6 c6
     rw [← hset]
     have hsl:=setL_le A
     generalize setL A=Z at hsl ⊢
     repeat' first|apply step|(apply g_op;·repeat first|exact Evs.nil|(apply Evs.cons;exact rfl))|apply Lw.go|refine g_guard ?_
     refine at_callR (r01_Same_spec (a:=Z) (b:=Z) (by omega)) ?_
     refine ⟨fun _=>?_,fun q=>absurd rfl q⟩
     repeat' first|apply step|(apply g_op;·repeat first|exact Evs.nil|(apply Evs.cons;exact rfl))|apply Lw.go|refine g_guard ?_
     refine at_callS (l16_works_spec) ?_
     repeat' first|apply step|(apply g_op;·repeat first|exact Evs.nil|(apply Evs.cons;exact rfl))|refine g_keep ?_|refine g_fin ?_
     exact fin hR
 ·repeat' first|apply step|(apply g_op;·repeat first|exact Evs.nil|(apply Evs.cons;exact rfl))|refine g_cond ?_
  refine at_callS (l16_works_spec) ?_
  repeat' first|apply step|(apply g_op;·repeat first|exact Evs.nil|(apply Evs.cons;exact rfl))|refine g_fin ?_
  exact fin hR
end
end Go.AMS

