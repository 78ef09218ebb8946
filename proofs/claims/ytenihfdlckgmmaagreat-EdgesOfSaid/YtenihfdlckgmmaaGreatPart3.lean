/- What the functions do, part 3. -/
import Derived.Test.YtenihfdlckgmmaaGreatPart2
import Derived.Test.YtenihfdlckgmmaaGreatSetLaw
namespace Go.AMS
open Go.AM hiding Kt At WP WL Runs RunsY
open Go.AM.G
set_option linter.unusedVariables false
set_option linter.unusedSimpArgs false
set_option linter.unusedSectionVars false
set_option maxRecDepth 100000
set_option maxHeartbeats 1000000
attribute [local irreducible] AtS AtV AtC AtG FinA Spec Post LP G.At G.WP G.WL pt own fro rdl ro hx mp lrec elt sub

open Go.AM.G.Set
section
variable {h:List HTx} {T:Tb} {r:HRd} {p q p1 p2:Option Addr} {c d c1 c2 b mr mt:Nat}
theorem zk2 (h1:r.list.length≤1000):Spec prog1 zbq [.pointer (some ⟨b,0,none⟩),.agg #[.int .i64 r.txn,.int .i64 r.op,.int .i64 r.key,.slice p1 r.list.length c1,.slice p2 r.own.length c2]] [ro (tabC b T mr mt),fro (kInt .i64) p1 c1 r.list] (fun R=>R (twoV (bornL (wK T r.key) r.list)) []):=by
 refine spec_code zid rfl ?_;intro n F R hR;unfold zda
 generalize hW:wK T r.key=W at hR ⊢
 repeat' first|apply step|(apply gO;·repeat first|exact eZ|(apply eS;exact rfl))|refine Fa.mk fun _=>?_|refine g_keep ?_
 rename_i rb
 refine at_loopS (ι:=Nat) (E:=fun j=>[(0,.pointer (some ⟨b,0,none⟩)),(3,.pointer (some ⟨rb,0,none⟩)),(11,.slice p1 r.list.length c1),(12,.int .i64 (r.list.length:Int)),(13,.int .i64 (j:Int))]) (Δ:=fun j=>ro (tabC b T mr mt)::fro (kInt .i64) p1 c1 r.list::pt rb [.int .i64 r.txn,.int .i64 r.op,.int .i64 r.key,.slice p1 r.list.length c1,.slice p2 r.own.length c2] 0::F) (P:=fun j=>j≤r.list.length∧bornL W (r.list.drop j)=bornL W r.list) (μ:=fun j=>r.list.length - j) 0 ⟨Nat.zero_le _,rfl⟩ ?_
 rintro j ⟨hj,hd⟩
 try dsimp only
 rcases Nat.lt_or_ge j r.list.length with hlt|hge
 ·rw [zfO hlt] at hd
  repeat' first|apply step|(apply gO;·repeat first|exact eZ|(apply eS;exact rfl))|(refine Br.mk (fun _=>?_) (fun _=>?_)<;>try (exfalso;omega))|(refine Sd.mk ?_ ?_;·exact qD)|(refine Sx.mk ?_ ?_;·omega)|refine Im.mk fun _=>?_|refine g_cond ?_
  refine at_callR (zb3 (T:=T) (mr:=mr) (mt:=mt) (x:=r.key) (y:=r.list[j])) ?_
  rw [show aget (r.key,r.list[j]) T.wr=W r.list[j] by rw [← hW]]
  cases hw:W r.list[j] with
  | none =>
   rw [hw] at hd
   dsimp only at hd
   rw [← hd] at hR
   unfold wrO
   repeat' first|apply step|(apply gO;·repeat first|exact eZ|(apply eS;exact rfl))|refine Fa.mk fun _=>?_|apply Lw.go|refine g_cond ?_|refine g_keep ?_|refine g_fin ?_
   exact fin hR
  | some w =>
   rw [hw] at hd
   dsimp only at hd
   unfold wrO
   repeat' first|apply step|(apply gO;·repeat first|exact eZ|(apply eS;exact rfl))|(refine Sd.mk ?_ ?_;·exact qD)|refine Fa.mk fun _=>?_|apply Lw.go|refine g_cond ?_|refine g_keep ?_
   exact lp_next (j + 1) ⟨by omega,hd⟩ (by omega)
 ·rw [List.drop_eq_nil_of_le hge] at hd
  rw [← hd] at hR
  repeat' first|apply step|(apply gO;·repeat first|exact eZ|(apply eS;exact rfl))|(refine Br.mk (fun _=>?_) (fun _=>?_)<;>try (exfalso;omega))|refine g_cond ?_|refine g_keep ?_|refine g_fin ?_
  exact fin hR
theorem zh0 (h1:r.list.length≤1000) (h2:r.own.length≤1000):Spec prog1 zaI [.pointer (some ⟨b,0,none⟩),.agg #[.int .i64 r.txn,.int .i64 r.op,.int .i64 r.key,.slice p1 r.list.length c1,.slice p2 r.own.length c2]] [ro (tabC b T mr mt),fro (kInt .i64) p1 c1 r.list,fro (kInt .i64) p2 c2 r.own] (fun R=>R (twoV (innL (wK T r.key) r)) []):=by
 refine spec_code zkV rfl ?_;intro n F R hR;unfold zcf
 have hfl:=zak r
 repeat' first|apply step|(apply gO;·repeat first|exact eZ|(apply eS;exact rfl))|(refine Sd.mk ?_ ?_;·exact qD)|refine Fa.mk fun _=>?_|refine g_keep ?_
 rename_i rb
 refine at_loopS (ι:=Nat) (E:=fun j=>[(0,.pointer (some ⟨b,0,none⟩)),(3,.pointer (some ⟨rb,0,none⟩)),(6,.int .i64 ((r.list.length:Int) - (r.own.length:Int))),(21,.slice p2 r.own.length c2),(22,.int .i64 (r.own.length:Int)),(23,.int .i64 (j:Int))]) (Δ:=fun j=>ro (tabC b T mr mt)::fro (kInt .i64) p1 c1 r.list::fro (kInt .i64) p2 c2 r.own::pt rb [.int .i64 r.txn,.int .i64 r.op,.int .i64 r.key,.slice p1 r.list.length c1,.slice p2 r.own.length c2] 0::F) (P:=fun j=>j≤r.own.length∧innA r.list ((r.list.length:Int) - (r.own.length:Int)) (r.own.drop j) j=innA r.list ((r.list.length:Int) - (r.own.length:Int)) r.own 0) (μ:=fun j=>r.own.length - j) 0 ⟨Nat.zero_le _,rfl⟩ ?_
 rintro j ⟨hj,hd⟩
 try dsimp only
 rcases Nat.lt_or_ge j r.own.length with hlt|hge
 ·rw [zeK hlt] at hd
  by_cases hneg:(r.list.length:Int) - (r.own.length:Int) + (j:Int) < 0
  ·rw [if_pos (.inl hneg)] at hd
   unfold innL at hR
   rw [← hd] at hR
   repeat' first|apply step|(apply gO;·repeat first|exact eZ|(apply eS;exact rfl))|(refine Br.mk (fun _=>?_) (fun _=>?_)<;>try (exfalso;omega))|(refine Sd.mk ?_ ?_;·exact qD)|(refine Sx.mk ?_ ?_;·omega)|refine Im.mk fun _=>?_|refine g_cond ?_|refine g_guard ?_|refine g_keep ?_|refine g_fin ?_
   all_goals first|exact fin hR|(exfalso;omega)
  ·have hix:((r.list.length:Int) - (r.own.length:Int) + (j:Int)).toNat < r.list.length:=by omega
   by_cases he:r.list[((r.list.length:Int) - (r.own.length:Int) + (j:Int)).toNat]'hix=r.own[j]
   ·rw [if_neg (fun q=>by rcases q with q|q;exact hneg q;exact q (by rw [List.getElem?_eq_getElem hix,he]))] at hd
    repeat' first|apply step|(apply gO;·repeat first|exact eZ|(apply eS;exact rfl))|(refine Br.mk (fun _=>?_) (fun _=>?_)<;>try (exfalso;omega))|(refine Sd.mk ?_ ?_;·exact qD)|(refine Sx.mk ?_ ?_;·omega)|refine Im.mk fun _=>?_|refine g_cond ?_|refine g_guard ?_|refine g_keep ?_
    all_goals first|exact lp_next (j + 1) ⟨by omega,hd⟩ (by omega)|(exfalso;omega)
   ·rw [if_pos (.inr (fun q=>he (Option.some.inj (by rw [← q,List.getElem?_eq_getElem hix]))))] at hd
    unfold innL at hR
    rw [← hd] at hR
    repeat' first|apply step|(apply gO;·repeat first|exact eZ|(apply eS;exact rfl))|(refine Br.mk (fun _=>?_) (fun _=>?_)<;>try (exfalso;omega))|(refine Sd.mk ?_ ?_;·exact qD)|(refine Sx.mk ?_ ?_;·omega)|refine Im.mk fun _=>?_|refine g_cond ?_|refine g_guard ?_|refine g_keep ?_|refine g_fin ?_
    all_goals first|exact fin hR|(exfalso;omega)
 ·rw [List.drop_eq_nil_of_le hge] at hd
  unfold innL at hR
  rw [← hd] at hR
  dsimp only [innA] at hR
  unfold innB at hR
  repeat' first|apply step|(apply gO;·repeat first|exact eZ|(apply eS;exact rfl))|(refine Br.mk (fun _=>?_) (fun _=>?_)<;>try (exfalso;omega))|refine g_cond ?_|refine g_keep ?_
  refine at_callS (zeC (r:=r) (by omega) (by omega)) ?_
  intro p3 c3
  generalize hW:wK T r.key=W at hR ⊢
  generalize frontL r=l at hR hfl ⊢
  repeat' first|apply step|(apply gO;·repeat first|exact eZ|(apply eS;exact rfl))|refine g_keep ?_
  refine at_loopS (ι:=Nat) (E:=fun j=>[(0,.pointer (some ⟨b,0,none⟩)),(3,.pointer (some ⟨rb,0,none⟩)),(46,.slice p3 l.length c3),(47,.int .i64 (l.length:Int)),(48,.int .i64 (j:Int))]) (Δ:=fun j=>own (kInt .i64) p3 c3 l::ro (tabC b T mr mt)::pt rb [.int .i64 r.txn,.int .i64 r.op,.int .i64 r.key,.slice p1 r.list.length c1,.slice p2 r.own.length c2] 0::F) (P:=fun j=>j≤l.length∧(l.drop j).find? (fun x=>decide (txZ (W x)=r.txn))=l.find? (fun x=>decide (txZ (W x)=r.txn))) (μ:=fun j=>l.length - j) 0 ⟨Nat.zero_le _,rfl⟩ ?_
  rintro k ⟨hk,hd2⟩
  try dsimp only
  rcases Nat.lt_or_ge k l.length with hlt|hge2
  ·rw [List.drop_eq_getElem_cons hlt,List.find?_cons] at hd2
   repeat' first|apply step|(apply gO;·repeat first|exact eZ|(apply eS;exact rfl))|(refine Br.mk (fun _=>?_) (fun _=>?_)<;>try (exfalso;omega))|(refine Sd.mk ?_ ?_;·exact qD)|(refine Sx.mk ?_ ?_;·omega)|refine Im.mk fun _=>?_|refine g_cond ?_
   refine at_callR (zb3 (T:=T) (mr:=mr) (mt:=mt) (x:=r.key) (y:=l[k])) ?_
   rw [show aget (r.key,l[k]) T.wr=W l[k] by rw [← hW]]
   cases hw:W l[k] with
   | none =>
    rw [hw] at hd2
    unfold wrO
    by_cases h0:(0:Int)=r.txn
    ·rw [show decide (txZ none=r.txn)=true from decide_eq_true h0] at hd2
     rw [← hd2] at hR
     repeat' first|apply step|(apply gO;·repeat first|exact eZ|(apply eS;exact rfl))|(refine Br.mk (fun _=>?_) (fun _=>?_)<;>try (exfalso;omega))|refine Fa.mk fun _=>?_|apply Lw.go|refine g_cond ?_|refine g_keep ?_|refine g_fin ?_
     all_goals first|exact fin hR|(exfalso;omega)
    ·rw [show decide (txZ none=r.txn)=false from decide_eq_false h0] at hd2
     repeat' first|apply step|(apply gO;·repeat first|exact eZ|(apply eS;exact rfl))|(refine Br.mk (fun _=>?_) (fun _=>?_)<;>try (exfalso;omega))|(refine Sd.mk ?_ ?_;·exact qD)|refine Fa.mk fun _=>?_|apply Lw.go|refine g_cond ?_|refine g_keep ?_
     all_goals first|exact lp_next (k + 1) ⟨by omega,hd2⟩ (by omega)|(exfalso;omega)
   | some w =>
    rw [hw] at hd2
    unfold wrO
    by_cases h0:w.txn=r.txn
    ·rw [show decide (txZ (some w)=r.txn)=true from decide_eq_true h0] at hd2
     rw [← hd2] at hR
     repeat' first|apply step|(apply gO;·repeat first|exact eZ|(apply eS;exact rfl))|(refine Br.mk (fun _=>?_) (fun _=>?_)<;>try (exfalso;omega))|refine Fa.mk fun _=>?_|apply Lw.go|refine g_cond ?_|refine g_keep ?_|refine g_fin ?_
     all_goals first|exact fin hR|(exfalso;omega)
    ·rw [show decide (txZ (some w)=r.txn)=false from decide_eq_false h0] at hd2
     repeat' first|apply step|(apply gO;·repeat first|exact eZ|(apply eS;exact rfl))|(refine Br.mk (fun _=>?_) (fun _=>?_)<;>try (exfalso;omega))|(refine Sd.mk ?_ ?_;·exact qD)|refine Fa.mk fun _=>?_|apply Lw.go|refine g_cond ?_|refine g_keep ?_
     all_goals first|exact lp_next (k + 1) ⟨by omega,hd2⟩ (by omega)|(exfalso;omega)
  ·rw [List.drop_eq_nil_of_le hge2] at hd2
   rw [← hd2] at hR
   repeat' first|apply step|(apply gO;·repeat first|exact eZ|(apply eS;exact rfl))|(refine Br.mk (fun _=>?_) (fun _=>?_)<;>try (exfalso;omega))|refine g_cond ?_|refine g_keep ?_|refine g_fin ?_
   exact fin hR
theorem zle (h1:r.list.length≤1000) (h2:r.own.length≤1000):Spec prog1 zbn [.pointer (some ⟨b,0,none⟩),.agg #[.int .i64 r.txn,.int .i64 r.op,.int .i64 r.key,.slice p1 r.list.length c1,.slice p2 r.own.length c2]] [ro (tabC b T mr mt),fro (kInt .i64) p1 c1 r.list,fro (kInt .i64) p2 c2 r.own] (fun R=>R (.tuple #[.int .i64 (kindL (wK T r.key) r).1,.int .i64 (kindL (wK T r.key) r).2]) []):=by
 refine spec_code zhm rfl ?_;intro n F R hR;unfold zcG
 unfold kindL at hR
 repeat' first|apply step|(apply gO;·repeat first|exact eZ|(apply eS;exact rfl))|refine Fa.mk fun _=>?_
 refine at_callR (zkU (l:=r.list) h1) ?_
 cases ht:twL [] r.list with
 | some x =>
  rw [ht] at hR
  unfold twoV
  repeat' first|apply step|(apply gO;·repeat first|exact eZ|(apply eS;exact rfl))|apply Lw.go|refine g_cond ?_|refine g_keep ?_|refine g_fin ?_
  exact fin hR
 | none =>
  rw [ht] at hR
  unfold twoV
  repeat' first|apply step|(apply gO;·repeat first|exact eZ|(apply eS;exact rfl))|apply Lw.go|refine g_cond ?_|refine g_keep ?_
  refine at_callR (zk2 (T:=T) (r:=r) h1) ?_
  cases hb:bornL (wK T r.key) r.list with
  | some x =>
   rw [hb] at hR
   unfold twoV
   repeat' first|apply step|(apply gO;·repeat first|exact eZ|(apply eS;exact rfl))|apply Lw.go|refine g_cond ?_|refine g_keep ?_|refine g_fin ?_
   exact fin hR
  | none =>
   rw [hb] at hR
   unfold twoV
   repeat' first|apply step|(apply gO;·repeat first|exact eZ|(apply eS;exact rfl))|apply Lw.go|refine g_cond ?_|refine g_keep ?_
   refine at_callR (zh0 (T:=T) (r:=r) h1 h2) ?_
   cases hi:innL (wK T r.key) r with
   | some x =>
    rw [hi] at hR
    unfold twoV
    repeat' first|apply step|(apply gO;·repeat first|exact eZ|(apply eS;exact rfl))|apply Lw.go|refine g_cond ?_|refine g_keep ?_|refine g_fin ?_
    exact fin hR
   | none =>
    rw [hi] at hR
    unfold twoV
    repeat' first|apply step|(apply gO;·repeat first|exact eZ|(apply eS;exact rfl))|apply Lw.go|refine g_cond ?_|refine g_keep ?_|refine g_fin ?_
    exact fin hR
end
end Go.AMS

namespace Go.AMS
open Go.AM hiding Kt At WP WL Runs RunsY
open Go.AM.G
open Go.AM.G.Set
set_option linter.unusedVariables false
set_option linter.unusedSectionVars false
set_option linter.unusedSimpArgs false
section
variable {α κ:Type} [DecidableEq κ] {K:Kind α} {k:κ} {Z:List (LE κ α)} {Γ F:List HP}
theorem zgf {p:Option Addr} {c:Nat} {l:List α}:Ent (ro (fro K p c l)::Γ) (fro K p c l::Γ):=.one fun h s ⟨⟨s',h1,hf⟩,hs⟩=>⟨s,⟨h1.1,hs⟩,fun b hb=>hb⟩
theorem takeFR:Ent (ro (alls (froE K) Z)::Γ) (fro K (atE k Z).2.1 (atE k Z).2.2 (atE k Z).1::Γ):=(zhO takeF).trans zgf
end
end Go.AMS

namespace Go.AMS
open Go.AM hiding Kt At WP WL Runs RunsY
open Go.AM.G
set_option linter.unusedVariables false
set_option linter.unusedSimpArgs false
set_option linter.unusedSectionVars false
set_option maxRecDepth 100000
set_option maxHeartbeats 1000000
attribute [local irreducible] AtS AtV AtC AtG FinA Spec Post LP G.At G.WP G.WL pt own fro rdl ro hx mp lrec elt sub

open Go.AM.G.Set
section
variable {T:Tb} {p q:Option Addr} {c d b mr mt:Nat}
theorem zgn {y:Int}:Spec prog1 zaE [.pointer (some ⟨b,0,none⟩),.int .i64 y] [ro (tabC b T mr mt),ro (mapF mr kI kHRd T.rd)] (fun R=>∀ x p' c',R (.func (.func zD) #[] #[.pointer (some ⟨x,0,none⟩)]) [pt x [.slice p' (agl y T.rd).length c'] 0,fro kHRd p' c' (agl y T.rd)]):=by
 refine spec_code zi8 rfl ?_;intro n F R hR;unfold zc1
 refine at_openRP (tabC b T mr mt) rfl ?_
 rintro ⟨⟨⟨pi,ci⟩,⟨pk,ck⟩⟩,⟨mw,ma⟩⟩ -
 try dsimp only
 refine at_openRP (mapF mr kI kHRd T.rd) rfl ?_
 rintro Z hZ
 try dsimp only
 have hal:=zah (k:=y) hZ
 repeat' first|apply step|(apply gO;·repeat first|exact eZ|(apply eS;exact rfl))
 refine at_callR (zd8) ?_
 repeat' first|apply step|(apply gO;·repeat first|exact eZ|(apply eS;exact rfl))|apply Lw.go|refine g_cond ?_
 refine zbt (enc:=kI) (k:=y) inferInstance ?_
 refine at_via (takeFR (K:=kHRd) (k:=y) (Z:=Z)) ?_
 rw [hal]
 repeat' first|apply step|(apply gO;·repeat first|exact eZ|(apply eS;exact rfl))
 refine at_callS (zhU) ?_
 intro x
 repeat' first|apply step|(apply gO;·repeat first|exact eZ|(apply eS;exact rfl))|refine g_keep ?_|refine g_fin ?_
 exact fin (hR _ _ _)
theorem zl5 {y:Int}:Spec prog1 za3 [.pointer (some ⟨b,0,none⟩),.int .i64 y] [ro (tabC b T mr mt),ro (mapF mt kI kHWr T.wt)] (fun R=>∀ x p' c',R (.func (.func zE) #[] #[.pointer (some ⟨x,0,none⟩)]) [pt x [.slice p' (agl y T.wt).length c'] 0,fro kHWr p' c' (agl y T.wt)]):=by
 refine spec_code zh1 rfl ?_;intro n F R hR;unfold zcS
 refine at_openRP (tabC b T mr mt) rfl ?_
 rintro ⟨⟨⟨pi,ci⟩,⟨pk,ck⟩⟩,⟨mw,ma⟩⟩ -
 try dsimp only
 refine at_openRP (mapF mt kI kHWr T.wt) rfl ?_
 rintro Z hZ
 try dsimp only
 have hal:=zah (k:=y) hZ
 repeat' first|apply step|(apply gO;·repeat first|exact eZ|(apply eS;exact rfl))
 refine at_callR (zd8) ?_
 repeat' first|apply step|(apply gO;·repeat first|exact eZ|(apply eS;exact rfl))|apply Lw.go|refine g_cond ?_
 refine zbt (enc:=kI) (k:=y) inferInstance ?_
 refine at_via (takeFR (K:=kHWr) (k:=y) (Z:=Z)) ?_
 rw [hal]
 repeat' first|apply step|(apply gO;·repeat first|exact eZ|(apply eS;exact rfl))
 refine at_callS (zlC) ?_
 intro x
 repeat' first|apply step|(apply gO;·repeat first|exact eZ|(apply eS;exact rfl))|refine g_keep ?_|refine g_fin ?_
 exact fin (hR _ _ _)
theorem zeg {L:List HRd} {key:Int} {x y ly:Nat} {A:Nat→HP} {B:AX→HP} (hL:agl key T.rd=L) (hll:L.length≤100000) (hl:∀ r ∈ L,(r.list.length≤1000∧r.own.length≤1000)∧r.key=key) (hy:∀ i,i < (soundL (wK T key) L).length→∀ w:wR,YSpec prog1 ly (vaRead w (soundL (wK T key) L)[i]?) (A i::paRead w (soundL (wK T key) L)[i]?) (fun R=>R (.bool true) [A (i + 1)]∧∀ x,x≠.norm→R (.bool false) [B x])) :
  Spec prog1 zab [.func (.yield ly) #[] #[],.pointer (some ⟨x,0,none⟩),.pointer (some ⟨y,0,none⟩)] [A 0,pt x [.pointer (some ⟨b,0,none⟩)] 0,pt y [.int .i64 key] 0,ro (tabC b T mr mt),ro (mapF mr kI kHRd T.rd)] (fun R=>(∀ v,R v [A (soundL (wK T key) L).length])∧∀ x v,x≠.norm→R v [B x]):=by
 refine spec_code zhK rfl ?_;intro n F R hR;unfold zbL
 generalize hW:wK T key=W at hR hy
 repeat' first|apply step|(apply gO;·repeat first|exact eZ|(apply eS;exact rfl))|refine Fa.mk fun _=>?_
 refine at_callR (zgn (T:=T) (mr:=mr) (mt:=mt) (y:=key)) ?_
 intro xr pr cr
 rw [hL]
 repeat' first|apply step|apply Lw.go
 rename_i fb
 obtain ⟨I,hI⟩:∃ I:Nat→HP,∀ i,I i=hx fun (_:Unit)=>(True,[A (soundL W (L.take i)).length,ro (tabC b T mr mt),pt x [.pointer (some ⟨b,0,none⟩)] 0,pt fb [.func (.yield ly) #[] #[]] 0]):=⟨_,fun _=>rfl⟩
 obtain ⟨J,hJ⟩:∃ J:AX→HP,∀ ax,J ax=hx fun (x0:AX)=>(ax=.ret∧x0≠.norm,[B x0]):=⟨_,fun _=>rfl⟩
 refine at_foldP (I 0) (hI 0) () trivial ?_
 refine at_rfunSD (I:=I) (J:=J) (Po:=[]) L.length (fun i (d:wR)=>vaRead d L[i]?) (fun i d=>paRead d L[i]?) (fun ly A B h=>zl3 (l:=L) (by omega) h) (fun i hi d=>by rw [List.getElem?_eq_getElem hi];rfl) ?_ ?_ ?_
 ·intro i hi d ly2 m F'
  rw [List.getElem?_eq_getElem hi]
  obtain ⟨⟨k1,k2⟩,k3⟩:=hl L[i] (List.getElem_mem hi)
  have hnx:=zf7 (W:=W) hi
  have hWr:wK T L[i].key=W:=by rw [k3,hW]
  dsimp only [vaRead,paRead,List.cons_append,List.nil_append]
  refine at_openP (I i) (hI i) ?_
  intro u hu
  dsimp only [List.cons_append,List.nil_append]
  repeat' first|apply step|(apply gO;·repeat first|exact eZ|(apply eS;exact rfl))|refine Fa.mk fun _=>?_
  refine at_callR (zle (T:=T) (mr:=mr) (mt:=mt) (r:=L[i]) k1 k2) ?_
  rw [hWr]
  by_cases hs:(kindL W L[i]).1=0
  ·have hsb:soundB W L[i]=true:=decide_eq_true hs
   rw [if_pos hsb] at hnx
   have hat:=zhx hi hsb
   have hyi:=hy (soundL W (L.take i)).length (List.getElem?_eq_some_iff.1 hat).1 d
   rw [hat] at hyi
   dsimp only [vaRead,paRead] at hyi
   have hlen:(soundL W (L.take (i + 1))).length=(soundL W (L.take i)).length + 1:=by rw [hnx,List.length_append];rfl
   repeat' first|apply step|(apply gO;·repeat first|exact eZ|(apply eS;exact rfl))|(refine Br.mk (fun _=>?_) (fun _=>?_)<;>try (exfalso;omega))|apply Lw.go|refine g_guard ?_|refine g_keep ?_
   refine at_callY hyi ⟨?_,fun x0 hx0=>?_⟩
   ·repeat' first|apply step|(apply gO;·repeat first|exact eZ|(apply eS;exact rfl))|refine g_cond ?_|refine g_guard ?_|refine g_keep ?_
    rw [← hlen]
    refine at_foldP (I (i + 1)) (hI _) () trivial ?_
    exact y_next
   ·repeat' first|apply step|(apply gO;·repeat first|exact eZ|(apply eS;exact rfl))|refine g_cond ?_|refine g_guard ?_|refine g_keep ?_
    refine at_foldP (J .ret) (hJ _) x0 ⟨rfl,hx0⟩ ?_
    exact y_exit
  ·have hsb:soundB W L[i]=false:=decide_eq_false hs
   rw [hsb] at hnx
   simp only [Bool.false_eq_true,if_false,List.append_nil] at hnx
   repeat' first|apply step|(apply gO;·repeat first|exact eZ|(apply eS;exact rfl))|(refine Br.mk (fun _=>?_) (fun _=>?_)<;>try (exfalso;omega))|apply Lw.go|refine g_cond ?_|refine g_guard ?_|refine g_keep ?_
   rw [← hnx]
   refine at_foldP (I (i + 1)) (hI _) () trivial ?_
   exact y_next
 ·refine at_openP (I _) (hI _) ?_
  intro u hu
  dsimp only [List.cons_append,List.nil_append]
  rw [List.take_length]
  repeat' first|apply step|refine g_fin ?_
  exact fin (hR.1 _)
 ·intro ax hax
  refine at_openP (J ax) (hJ ax) ?_
  rintro x0 ⟨hx1,hx2⟩
  dsimp only [List.cons_append,List.nil_append]
  subst hx1
  repeat' first|apply step|refine g_fin ?_
  exact fin (hR.2 x0 _ hx2)
end
end Go.AMS

namespace Go.AMS
open Go.AM hiding Kt At WP WL Runs RunsY
open Go.AM.G
set_option linter.unusedVariables false
set_option linter.unusedSimpArgs false
set_option linter.unusedSectionVars false
set_option maxRecDepth 100000
set_option maxHeartbeats 1000000
attribute [local irreducible] AtS AtV AtC AtG FinA Spec Post LP G.At G.WP G.WL pt own fro rdl ro hx mp lrec elt sub

open Go.AM.G.Set
section
variable {h:List HTx} {r:HRd} {p q p1 p2 p3:Option Addr} {c d c1 c2 c3 b:Nat}
theorem zdZ {W:Wf} (l:List HRd):(soundL W l).length≤l.length:=List.length_filter_le _ _
theorem zf1 {key:Int} (hf:FewH h 20 60) (hk:OkH h):Spec prog1 zam [.agg #[.slice p h.length c],.int .i64 key] [fro kHTx p c h] (fun R=>∀ p' c',R (.slice p' (soundL (wK (TH h) key) (rdK h key)).length c') [own kHRd p' c' (soundL (wK (TH h) key) (rdK h key))]):=by
 refine spec_code ziA rfl ?_;intro n F R hR;unfold zdq
 have hL1:(rdK h key).length≤1200:=zbS hf hk.m key
 have hL2:=zeu hf hk.m key
 have hRd:Spec prog1 zan [.agg #[.slice p h.length c],.int .i64 key] [fro kHTx p c h] (fun R=>∀ p' c',R (.slice p' (rdK h key).length c') [own kHRd p' c' (rdK h key)]):=zkI hf hk.m
 change ∀ r ∈ rdK h key,_ at hL2
 repeat' first|apply step|(apply gO;·repeat first|exact eZ|(apply eS;exact rfl))|refine Fa.mk fun _=>?_
 rename_i hb
 refine at_callS (hRd) ?_
 intro pa ca
 generalize rdK h key=L at hR hL1 hL2 ⊢
 generalize hW:wK (TH h) key=W at hR
 repeat' first|apply step|(apply gO;·repeat first|exact eZ|(apply eS;exact rfl))|refine g_keep ?_
 refine at_loopS (ι:=Nat × (Option Addr × Nat)) (E:=fun z=>[(2,.pointer (some ⟨hb,0,none⟩)),(5,.slice z.2.1 (soundL W (L.take z.1)).length z.2.2),(6,.slice pa L.length ca),(7,.int .i64 (z.1:Int))]) (Δ:=fun z=>own kHRd z.2.1 z.2.2 (soundL W (L.take z.1))::own kHRd pa ca L::pt hb [.slice p h.length c] 0::fro kHTx p c h::F) (P:=fun z=>z.1≤L.length) (μ:=fun z=>L.length - z.1) (0,(none,0)) (Nat.zero_le _) ?_
 rintro ⟨k,p1,c1⟩ hk1
 dsimp only at hk1 ⊢
 have hO:(soundL W (L.take k)).length≤1200:=Nat.le_trans (zdZ _) (by rw [List.length_take];omega)
 rcases Nat.lt_or_ge k L.length with hlt|hge
 ·obtain ⟨⟨k1,k2⟩,⟨k3,k4⟩,⟨k5,k6⟩,k7⟩:=hL2 L[k] (List.getElem_mem hlt)
  have hnx:=zf7 (W:=W) hlt
  have hWr:wK (TH h) L[k].key=W:=by rw [k7,hW]
  generalize soundL W (L.take k)=O at hnx hO ⊢
  repeat' first|apply step|(apply gO;·repeat first|exact eZ|(apply eS;exact rfl))|(refine Br.mk (fun _=>?_) (fun _=>?_)<;>try (exfalso;omega))|(refine Sd.mk ?_ ?_;·exact qD)|(refine Sx.mk ?_ ?_;·omega)|refine Fa.mk fun _=>?_|refine Im.mk fun _=>?_|refine g_cond ?_
  refine at_callS (zlm (r:=L[k]) hf hk k1 k2) ?_
  rw [hWr]
  by_cases hs:(kindL W L[k]).1=0
  ·rw [if_pos (show soundB W L[k]=true from decide_eq_true hs)] at hnx
   rw [show [L[k]]=[(⟨L[k].txn,L[k].op,L[k].key,L[k].list,L[k].own⟩:HRd)] from rfl] at hnx
   repeat' first|apply step|(apply gO;·repeat first|exact eZ|(apply eS;exact rfl))|(refine Br.mk (fun _=>?_) (fun _=>?_)<;>try (exfalso;omega))|(refine Sd.mk ?_ ?_;·exact qD)|(refine Sx.mk ?_ ?_;·omega)|refine Fa.mk fun _=>?_|refine Im.mk fun _=>?_|refine g_cond ?_|refine g_keep ?_
   all_goals first|(exfalso;omega)|exact lp_next (k + 1,_,_) (by dsimp only;omega) (by dsimp only;omega) (by dsimp only;rw [hnx]) (by dsimp only;rw [hnx];repeat first|exact Ent.refl _|(apply Ent.more;· repeat first|exact Ent.keep|exact Ent.here|exact Ent.lend|exact ent_nil|apply Ent.there)|apply Ent.drop)
  ·rw [if_neg (show ¬ soundB W L[k]=true from fun q=>hs (of_decide_eq_true q)),List.append_nil] at hnx
   repeat' first|apply step|(apply gO;·repeat first|exact eZ|(apply eS;exact rfl))|(refine Br.mk (fun _=>?_) (fun _=>?_)<;>try (exfalso;omega))|(refine Sd.mk ?_ ?_;·exact qD)|refine g_cond ?_|refine g_keep ?_
   all_goals first|(exfalso;omega)|exact lp_next (k + 1,_,_) (by dsimp only;omega) (by dsimp only;omega) (by dsimp only;rw [hnx]) (by dsimp only;rw [hnx];repeat first|exact Ent.refl _|(apply Ent.more;· repeat first|exact Ent.keep|exact Ent.here|exact Ent.lend|exact ent_nil|apply Ent.there)|apply Ent.drop)
 ·rw [List.take_of_length_le hge]
  repeat' first|apply step|(apply gO;·repeat first|exact eZ|(apply eS;exact rfl))|(refine Br.mk (fun _=>?_) (fun _=>?_)<;>try (exfalso;omega))|refine g_cond ?_|refine g_keep ?_|refine g_fin ?_
  exact fin (hR p1 c1)
end
end Go.AMS

namespace Go.AMS
open Go.AM hiding Kt At WP WL Runs RunsY
open Go.AM.G
set_option linter.unusedVariables false
set_option linter.unusedSimpArgs false
set_option linter.unusedSectionVars false
set_option maxRecDepth 100000
set_option maxHeartbeats 1000000
attribute [local irreducible] AtS AtV AtC AtG FinA Spec Post LP G.At G.WP G.WL pt own fro rdl ro hx mp lrec elt sub

open Go.AM.G.Set
section
variable {h:List HTx} {T:Tb} {r:HRd} {p q p1 p2 p3:Option Addr} {c d c1 c2 c3 b mr mt tb rb:Nat}
/-- Whether a value is an aborted transaction's. -/
def abW (W:Wf) (x:Int):Bool:=match W x with
 | some w=>w.ab
 | none=>false
def cleanL (W:Wf) (l:List Int):List Int:=l.filter fun x=>!abW W x
theorem zeU {x:Int}:Spec prog1 zp [.int .i64 x,.pointer (some ⟨tb,0,none⟩),.pointer (some ⟨rb,0,none⟩)] [ro (pt tb [.pointer (some ⟨b,0,none⟩)] 0),ro (pt rb [.int .i64 r.txn,.int .i64 r.op,.int .i64 r.key,.slice p1 r.list.length c1,.slice p2 r.own.length c2] 0),ro (tabC b T mr mt)] (fun R=>R (.bool (abW (wK T r.key) x)) []):=by
 refine spec_code zhG rfl ?_;intro n F R hR;unfold zdx
 repeat' first|apply step|(apply gO;·repeat first|exact eZ|(apply eS;exact rfl))
 refine at_callR (zb3 (T:=T) (mr:=mr) (mt:=mt) (x:=r.key) (y:=x)) ?_
 rw [show aget (r.key,x) T.wr=wK T r.key x from rfl]
 unfold abW at hR
 cases hw:wK T r.key x with
 | none =>
  rw [hw] at hR
  unfold wrO
  repeat' first|apply step|(apply gO;·repeat first|exact eZ|(apply eS;exact rfl))|refine Fa.mk fun _=>?_|apply Lw.go|refine g_keep ?_|refine g_fin ?_
  exact fin hR
 | some w =>
  rw [hw] at hR
  unfold wrO
  repeat' first|apply step|(apply gO;·repeat first|exact eZ|(apply eS;exact rfl))|refine Fa.mk fun _=>?_|apply Lw.go|refine g_keep ?_|refine g_fin ?_
  exact fin hR
theorem zhQ {l:List Int} (hl:l.length≤1000):Spec prog1 zF [.slice p l.length c,.func (.func zp) #[] #[.pointer (some ⟨tb,0,none⟩),.pointer (some ⟨rb,0,none⟩)]] [rdl (kInt .i64) p l,ro (pt tb [.pointer (some ⟨b,0,none⟩)] 0),ro (pt rb [.int .i64 r.txn,.int .i64 r.op,.int .i64 r.key,.slice p1 r.list.length c1,.slice p2 r.own.length c2] 0),ro (tabC b T mr mt)] (fun R=>(∀ k (hk:k < l.length),abW (wK T r.key) l[k]=true→(∀ i (hi:i < l.length),i < k→abW (wK T r.key) l[i]=false)→R (.int .i64 (k:Int)) [])∧((∀ i (hi:i < l.length),abW (wK T r.key) l[i]=false)→R (.int .i64 (-1)) [])):=by
 refine spec_code zeB rfl ?_;intro n F R hR;unfold zaZ
 obtain ⟨hR1,hR2⟩:=hR
 repeat' first|apply step|(apply gO;·repeat first|exact eZ|(apply eS;exact rfl))|refine g_keep ?_
 refine at_loopS (ι:=Nat) (E:=fun j=>[(0,.slice p l.length c),(1,.func (.func zp) #[] #[.pointer (some ⟨tb,0,none⟩),.pointer (some ⟨rb,0,none⟩)]),(7,.int .i64 (l.length:Int)),(8,.int .i64 (j:Int))]) (Δ:=fun j=>rdl (kInt .i64) p l::ro (pt tb [.pointer (some ⟨b,0,none⟩)] 0)::ro (pt rb [.int .i64 r.txn,.int .i64 r.op,.int .i64 r.key,.slice p1 r.list.length c1,.slice p2 r.own.length c2] 0)::ro (tabC b T mr mt)::F) (P:=fun j=>j≤l.length∧∀ i (hi:i < l.length),i < j→abW (wK T r.key) l[i]=false) (μ:=fun j=>l.length - j) 0 ⟨Nat.zero_le _,fun _ _ q=>absurd q (Nat.not_lt_zero _)⟩ ?_
 rintro j ⟨hj,hne⟩
 try dsimp only
 rcases Nat.lt_or_ge j l.length with hlt|hge
 ·repeat' first|apply step|(apply gO;·repeat first|exact eZ|(apply eS;exact rfl))|(refine Br.mk (fun _=>?_) (fun _=>?_)<;>try (exfalso;omega))|(refine Sd.mk ?_ ?_;·exact qD)|(refine Sx.mk ?_ ?_;·omega)|refine Im.mk fun _=>?_|refine g_cond ?_
  refine at_callR (zeU (T:=T) (r:=r) (b:=b) (mr:=mr) (mt:=mt) (tb:=tb) (rb:=rb) (p1:=p1) (c1:=c1) (p2:=p2) (c2:=c2) (x:=l[j])) ?_
  cases hab:abW (wK T r.key) l[j] with
  | true =>
   repeat' first|apply step|(apply gO;·repeat first|exact eZ|(apply eS;exact rfl))|apply Lw.go|refine g_cond ?_|refine g_fin ?_
   exact fin (hR1 j hlt hab hne)
  | false =>
   repeat' first|apply step|(apply gO;·repeat first|exact eZ|(apply eS;exact rfl))|(refine Sd.mk ?_ ?_;·exact qD)|apply Lw.go|refine g_cond ?_|refine g_keep ?_
   exact lp_next (j + 1) ⟨by omega,fun i hi hij=>(Nat.lt_or_ge i j).elim (fun q=>hne i hi q) (fun q=>by have e:i=j:=(by omega);subst e;exact hab)⟩ (by omega)
 ·repeat' first|apply step|(apply gO;·repeat first|exact eZ|(apply eS;exact rfl))|(refine Br.mk (fun _=>?_) (fun _=>?_)<;>try (exfalso;omega))|refine g_cond ?_|refine g_keep ?_|refine g_fin ?_
  exact fin (hR2 fun i hi=>hne i hi (by omega))
theorem zlO {α:Type} {l:List α} {i:Nat} {v:α} (hi:i < l.length):(l.set i v).take (i + 1)=l.take i++[v]:=by
 rw [List.take_succ_eq_append_getElem (by rw [List.length_set];exact hi),List.take_set_of_le (Nat.le_refl _),List.getElem_set_self]
theorem ziD {α:Type} {l:List α} {i j:Nat} {v:α} (hi:i < j):(l.set i v).drop j=l.drop j:=List.drop_set_of_lt hi
theorem zfP {α:Type} {g:α→Bool} {l:List α} (h:∀ i (hi:i < l.length),g l[i]=true):l.filter g=l:=List.filter_eq_self.2 fun x hx=>by
 obtain ⟨i,hi,rfl⟩:=List.getElem_of_mem hx
 exact h i hi
theorem zgy {l:List Int} (hl:l.length≤1000):Spec prog1 zbw [.slice p l.length c,.func (.func zp) #[] #[.pointer (some ⟨tb,0,none⟩),.pointer (some ⟨rb,0,none⟩)]] [own (kInt .i64) p c l,pt tb [.pointer (some ⟨b,0,none⟩)] 0,pt rb [.int .i64 r.txn,.int .i64 r.op,.int .i64 r.key,.slice p1 r.list.length c1,.slice p2 r.own.length c2] 0,ro (tabC b T mr mt)] (fun R=>(cleanL (wK T r.key) l=l→R (.slice p l.length c) [own (kInt .i64) p c l])∧∀ cur n,n≤cur.length→cur.take n=cleanL (wK T r.key) l→R (.slice p n n) [own (kInt .i64) p c cur]):=by
 refine spec_code zlJ rfl ?_;intro n F R hR;unfold zcF
 obtain ⟨hR1,hR2⟩:=hR
 repeat' first|apply step|(apply gO;·repeat first|exact eZ|(apply eS;exact rfl))
 refine at_callR (zhQ (T:=T) (r:=r) (b:=b) (mr:=mr) (mt:=mt) (tb:=tb) (rb:=rb) (p1:=p1) (c1:=c1) (p2:=p2) (c2:=c2) (l:=l) hl) ?_
 refine ⟨fun k hk hab hne=>?_,fun hne=>?_⟩
 ·repeat' first|apply step|(apply gO;·repeat first|exact eZ|(apply eS;exact rfl))|(refine Br.mk (fun _=>?_) (fun _=>?_)<;>try (exfalso;omega))|(refine Sd.mk ?_ ?_;·exact qD)|apply Lw.go|refine g_cond ?_|refine g_keep ?_
  have hinit:l.take k=(l.take (k + 1)).filter fun x=>!abW (wK T r.key) x:=by
   have h1:(l.take k).filter (fun x=>!abW (wK T r.key) x)=l.take k:=zfP fun i hi=>by
    rw [List.length_take] at hi
    rw [List.getElem_take,hne i (by omega) (by omega)];rfl
   rw [List.take_succ_eq_append_getElem hk,List.filter_append,h1]
   simp [hab]
  refine at_loopS (ι:=Nat × Nat × List Int) (E:=fun z=>[(0,.slice p l.length c),(1,.func (.func zp) #[] #[.pointer (some ⟨tb,0,none⟩),.pointer (some ⟨rb,0,none⟩)]),(5,.int .i64 (z.2.1:Int)),(6,.int .i64 (z.1:Int))]) (Δ:=fun z=>own (kInt .i64) p c z.2.2::pt tb [.pointer (some ⟨b,0,none⟩)] 0::pt rb [.int .i64 r.txn,.int .i64 r.op,.int .i64 r.key,.slice p1 r.list.length c1,.slice p2 r.own.length c2] 0::ro (tabC b T mr mt)::F) (P:=fun z=>z.1≤l.length∧z.2.1 < z.1∧z.2.2.length=l.length∧z.2.2.take z.2.1=(l.take z.1).filter (fun x=>!abW (wK T r.key) x)∧z.2.2.drop z.1=l.drop z.1) (μ:=fun z=>l.length - z.1) (k + 1,k,l) ⟨by dsimp only;omega,by dsimp only;omega,rfl,hinit,rfl⟩ ?_
  rintro ⟨j,i,cur⟩ ⟨hj,hij,hcl,hct,hcd⟩
  dsimp only at hj hij hcl hct hcd ⊢
  rcases Nat.lt_or_ge j l.length with hlt|hge
  ·have hjc:j < cur.length:=by omega
   have hcj:cur[j]=l[j]:=by
    rw [List.drop_eq_getElem_cons hjc,List.drop_eq_getElem_cons hlt] at hcd
    exact (List.cons.inj hcd).1
   have hcd2:cur.drop (j + 1)=l.drop (j + 1):=by
    rw [List.drop_eq_getElem_cons hjc,List.drop_eq_getElem_cons hlt] at hcd
    exact (List.cons.inj hcd).2
   have hnx:=zct (q:=fun x=>!abW (wK T r.key) x) hlt
   repeat' first|apply step|(apply gO;·repeat first|exact eZ|(apply eS;exact rfl))|(refine Br.mk (fun _=>?_) (fun _=>?_)<;>try (exfalso;omega))|(refine Sd.mk ?_ ?_;·exact qD)|(refine Sx.mk ?_ ?_;·omega)|refine Im.mk fun _=>?_|refine g_cond ?_
   refine at_callR (zeU (T:=T) (r:=r) (b:=b) (mr:=mr) (mt:=mt) (tb:=tb) (rb:=rb) (p1:=p1) (c1:=c1) (p2:=p2) (c2:=c2) (x:=cur[j])) ?_
   rw [hcj]
   cases hab:abW (wK T r.key) l[j] with
   | true =>
    rw [hab] at hnx
    repeat' first|apply step|(apply gO;·repeat first|exact eZ|(apply eS;exact rfl))|(refine Sd.mk ?_ ?_;·exact qD)|apply Lw.go|refine g_cond ?_|refine g_keep ?_
    exact lp_next (j + 1,i,cur) ⟨by dsimp only;omega,by dsimp only;omega,hcl,by dsimp only;rw [hnx,hct];simp,hcd2⟩ (by dsimp only;omega)
   | false =>
    rw [hab] at hnx
    repeat' first|apply step|(apply gO;·repeat first|exact eZ|(apply eS;exact rfl))|(refine Sd.mk ?_ ?_;·exact qD)|apply Lw.go|refine g_cond ?_|refine g_keep ?_
    exact lp_next (j + 1,i + 1,cur.set i l[j]) ⟨by dsimp only;omega,by dsimp only;omega,by dsimp only;rw [List.length_set];exact hcl,by dsimp only;rw [zlO (by omega),hnx,hct];simp,by dsimp only;rw [ziD (by omega)];exact hcd2⟩ (by dsimp only;omega)
  ·rw [List.take_of_length_le hge] at hct
   rw [← hcl]
   repeat' first|apply step|(apply gO;·repeat first|exact eZ|(apply eS;exact rfl))|(refine Br.mk (fun _=>?_) (fun _=>?_)<;>try (exfalso;omega))|(refine Sd.mk ?_ ?_;·exact qD)|refine g_cond ?_|refine g_keep ?_|refine g_fin ?_
   refine fin (hR2 (cur.take i++List.replicate (cur.length - i) 0++cur.drop (i + (cur.length - i))) i (by rw [List.length_append,List.length_append,List.length_take,List.length_replicate,List.length_drop];omega) ?_)
   rw [List.append_assoc,List.take_append_of_le_length (by rw [List.length_take];omega),List.take_take,Nat.min_self]
   exact hct
 ·repeat' first|apply step|(apply gO;·repeat first|exact eZ|(apply eS;exact rfl))|(refine Br.mk (fun _=>?_) (fun _=>?_)<;>try (exfalso;omega))|apply Lw.go|refine g_cond ?_|refine g_fin ?_
  exact fin (hR1 (zfP fun i hi=>by rw [hne i hi];rfl))
end
end Go.AMS

namespace Go.AMS
open Go.AM hiding Kt At WP WL Runs RunsY
open Go.AM.G
set_option linter.unusedVariables false
set_option linter.unusedSimpArgs false
set_option linter.unusedSectionVars false
set_option maxRecDepth 100000
set_option maxHeartbeats 1000000
attribute [local irreducible] AtS AtV AtC AtG FinA Spec Post LP G.At G.WP G.WL pt own fro rdl ro hx mp lrec elt sub

open Go.AM.G.Set
section
variable {h:List HTx} {T:Tb} {r:HRd} {p q p1 p2 p3:Option Addr} {c d c1 c2 c3 b mr mt tb rb:Nat}
theorem zk (W:Wf) (l:List Int):(cleanL W l).length≤l.length:=List.length_filter_le _ _
theorem zdT (h1:r.list.length≤1000):Spec prog1 zM [.pointer (some ⟨b,0,none⟩),.agg #[.int .i64 r.txn,.int .i64 r.op,.int .i64 r.key,.slice p1 r.list.length c1,.slice p2 r.own.length c2]] [ro (tabC b T mr mt),fro (kInt .i64) p1 c1 r.list] (fun R=>∀ p' c',R (.slice p' (cleanL (wK T r.key) r.list).length c') [fro (kInt .i64) p' c' (cleanL (wK T r.key) r.list)]):=by
 refine spec_code zje rfl ?_;intro n F R hR;unfold zcP
 repeat' first|apply step|(apply gO;·repeat first|exact eZ|(apply eS;exact rfl))|refine Fa.mk fun _=>?_
 rename_i tb rb
 refine at_callR (zr (l:=r.list) (by omega)) ?_
 intro p3 c3
 repeat' first|apply step|(apply gO;·repeat first|exact eZ|(apply eS;exact rfl))|apply Lw.go
 refine at_callS (zgy (T:=T) (r:=r) (b:=b) (mr:=mr) (mt:=mt) (tb:=tb) (rb:=rb) (p1:=p1) (c1:=c1) (p2:=p2) (c2:=c2) (l:=r.list) h1) ?_
 refine ⟨fun he=>?_,fun cur n1 hn hc=>?_⟩
 ·rw [he] at hR
  refine at_freezeO ?_
  repeat' first|apply step|(apply gO;·repeat first|exact eZ|(apply eS;exact rfl))|refine g_fin ?_
  exact fin (hR _ _)
 ·rw [← hc,List.length_take_of_le hn] at hR
  refine at_freezeO ?_
  refine at_via (zfE (K:=kInt .i64) (p:=p3) (c:=c3) (l:=cur) (i:=n1) hn) ?_
  repeat' first|apply step|(apply gO;·repeat first|exact eZ|(apply eS;exact rfl))|refine g_fin ?_
  exact fin (hR _ _)
theorem zbC (hf:FewH h 20 60) (hk:OkH h) (h1:r.list.length≤1000):Spec prog1 zC [.agg #[.slice p h.length c],.agg #[.int .i64 r.txn,.int .i64 r.op,.int .i64 r.key,.slice p1 r.list.length c1,.slice p2 r.own.length c2]] [fro kHTx p c h,fro (kInt .i64) p1 c1 r.list] (fun R=>∀ p' c',R (.slice p' (cleanL (wK (TH h) r.key) r.list).length c') [own (kInt .i64) p' c' (cleanL (wK (TH h) r.key) r.list)]):=by
 refine spec_code zij rfl ?_;intro n F R hR;unfold zc7
 have hwr:∀ x,Spec prog1 ze [.agg #[.slice p h.length c],.int .i64 r.key,.int .i64 x] [fro kHTx p c h] (fun R=>R (wrO (wK (TH h) r.key x)) []):=fun x=>zec hf hk
 generalize wK (TH h) r.key=W at hR hwr
 generalize hl:r.list=l at hR h1 ⊢
 repeat' first|apply step|(apply gO;·repeat first|exact eZ|(apply eS;exact rfl))|refine Fa.mk fun _=>?_|refine g_keep ?_
 rename_i hb rb
 refine at_loopS (ι:=Nat × (Option Addr × Nat)) (E:=fun z=>[(2,.pointer (some ⟨hb,0,none⟩)),(3,.pointer (some ⟨rb,0,none⟩)),(5,.slice z.2.1 (cleanL W (l.take z.1)).length z.2.2),(6,.int .i64 (z.1:Int))]) (Δ:=fun z=>own (kInt .i64) z.2.1 z.2.2 (cleanL W (l.take z.1))::pt rb [.int .i64 r.txn,.int .i64 r.op,.int .i64 r.key,.slice p1 l.length c1,.slice p2 r.own.length c2] 0::pt hb [.slice p h.length c] 0::fro kHTx p c h::fro (kInt .i64) p1 c1 l::F) (P:=fun z=>z.1≤l.length) (μ:=fun z=>l.length - z.1) (0,(none,0)) (Nat.zero_le _) ?_
 rintro ⟨k,p3,c3⟩ hk1
 dsimp only at hk1 ⊢
 have hO:(cleanL W (l.take k)).length≤1000:=Nat.le_trans (zk _ _) (by rw [List.length_take];omega)
 rcases Nat.lt_or_ge k l.length with hlt|hge
 ·have hn1:abW W l[k]=false→cleanL W (l.take (k + 1))=cleanL W (l.take k)++[l[k]]:=fun e=>by
   have:=zct (q:=fun x=>!abW W x) hlt
   rw [if_pos (by rw [e];rfl)] at this
   exact this
  have hn2:abW W l[k]=true→cleanL W (l.take (k + 1))=cleanL W (l.take k):=fun e=>by
   have:=zct (q:=fun x=>!abW W x) hlt
   rw [if_neg (by rw [e];decide),List.append_nil] at this
   exact this
  have hrj:=hwr l[k]
  generalize cleanL W (l.take k)=O at hn1 hn2 hO ⊢
  repeat' first|apply step|(apply gO;·repeat first|exact eZ|(apply eS;exact rfl))|(refine Br.mk (fun _=>?_) (fun _=>?_)<;>try (exfalso;omega))|(refine Sd.mk ?_ ?_;·exact qD)|(refine Sx.mk ?_ ?_;·omega)|refine Im.mk fun _=>?_|refine g_cond ?_
  refine at_callR (hrj) ?_
  cases hw:W l[k] with
  | none =>
   have hnx:=hn1 (by unfold abW;rw [hw])
   unfold wrO
   repeat' first|apply step|(apply gO;·repeat first|exact eZ|(apply eS;exact rfl))|(refine Sd.mk ?_ ?_;·exact qD)|(refine Sx.mk ?_ ?_;·omega)|refine Fa.mk fun _=>?_|refine Im.mk fun _=>?_|apply Lw.go|refine g_cond ?_|refine g_guard ?_|refine g_keep ?_
   exact lp_next (k + 1,_,_) (by dsimp only;omega) (by dsimp only;omega) (by dsimp only;rw [hnx]) (by dsimp only;rw [hnx];repeat first|exact Ent.refl _|(apply Ent.more;· repeat first|exact Ent.keep|exact Ent.here|exact Ent.lend|exact ent_nil|apply Ent.there)|apply Ent.drop)
  | some w =>
   unfold wrO
   cases hb2:w.ab with
   | true =>
    have hnx:=hn2 (by unfold abW;rw [hw];exact hb2)
    repeat' first|apply step|(apply gO;·repeat first|exact eZ|(apply eS;exact rfl))|(refine Br.mk (fun _=>?_) (fun _=>?_)<;>try (exfalso;omega))|(refine Sd.mk ?_ ?_;·exact qD)|(refine Sx.mk ?_ ?_;·omega)|refine Fa.mk fun _=>?_|refine Im.mk fun _=>?_|apply Lw.go|refine g_cond ?_|refine g_guard ?_|refine g_keep ?_
    all_goals first|exact absurd hb2 (by assumption)|exact absurd (hb2.symm.trans ‹w.ab=true›) (by decide)|exact lp_next (k + 1,_,_) (by dsimp only;omega) (by dsimp only;omega) (by dsimp only;rw [hnx]) (by dsimp only;rw [hnx];repeat first|exact Ent.refl _|(apply Ent.more;· repeat first|exact Ent.keep|exact Ent.here|exact Ent.lend|exact ent_nil|apply Ent.there)|apply Ent.drop)
   | false =>
    have hnx:=hn1 (by unfold abW;rw [hw];exact hb2)
    repeat' first|apply step|(apply gO;·repeat first|exact eZ|(apply eS;exact rfl))|(refine Br.mk (fun _=>?_) (fun _=>?_)<;>try (exfalso;omega))|(refine Sd.mk ?_ ?_;·exact qD)|(refine Sx.mk ?_ ?_;·omega)|refine Fa.mk fun _=>?_|refine Im.mk fun _=>?_|apply Lw.go|refine g_cond ?_|refine g_guard ?_|refine g_keep ?_
    all_goals first|exact absurd hb2 (by assumption)|exact absurd (hb2.symm.trans ‹w.ab=true›) (by decide)|exact lp_next (k + 1,_,_) (by dsimp only;omega) (by dsimp only;omega) (by dsimp only;rw [hnx]) (by dsimp only;rw [hnx];repeat first|exact Ent.refl _|(apply Ent.more;· repeat first|exact Ent.keep|exact Ent.here|exact Ent.lend|exact ent_nil|apply Ent.there)|apply Ent.drop)
 ·rw [List.take_of_length_le hge]
  repeat' first|apply step|(apply gO;·repeat first|exact eZ|(apply eS;exact rfl))|(refine Br.mk (fun _=>?_) (fun _=>?_)<;>try (exfalso;omega))|refine g_cond ?_|refine g_keep ?_|refine g_fin ?_
  exact fin (hR p3 c3)
end
end Go.AMS

namespace Go.AM.G.Pre
set_option linter.unusedVariables false
set_option linter.unusedSectionVars false
set_option linter.unusedSimpArgs false
section
variable {α:Type} [DecidableEq α]

def commonL:List α→List α→Nat
 | x::a,y::b=>if x=y then commonL a b + 1 else 0
 | _,_=>0

theorem zgl {a b:List α} {n:Nat} (ha:n < a.length) (hb:n < b.length):commonL (a.drop n) (b.drop n)=if a[n]=b[n] then commonL (a.drop (n + 1)) (b.drop (n + 1)) + 1 else 0:=by
 rw [List.drop_eq_getElem_cons ha,List.drop_eq_getElem_cons hb];rfl
theorem zez {a b:List α} {n:Nat} (h:¬ n < a.length∨¬ n < b.length):commonL (a.drop n) (b.drop n)=0:=by
 rcases h with h|h
 ·rw [List.drop_eq_nil_of_le (by omega)];rfl
 ·rw [show b.drop n=[] from List.drop_eq_nil_of_le (by omega)];cases a.drop n <;> rfl


def isL (a b:List α):Bool:=commonL a b == a.length
def fitL (a b:List α):Bool:=isL a b || isL b a


theorem zbr:∀ {a b:List α},isL a b=true ↔ a.length≤b.length∧a=b.take a.length
 | [],b=>by simp [isL,commonL]
 | x::a,[]=>by simp [isL,commonL]
 | x::a,y::b=>by
  have ih:=zbr (a:=a) (b:=b)
  simp only [isL,commonL,beq_iff_eq] at ih ⊢
  by_cases h:x=y
  ·rw [if_pos h];simp only [List.length_cons,List.take_succ_cons,List.cons.injEq,Nat.add_le_add_iff_right,h,true_and,Nat.add_right_cancel_iff];exact ih
  ·rw [if_neg h];simp [h]


def apartL (x:List α):List (List α)→Nat→Option Nat
 | [],_=>none
 | y::r,j=>if fitL x y=true then apartL x r (j + 1) else some j


/-- The first two that do not fit. -/
def badL:List (List α)→Nat→Option (Nat × Nat)
 | [],_=>none
 | x::r,k=>match apartL x r (k + 1) with
  | some j=>some (k,j)
  | none=>badL r (k + 1)

def longer (b x:List α):List α:=if b.length < x.length then x else b
def bestL (l:List (List α)):List α:=l.foldl longer []

theorem zfX {l:List (List α)} {n:Nat} (h:n < l.length):badL (l.drop n) n=match apartL l[n] (l.drop (n + 1)) (n + 1) with
  | some j=>some (n,j)
  | none=>badL (l.drop (n + 1)) (n + 1):=by
 rw [List.drop_eq_getElem_cons h];rfl

theorem zfG {l:List (List α)} {n:Nat} (h:n < l.length):bestL (l.take (n + 1))=longer (bestL (l.take n)) l[n]:=by
 unfold bestL;rw [List.take_succ_eq_append_getElem h,List.foldl_append];rfl


def fineSt (s:List α × Bool) (x:List α):List α × Bool:=(longer s.1 x,s.2 && fitL x s.1)
def fineS (l:List (List α)):List α × Bool:=l.foldl fineSt ([],true)
theorem zjr {l:List (List α)} {n:Nat} (h:n < l.length):fineS (l.take (n + 1))=fineSt (fineS (l.take n)) l[n]:=by
 unfold fineS;rw [List.take_succ_eq_append_getElem h,List.foldl_append];rfl
theorem zfL (b x:List α):longer b x=b∨longer b x=x:=by unfold longer;split <;> simp
theorem zks {B:Nat}:∀ {l:List (List α)},(∀ x ∈ l,x.length < B)→0 < B→(fineS l).1.length < B:=by
 intro l hl hB
 have key:∀ (l:List (List α)) (s:List α × Bool),(∀ x ∈ l,x.length < B)→s.1.length < B→(l.foldl fineSt s).1.length < B:=by
  intro l
  induction l with
  | nil=>intro s _ hs;exact hs
  | cons x l ih =>
   intro s hx hs
   refine ih _ (fun y hy=>hx y (List.mem_cons_of_mem _ hy)) ?_
   show (longer s.1 x).length < B
   rcases zfL s.1 x with e|e <;> rw [e]
   ·exact hs
   ·exact hx x (by simp)
 exact key l _ hl hB


theorem zem (l:List (List α)):(fineS l).1=bestL l:=by
 have key:∀ (l:List (List α)) (s:List α × Bool),(l.foldl fineSt s).1=l.foldl longer s.1:=by
  intro l
  induction l with
  | nil=>intro s;rfl
  | cons x l ih=>intro s;exact ih _
 exact key l _
theorem zjX {a b:List α}:isL a b=true ↔ a <+: b:=by
 rw [zbr]
 constructor
 ·rintro ⟨h1,h2⟩;rw [h2];exact List.take_prefix _ _
 ·intro h;exact ⟨h.length_le,(List.prefix_iff_eq_take.1 h)⟩
theorem zcU {a b:List α}:fitL a b=true ↔ a <+: b∨b <+: a:=by
 simp only [fitL,Bool.or_eq_true,zjX]
theorem zen {x:List α}:∀ {l:List (List α)} {j:Nat},apartL x l j=none ↔ ∀ y ∈ l,fitL x y=true:=by
 intro l
 induction l with
 | nil=>intro j;simp [apartL]
 | cons y l ih =>
  intro j
  simp only [apartL,List.mem_cons,forall_eq_or_imp]
  by_cases h:fitL x y=true
  ·rw [if_pos h,ih];simp [h]
  ·rw [if_neg h];simp [h]
theorem zgC:∀ {l:List (List α)} {k:Nat},badL l k=none ↔ l.Pairwise (fun x y=>fitL x y=true):=by
 intro l
 induction l with
 | nil=>intro k;simp [badL]
 | cons x l ih =>
  intro k
  simp only [badL,List.pairwise_cons]
  cases hq:apartL x l (k + 1) with
  | some j =>
   simp only [reduceCtorEq,false_iff,not_and]
   intro h;rw [← zen (j:=k + 1),hq] at h;cases h
  | none=>simp only;rw [ih];simp;exact fun _=>zen.1 hq
theorem zgj:∀ (l:List (List α)) (s:List α × Bool),s.2=false→(l.foldl fineSt s).2=false:=by
 intro l
 induction l with
 | nil=>intro s h;exact h
 | cons x l ih=>intro s h;exact ih _ (by show (s.2 && _)=false;rw [h];rfl)
theorem zg9:∀ (l D:List (List α)) (b:List α),(∀ y ∈ D,y <+: b)→(b=[]∨b ∈ D) →
  ((l.foldl fineSt (b,true)).2=true ↔ l.Pairwise (fun x y=>fitL x y=true)∧∀ x ∈ l,∀ y ∈ D,fitL y x=true):=by
 intro l
 induction l with
 | nil=>intro D b _ _;simp
 | cons x l ih =>
  intro D b hD hb
  have hx:fitL x b=true ↔ ∀ y ∈ D,fitL y x=true:=by
   constructor
   ·intro h y hy
    rw [zcU] at h ⊢
    rcases h with h|h
    ·rcases Nat.le_total y.length x.length with hl|hl
     ·exact .inl (List.prefix_of_prefix_length_le (hD y hy) h hl)
     ·exact .inr (List.prefix_of_prefix_length_le h (hD y hy) hl)
    ·exact .inl ((hD y hy).trans h)
   ·intro h
    rcases hb with rfl|hb
    ·rw [zcU];exact .inr List.nil_prefix
    ·have:=h b hb
     rw [zcU] at this ⊢;exact this.symm
  show ((l.foldl fineSt (longer b x,(true && fitL x b))).2=true ↔ _)
  rw [Bool.true_and]
  cases hf:fitL x b with
  | false =>
   rw [zgj _ _ rfl]
   constructor
   ·intro h;cases h
   ·rintro ⟨_,h⟩
    have:=hx.2 (h x (by simp))
    rw [hf] at this;cases this
  | true =>
   have hxD:=hx.1 hf
   rw [zcU] at hf
   rw [ih (x::D) (longer b x) ?_ ?_]
   ·simp only [List.pairwise_cons,List.mem_cons,forall_eq_or_imp]
    constructor
    ·rintro ⟨h1,h2⟩;exact ⟨⟨fun y hy=>(h2 y hy).1,h1⟩,hxD,fun y hy=>(h2 y hy).2⟩
    ·rintro ⟨⟨h1,h2⟩,_,h3⟩;exact ⟨h2,fun y hy=>⟨h1 y hy,h3 y hy⟩⟩
   ·intro y hy
    unfold longer
    split
    ·rename_i hlt
     have hbx:b <+: x:=by
      rcases hf with h|h
      ·have:=h.length_le;omega
      ·exact h
     rcases List.mem_cons.1 hy with rfl|hy
     ·exact List.prefix_refl _
     ·exact (hD y hy).trans hbx
    ·rename_i hlt
     rcases List.mem_cons.1 hy with rfl|hy
     ·rcases hf with h|h
      ·exact h
      ·have:=h.eq_of_length_le (by omega);rw [this];exact List.prefix_refl _
     ·exact hD y hy
   ·unfold longer
    split
    ·exact .inr (by simp)
    ·rcases hb with h|h
     ·exact .inl h
     ·exact .inr (List.mem_cons_of_mem _ h)
theorem zft (l:List (List α)):(fineS l).2=true ↔ badL l 0=none:=by
 unfold fineS
 rw [zg9 l [] [] (fun y hy=>by cases hy) (.inl rfl),zgC]
 simp

theorem ziL {x:List α}:∀ {l:List (List α)} {n j:Nat},apartL x l n=some j→∃ i,j=n + i∧∃ h:i < l.length,fitL x l[i]=false:=by
 intro l
 induction l with
 | nil=>intro n j h;cases h
 | cons y l ih =>
  intro n j h
  simp only [apartL] at h
  split at h
  ·obtain ⟨i,h1,h2,h3⟩:=ih h
   exact ⟨i + 1,by omega,by simpa using h2,by simpa using h3⟩
  ·rename_i hne
   cases h
   exact ⟨0,rfl,by simp,by simpa using hne⟩
theorem zih:∀ {l:List (List α)} {n k j:Nat},badL l n=some (k,j)→∃ a b,k=n + a∧j=n + b∧a < b∧∃ (h1:a < l.length) (h2:b < l.length),fitL l[a] l[b]=false:=by
 intro l
 induction l with
 | nil=>intro n k j h;cases h
 | cons x l ih =>
  intro n k j h
  simp only [badL] at h
  split at h
  ·rename_i i hi
   cases h
   obtain ⟨a,h1,h2,h3⟩:=ziL hi
   exact ⟨0,a + 1,by omega,by omega,by omega,by simp,by simpa using h2,by simpa using h3⟩
  ·obtain ⟨a,b,h1,h2,h3,h4,h5,h6⟩:=ih h
   exact ⟨a + 1,b + 1,by omega,by omega,by omega,by simpa using h4,by simpa using h5,by simpa using h6⟩

end
end Go.AM.G.Pre

namespace Go.AMS
open Go.AM hiding Kt At WP WL Runs RunsY
open Go.AM.G
set_option linter.unusedVariables false
set_option linter.unusedSimpArgs false
set_option linter.unusedSectionVars false
set_option maxRecDepth 100000
set_option maxHeartbeats 1000000
attribute [local irreducible] AtS AtV AtC AtG FinA Spec Post LP G.At G.WP G.WL pt own fro rdl ro hx mp lrec elt sub

open Go.AM.G.Set Go.AM.G.Pre
section
variable {p q:Option Addr} {c d:Nat} {a b:List Int} {L:List (List Int)}
theorem zi2 (ha:a.length≤100000) (hb:b.length≤100000):Spec prog1 zaw [.slice p a.length c,.slice q b.length d] [rdl (kInt .i64) p a,rdl (kInt .i64) q b] (fun R=>R (.int .i64 (commonL a b:Nat)) []):=by
 refine spec_code zgg rfl ?_;intro n F R hR;unfold zcd
 repeat' first|apply step|(apply gO;·repeat first|exact eZ|(apply eS;exact rfl))|refine g_keep ?_
 refine at_loopS (ι:=Nat) (E:=fun n=>[(0,.slice p a.length c),(1,.slice q b.length d),(5,.int .i64 (n:Int))]) (Δ:=fun _=>rdl (kInt .i64) p a::rdl (kInt .i64) q b::F) (P:=fun n=>n≤a.length∧n≤b.length∧commonL (a.drop n) (b.drop n) + n=commonL a b) (μ:=fun n=>a.length - n) 0 ⟨Nat.zero_le _,Nat.zero_le _,rfl⟩ ?_
 rintro k ⟨hk1,hk2,hc⟩
 try dsimp only
 by_cases h1:k < a.length
 ·by_cases h2:k < b.length
  ·rw [zgl h1 h2] at hc
   by_cases he:a[k]=b[k]
   ·rw [if_pos he] at hc
    repeat' first|apply step|(apply gO;·repeat first|exact eZ|(apply eS;exact rfl))|(refine Br.mk (fun _=>?_) (fun _=>?_)<;>try (exfalso;omega))|(refine Sd.mk ?_ ?_;·exact qD)|(refine Sx.mk ?_ ?_;·omega)|refine Im.mk fun _=>?_|refine g_cond ?_|refine g_guard ?_|refine g_keep ?_
    all_goals first|(exfalso;omega)|exact lp_next (k + 1) ⟨by omega,by omega,by omega⟩ (by omega)
   ·rw [if_neg he,Nat.zero_add] at hc
    rw [← hc] at hR
    repeat' first|apply step|(apply gO;·repeat first|exact eZ|(apply eS;exact rfl))|(refine Br.mk (fun _=>?_) (fun _=>?_)<;>try (exfalso;omega))|(refine Sd.mk ?_ ?_;·exact qD)|(refine Sx.mk ?_ ?_;·omega)|refine Im.mk fun _=>?_|refine g_cond ?_|refine g_guard ?_|refine g_keep ?_|refine g_fin ?_
    all_goals first|exact fin hR|(exfalso;omega)
  ·rw [zez (.inr h2),Nat.zero_add] at hc
   rw [← hc] at hR
   repeat' first|apply step|(apply gO;·repeat first|exact eZ|(apply eS;exact rfl))|(refine Br.mk (fun _=>?_) (fun _=>?_)<;>try (exfalso;omega))|refine g_cond ?_|refine g_guard ?_|refine g_keep ?_|refine g_fin ?_
   all_goals first|exact fin hR|(exfalso;omega)
 ·rw [zez (.inl h1),Nat.zero_add] at hc
  rw [← hc] at hR
  repeat' first|apply step|(apply gO;·repeat first|exact eZ|(apply eS;exact rfl))|(refine Br.mk (fun _=>?_) (fun _=>?_)<;>try (exfalso;omega))|refine g_cond ?_|refine g_guard ?_|refine g_keep ?_|refine g_fin ?_
  all_goals first|exact fin hR|(exfalso;omega)
theorem zfh (ha:a.length≤100000) (hb:b.length≤100000):Spec prog1 zao [.slice p a.length c,.slice q b.length d] [rdl (kInt .i64) p a,rdl (kInt .i64) q b] (fun R=>R (.bool (isL a b)) []):=by
 refine spec_code zkN rfl ?_;intro n F R hR;unfold zdc
 repeat' first|apply step|(apply gO;·repeat first|exact eZ|(apply eS;exact rfl))
 refine at_callS (zi2 (a:=a) (b:=b) ha hb) ?_
 have hi:isL a b=decide (commonL a b=a.length):=by unfold isL;rw [Bool.eq_iff_iff];simp
 rw [hi] at hR
 by_cases he:commonL a b=a.length
 ·rw [decide_eq_true he] at hR
  repeat' first|apply step|(apply gO;·repeat first|exact eZ|(apply eS;exact rfl))|(refine Br.mk (fun _=>?_) (fun _=>?_)<;>try (exfalso;omega))|refine g_keep ?_|refine g_fin ?_
  all_goals first|exact fin hR|(exfalso;omega)
 ·rw [decide_eq_false he] at hR
  repeat' first|apply step|(apply gO;·repeat first|exact eZ|(apply eS;exact rfl))|(refine Br.mk (fun _=>?_) (fun _=>?_)<;>try (exfalso;omega))|refine g_keep ?_|refine g_fin ?_
  all_goals first|exact fin hR|(exfalso;omega)
theorem zed (ha:a.length≤100000) (hb:b.length≤100000):Spec prog1 zX [.slice p a.length c,.slice q b.length d] [rdl (kInt .i64) p a,rdl (kInt .i64) q b] (fun R=>R (.bool (fitL a b)) []):=by
 refine spec_code zjh rfl ?_;intro n F R hR;unfold zcE
 unfold fitL at hR
 repeat' first|apply step|(apply gO;·repeat first|exact eZ|(apply eS;exact rfl))
 refine at_callR (zfh (a:=a) (b:=b) ha hb) ?_
 cases h1:isL a b with
 | true =>
  rw [h1,Bool.true_or] at hR
  repeat' first|apply step|(apply gO;·repeat first|exact eZ|(apply eS;exact rfl))|apply Lw.go|refine g_guard ?_|refine g_keep ?_|refine g_fin ?_
  exact fin hR
 | false =>
  rw [h1,Bool.false_or] at hR
  repeat' first|apply step|(apply gO;·repeat first|exact eZ|(apply eS;exact rfl))|apply Lw.go|refine g_guard ?_
  refine at_callR (zfh (a:=b) (b:=a) hb ha) ?_
  repeat' first|apply step|(apply gO;·repeat first|exact eZ|(apply eS;exact rfl))|apply Lw.go|refine g_keep ?_|refine g_fin ?_
  exact fin hR
theorem zep {x:List Int} {j:Nat} (hj:j < L.length):apartL x (L.drop j) j=if fitL x L[j]=true then apartL x (L.drop (j + 1)) (j + 1) else some j:=by
 rw [List.drop_eq_getElem_cons hj];rfl
def twoI:Option Nat→Value
 | some j=>.tuple #[.int .i64 (j:Int),.bool true]
 | none=>.tuple #[.int .i64 0,.bool false]
theorem zi5 {k:Nat} (hL:L.length≤100000) (hl:∀ x ∈ L,x.length≤100000) (hk:k < L.length):Spec prog1 zbm [.slice p L.length c,.int .i64 (k:Int)] [rdl (kSl (kInt .i64)) p L] (fun R=>R (twoI (apartL L[k] (L.drop (k + 1)) (k + 1))) []):=by
 refine spec_code zhy rfl ?_;intro n F R hR;unfold zcl
 repeat' first|apply step|(apply gO;·repeat first|exact eZ|(apply eS;exact rfl))|(refine Sd.mk ?_ ?_;·exact qD)|refine g_keep ?_
 refine at_loopS (ι:=Nat) (E:=fun j=>[(0,.slice p L.length c),(1,.int .i64 (k:Int)),(6,.int .i64 (j:Int))]) (Δ:=fun _=>rdl (kSl (kInt .i64)) p L::F) (P:=fun j=>k < j∧j≤L.length∧apartL L[k] (L.drop j) j=apartL L[k] (L.drop (k + 1)) (k + 1)) (μ:=fun j=>L.length - j) (k + 1) ⟨by omega,by omega,rfl⟩ ?_
 rintro j ⟨hj1,hj2,hd⟩
 try dsimp only
 rcases Nat.lt_or_ge j L.length with hlt|hge
 ·rw [zep hlt] at hd
  have l1:=hl L[k] (List.getElem_mem _)
  have l2:=hl L[j] (List.getElem_mem _)
  repeat' first|apply step|(apply gO;·repeat first|exact eZ|(apply eS;exact rfl))|(refine Br.mk (fun _=>?_) (fun _=>?_)<;>try (exfalso;omega))|(refine Sd.mk ?_ ?_;·exact qD)|(refine Sx.mk ?_ ?_;·omega)|refine Fa.mk fun _=>?_|refine Im.mk fun _=>?_|refine g_cond ?_
  refine at_callS (zed (a:=L[k]) (b:=L[j]) l1 l2) ?_
  cases hf:fitL L[k] L[j] with
  | true =>
   rw [if_pos hf] at hd
   repeat' first|apply step|(apply gO;·repeat first|exact eZ|(apply eS;exact rfl))|(refine Sd.mk ?_ ?_;·exact qD)|refine g_cond ?_|refine g_keep ?_
   exact lp_next (j + 1) ⟨by omega,by omega,hd⟩ (by omega)
  | false =>
   rw [if_neg (by rw [hf];decide)] at hd
   rw [← hd] at hR
   unfold twoI at hR
   repeat' first|apply step|(apply gO;·repeat first|exact eZ|(apply eS;exact rfl))|refine g_cond ?_|refine g_keep ?_|refine g_fin ?_
   exact fin hR
 ·rw [List.drop_eq_nil_of_le hge] at hd
  rw [← hd] at hR
  repeat' first|apply step|(apply gO;·repeat first|exact eZ|(apply eS;exact rfl))|(refine Br.mk (fun _=>?_) (fun _=>?_)<;>try (exfalso;omega))|refine g_cond ?_|refine g_keep ?_|refine g_fin ?_
  exact fin hR
theorem zbu {n:Nat} (hl:∀ x ∈ L,x.length≤n):(bestL L).length≤n:=by
 have:=zks (B:=n + 1) (l:=L) (fun x hx=>by have:=hl x hx;omega) (by omega)
 rw [zem] at this;omega
theorem zjw (hL:L.length≤100000) (hl:∀ x ∈ L,x.length≤100000):Spec prog1 zby [.slice p L.length c] [rdl (kSl (kInt .i64)) p L] (fun R=>(badL L 0=none→∀ p' c',R (.tuple #[.slice p' (bestL L).length c',.int .i64 0,.int .i64 0,.bool true]) [own (kInt .i64) p' c' (bestL L)])∧(∀ k j:Nat,badL L 0=some (k,j)→R (.tuple #[.slice none 0 0,.int .i64 (k:Int),.int .i64 (j:Int),.bool false]) [])):=by
 refine spec_code zis rfl ?_;intro n F R hR;unfold zcY
 obtain ⟨hR1,hR2⟩:=hR
 refine at_ent (ent_fnil (K:=kInt .i64)) ?_
 repeat' first|apply step|(apply gO;·repeat first|exact eZ|(apply eS;exact rfl))|refine g_keep ?_
 refine at_loopS (ι:=Nat × (Option Addr × Nat)) (E:=fun z=>[(0,.slice p L.length c),(6,.slice z.2.1 (bestL (L.take z.1)).length z.2.2),(7,.bool (fineS (L.take z.1)).2),(13,.slice p L.length c),(14,.int .i64 (L.length:Int)),(15,.int .i64 (z.1:Int))]) (Δ:=fun z=>rdl (kSl (kInt .i64)) p L::fro (kInt .i64) z.2.1 z.2.2 (bestL (L.take z.1))::F) (P:=fun z=>z.1≤L.length) (μ:=fun z=>L.length - z.1) (0,(none,0)) (Nat.zero_le _) ?_
 rintro ⟨i,q,d⟩ hi
 dsimp only at hi ⊢
 have hbl:(bestL (L.take i)).length≤100000:=zbu fun x hx=>hl x (List.mem_of_mem_take hx)
 rcases Nat.lt_or_ge i L.length with hlt|hge
 ·have hb1:=zfG (l:=L) hlt
  have hf1:=zjr (l:=L) hlt
  have l1:=hl L[i] (List.getElem_mem _)
  have hf2:(fineS (L.take (i + 1))).2=((fineS (L.take i)).2 && fitL L[i] (bestL (L.take i))):=by rw [hf1,← zem];rfl
  generalize (fineS (L.take i)).2=f at hf2 ⊢
  generalize bestL (L.take i)=B at hbl hb1 hf2 ⊢
  unfold longer at hb1
  by_cases hlen:B.length < L[i].length
  ·rw [if_pos hlen] at hb1
   cases f with
   | true =>
    rw [Bool.true_and] at hf2
    repeat' first|apply step|(apply gO;·repeat first|exact eZ|(apply eS;exact rfl))|(refine Br.mk (fun _=>?_) (fun _=>?_)<;>try (exfalso;omega))|(refine Sd.mk ?_ ?_;·exact qD)|(refine Sx.mk ?_ ?_;·omega)|refine Fa.mk fun _=>?_|refine Im.mk fun _=>?_|refine g_cond ?_|refine g_guard ?_
    refine at_callR (zed (a:=L[i]) (b:=B) l1 hbl) ?_
    repeat' first|apply step|(apply gO;·repeat first|exact eZ|(apply eS;exact rfl))|(refine Br.mk (fun _=>?_) (fun _=>?_)<;>try (exfalso;omega))|(refine Sd.mk ?_ ?_;·exact qD)|apply Lw.go|refine g_cond ?_|refine g_keep ?_
    all_goals first|(exfalso;omega)|exact lp_next (i + 1,_,_) (by dsimp only;omega) (by dsimp only;omega) (by dsimp only;rw [hb1,hf2]) (by dsimp only;rw [hb1];repeat first|exact Ent.refl _|(apply Ent.more;· repeat first|exact Ent.keep|exact Ent.here|exact Ent.lend|exact ent_nil|apply Ent.there)|apply Ent.drop)
   | false =>
    rw [Bool.false_and] at hf2
    repeat' first|apply step|(apply gO;·repeat first|exact eZ|(apply eS;exact rfl))|(refine Br.mk (fun _=>?_) (fun _=>?_)<;>try (exfalso;omega))|(refine Sd.mk ?_ ?_;·exact qD)|(refine Sx.mk ?_ ?_;·omega)|refine Fa.mk fun _=>?_|refine Im.mk fun _=>?_|refine g_cond ?_|refine g_guard ?_|refine g_keep ?_
    all_goals first|(exfalso;omega)|exact lp_next (i + 1,_,_) (by dsimp only;omega) (by dsimp only;omega) (by dsimp only;rw [hb1,hf2]) (by dsimp only;rw [hb1];repeat first|exact Ent.refl _|(apply Ent.more;· repeat first|exact Ent.keep|exact Ent.here|exact Ent.lend|exact ent_nil|apply Ent.there)|apply Ent.drop)
  ·rw [if_neg hlen] at hb1
   cases f with
   | true =>
    rw [Bool.true_and] at hf2
    repeat' first|apply step|(apply gO;·repeat first|exact eZ|(apply eS;exact rfl))|(refine Br.mk (fun _=>?_) (fun _=>?_)<;>try (exfalso;omega))|(refine Sd.mk ?_ ?_;·exact qD)|(refine Sx.mk ?_ ?_;·omega)|refine Fa.mk fun _=>?_|refine Im.mk fun _=>?_|refine g_cond ?_|refine g_guard ?_
    refine at_callR (zed (a:=L[i]) (b:=B) l1 hbl) ?_
    repeat' first|apply step|(apply gO;·repeat first|exact eZ|(apply eS;exact rfl))|(refine Br.mk (fun _=>?_) (fun _=>?_)<;>try (exfalso;omega))|(refine Sd.mk ?_ ?_;·exact qD)|apply Lw.go|refine g_cond ?_|refine g_keep ?_
    all_goals first|(exfalso;omega)|exact lp_next (i + 1,_,_) (by dsimp only;omega) (by dsimp only;omega) (by dsimp only;rw [hb1,hf2]) (by dsimp only;rw [hb1];repeat first|exact Ent.refl _|(apply Ent.more;· repeat first|exact Ent.keep|exact Ent.here|exact Ent.lend|exact ent_nil|apply Ent.there)|apply Ent.drop)
   | false =>
    rw [Bool.false_and] at hf2
    repeat' first|apply step|(apply gO;·repeat first|exact eZ|(apply eS;exact rfl))|(refine Br.mk (fun _=>?_) (fun _=>?_)<;>try (exfalso;omega))|(refine Sd.mk ?_ ?_;·exact qD)|(refine Sx.mk ?_ ?_;·omega)|refine Fa.mk fun _=>?_|refine Im.mk fun _=>?_|refine g_cond ?_|refine g_guard ?_|refine g_keep ?_
    all_goals first|(exfalso;omega)|exact lp_next (i + 1,_,_) (by dsimp only;omega) (by dsimp only;omega) (by dsimp only;rw [hb1,hf2]) (by dsimp only;rw [hb1];repeat first|exact Ent.refl _|(apply Ent.more;· repeat first|exact Ent.keep|exact Ent.here|exact Ent.lend|exact ent_nil|apply Ent.there)|apply Ent.drop)
 ·rw [List.take_of_length_le hge] at hbl ⊢
  cases hf:(fineS L).2 with
  | true =>
   repeat' first|apply step|(apply gO;·repeat first|exact eZ|(apply eS;exact rfl))|(refine Br.mk (fun _=>?_) (fun _=>?_)<;>try (exfalso;omega))|refine g_cond ?_|refine g_keep ?_
   refine at_callR (zr (l:=bestL L) (by omega)) ?_
   intro p' c'
   repeat' first|apply step|(apply gO;·repeat first|exact eZ|(apply eS;exact rfl))|apply Lw.go|refine g_fin ?_
   exact fin (hR1 ((zft L).1 hf) _ _)
  | false =>
   repeat' first|apply step|(apply gO;·repeat first|exact eZ|(apply eS;exact rfl))|(refine Br.mk (fun _=>?_) (fun _=>?_)<;>try (exfalso;omega))|refine g_cond ?_|refine g_keep ?_
   refine at_loopS (ι:=Nat) (E:=fun k=>[(0,.slice p L.length c),(36,.int .i64 (L.length:Int)),(37,.int .i64 (k:Int))]) (Δ:=fun _=>rdl (kSl (kInt .i64)) p L::F) (P:=fun k=>k≤L.length∧badL (L.drop k) k=badL L 0) (μ:=fun k=>L.length - k) 0 ⟨Nat.zero_le _,rfl⟩ ?_
   rintro k ⟨hk,hd⟩
   try dsimp only
   rcases Nat.lt_or_ge k L.length with hlk|hgk
   ·rw [zfX hlk] at hd
    repeat' first|apply step|(apply gO;·repeat first|exact eZ|(apply eS;exact rfl))|(refine Br.mk (fun _=>?_) (fun _=>?_)<;>try (exfalso;omega))|refine g_cond ?_
    refine at_callR (zi5 (L:=L) (k:=k) hL hl hlk) ?_
    cases ha:apartL L[k] (L.drop (k + 1)) (k + 1) with
    | some j =>
     rw [ha] at hd
     unfold twoI
     repeat' first|apply step|(apply gO;·repeat first|exact eZ|(apply eS;exact rfl))|apply Lw.go|refine g_cond ?_|refine g_keep ?_|refine g_fin ?_
     exact fin (hR2 k j hd.symm)
    | none =>
     rw [ha] at hd
     unfold twoI
     repeat' first|apply step|(apply gO;·repeat first|exact eZ|(apply eS;exact rfl))|(refine Sd.mk ?_ ?_;·exact qD)|apply Lw.go|refine g_cond ?_|refine g_keep ?_
     exact lp_next (k + 1) ⟨by omega,hd⟩ (by omega)
   ·rw [List.drop_eq_nil_of_le hgk] at hd
    rw [(zft L).2 hd.symm] at hf
    cases hf
end
end Go.AMS

namespace Go.AMS
open Go.AM hiding Kt At WP WL Runs RunsY
open Go.AM.G
set_option linter.unusedVariables false
set_option linter.unusedSimpArgs false
set_option linter.unusedSectionVars false
set_option maxRecDepth 100000
set_option maxHeartbeats 1000000
attribute [local irreducible] AtS AtV AtC AtG FinA Spec Post LP G.At G.WP G.WL pt own fro rdl ro hx mp lrec elt sub

open Go.AM.G.Set Go.AM.G.Pre
section
variable {h:List HTx} {T:Tb} {r:HRd} {p q p1 p2 p3:Option Addr} {c d c1 c2 c3 b mr mt tb rb:Nat}
/-- The sound reads of a key, and their cleaned lists. -/
def ofS (T:Tb) (key:Int):List HRd:=soundL (wK T key) (agl key T.rd)
def ofL (W:Wf) (S:List HRd):List (List Int):=S.map fun r=>cleanL W r.list
def restL (ch:List Int) (l:List HWr):List Int:=(l.filter fun w=>decide (w.value ∉ ch)).map HWr.value
/-- Which values stand in a list, by a map. -/
def inM (l:List Int):Nat→List (Int × Int)
 | 0=>[]
 | n + 1=>aset (l.getD n 0) ((n + 1:Nat):Int) (inM l n)
theorem zet {l:List Int} {x:Int}:∀ n,n≤l.length→(x ∈ l.take n∧∃ v:Int,0 < v∧aget x (inM l n)=some v)∨(x ∉ l.take n∧aget x (inM l n)=none)
 | 0,_=>.inr ⟨by simp,rfl⟩
 | n + 1,hn=>by
  have ih:=zet (l:=l) (x:=x) n (by omega)
  rw [List.take_succ_eq_append_getElem (by omega)]
  unfold inM
  rw [getD_lt (by omega),aget_aset]
  by_cases e:x=l[n]
  ·rw [if_pos e]
   exact .inl ⟨List.mem_append.2 (.inr (List.mem_singleton.2 e)),_,by omega,rfl⟩
  ·rw [if_neg e]
   rcases ih with ⟨h1,h2⟩|⟨h1,h2⟩
   ·exact .inl ⟨List.mem_append.2 (.inl h1),h2⟩
   ·refine .inr ⟨fun q=>?_,h2⟩
    rcases List.mem_append.1 q with q|q
    ·exact h1 q
    ·exact e (List.mem_singleton.1 q)
theorem zfm {ch:List Int} {l:List HWr} {i:Nat} (hi:i < l.length):restL ch (l.take (i + 1))=restL ch (l.take i)++if l[i].value ∉ ch then [l[i].value] else []:=by
 unfold restL
 rw [zct hi,List.map_append]
 congr 1
 by_cases h:l[i].value ∈ ch <;> simp [h]
theorem zki {key:Int} (hrd:RdOk T) (hwt:(agl key T.wt).length≤100000) (hwb:∀ w ∈ agl key T.wt,bI w.value) (hsl:(ofS T key).length≤2000) (hbd:∀ r ∈ ofS T key,bI r.txn∧bI r.op∧bI r.key) (hkb:-9223372036854775808≤key∧key≤9223372036854775807) :
  Spec prog1 zaJ [.pointer (some ⟨b,0,none⟩),.int .i64 key] [ro (tabC b T mr mt),ro (mapF mr kI kHRd T.rd),ro (mapF mt kI kHWr T.wt)] (fun R =>
   (∀ k j (hk:k < (ofS T key).length) (hj:j < (ofS T key).length),badL (ofL (wK T key) (ofS T key)) 0=some (k,j)→∀ w v:wR,R (.agg #[.int .i64 key,.slice none 0 0,.slice none 0 0,.bool true,.int .i64 (ofS T key)[k].txn,.int .i64 (ofS T key)[k].op,.int .i64 (ofS T key)[k].key,.slice w.1.1 (ofS T key)[k].list.length w.1.2,.slice w.2.1 (ofS T key)[k].own.length w.2.2,.int .i64 (ofS T key)[j].txn,.int .i64 (ofS T key)[j].op,.int .i64 (ofS T key)[j].key,.slice v.1.1 (ofS T key)[j].list.length v.1.2,.slice v.2.1 (ofS T key)[j].own.length v.2.2]) [fro (kInt .i64) w.1.1 w.1.2 (ofS T key)[k].list,fro (kInt .i64) w.2.1 w.2.2 (ofS T key)[k].own,fro (kInt .i64) v.1.1 v.1.2 (ofS T key)[j].list,fro (kInt .i64) v.2.1 v.2.2 (ofS T key)[j].own])
   ∧ (badL (ofL (wK T key) (ofS T key)) 0=none→∀ q1 d1 q2 d2,R (.agg #[.int .i64 key,.slice q1 (bestL (ofL (wK T key) (ofS T key))).length d1,.slice q2 (restL (bestL (ofL (wK T key) (ofS T key))) (agl key T.wt)).length d2,.bool false,.int .i64 0,.int .i64 0,.int .i64 0,.slice none 0 0,.slice none 0 0,.int .i64 0,.int .i64 0,.int .i64 0,.slice none 0 0,.slice none 0 0]) [own (kInt .i64) q1 d1 (bestL (ofL (wK T key) (ofS T key))),own (kInt .i64) q2 d2 (restL (bestL (ofL (wK T key) (ofS T key))) (agl key T.wt))])):=by
 refine spec_code zkD rfl ?_;intro n F R hR;unfold zbU
 obtain ⟨hR1,hR2⟩:=hR
 obtain ⟨hn1,hn2⟩:=hrd key
 have hS:∀ r ∈ ofS T key,(r.list.length≤100∧r.own.length≤100)∧r.key=key:=fun r hr=>hn2 r (List.mem_filter.1 hr).1
 repeat' first|apply step|(apply gO;·repeat first|exact eZ|(apply eS;exact rfl))|refine Fa.mk fun _=>?_
 rename_i bb kb ab lb
 refine at_callS (zeL (b:=b) (key:=key)) ?_
 intro x y
 repeat' first|apply step
 generalize hW:wK T key=W at hR1 hR2
 have hWr:∀ r ∈ ofS T key,wK T r.key=W:=fun r hr=>by rw [(hS r hr).2,hW]
 obtain ⟨I,hI⟩:∃ I:Nat→HP,∀ i,I i=hx fun (w:wR)=>(True,[ro (tabC b T mr mt),pt bb [.pointer (some ⟨b,0,none⟩)] 0,pt ab [.slice w.1.1 ((ofS T key).take i).length w.1.2] 0,own kHRd w.1.1 w.1.2 ((ofS T key).take i),pt lb [.slice w.2.1 (ofL W ((ofS T key).take i)).length w.2.2] 0,own (kSl (kInt .i64)) w.2.1 w.2.2 (ofL W ((ofS T key).take i))]):=⟨_,fun _=>rfl⟩
 obtain ⟨J,hJ⟩:∃ J:AX→HP,∀ ax,J ax=hx fun (_:Unit)=>(False,[]):=⟨_,fun _=>rfl⟩
 refine at_foldP (I 0) (hI 0) ((none,0),(none,0)) trivial ?_
 refine at_rfunSD (I:=I) (J:=J) (Po:=[]) (Ps:=[pt x [.pointer (some ⟨b,0,none⟩)] 0,pt y [.int .i64 key] 0,ro (tabC b T mr mt),ro (mapF mr kI kHRd T.rd)]) (ofS T key).length (fun i (d:wR)=>vaRead d (ofS T key)[i]?) (fun i d=>paRead d (ofS T key)[i]?) (fun ly A B h=>?_) (fun i hi d=>by rw [List.getElem?_eq_getElem hi];rfl) ?_ ?_ ?_
 ·exact zeg (L:=agl key T.rd) (key:=key) (x:=x) (y:=y) rfl (by omega) (fun r hr=>⟨⟨by have:=(hn2 r hr).1.1;omega,by have:=(hn2 r hr).1.2;omega⟩,(hn2 r hr).2⟩) h
 ·intro i hi d ly m F'
  rw [List.getElem?_eq_getElem hi]
  obtain ⟨⟨k1,k2⟩,k3⟩:=hS _ (List.getElem_mem hi)
  have hWi:=hWr _ (List.getElem_mem hi)
  obtain ⟨⟨e1,e2⟩,⟨e3,e4⟩,⟨e5,e6⟩⟩:=hbd _ (List.getElem_mem hi)
  have ht1:(ofS T key).take (i + 1)=(ofS T key).take i++[(⟨(ofS T key)[i].txn,(ofS T key)[i].op,(ofS T key)[i].key,(ofS T key)[i].list,(ofS T key)[i].own⟩:HRd)]:=List.take_succ_eq_append_getElem hi
  have ht2:ofL W ((ofS T key).take (i + 1))=ofL W ((ofS T key).take i)++[cleanL W (ofS T key)[i].list]:=by
   unfold ofL;rw [List.take_succ_eq_append_getElem hi,List.map_append];rfl
  have hl1:((ofS T key).take i).length≤2000:=by rw [List.length_take];omega
  have hl2:(ofL W ((ofS T key).take i)).length≤2000:=by unfold ofL;rw [List.length_map];exact hl1
  have hcl:=zk W (ofS T key)[i].list
  have hIi:=hI i
  have hIn:=hI (i + 1)
  rw [ht2,ht1] at hIn
  generalize ofL W ((ofS T key).take i)=LL at hIi hIn hl2
  generalize (ofS T key).take i=SS at hIi hIn hl1
  generalize (ofS T key)[i]=s at hIn hcl k1 k2 hWi e1 e2 e3 e4 e5 e6 ⊢
  dsimp only [vaRead,paRead,List.cons_append,List.nil_append]
  refine at_openP (I i) hIi ?_
  rintro ⟨⟨q1,d1⟩,⟨q2,d2⟩⟩ -
  dsimp only [List.cons_append,List.nil_append]
  repeat' first|apply step|(apply gO;·repeat first|exact eZ|(apply eS;exact rfl))|(refine Sd.mk ?_ ?_;·exact qD)|refine Fa.mk fun _=>?_
  refine at_callR (zdT (T:=T) (r:=s) (b:=b) (mr:=mr) (mt:=mt) (by omega)) ?_
  rw [hWi]
  intro p3 c3
  repeat' first|apply step|(apply gO;·repeat first|exact eZ|(apply eS;exact rfl))|(refine Sd.mk ?_ ?_;·exact qD)|refine Fa.mk fun _=>?_|apply Lw.go
  refine at_foldP (I (i + 1)) hIn ((_,_),(_,_)) trivial ?_
  exact y_next
 ·refine at_openP (I _) (hI _) ?_
  rintro ⟨⟨q1,d1⟩,⟨q2,d2⟩⟩ -
  dsimp only [List.cons_append,List.nil_append]
  rw [List.take_length]
  have hLl:(ofL W (ofS T key)).length=(ofS T key).length:=by unfold ofL;rw [List.length_map]
  have hLx:∀ l ∈ ofL W (ofS T key),l.length≤100:=fun l hl=>by
   obtain ⟨r,hr,rfl⟩:=List.mem_map.1 hl
   exact Nat.le_trans (zk _ _) (hS r hr).1.1
  have hch:=zbu hLx
  repeat' first|apply step|(apply gO;·repeat first|exact eZ|(apply eS;exact rfl))|refine g_keep ?_
  refine at_callR (zjw (L:=ofL W (ofS T key)) (by omega) (fun l hl=>by have:=hLx l hl;omega)) ?_
  refine ⟨fun hb0 p8 c8=>?_,fun k j hkj=>?_⟩
  ·have hR2:=hR2 hb0
   generalize bestL (ofL W (ofS T key))=ch at hR2 hch ⊢
   repeat' first|apply step|(apply gO;·repeat first|exact eZ|(apply eS;exact rfl))|refine Fa.mk fun _=>?_|apply Lw.go|refine g_cond ?_|refine g_keep ?_
   rename_i k2 mm mb
   refine at_loopS (ι:=Nat) (E:=fun i=>[(1,.int .i64 key),(2,.pointer (some ⟨bb,0,none⟩)),(4,.pointer (some ⟨kb,0,none⟩)),(12,.pointer (some ⟨k2,0,none⟩)),(13,.pointer (some ⟨mb,0,none⟩)),(54,.slice p8 ch.length c8),(55,.int .i64 (ch.length:Int)),(56,.int .i64 (i:Int))]) (Δ:=fun i=>own (kInt .i64) p8 c8 ch::mp mm (amap kI kI (inM ch i))::pt mb [.map (some mm)] 0::pt k2 [.int .i64 key,.slice p8 ch.length c8,.slice none 0 0,.bool false,.int .i64 0,.int .i64 0,.int .i64 0,.slice none 0 0,.slice none 0 0,.int .i64 0,.int .i64 0,.int .i64 0,.slice none 0 0,.slice none 0 0] 0::pt bb [.pointer (some ⟨b,0,none⟩)] 0::pt kb [.int .i64 0,.slice none 0 0,.slice none 0 0,.bool false,.int .i64 0,.int .i64 0,.int .i64 0,.slice none 0 0,.slice none 0 0,.int .i64 0,.int .i64 0,.int .i64 0,.slice none 0 0,.slice none 0 0] 0::ro (tabC b T mr mt)::ro (mapF mt kI kHWr T.wt)::F) (P:=fun i=>i≤ch.length) (μ:=fun i=>ch.length - i) 0 (Nat.zero_le _) ?_
   rintro i hi
   try dsimp only
   rcases Nat.lt_or_ge i ch.length with hlt|hge
   ·have hnx:inM ch (i + 1)=aset ch[i] ((i + 1:Nat):Int) (inM ch i):=by rw [← getD_lt (d:=0) hlt];rfl
    repeat' first|apply step|(apply gO;·repeat first|exact eZ|(apply eS;exact rfl))|(refine Br.mk (fun _=>?_) (fun _=>?_)<;>try (exfalso;omega))|(refine Sd.mk ?_ ?_;·exact qD)|(refine Sx.mk ?_ ?_;·omega)|refine Im.mk fun _=>?_|refine g_cond ?_
    refine av_put (d:=false) (bar:=false) (s:=.one 1) (m:=mm) (l:=inM ch i) (enc:=kI) (vv:=kI) (key:=ch[i]) (val:=((i + 1:Nat):Int)) rfl inferInstance ?_
    rw [← hnx]
    repeat' first|apply step|(apply gO;·repeat first|exact eZ|(apply eS;exact rfl))|(refine Sd.mk ?_ ?_;·exact qD)|refine g_keep ?_
    exact lp_next (i + 1) (by omega) (by omega)
   ·have e:i=ch.length:=by omega
    subst e
    have hin:=fun x=>zet (l:=ch) (x:=x) ch.length (Nat.le_refl _)
    simp only [List.take_length] at hin
    generalize inM ch ch.length=M at hin ⊢
    repeat' first|apply step|(apply gO;·repeat first|exact eZ|(apply eS;exact rfl))|(refine Br.mk (fun _=>?_) (fun _=>?_)<;>try (exfalso;omega))|refine g_cond ?_|refine g_keep ?_
    refine at_callR (zl5 (T:=T) (b:=b) (mr:=mr) (mt:=mt) (y:=key)) ?_
    intro xw pw cw
    generalize agl key T.wt=L at hR2 hwt hwb ⊢
    repeat' first|apply step|apply Lw.go
    obtain ⟨I2,hI2⟩:∃ I:Nat→HP,∀ i,I i=hx fun (w:Option Addr × Nat)=>(True,[pt mb [.map (some mm)] 0,mp mm (amap kI kI M),pt k2 [.int .i64 key,.slice p8 ch.length c8,.slice w.1 (restL ch (L.take i)).length w.2,.bool false,.int .i64 0,.int .i64 0,.int .i64 0,.slice none 0 0,.slice none 0 0,.int .i64 0,.int .i64 0,.int .i64 0,.slice none 0 0,.slice none 0 0] 0,own (kInt .i64) w.1 w.2 (restL ch (L.take i))]):=⟨_,fun _=>rfl⟩
    refine at_foldP (I2 0) (hI2 0) (none,0) trivial ?_
    refine at_rfunSD (I:=I2) (J:=J) (Po:=[]) L.length (fun i (d:Unit)=>vaWrite d L[i]?) (fun i d=>paWrite d L[i]?) (fun ly A B h=>zhh (l:=L) (by omega) h) (fun i hi d=>by rw [List.getElem?_eq_getElem hi];rfl) ?_ ?_ ?_
    ·intro i hi d ly m F'
     rw [List.getElem?_eq_getElem hi]
     obtain ⟨v1,v2⟩:=hwb _ (List.getElem_mem hi)
     have hrx:=zfm (ch:=ch) hi
     have hrl:(restL ch (L.take i)).length≤100000:=by
      unfold restL
      rw [List.length_map]
      have h1:=List.length_filter_le (fun w:HWr=>decide (w.value ∉ ch)) (L.take i)
      have h2:(L.take i).length≤100000:=by rw [List.length_take];omega
      omega
     have hIi:=hI2 i
     have hIn:=hI2 (i + 1)
     rw [hrx] at hIn
     generalize restL ch (L.take i)=O at hIi hIn hrl
     dsimp only [vaWrite,paWrite,List.cons_append,List.nil_append]
     rcases hin L[i].value with ⟨g1,v,g2,g3⟩|⟨g1,g2⟩
     ·rw [if_neg (fun q=>q g1),List.append_nil] at hIn
      refine at_openP (I2 i) hIi ?_
      rintro ⟨q2,d2⟩ -
      dsimp only [List.cons_append,List.nil_append]
      repeat' first|apply step|(apply gO;·repeat first|exact eZ|(apply eS;exact rfl))|refine Fa.mk fun _=>?_
      refine av_at1 (enc:=kI) (vv:=kI) (key:=L[i].value) inferInstance g3 ?_
      unfold kI
      repeat' first|apply step|(apply gO;·repeat first|exact eZ|(apply eS;exact rfl))|(refine Br.mk (fun _=>?_) (fun _=>?_)<;>try (exfalso;omega))|refine g_cond ?_
      all_goals first|(exfalso;omega)|(refine at_foldP (I2 (i + 1)) hIn (_,_) trivial ?_;exact y_next)
     ·rw [if_pos g1] at hIn
      refine at_openP (I2 i) hIi ?_
      rintro ⟨q2,d2⟩ -
      dsimp only [List.cons_append,List.nil_append]
      repeat' first|apply step|(apply gO;·repeat first|exact eZ|(apply eS;exact rfl))|refine Fa.mk fun _=>?_
      refine av_at0 (enc:=kI) (vv:=kI) (key:=L[i].value) inferInstance g2 ?_
      repeat' first|apply step|(apply gO;·repeat first|exact eZ|(apply eS;exact rfl))|(refine Br.mk (fun _=>?_) (fun _=>?_)<;>try (exfalso;omega))|(refine Sd.mk ?_ ?_;·exact qD)|refine Fa.mk fun _=>?_|refine g_cond ?_
      all_goals first|(exfalso;omega)|(refine at_foldP (I2 (i + 1)) hIn (_,_) trivial ?_;exact y_next)
    ·refine at_openP (I2 _) (hI2 _) ?_
     rintro ⟨q2,d2⟩ -
     dsimp only [List.cons_append,List.nil_append]
     rw [List.take_length]
     repeat' first|apply step|(apply gO;·repeat first|exact eZ|(apply eS;exact rfl))|refine g_keep ?_|refine g_fin ?_
     exact fin (hR2 _ _ _ _)
    ·intro ax hax
     refine at_openP (J ax) (hJ ax) ?_
     intro u hu
     exact (show False from hu).elim
  ·obtain ⟨a1,b1,e1,e2,hab,h1,h2,_⟩:=zih hkj
   rw [Nat.zero_add] at e1 e2
   subst e1
   subst e2
   rw [hLl] at h1 h2
   repeat' first|apply step|(apply gO;·repeat first|exact eZ|(apply eS;exact rfl))|(refine Sd.mk ?_ ?_;·exact qD)|(refine Sx.mk ?_ ?_;·omega)|refine Fa.mk fun _=>?_|refine Im.mk fun _=>?_|apply Lw.go|refine g_cond ?_|refine g_keep ?_|refine g_fin ?_
   refine fin (hR1 _ _ h1 h2 hkj ((_,_),(_,_)) ((_,_),(_,_)))
 ·intro ax hax
  refine at_openP (J ax) (hJ ax) ?_
  intro u hu
  exact (show False from hu).elim
end
end Go.AMS

namespace Go.AMS
open Go.AM hiding Kt At WP WL Runs RunsY
open Go.AM.G
open Go.AM.G.Set
set_option linter.unusedVariables false
set_option linter.unusedSectionVars false
set_option linter.unusedSimpArgs false
section
variable {α:Type} {K:Kind α} {p:Option Addr} {l:List α} {i:Nat} {Γ:List HP}
theorem zj6:Ent (rdl K p l::Γ) (rdl K p (l.take i)::rdl K p l::Γ):=Ent.dup.trans (.one fun h s ⟨h1,h2⟩=>⟨s,⟨h1.take i,h2⟩,fun b hb=>hb⟩)
end
end Go.AMS

namespace Go.AMS
open Go.AM hiding Kt At WP WL Runs RunsY
open Go.AM.G
open Go.AM.G.Set
set_option linter.unusedVariables false
set_option linter.unusedSectionVars false
set_option linter.unusedSimpArgs false
section
variable {α:Type} {K:Kind α} {p:Option Addr} {l:List α} {c i n z:Nat} {Γ:List HP}
theorem zes (hz:K.esz=z) (hi:i + n≤l.length):Ent (fro K p c l::Γ) (fro K (sub p i z) n ((l.drop i).take n)::fro K p c l::Γ):=fun h S hs=>by
 subst hz
 obtain ⟨s,s',⟨h1,h2⟩,h3,h4,h5⟩:=id hs
 refine ⟨S,⟨fun _=>False,S,⟨?_,rfl⟩,hs,fun _ q=>q.elim,fun b=>by simp⟩,fun b hb=>hb⟩
 have e:((l.drop i).take n).length=n:=by rw [List.length_take,List.length_drop];omega
 rw [e];exact Sl.part h1 hi
end
end Go.AMS

namespace Go.AMS
open Go.AM hiding Kt At WP WL Runs RunsY
open Go.AM.G
set_option linter.unusedVariables false
set_option linter.unusedSimpArgs false
set_option linter.unusedSectionVars false
set_option maxRecDepth 100000
set_option maxHeartbeats 1000000
attribute [local irreducible] AtS AtV AtC AtG FinA Spec Post LP G.At G.WP G.WL pt own fro rdl ro hx mp lrec elt sub

open Go.AM.G.Set Go.AM.G.Pre
section
variable {h:List HTx} {T:Tb} {r:HRd} {p q p1 p2 p3:Option Addr} {c d c1 c2 c3:Nat} {a b:List Int}
theorem zfn (ha:a.length≤100000) (hb:b.length≤100000):Spec prog1 zae [.slice p a.length c,.slice q b.length d] [rdl (kInt .i64) p a,rdl (kInt .i64) q b] (fun R=>R (.bool (isL a b)) []):=by
 refine spec_code zkt rfl ?_;intro n F R hR;unfold zbJ
 by_cases hl:a.length≤b.length
 ·have hbl:(b.take a.length).length=a.length:=List.length_take_of_le hl
  repeat' first|apply step|(apply gO;·repeat first|exact eZ|(apply eS;exact rfl))|(refine Br.mk (fun _=>?_) (fun _=>?_)<;>try (exfalso;omega))|(refine Sd.mk ?_ ?_;·exact qD)|refine g_guard ?_
  all_goals try (exfalso;omega)
  refine av_via (zj6 (K:=kInt .i64) (p:=q) (l:=b) (i:=a.length)) ?_
  have hs:=zin (p:=p) (q:=q) (c:=c) (c':=a.length) (a:=a) (b:=b.take a.length) (by omega)
  rw [hbl] at hs
  refine at_callR (hs) ?_
  by_cases he:a=b.take a.length
  ·rw [zbr.2 ⟨hl,he⟩] at hR
   refine ⟨fun _=>?_,fun q=>absurd he q⟩
   repeat' first|apply step|(apply gO;·repeat first|exact eZ|(apply eS;exact rfl))|apply Lw.go|refine g_keep ?_|refine g_fin ?_
   exact fin hR
  ·rw [show isL a b=false from Bool.eq_false_iff.2 (fun q=>he (zbr.1 q).2)] at hR
   refine ⟨fun q=>absurd q he,fun _=>?_⟩
   repeat' first|apply step|(apply gO;·repeat first|exact eZ|(apply eS;exact rfl))|apply Lw.go|refine g_keep ?_|refine g_fin ?_
   exact fin hR
 ·rw [show isL a b=false from Bool.eq_false_iff.2 (fun q=>hl (zbr.1 q).1)] at hR
  repeat' first|apply step|(apply gO;·repeat first|exact eZ|(apply eS;exact rfl))|(refine Br.mk (fun _=>?_) (fun _=>?_)<;>try (exfalso;omega))|refine g_guard ?_|refine g_keep ?_|refine g_fin ?_
  all_goals first|exact fin hR|(exfalso;omega)
theorem zhL (ha:a.length≤100000) (hb:b.length≤100000):Spec prog1 zbk [.slice p a.length c,.slice q b.length d] [rdl (kInt .i64) p a,rdl (kInt .i64) q b] (fun R=>R (.bool (fitL a b)) []):=by
 refine spec_code zkM rfl ?_;intro n F R hR;unfold zdd
 unfold fitL at hR
 repeat' first|apply step|(apply gO;·repeat first|exact eZ|(apply eS;exact rfl))
 refine at_callR (zfn (a:=a) (b:=b) ha hb) ?_
 cases h1:isL a b with
 | true =>
  rw [h1,Bool.true_or] at hR
  repeat' first|apply step|(apply gO;·repeat first|exact eZ|(apply eS;exact rfl))|apply Lw.go|refine g_guard ?_|refine g_keep ?_|refine g_fin ?_
  exact fin hR
 | false =>
  rw [h1,Bool.false_or] at hR
  repeat' first|apply step|(apply gO;·repeat first|exact eZ|(apply eS;exact rfl))|apply Lw.go|refine g_guard ?_
  refine at_callR (zfn (a:=b) (b:=a) hb ha) ?_
  repeat' first|apply step|(apply gO;·repeat first|exact eZ|(apply eS;exact rfl))|apply Lw.go|refine g_keep ?_|refine g_fin ?_
  exact fin hR
def agA (key:Int) (x y:HRd) (w v:wR):Value:=.agg #[.int .i64 key,.slice none 0 0,.slice none 0 0,.bool true,.int .i64 x.txn,.int .i64 x.op,.int .i64 x.key,.slice w.1.1 x.list.length w.1.2,.slice w.2.1 x.own.length w.2.2,.int .i64 y.txn,.int .i64 y.op,.int .i64 y.key,.slice v.1.1 y.list.length v.1.2,.slice v.2.1 y.own.length v.2.2]
theorem zhE {key:Int} {S:List HRd} {L:List HWr} (hf:FewH h 20 60) (hk:OkH h) (hkb:-9223372036854775808≤key∧key≤9223372036854775807) (hSe:soundL (wK (TH h) key) (rdK h key)=S) (hLe:outW h key (setL (comm h))=L) :
  Spec prog1 zbe [.agg #[.slice p h.length c],.int .i64 key] [fro kHTx p c h] (fun R =>
   (∀ k j (hk:k < S.length) (hj:j < S.length),badL (ofL (wK (TH h) key) S) 0=some (k,j)→∀ w v:wR,R (agA key S[k] S[j] w v) [fro (kInt .i64) w.1.1 w.1.2 S[k].list,fro (kInt .i64) w.2.1 w.2.2 S[k].own,fro (kInt .i64) v.1.1 v.1.2 S[j].list,fro (kInt .i64) v.2.1 v.2.2 S[j].own])
   ∧ (badL (ofL (wK (TH h) key) S) 0=none→∀ q1 d1 q2 d2,R (.agg #[.int .i64 key,.slice q1 (bestL (ofL (wK (TH h) key) S)).length d1,.slice q2 (restL (bestL (ofL (wK (TH h) key) S)) L).length d2,.bool false,.int .i64 0,.int .i64 0,.int .i64 0,.slice none 0 0,.slice none 0 0,.int .i64 0,.int .i64 0,.int .i64 0,.slice none 0 0,.slice none 0 0] ) [fro (kInt .i64) q1 d1 (bestL (ofL (wK (TH h) key) S)),own (kInt .i64) q2 d2 (restL (bestL (ofL (wK (TH h) key) S)) L)])):=by
 refine spec_code zkd rfl ?_;intro n F R hR;unfold zcb
 obtain ⟨hR1,hR2⟩:=hR
 unfold agA at hR1
 have hsnd:=zf1 (p:=p) (c:=c) (key:=key) hf hk
 have hok:=zeu hf hk.m key
 have hol:(rdK h key).length≤1200:=zbS hf hk.m key
 have hwl:=zf3 hf hk.m key
 have hwr:=zjD (h:=h) (p:=p) (c:=c) (key:=key) hf hk.m
 change ∀ r ∈ rdK h key,_ at hok
 have hS0:S.length≤1200:=by have:=zdZ (W:=wK (TH h) key) (rdK h key);rw [hSe] at this;omega
 have hS:∀ r ∈ S,(r.list.length≤1000∧r.own.length≤1000)∧r.key=key:=fun r hr=>by
  rw [← hSe] at hr
  have:=hok r (List.mem_filter.1 hr).1
  exact ⟨this.1,this.2.2.2⟩
 have hcln:∀ r ∈ S,cleanL (wK (TH h) r.key) r.list=cleanL (wK (TH h) key) r.list:=fun r hr=>by rw [(hS r hr).2]
 rw [hSe] at hsnd
 rw [hLe] at hwr hwl
 generalize wK (TH h) key=W at hR1 hR2 hcln
 have hLl:(ofL W S).length=S.length:=by unfold ofL;rw [List.length_map]
 have hLi0:∀ i (hi:i < S.length),(ofL W S)[i]? = some (cleanL W S[i].list):=fun i hi=>by unfold ofL;rw [List.getElem?_map,List.getElem?_eq_getElem hi];rfl
 have hLx:∀ l ∈ ofL W S,l.length≤1000:=fun l hl=>by
  obtain ⟨r,hr,rfl⟩:=List.mem_map.1 hl
  exact Nat.le_trans (zk _ _) (hS r hr).1.1
 generalize ofL W S=LL at hR1 hR2 hLl hLi0 hLx
 have hLi:∀ i (hi:i < S.length) (hi2:i < LL.length),LL[i]=cleanL W S[i].list:=fun i hi hi2=>by
  have:=hLi0 i hi
  rw [List.getElem?_eq_getElem hi2] at this
  exact Option.some.inj this
 have hbl:∀ n,(bestL (LL.take n)).length≤1000:=fun n=>zbu fun x hx=>hLx x (List.mem_of_mem_take hx)
 repeat' first|apply step|(apply gO;·repeat first|exact eZ|(apply eS;exact rfl))|refine Fa.mk fun _=>?_
 rename_i hb kb
 refine at_callS (hsnd) ?_
 intro ps cs
 refine at_ent (ent_fnil (K:=kInt .i64)) ?_
 repeat' first|apply step|(apply gO;·repeat first|exact eZ|(apply eS;exact rfl))|refine Fa.mk fun _=>?_|refine g_keep ?_
 rename_i k2
 refine at_loopS (ι:=Nat × (Option Addr × Nat)) (E:=fun z=>[(1,.int .i64 key),(2,.pointer (some ⟨hb,0,none⟩)),(4,.pointer (some ⟨kb,0,none⟩)),(5,.slice ps S.length cs),(6,.pointer (some ⟨k2,0,none⟩)),(7,.int .i64 (z.1:Int))]) (Δ:=fun z=>own kHRd ps cs S::pt k2 [.int .i64 key,.slice z.2.1 (bestL (LL.take z.1)).length z.2.2,.slice none 0 0,.bool false,.int .i64 0,.int .i64 0,.int .i64 0,.slice none 0 0,.slice none 0 0,.int .i64 0,.int .i64 0,.int .i64 0,.slice none 0 0,.slice none 0 0] 0::fro (kInt .i64) z.2.1 z.2.2 (bestL (LL.take z.1))::pt kb [.int .i64 0,.slice none 0 0,.slice none 0 0,.bool false,.int .i64 0,.int .i64 0,.int .i64 0,.slice none 0 0,.slice none 0 0,.int .i64 0,.int .i64 0,.int .i64 0,.slice none 0 0,.slice none 0 0] 0::pt hb [.slice p h.length c] 0::fro kHTx p c h::F) (P:=fun z=>z.1≤S.length∧badL (LL.drop z.1) z.1=badL LL 0) (μ:=fun z=>S.length - z.1) (0,(none,0)) ⟨Nat.zero_le _,rfl⟩ ?_
 rintro ⟨i,q,d⟩ ⟨hi,hd⟩
 dsimp only at hi hd ⊢
 have hbi:=hbl i
 rcases Nat.lt_or_ge i S.length with hlt|hge
 ·have hltL:i < LL.length:=by omega
  have hb1:=zfG (l:=LL) hltL
  rw [zfX hltL] at hd
  have hcl:=hcln S[i] (List.getElem_mem _)
  obtain ⟨⟨k1,k3⟩,_⟩:=hS S[i] (List.getElem_mem _)
  have hc0:=zbC (p:=p) (c:=c) (r:=S[i]) (c1:=0) (p1:=none) (c2:=0) (p2:=none) hf hk k1
  have hA1:(LL[i]).length≤1000:=hLx _ (List.getElem_mem _)
  repeat' first|apply step|(apply gO;·repeat first|exact eZ|(apply eS;exact rfl))|(refine Br.mk (fun _=>?_) (fun _=>?_)<;>try (exfalso;omega))|(refine Sd.mk ?_ ?_;·exact qD)|(refine Sx.mk ?_ ?_;·omega)|refine Fa.mk fun _=>?_|refine Im.mk fun _=>?_|refine g_cond ?_
  refine at_callS (zbC (r:=S[i]) hf hk k1) ?_
  intro pa ca
  rw [hcl,← hLi i hlt hltL]
  generalize hAe:LL[i]=A at hd hb1 hA1 ⊢
  refine at_freezeO (K:=kInt .i64) (l:=A) ?_
  repeat' first|apply step|(apply gO;·repeat first|exact eZ|(apply eS;exact rfl))|(refine Sd.mk ?_ ?_;·exact qD)|refine g_keep ?_
  generalize bestL (LL.take i)=ch at hb1 hbi ⊢
  unfold longer at hb1
  refine at_loopS (ι:=Nat) (E:=fun j=>[(1,.int .i64 key),(2,.pointer (some ⟨hb,0,none⟩)),(4,.pointer (some ⟨kb,0,none⟩)),(5,.slice ps S.length cs),(6,.pointer (some ⟨k2,0,none⟩)),(7,.int .i64 (i:Int)),(8,.slice pa A.length ca),(9,.int .i64 (j:Int))]) (Δ:=fun j=>fro (kInt .i64) pa ca A::own kHRd ps cs S::pt k2 [.int .i64 key,.slice q ch.length d,.slice none 0 0,.bool false,.int .i64 0,.int .i64 0,.int .i64 0,.slice none 0 0,.slice none 0 0,.int .i64 0,.int .i64 0,.int .i64 0,.slice none 0 0,.slice none 0 0] 0::fro (kInt .i64) q d ch::pt kb [.int .i64 0,.slice none 0 0,.slice none 0 0,.bool false,.int .i64 0,.int .i64 0,.int .i64 0,.slice none 0 0,.slice none 0 0,.int .i64 0,.int .i64 0,.int .i64 0,.slice none 0 0,.slice none 0 0] 0::pt hb [.slice p h.length c] 0::fro kHTx p c h::F) (P:=fun j=>i < j∧j≤S.length∧apartL A (LL.drop j) j=apartL A (LL.drop (i + 1)) (i + 1)) (μ:=fun j=>S.length - j) (i + 1) ⟨by omega,by omega,rfl⟩ ?_
  rintro j ⟨hj1,hj2,hda⟩
  try dsimp only
  rcases Nat.lt_or_ge j S.length with hlj|hgj
  ·have hljL:j < LL.length:=by omega
   rw [zep hljL] at hda
   have hclj:=hcln S[j] (List.getElem_mem _)
   obtain ⟨⟨k4,k5⟩,_⟩:=hS S[j] (List.getElem_mem _)
   have hB1:(LL[j]).length≤1000:=hLx _ (List.getElem_mem _)
   repeat' first|apply step|(apply gO;·repeat first|exact eZ|(apply eS;exact rfl))|(refine Br.mk (fun _=>?_) (fun _=>?_)<;>try (exfalso;omega))|(refine Sd.mk ?_ ?_;·exact qD)|(refine Sx.mk ?_ ?_;·omega)|refine Fa.mk fun _=>?_|refine Im.mk fun _=>?_|refine g_cond ?_
   refine at_callR (zbC (r:=S[j]) hf hk k4) ?_
   intro pb cb
   rw [hclj,← hLi j hlj hljL]
   generalize LL[j]=B at hda hB1 ⊢
   repeat' first|apply step|(apply gO;·repeat first|exact eZ|(apply eS;exact rfl))|apply Lw.go
   refine at_callR (zhL (a:=A) (b:=B) (by omega) (by omega)) ?_
   cases hft:fitL A B with
   | true =>
    rw [if_pos hft] at hda
    repeat' first|apply step|(apply gO;·repeat first|exact eZ|(apply eS;exact rfl))|(refine Sd.mk ?_ ?_;·exact qD)|apply Lw.go|refine g_cond ?_|refine g_keep ?_
    exact lp_next (j + 1) ⟨by omega,by omega,hda⟩ (by omega)
   | false =>
    rw [if_neg (by rw [hft];decide)] at hda
    rw [← hda] at hd
    repeat' first|apply step|(apply gO;·repeat first|exact eZ|(apply eS;exact rfl))|(refine Sd.mk ?_ ?_;·exact qD)|(refine Sx.mk ?_ ?_;·omega)|refine Fa.mk fun _=>?_|refine Im.mk fun _=>?_|apply Lw.go|refine g_cond ?_|refine g_keep ?_|refine g_fin ?_
    refine fin (hR1 i j hlt hlj hd.symm ((_,_),(_,_)) ((_,_),(_,_)))
  ·rw [List.drop_eq_nil_of_le (by omega)] at hda
   rw [← hda] at hd
   dsimp only [apartL] at hd
   by_cases hlen:ch.length < A.length
   ·rw [if_pos hlen] at hb1
    repeat' first|apply step|(apply gO;·repeat first|exact eZ|(apply eS;exact rfl))|(refine Br.mk (fun _=>?_) (fun _=>?_)<;>try (exfalso;omega))|(refine Sd.mk ?_ ?_;·exact qD)|refine g_cond ?_|refine g_keep ?_
    all_goals first|(exfalso;omega)|exact lp_next (i + 1,_,_) ⟨by dsimp only;omega,hd⟩ (by dsimp only;omega) (by rfl) (by dsimp only;rw [hb1];first|done|(repeat first|exact Ent.refl _|(apply Ent.more;· repeat first|exact Ent.keep|exact Ent.here|exact Ent.lend|exact ent_nil|apply Ent.there)|apply Ent.drop))
   ·rw [if_neg hlen] at hb1
    repeat' first|apply step|(apply gO;·repeat first|exact eZ|(apply eS;exact rfl))|(refine Br.mk (fun _=>?_) (fun _=>?_)<;>try (exfalso;omega))|(refine Sd.mk ?_ ?_;·exact qD)|refine g_cond ?_|refine g_keep ?_
    all_goals first|(exfalso;omega)|exact lp_next (i + 1,_,_) ⟨by dsimp only;omega,hd⟩ (by dsimp only;omega) (by rfl) (by dsimp only;rw [hb1];first|done|(repeat first|exact Ent.refl _|(apply Ent.more;· repeat first|exact Ent.keep|exact Ent.here|exact Ent.lend|exact ent_nil|apply Ent.there)|apply Ent.drop))
 ·rw [List.drop_eq_nil_of_le (by omega)] at hd
  rw [List.take_of_length_le (by omega)] at hbi ⊢
  have hR2:=hR2 hd.symm
  generalize bestL LL=ch at hR2 hbi ⊢
  repeat' first|apply step|(apply gO;·repeat first|exact eZ|(apply eS;exact rfl))|(refine Br.mk (fun _=>?_) (fun _=>?_)<;>try (exfalso;omega))|refine g_cond ?_|refine g_keep ?_
  refine at_callS (hwr) ?_
  intro pw cw
  repeat' first|apply step|(apply gO;·repeat first|exact eZ|(apply eS;exact rfl))|refine g_keep ?_
  refine at_loopS (ι:=Nat × (Option Addr × Nat)) (E:=fun z=>[(4,.pointer (some ⟨kb,0,none⟩)),(6,.pointer (some ⟨k2,0,none⟩)),(10,.slice pw L.length cw),(11,.int .i64 (z.1:Int))]) (Δ:=fun z=>own kHWr pw cw L::pt k2 [.int .i64 key,.slice q ch.length d,.slice z.2.1 (restL ch (L.take z.1)).length z.2.2,.bool false,.int .i64 0,.int .i64 0,.int .i64 0,.slice none 0 0,.slice none 0 0,.int .i64 0,.int .i64 0,.int .i64 0,.slice none 0 0,.slice none 0 0] 0::own (kInt .i64) z.2.1 z.2.2 (restL ch (L.take z.1))::fro (kInt .i64) q d ch::pt kb [.int .i64 0,.slice none 0 0,.slice none 0 0,.bool false,.int .i64 0,.int .i64 0,.int .i64 0,.slice none 0 0,.slice none 0 0,.int .i64 0,.int .i64 0,.int .i64 0,.slice none 0 0,.slice none 0 0] 0::pt hb [.slice p h.length c] 0::fro kHTx p c h::F) (P:=fun z=>z.1≤L.length) (μ:=fun z=>L.length - z.1) (0,(none,0)) (Nat.zero_le _) ?_
  rintro ⟨i2,q2,d2⟩ hi2
  dsimp only at hi2 ⊢
  have hrl:(restL ch (L.take i2)).length≤1200:=by
   unfold restL
   rw [List.length_map]
   have h1:=List.length_filter_le (fun w:HWr=>decide (w.value ∉ ch)) (L.take i2)
   have h2:(L.take i2).length≤1200:=by rw [List.length_take];omega
   omega
  rcases Nat.lt_or_ge i2 L.length with hlt2|hge2
  ·have hrx:=zfm (ch:=ch) hlt2
   generalize restL ch (L.take i2)=O at hrx hrl ⊢
   repeat' first|apply step|(apply gO;·repeat first|exact eZ|(apply eS;exact rfl))|(refine Br.mk (fun _=>?_) (fun _=>?_)<;>try (exfalso;omega))|(refine Sd.mk ?_ ?_;·exact qD)|(refine Sx.mk ?_ ?_;·omega)|refine Im.mk fun _=>?_|refine g_cond ?_
   refine at_callR (ze2 (l:=ch) (x:=L[i2].value) (by omega)) ?_
   refine ⟨fun hm=>?_,fun hm=>?_⟩
   ·rw [if_neg (fun q=>q hm),List.append_nil] at hrx
    repeat' first|apply step|(apply gO;·repeat first|exact eZ|(apply eS;exact rfl))|(refine Sd.mk ?_ ?_;·exact qD)|apply Lw.go|refine g_cond ?_|refine g_keep ?_
    exact lp_next (i2 + 1,_,_) (by dsimp only;omega) (by dsimp only;omega) (by rfl) (by dsimp only;rw [hrx];first|done|(repeat first|exact Ent.refl _|(apply Ent.more;· repeat first|exact Ent.keep|exact Ent.here|exact Ent.lend|exact ent_nil|apply Ent.there)|apply Ent.drop))
   ·rw [if_pos hm] at hrx
    repeat' first|apply step|(apply gO;·repeat first|exact eZ|(apply eS;exact rfl))|(refine Sd.mk ?_ ?_;·exact qD)|(refine Sx.mk ?_ ?_;·omega)|refine Fa.mk fun _=>?_|refine Im.mk fun _=>?_|apply Lw.go|refine g_cond ?_|refine g_keep ?_
    exact lp_next (i2 + 1,_,_) (by dsimp only;omega) (by dsimp only;omega) (by rfl) (by dsimp only;rw [hrx];first|done|(repeat first|exact Ent.refl _|(apply Ent.more;· repeat first|exact Ent.keep|exact Ent.here|exact Ent.lend|exact ent_nil|apply Ent.there)|apply Ent.drop))
  ·rw [List.take_of_length_le hge2]
   repeat' first|apply step|(apply gO;·repeat first|exact eZ|(apply eS;exact rfl))|(refine Br.mk (fun _=>?_) (fun _=>?_)<;>try (exfalso;omega))|refine g_cond ?_|refine g_keep ?_|refine g_fin ?_
   exact fin (hR2 _ _ _ _)
end
end Go.AMS

namespace Go.AMS
open Go.AM hiding Kt At WP WL Runs RunsY
open Go.AM.G
set_option linter.unusedVariables false
set_option linter.unusedSimpArgs false
set_option linter.unusedSectionVars false
set_option maxRecDepth 100000
set_option maxHeartbeats 1000000
attribute [local irreducible] AtS AtV AtC AtG FinA Spec Post LP G.At G.WP G.WL pt own fro rdl ro hx mp lrec elt sub

open Go.AM.G.Set Go.AM.G.Pre
section
variable {h:List HTx} {T:Tb} {r:HRd} {p q:Option Addr} {c d b:Nat}
theorem zha {prog:AProg} {rr:Option Nat} {e:Env} {Q:Pst} {kk:List Kt} {n:Nat} {d:Bool} {r:List AI} {F:List HP} {f:List (Int × List HWr)} {mt:Nat} (w:AtS n prog rr (.o d r::kk) .norm e (mapF mt kI kHWr f::F) Q):AtS n prog rr (.o d r::kk) .norm e (mapL mt kI kHWr f::F) Q:=by
 refine at_openP (mapL mt kI kHWr f) rfl ?_
 rintro Z hZ
 dsimp only [List.cons_append,List.nil_append]
 refine at_ent (Δ:=alls (ownE kHWr) Z::mp mt (amap kI slV Z)::_) (by repeat first|exact Ent.refl _|(apply Ent.more;· repeat first|exact Ent.keep|exact Ent.here|exact Ent.lend|exact ent_nil|apply Ent.there)|apply Ent.drop) ?_
 refine ze0 ?_
 refine at_foldP (mapF mt kI kHWr f) rfl Z hZ ?_
 exact w
theorem zgU {prog:AProg} {rr:Option Nat} {e:Env} {Q:Pst} {kk:List Kt} {n:Nat} {d:Bool} {r:List AI} {F:List HP} (w:∀ mr mt,AtS n prog rr (.o d r::kk) .norm e (mapF mt kI kHWr T.wt::tabC b T mr mt::mapF mr kI kHRd T.rd::F) Q):AtS n prog rr (.o d r::kk) .norm e (tab b T::F) Q:=by
 refine zkQ (fun mr mt=>?_)
 refine at_ent (Δ:=mapL mt kI kHWr T.wt::tabC b T mr mt::mapF mr kI kHRd T.rd::F) (by repeat first|exact Ent.refl _|(apply Ent.more;· repeat first|exact Ent.keep|exact Ent.here|exact Ent.lend|exact ent_nil|apply Ent.there)|apply Ent.drop) ?_
 exact zha (w mr mt)
/-- What is known of a history's table, for orders. -/
structure OfOk (h:List HTx) (key:Int):Prop where
 rd:RdOk (TH h)
 wt:(agl key (TH h).wt).length≤1200
 wb:∀ w ∈ agl key (TH h).wt,bI w.value
 sl:(ofS (TH h) key).length≤1200
 bd:∀ r ∈ ofS (TH h) key,bI r.txn∧bI r.op∧bI r.key
 ll:∀ r ∈ ofS (TH h) key,(r.list.length≤100∧r.own.length≤100)∧r.key=key
 se:soundL (wK (TH h) key) (rdK h key)=ofS (TH h) key
 le:outW h key (setL (comm h))=agl key (TH h).wt
theorem zeW {key:Int} {t:HTx} {r:HWr}:∀ n,n≤t.ops.length→r ∈ wtsN key t n→∃ j,∃ hj:j < t.ops.length,t.ops[j].read=false∧r.value=t.ops[j].value
 | 0,_,hr=>by cases hr
 | n + 1,hn,hr=>by
  simp only [wtsN] at hr
  rw [getD_lt (by omega:n < t.ops.length)] at hr
  rcases List.mem_append.1 hr with hr|hr
  ·exact zeW n (by omega) hr
  ·split at hr
   ·rename_i hc
    rw [List.mem_singleton.1 hr]
    exact ⟨n,by omega,hc.1,rfl⟩
   ·cases hr
theorem of_ok {key:Int} (hf:FewH h 20 60) (hk:OkH h):OfOk h key:=by
 have hrd:agl key (TH h).rd=rdK h key:=zcv hk.i key
 have hwt:agl key (TH h).wt=outW h key (setL (comm h)):=zii hk.i key
 have hby:∀ x,mayN x→bI x:=fun x hx=>by unfold mayN at hx;unfold bI;omega
 have hsm:∀ r ∈ ofS (TH h) key,r ∈ rdK h key:=fun r hr=>by rw [← hrd];exact (List.mem_filter.1 hr).1
 refine ⟨(th_ok hf hk).rd,by rw [hwt];exact zf3 hf hk.m key,fun w hw=>?_,?_,fun r hr=>?_,fun r hr=>?_,by unfold ofS;rw [hrd],hwt.symm⟩
 ·rw [hwt] at hw
  obtain ⟨x,hx,h1⟩:=List.mem_flatMap.1 hw
  obtain ⟨t,ht,hb,rfl⟩:=zai.1 (mem_setL.1 hx)
  rw [zu hk.i ht] at h1
  obtain ⟨j,hj,h2,h3⟩:=zeW _ (Nat.le_refl _) h1
  have hmo:=(hk.m t ht).2 _ (List.getElem_mem hj)
  unfold mayO at hmo
  rw [h2] at hmo
  rw [h3]
  exact hby _ (show mayN t.ops[j].value∧t.ops[j].list=[] by simpa using hmo.2).1
 ·have h1:(rdK h key).length≤1200:=zbS hf hk.m key
  have h2:=zdZ (W:=wK (TH h) key) (agl key (TH h).rd)
  rw [hrd] at h2
  unfold ofS
  rw [hrd];omega
 ·obtain ⟨t,ht,hb,j,h1,h2,h3,h4,h5⟩:=za5 hk (hsm r hr)
  subst h4
  have h6:=zt hf hk.m t.id (hk.m t ht).1
  rw [zu hk.i ht] at h6
  have hmo:=(hk.m t ht).2 _ (List.getElem_mem h1)
  rw [getD_lt h1] at h3
  refine ⟨hby _ (hk.m t ht).1,by unfold bI;dsimp only;omega,?_⟩
  dsimp only
  rw [← h3]
  unfold mayO at hmo
  split at hmo <;> exact hby _ hmo.1
 ·exact ((th_ok hf hk).rd key).2 r (List.mem_filter.1 hr).1
theorem zfc (L:List (List Int)):bestL L=[]∨bestL L ∈ L:=by
 have key:∀ (l:List (List Int)) (b:List Int),l.foldl longer b=b∨l.foldl longer b ∈ l:=by
  intro l
  induction l with
  | nil=>intro b;exact .inl rfl
  | cons x l ih =>
   intro b
   rcases ih (longer b x) with h|h
   ·rcases zfL b x with e|e
    ·exact .inl (h.trans e)
    ·exact .inr (by rw [List.foldl_cons,h,e];exact List.mem_cons_self)
   ·exact .inr (List.mem_cons_of_mem _ h)
 exact key L []
theorem ch_bI {key:Int} (hk:OkH h) {v:Int} (hv:v ∈ bestL (ofL (wK (TH h) key) (ofS (TH h) key))):bI v:=by
 rcases zfc (ofL (wK (TH h) key) (ofS (TH h) key)) with e|e
 ·rw [e] at hv;cases hv
 ·obtain ⟨r,hr,e2⟩:=List.mem_map.1 e
  rw [← e2] at hv
  have hv2:=(List.mem_filter.1 hv).1
  have hrd:agl key (TH h).rd=rdK h key:=zcv hk.i key
  have hr2:r ∈ rdK h key:=by rw [← hrd];exact (List.mem_filter.1 hr).1
  obtain ⟨t,ht,hb,j,h1,h2,h3,h4,h5⟩:=za5 hk hr2
  subst h4
  have hmo:=(hk.m t ht).2 _ (List.getElem_mem h1)
  rw [getD_lt h1] at h2 hv2
  unfold mayO at hmo
  rw [h2] at hmo
  have h6:t.ops[j].value=0∧∀ x ∈ t.ops[j].list,mayN x:=by simpa using hmo.2
  have h7:=h6.2 v hv2
  unfold mayN at h7
  unfold bI;omega
end
end Go.AMS

namespace Go.AMS
open Go.AM hiding Kt At WP WL Runs RunsY
open Go.AM.G
set_option linter.unusedVariables false
set_option linter.unusedSimpArgs false
set_option linter.unusedSectionVars false
set_option maxRecDepth 100000
set_option maxHeartbeats 1000000
attribute [local irreducible] AtS AtV AtC AtG FinA Spec Post LP G.At G.WP G.WL pt own fro rdl ro hx mp lrec elt sub

open Go.AM.G.Set Go.AM.G.Pre
section
variable {h:List HTx} {key:Int}
theorem zeq:∀ (l s:List Int),s.Nodup→twL s l=none→(s++l).Nodup
 | [],s,hs,_=>by rw [List.append_nil];exact hs
 | x::l,s,hs,e=>by
  unfold twL at e
  split at e
  ·cases e
  ·rename_i hx
   have h1:=zeq l (s++[x]) (by
    rw [List.nodup_append]
    exact ⟨hs,by simp,fun a ha b hb e2=>hx (by rw [List.mem_singleton.1 hb] at e2;exact e2 ▸ ha)⟩) e
   rw [List.append_assoc] at h1
   exact h1
theorem zbF {W:Wf}:∀ {l:List Int},bornL W l=none→∀ x ∈ l,∃ w,W x=some w
 | [],_,x,hx=>by cases hx
 | y::l,e,x,hx=>by
  unfold bornL at e
  split at e
  ·rename_i w hw
   rcases List.mem_cons.1 hx with q|q
   ·rw [q];exact ⟨w,hw⟩
   ·exact zbF e x q
  ·cases e
theorem zd3 {W:Wf} {r:HRd} (h0:(kindL W r).1=0):twL [] r.list=none∧bornL W r.list=none:=by
 unfold kindL at h0
 split at h0
 ·cases h0
 ·rename_i e1
  split at h0
  ·cases h0
  ·rename_i e2
   exact ⟨e1,e2⟩
theorem zdB {T:Tb} {r:HRd} (hr:r ∈ ofS T key):(kindL (wK T key) r).1=0:=of_decide_eq_true (List.mem_filter.1 hr).2
/-- The chain: no value twice, and each a committed transaction's. -/
theorem zjJ {T:Tb}:(bestL (ofL (wK T key) (ofS T key))).Nodup∧∀ x ∈ bestL (ofL (wK T key) (ofS T key)),∃ w,wK T key x=some w∧w.ab=false:=by
 rcases zfc (ofL (wK T key) (ofS T key)) with e|e
 ·rw [e];exact ⟨List.nodup_nil,fun x hx=>by cases hx⟩
 ·obtain ⟨r,hr,e2⟩:=List.mem_map.1 e
  rw [← e2]
  obtain ⟨k1,k2⟩:=zd3 (zdB hr)
  have hn:=zeq r.list [] List.nodup_nil k1
  rw [List.nil_append] at hn
  refine ⟨hn.filter _,fun x hx=>?_⟩
  obtain ⟨h1,h2⟩:=List.mem_filter.1 hx
  obtain ⟨w,hw⟩:=zbF k2 x h1
  refine ⟨w,hw,?_⟩
  unfold abW at h2
  rw [hw] at h2
  simpa using h2
theorem zeQ {key:Int} {t:HTx} {r:HWr}:∀ n,n≤t.ops.length→r ∈ wtsN key t n→∃ j,∃ hj:j < t.ops.length,j < n∧t.ops[j].read=false∧t.ops[j].key=key∧r=⟨t.id,(j:Nat),key,t.ops[j].value,false⟩
 | 0,_,hr=>by cases hr
 | n + 1,hn,hr=>by
  simp only [wtsN] at hr
  rw [getD_lt (by omega:n < t.ops.length)] at hr
  rcases List.mem_append.1 hr with hr|hr
  ·obtain ⟨j,hj,h1,h2⟩:=zeQ n (by omega) hr
   exact ⟨j,hj,by omega,h2⟩
  ·split at hr
   ·rename_i hc
    exact ⟨n,by omega,by omega,hc.1,hc.2,List.mem_singleton.1 hr⟩
   ·cases hr
theorem wt_at (hk:OkH h) {r:HWr} (hr:r ∈ outW h key (setL (comm h))):wK (TH h) key r.value=some r∧r.ab=false:=by
 obtain ⟨x,hx,h1⟩:=List.mem_flatMap.1 hr
 obtain ⟨t,ht,hb,rfl⟩:=zai.1 (mem_setL.1 hx)
 rw [zu hk.i ht] at h1
 obtain ⟨j,hj,_,h2,h3,rfl⟩:=zeQ _ (Nat.le_refl _) h1
 have:=zd0 hk.p ht hj h2 h3 rfl
 rw [hb] at this
 exact ⟨this,rfl⟩
end
end Go.AMS

namespace Go.AMS
open Go.AM hiding Kt At WP WL Runs RunsY
open Go.AM.G
set_option linter.unusedVariables false
set_option linter.unusedSimpArgs false
set_option linter.unusedSectionVars false
set_option maxRecDepth 100000
set_option maxHeartbeats 1000000
attribute [local irreducible] AtS AtV AtC AtG FinA Spec Post LP G.At G.WP G.WL pt own fro rdl ro hx mp lrec elt sub

open Go.AM.G.Set Go.AM.G.Pre
section
variable {h:List HTx} {key:Int}
def tupE (a:HEd):List Int:=[a.src,a.dst,a.kind,a.key,a.left,a.right]
def cmpL:List Int→List Int→Int
 | x::a,y::b=>if x < y then -1 else if y < x then 1 else cmpL a b
 | _,_=>0
def cmpE (a b:HEd):Int:=cmpL (tupE a) (tupE b)
theorem zdw:∀ a b:List Int,cmpL a b=-1∨cmpL a b=0∨cmpL a b=1
 | x::a,y::b=>by
  unfold cmpL
  split
  ·exact .inl rfl
  ·split
   ·exact .inr (.inr rfl)
   ·exact zdw a b
 | [],b=>by unfold cmpL;exact .inr (.inl rfl)
 | x::a,[]=>by unfold cmpL;exact .inr (.inl rfl)
theorem zek:∀ {a b:List Int},a.length=b.length→(cmpL a b=0 ↔ a=b)
 | [],[],_=>by simp [cmpL]
 | x::a,y::b,hl=>by
  have ih:=zek (a:=a) (b:=b) (by simpa using hl)
  unfold cmpL
  by_cases h1:x < y
  ·rw [if_pos h1]
   exact ⟨fun q=>absurd q (by decide),fun q=>by have:=(List.cons.inj q).1;omega⟩
  ·rw [if_neg h1]
   by_cases h2:y < x
   ·rw [if_pos h2]
    exact ⟨fun q=>absurd q (by decide),fun q=>by have:=(List.cons.inj q).1;omega⟩
   ·rw [if_neg h2,ih]
    have e:x=y:=by omega
    subst e
    simp
theorem zdS:∀ {a b:List Int},a.length=b.length→(cmpL a b=-1 ↔ cmpL b a=1)
 | [],[],_=>by simp [cmpL]
 | x::a,y::b,hl=>by
  have ih:=zdS (a:=a) (b:=b) (by simpa using hl)
  unfold cmpL
  by_cases h1:x < y
  ·rw [if_pos h1,if_neg (by omega),if_pos h1];simp
  ·rw [if_neg h1]
   by_cases h2:y < x
   ·rw [if_pos h2,if_pos h2];decide
   ·rw [if_neg h2,if_neg h2,if_neg h1];exact ih
theorem zfo:∀ {a b c:List Int},a.length=b.length→b.length=c.length→cmpL a b=-1→cmpL b c=-1→cmpL a c=-1
 | [],[],[],_,_,h1,_=>by simp [cmpL] at h1
 | x::a,y::b,z::c,hl,hl2,h1,h2=>by
  have ih:=fun q1 q2=>zfo (a:=a) (b:=b) (c:=c) (by simpa using hl) (by simpa using hl2) q1 q2
  unfold cmpL at h1 h2 ⊢
  by_cases e1:x < y
  ·by_cases e2:y < z
   ·rw [if_pos (by omega)]
   ·rw [if_neg e2] at h2
    by_cases e3:z < y
    ·rw [if_pos e3] at h2;cases h2
    ·rw [if_pos (by omega)]
  ·rw [if_neg e1] at h1
   by_cases e2:y < x
   ·rw [if_pos e2] at h1;cases h1
   ·rw [if_neg e2] at h1
    by_cases e3:y < z
    ·rw [if_pos (by omega)]
    ·rw [if_neg e3] at h2
     by_cases e4:z < y
     ·rw [if_pos e4] at h2;cases h2
     ·rw [if_neg e4] at h2
      rw [if_neg (by omega),if_neg (by omega)]
      exact ih h1 h2
def ltE (a b:HEd):Prop:=cmpE a b=-1
theorem zlg {a b:HEd} (e:tupE a=tupE b):a=b:=by
 cases a;cases b
 simp only [tupE,List.cons.injEq,and_true] at e
 obtain ⟨e1,e2,e3,e4,e5,e6⟩:=e
 subst e1;subst e2;subst e3;subst e4;subst e5;subst e6
 rfl
theorem zdI {a b:HEd}:cmpE a b=0 ↔ a=b:=by
 unfold cmpE
 rw [zek (show (tupE a).length=(tupE b).length from rfl)]
 exact ⟨zlg,fun e=>by rw [e]⟩
theorem zaQ {a b c:HEd} (h1:ltE a b) (h2:ltE b c):ltE a c:=zfo (show (tupE a).length=(tupE b).length from rfl) (show (tupE b).length=(tupE c).length from rfl) h1 h2
theorem zdO (a b:HEd):ltE a b∨a=b∨ltE b a:=by
 rcases zdw (tupE a) (tupE b) with h|h|h
 ·exact .inl h
 ·exact .inr (.inl (zdI.1 h))
 ·exact .inr (.inr ((zdS (show (tupE b).length=(tupE a).length from rfl)).2 h))
theorem zo (a:HEd):¬ ltE a a:=fun q=>by
 have:=zdI.2 (rfl:a=a)
 unfold ltE at q
 rw [this] at q;cases q
theorem zei {a b:HEd}:cmpE a b≤0 ↔ ¬ ltE b a:=by
 rcases zdw (tupE a) (tupE b) with h|h|h
 ·have e:cmpE a b=-1:=h
  rw [e]
  exact ⟨fun _ q=>zo a (zaQ e q),fun _=>by decide⟩
 ·have e:cmpE a b=0:=h
  rw [e]
  exact ⟨fun _ q=>by rw [zdI.1 e] at q;exact zo b q,fun _=>by decide⟩
 ·have e:cmpE a b=1:=h
  rw [e]
  exact ⟨fun q=>absurd q (by decide),fun q=>absurd ((zdS (show (tupE b).length=(tupE a).length from rfl)).2 h) q⟩
/-- What is in order so far: all that is not above its last. -/
structure SrtI (l O:List HEd):Prop where
 s:O.Pairwise ltE
 m:∀ x ∈ O,x ∈ l
 a:∀ x ∈ l,x ∉ O→∀ y ∈ O,ltE y x
theorem SrtI.nil (l:List HEd):SrtI l []:=⟨List.Pairwise.nil,fun _ q=>(by cases q),fun _ _ _ _ q=>(by cases q)⟩
theorem SrtI.nodup {l O:List HEd} (i:SrtI l O):O.Nodup:=i.s.imp fun {a b} q e=>by rw [e] at q;exact zo _ q
theorem SrtI.len {l O:List HEd} (i:SrtI l O):O.length≤l.length:=List.Nodup.length_le_of_subset i.nodup i.m
/-- Above the last one. -/
def upE (O:List HEd) (x:HEd):Prop:=∀ y,O.getLast? = some y→ltE y x
theorem SrtI.up {l O:List HEd} (i:SrtI l O) {x:HEd} (hx:x ∈ l):upE O x ↔ x ∉ O:=by
 constructor
 ·intro q hm
  cases hl:O.getLast? with
  | none=>rw [List.getLast?_eq_none_iff] at hl;rw [hl] at hm;cases hm
  | some y =>
   have h1:=q y hl
   obtain ⟨ys,rfl⟩:=List.getLast?_eq_some_iff.1 hl
   rcases List.mem_append.1 hm with g|g
   ·have:=(List.pairwise_append.1 i.s).2.2 x g y (List.mem_singleton.2 rfl)
    exact zo _ (zaQ h1 this)
   ·rw [List.mem_singleton.1 g] at h1;exact zo _ h1
 ·intro q y hy
  exact i.a x hx q y (List.mem_of_getLast? hy)
theorem SrtI.next {l O:List HEd} (i:SrtI l O) {x:HEd} (hx:x ∈ l) (hu:upE O x) (hb:∀ y ∈ l,upE O y→¬ ltE y x):SrtI l (O++[x]):=by
 have hn:=(i.up hx).1 hu
 refine ⟨?_,fun y hy=>?_,fun y hy hn2 z hz=>?_⟩
 ·rw [List.pairwise_append]
  exact ⟨i.s,by simp,fun a ha b hb2=>by rw [List.mem_singleton.1 hb2];exact i.a x hx hn a ha⟩
 ·rcases List.mem_append.1 hy with g|g
  ·exact i.m y g
  ·rw [List.mem_singleton.1 g];exact hx
 ·have hn3:y ∉ O:=fun q=>hn2 (List.mem_append.2 (.inl q))
  rcases List.mem_append.1 hz with g|g
  ·exact i.a y hy hn3 z g
  ·rw [List.mem_singleton.1 g]
   have h1:=hb y hy ((i.up hy).2 hn3)
   rcases zdO x y with q|q|q
   ·exact q
   ·exact absurd (List.mem_append.2 (.inr (List.mem_singleton.2 q.symm))) hn2
   ·exact absurd q h1
theorem SrtI.fin {l O:List HEd} (i:SrtI l O) (hb:∀ y ∈ l,¬ upE O y):∀ x,x ∈ O ↔ x ∈ l:=fun x=>⟨i.m x,fun hx=>by
 by_cases e:x ∈ O
 ·exact e
 ·exact absurd ((i.up hx).2 e) (hb x hx)⟩
def wtx (W:Wf) (x:Int):Int:=txZ (W x)
/-- What comes behind so many values. -/
def nxI (ch rs:List Int) (n:Nat):List Int:=if n=ch.length then rs else if n < ch.length then [ch.getD n 0] else []
def lastD (l:List Int):Int:=l.getLast?.getD (-1)
def chE (W:Wf) (key:Int) (ch:List Int) (n:Nat):List HEd:=(List.range n).map fun i=>⟨wtx W (ch.getD i 0),wtx W (ch.getD (i + 1) 0),1,key,ch.getD i 0,ch.getD (i + 1) 0⟩
def rsE (W:Wf) (key x:Int) (rs:List Int):List HEd:=rs.map fun y=>⟨wtx W x,wtx W y,1,key,x,y⟩
def frE (W:Wf) (key:Int) (r:HRd):List HEd:=match (cleanL W (frontL r)).getLast? with
 | some x=>[⟨wtx W x,r.txn,2,key,x,-1⟩]
 | none=>[]
def rwE (W:Wf) (key:Int) (r:HRd) (l:List Int):List HEd:=l.map fun y=>⟨r.txn,wtx W y,4,key,lastD (cleanL W r.list),y⟩
def rdE (W:Wf) (key:Int) (ch rs:List Int) (r:HRd):List HEd:=frE W key r++rwE W key r (nxI ch rs (cleanL W r.list).length)
def ofE (W:Wf) (key:Int) (S:List HRd) (ch rs:List Int):List HEd:=chE W key ch (ch.length - 1)++((if 0 < ch.length then rsE W key (lastD ch) rs else [])++S.flatMap (rdE W key ch rs))
def ownsP (W:Wf) (id x:Int):Prop:=∃ w,W x=some w∧w.txn=id∧w.ab=false
def jdgW (W:Wf) (ch rs:List Int) (x:HEd):Prop:=∃ i,ch[i]? = some x.left∧x.right ∈ nxI ch rs (i + 1)∧ownsP W x.src x.left∧ownsP W x.dst x.right
def jdgS (W:Wf) (S:List HRd) (x:HEd):Prop:=x.right=-1∧ownsP W x.src x.left∧∃ r ∈ S,r.txn=x.dst∧lastD (cleanL W (frontL r))=x.left
def jdgM (W:Wf) (S:List HRd) (ch rs:List Int) (x:HEd):Prop:=ownsP W x.dst x.right∧∃ r ∈ S,r.txn=x.src∧lastD (cleanL W r.list)=x.left∧x.right ∈ nxI ch rs (cleanL W r.list).length
def jdgE (W:Wf) (S:List HRd) (ch rs:List Int) (x:HEd):Prop:=(x.kind=1∧jdgW W ch rs x)∨(x.kind=2∧jdgS W S x)∨(x.kind=4∧jdgM W S ch rs x)
theorem zaC {W:Wf} {id x:Int} (h:ownsP W id x):wtx W x=id:=by
 obtain ⟨w,h1,h2,_⟩:=h
 unfold wtx
 rw [h1];exact h2
theorem zat {l:List Int} (h:0 < l.length):lastD l=l[l.length - 1]:=by
 unfold lastD
 rw [List.getLast?_eq_getElem?,List.getElem?_eq_getElem (by omega)];rfl
theorem zb9 {ch rs:List Int} {n:Nat} {y:Int} (hy:y ∈ nxI ch rs n):(n=ch.length∧y ∈ rs)∨∃ h:n < ch.length,y=ch[n]:=by
 unfold nxI at hy
 split at hy
 ·exact .inl ⟨‹_›,hy⟩
 ·split at hy
  ·rename_i q
   rw [getD_lt q] at hy
   exact .inr ⟨q,List.mem_singleton.1 hy⟩
  ·cases hy
theorem zjB {W:Wf} {ch rs:List Int} (hc:∀ x ∈ ch,∃ w,W x=some w∧w.ab=false) (hr:∀ x ∈ rs,∃ w,W x=some w∧w.ab=false) {n:Nat} {y:Int} (hy:y ∈ nxI ch rs n):ownsP W (wtx W y) y:=by
 have:∃ w,W y=some w∧w.ab=false:=by
  rcases zb9 hy with ⟨_,q⟩|⟨q,rfl⟩
  ·exact hr y q
  ·exact hc _ (List.getElem_mem _)
 obtain ⟨w,h1,h2⟩:=this
 exact ⟨w,h1,by unfold wtx;rw [h1];rfl,h2⟩
theorem zaT {W:Wf} {x:Int} (hc:∃ w,W x=some w∧w.ab=false):ownsP W (wtx W x) x:=by
 obtain ⟨w,h1,h2⟩:=hc
 exact ⟨w,h1,by unfold wtx;rw [h1];rfl,h2⟩
/-- An edge is judged to be one just if it is one. -/
theorem zjG {W:Wf} {S:List HRd} {ch rs:List Int} (hc:∀ x ∈ ch,∃ w,W x=some w∧w.ab=false) (hr:∀ x ∈ rs,∃ w,W x=some w∧w.ab=false) (hf:∀ r ∈ S,∀ x ∈ cleanL W (frontL r),∃ w,W x=some w∧w.ab=false) (hz:W (-1)=none) (x:HEd):x ∈ ofE W key S ch rs ↔ x.key=key∧jdgE W S ch rs x:=by
 have hn0:¬ ∃ id,ownsP W id (-1):=fun ⟨id,w,q,_⟩=>by rw [hz] at q;cases q
 unfold ofE
 rw [List.mem_append,List.mem_append]
 constructor
 ·rintro (q|q|q)
  ·obtain ⟨i,hi,rfl⟩:=List.mem_map.1 q
   have hi:=List.mem_range.1 hi
   refine ⟨rfl,.inl ⟨rfl,i,?_,?_,?_,?_⟩⟩
   ·dsimp only
    rw [getD_lt (by omega:i < ch.length)];exact List.getElem?_eq_getElem _
   ·dsimp only
    unfold nxI
    rw [if_neg (by omega),if_pos (by omega)];exact List.mem_singleton.2 rfl
   ·dsimp only
    rw [getD_lt (by omega:i < ch.length)]
    exact zaT (hc _ (List.getElem_mem _))
   ·dsimp only
    rw [getD_lt (by omega:i + 1 < ch.length)]
    exact zaT (hc _ (List.getElem_mem _))
  ·split at q
   ·rename_i hl
    obtain ⟨y,hy,rfl⟩:=List.mem_map.1 q
    rw [zat hl]
    refine ⟨rfl,.inl ⟨rfl,ch.length - 1,List.getElem?_eq_getElem _,?_,zaT (hc _ (List.getElem_mem _)),zaT (hr y hy)⟩⟩
    dsimp only
    unfold nxI
    rw [if_pos (by omega)];exact hy
   ·cases q
  ·obtain ⟨r,hr1,q⟩:=List.mem_flatMap.1 q
   rcases List.mem_append.1 q with q|q
   ·unfold frE at q
    split at q
    ·rename_i y hy
     have e:=List.mem_singleton.1 q
     subst e
     refine ⟨rfl,.inr (.inl ⟨rfl,rfl,zaT (hf r hr1 y (List.mem_of_getLast? hy)),r,hr1,rfl,?_⟩)⟩
     unfold lastD
     rw [hy];rfl
    ·cases q
   ·obtain ⟨y,hy,rfl⟩:=List.mem_map.1 q
    exact ⟨rfl,.inr (.inr ⟨rfl,zjB hc hr hy,r,hr1,rfl,rfl,hy⟩)⟩
 ·obtain ⟨src,dst,kind,k0,left,right⟩:=x
  rintro ⟨rfl,⟨rfl,i,h1,h2,h3,h4⟩|⟨rfl,rfl,h1,r,hr1,h2,h3⟩|⟨rfl,h1,r,hr1,h2,h3,h4⟩⟩
  ·dsimp only at h1 h2 h3 h4
   obtain ⟨hi,rfl⟩:=List.getElem?_eq_some_iff.1 h1
   have e3:=zaC h3
   have e4:=zaC h4
   subst e3
   subst e4
   rcases zb9 h2 with ⟨g1,g2⟩|⟨g1,rfl⟩
   ·refine .inr (.inl ?_)
    rw [if_pos (by omega),zat (by omega)]
    refine List.mem_map.2 ⟨right,g2,?_⟩
    have e:ch.length - 1=i:=by omega
    simp only [e]
   ·refine .inl (List.mem_map.2 ⟨i,List.mem_range.2 (by omega),?_⟩)
    rw [getD_lt hi,getD_lt g1]
  ·dsimp only at h1 h2 h3
   refine .inr (.inr (List.mem_flatMap.2 ⟨r,hr1,List.mem_append.2 (.inl ?_)⟩))
   unfold frE
   unfold lastD at h3
   cases hl:(cleanL W (frontL r)).getLast? with
   | none=>rw [hl] at h3;exact absurd ⟨src,by rw [show (-1:Int)=left from h3];exact h1⟩ hn0
   | some y =>
    rw [hl] at h3
    have e:y=left:=h3
    subst e
    have e1:=zaC h1
    subst e1
    subst h2
    exact List.mem_singleton.2 rfl
  ·dsimp only at h1 h2 h3 h4
   have e1:=zaC h1
   subst e1
   subst h2
   subst h3
   exact .inr (.inr (List.mem_flatMap.2 ⟨r,hr1,List.mem_append.2 (.inr (List.mem_map.2 ⟨right,h4,rfl⟩))⟩))
end
end Go.AMS

namespace Go.AMS
open Go.AM hiding Kt At WP WL Runs RunsY
open Go.AM.G
set_option linter.unusedVariables false
set_option linter.unusedSimpArgs false
set_option linter.unusedSectionVars false
set_option maxRecDepth 100000
set_option maxHeartbeats 1000000
attribute [local irreducible] AtS AtV AtC AtG FinA Spec Post LP G.At G.WP G.WL pt own fro rdl ro hx mp lrec elt sub

open Go.AM.G.Set Go.AM.G.Pre
section
variable {h:List HTx} {key:Int}
/-- The chain of a key, and its rest. -/
noncomputable def chH (h:List HTx) (key:Int):List Int:=bestL (ofL (wK (TH h) key) (ofS (TH h) key))
noncomputable def rsH (h:List HTx) (key:Int):List Int:=restL (chH h key) (agl key (TH h).wt)
theorem zkk:∀ x ∈ chH h key,∃ w,wK (TH h) key x=some w∧w.ab=false:=zjJ.2
theorem zeT (hf:FewH h 20 60) (hk:OkH h):∀ x ∈ rsH h key,∃ w,wK (TH h) key x=some w∧w.ab=false:=fun x hx=>by
 unfold rsH restL at hx
 obtain ⟨w,hw,rfl⟩:=List.mem_map.1 hx
 have h1:=(List.mem_filter.1 hw).1
 rw [← (of_ok hf hk).le] at h1
 exact ⟨w,wt_at hk h1⟩
theorem zfM:∀ r ∈ ofS (TH h) key,∀ x ∈ cleanL (wK (TH h) key) (frontL r),∃ w,wK (TH h) key x=some w∧w.ab=false:=fun r hr x hx=>by
 obtain ⟨h1,h2⟩:=List.mem_filter.1 hx
 obtain ⟨_,k2⟩:=zd3 (zdB hr)
 obtain ⟨w,hw⟩:=zbF k2 x (List.mem_of_mem_take h1)
 refine ⟨w,hw,?_⟩
 unfold abW at h2
 rw [hw] at h2
 simpa using h2
theorem zel (hk:OkH h):wK (TH h) key (-1)=none:=by
 cases hw:wK (TH h) key (-1) with
 | none=>rfl
 | some w =>
  obtain ⟨t,ht,i,hi,⟨g1,g2,g3⟩,_⟩:=wr_at hk hw
  have hmo:=(hk.m t ht).2 _ (List.getElem_mem hi)
  unfold mayO at hmo
  rw [g1] at hmo
  have h2:mayN t.ops[i].value∧t.ops[i].list=[]:=by simpa using hmo.2
  unfold mayN at h2
  omega
/-- The edges of a key, those to itself among them. -/
noncomputable def keyE (h:List HTx) (key:Int):List HEd:=match badL (ofL (wK (TH h) key) (ofS (TH h) key)) 0 with
 | none=>ofE (wK (TH h) key) key (ofS (TH h) key) (chH h key) (rsH h key)
 | some _=>[]
def neE (a:HEd):Bool:=decide (a.src≠a.dst)
noncomputable def allE (h:List HTx) (keys:List Int):List HEd:=keys.flatMap fun key=>(keyE h key).filter neE
end
end Go.AMS

namespace Go.AMS
open Go.AM hiding Kt At WP WL Runs RunsY
open Go.AM.G
set_option linter.unusedVariables false
set_option linter.unusedSimpArgs false
set_option linter.unusedSectionVars false
set_option maxRecDepth 100000
set_option maxHeartbeats 1000000
attribute [local irreducible] AtS AtV AtC AtG FinA Spec Post LP G.At G.WP G.WL pt own fro rdl ro hx mp lrec elt sub

open Go.AM.G.Set Go.AM.G.Pre
section
variable {h:List HTx} {p q:Option Addr} {c d:Nat} {a b:HEd} {l:List HEd} {key:Int}
def bE (a:HEd):Prop:=bI a.src∧bI a.dst∧bI a.kind∧bI a.key∧bI a.left∧bI a.right
theorem zl1 {a b:List Int} {j:Nat} (h1:j < a.length) (h2:j < b.length):cmpL (a.drop j) (b.drop j)=if a[j] < b[j] then -1 else if b[j] < a[j] then 1 else cmpL (a.drop (j + 1)) (b.drop (j + 1)):=by
 rw [List.drop_eq_getElem_cons h1,List.drop_eq_getElem_cons h2]
 rfl
theorem za1 (ha:bE a) (hb:bE b):Spec prog1 z8 [.agg #[.int .i64 a.src,.int .i64 a.dst,.int .i64 a.kind,.int .i64 a.key,.int .i64 a.left,.int .i64 a.right],.agg #[.int .i64 b.src,.int .i64 b.dst,.int .i64 b.kind,.int .i64 b.key,.int .i64 b.left,.int .i64 b.right]] [] (fun R=>R (.int .i64 (cmpE a b)) []):=by
 refine spec_code ziI rfl ?_;intro n F R hR;unfold zdn
 have hla:(tupE a).length=6:=rfl
 have hlb:(tupE b).length=6:=rfl
 repeat' first|apply step|(apply gO;·repeat first|exact eZ|(apply eS;exact rfl))|refine Fa.mk fun _=>?_|refine g_keep ?_
 rename_i xa xb
 refine at_ent (pt_own (K:=kInt .i64) (l:=tupE b) (cap:=6) rfl (show OfVs _ (kInt .i64) [.int .i64 b.src,.int .i64 b.dst,.int .i64 b.kind,.int .i64 b.key,.int .i64 b.left,.int .i64 b.right] (tupE b) _ from inferInstance) hb) ?_
 refine at_via (pt_own (K:=kInt .i64) (b:=xa) (cs:=[.int .i64 a.src,.int .i64 a.dst,.int .i64 a.kind,.int .i64 a.key,.int .i64 a.left,.int .i64 a.right]) (l:=tupE a) (cap:=6) rfl (show OfVs _ (kInt .i64) [.int .i64 a.src,.int .i64 a.dst,.int .i64 a.kind,.int .i64 a.key,.int .i64 a.left,.int .i64 a.right] (tupE a) _ from inferInstance) ha) ?_
 refine at_loopS (ι:=Nat) (E:=fun j=>[(5,.slice (some ⟨xa,0,none⟩) 6 6),(6,.slice (some ⟨xb,0,none⟩) 6 6),(7,.int .i64 (j:Int))]) (Δ:=fun j=>own (kInt .i64) (some ⟨xa,0,none⟩) 6 (tupE a)::own (kInt .i64) (some ⟨xb,0,none⟩) 6 (tupE b)::F) (P:=fun j=>j≤6∧cmpL ((tupE a).drop j) ((tupE b).drop j)=cmpE a b) (μ:=fun j=>6 - j) 0 ⟨Nat.zero_le _,rfl⟩ ?_
 rintro j ⟨hj,hd⟩
 try dsimp only
 rcases Nat.lt_or_ge j 6 with hlt|hge
 ·have h1:j < (tupE a).length:=hlt
  have h2:j < (tupE b).length:=hlt
  rw [zl1 h1 h2] at hd
  by_cases e1:(tupE a)[j]'h1 < (tupE b)[j]'h2
  ·rw [if_pos e1] at hd
   rw [← hd] at hR
   repeat' first|apply step|(apply gO;·repeat first|exact eZ|(apply eS;exact rfl))|(refine Br.mk (fun _=>?_) (fun _=>?_)<;>try (exfalso;omega))|(refine Sd.mk ?_ ?_;·exact qD)|(refine Sx.mk ?_ ?_;·omega)|refine Im.mk fun _=>?_|refine g_cond ?_|refine g_keep ?_|refine g_fin ?_
   all_goals first|exact fin hR|(exfalso;omega)
  ·rw [if_neg e1] at hd
   by_cases e2:(tupE b)[j]'h2 < (tupE a)[j]'h1
   ·rw [if_pos e2] at hd
    rw [← hd] at hR
    repeat' first|apply step|(apply gO;·repeat first|exact eZ|(apply eS;exact rfl))|(refine Br.mk (fun _=>?_) (fun _=>?_)<;>try (exfalso;omega))|(refine Sd.mk ?_ ?_;·exact qD)|(refine Sx.mk ?_ ?_;·omega)|refine Im.mk fun _=>?_|refine g_cond ?_|refine g_keep ?_|refine g_fin ?_
    all_goals first|exact fin hR|(exfalso;omega)
   ·rw [if_neg e2] at hd
    repeat' first|apply step|(apply gO;·repeat first|exact eZ|(apply eS;exact rfl))|(refine Br.mk (fun _=>?_) (fun _=>?_)<;>try (exfalso;omega))|(refine Sd.mk ?_ ?_;·exact qD)|(refine Sx.mk ?_ ?_;·omega)|refine Im.mk fun _=>?_|refine g_cond ?_|refine g_keep ?_
    all_goals first|(exfalso;omega)|exact lp_next (j + 1) ⟨by omega,hd⟩ (by omega)
 ·have e:j=6:=by omega
  subst e
  have hd0:(0:Int)=cmpE a b:=hd
  rw [← hd0] at hR
  repeat' first|apply step|(apply gO;·repeat first|exact eZ|(apply eS;exact rfl))|(refine Br.mk (fun _=>?_) (fun _=>?_)<;>try (exfalso;omega))|refine g_cond ?_|refine g_keep ?_|refine g_fin ?_
  all_goals first|exact fin hR|(exfalso;omega)
def zEd:HEd:=⟨0,0,0,0,0,0⟩
theorem zcO {a b:HEd}:cmpE a b < 0 ↔ ltE a b:=by
 rcases zdw (tupE a) (tupE b) with q|q|q
 ·have e:cmpE a b=-1:=q
  unfold ltE
  rw [e];decide
 ·have e:cmpE a b=0:=q
  unfold ltE
  rw [e];decide
 ·have e:cmpE a b=1:=q
  unfold ltE
  rw [e];decide
theorem zjk {O:List HEd} {x:HEd} (h:0 < O.length):upE O x ↔ ltE O[O.length - 1] x:=by
 have e:O.getLast? = some O[O.length - 1]:=by rw [List.getLast?_eq_getElem?,List.getElem?_eq_getElem (by omega)]
 unfold upE
 rw [e]
 exact ⟨fun q=>q _ rfl,fun q y hy=>by cases hy;exact q⟩
theorem zeN {O:List HEd} {x:HEd} (h:((O.length:Int) - 1).toNat < O.length):upE O x ↔ ltE O[((O.length:Int) - 1).toNat] x:=by
 have e:((O.length:Int) - 1).toNat=O.length - 1:=by omega
 rw [zjk (by omega)]
 simp only [e]
theorem zj7 {x:HEd}:upE [] x:=fun y hy=>by cases hy
/-- The least above the last, of the first ones. -/
def BstI (l O:List HEd) (k:Nat) (b:Option HEd):Prop:=(b=none→∀ x ∈ l.take k,¬ upE O x)∧∀ y,b=some y→y ∈ l∧upE O y∧∀ x ∈ l.take k,upE O x→¬ ltE x y
theorem BstI.skip {l O:List HEd} {k:Nat} {b:Option HEd} (i:BstI l O k b) (hk:k < l.length) (hn:¬ upE O l[k]):BstI l O (k + 1) b:=by
 refine ⟨fun e x hx=>?_,fun y e=>?_⟩
 ·rw [List.take_succ_eq_append_getElem hk] at hx
  rcases List.mem_append.1 hx with q|q
  ·exact i.1 e x q
  ·rw [List.mem_singleton.1 q];exact hn
 ·obtain ⟨h1,h2,h3⟩:=i.2 y e
  refine ⟨h1,h2,fun x hx hu=>?_⟩
  rw [List.take_succ_eq_append_getElem hk] at hx
  rcases List.mem_append.1 hx with q|q
  ·exact h3 x q hu
  ·rw [List.mem_singleton.1 q] at hu;exact absurd hu hn
theorem BstI.new {l O:List HEd} {k:Nat} {b:Option HEd} (i:BstI l O k b) (hk:k < l.length) (hu:upE O l[k]) (hb:∀ y,b=some y→ltE l[k] y):BstI l O (k + 1) (some l[k]):=by
 refine ⟨fun e=>(by cases e),fun y e=>?_⟩
 cases e
 refine ⟨List.getElem_mem _,hu,fun x hx hux=>?_⟩
 rw [List.take_succ_eq_append_getElem hk] at hx
 rcases List.mem_append.1 hx with q|q
 ·cases hb2:b with
  | none=>exact absurd hux (i.1 hb2 x q)
  | some y =>
   have h1:=(i.2 y hb2).2.2 x q hux
   intro g
   exact h1 (zaQ g (hb y hb2))
 ·rw [List.mem_singleton.1 q];exact zo _
theorem BstI.old {l O:List HEd} {k:Nat} {y:HEd} (i:BstI l O k (some y)) (hk:k < l.length) (hn:¬ ltE l[k] y):BstI l O (k + 1) (some y):=by
 obtain ⟨h1,h2,h3⟩:=i.2 y rfl
 refine ⟨fun e=>(by cases e),fun z e=>?_⟩
 cases e
 refine ⟨h1,h2,fun x hx hu=>?_⟩
 rw [List.take_succ_eq_append_getElem hk] at hx
 rcases List.mem_append.1 hx with q|q
 ·exact h3 x q hu
 ·rw [List.mem_singleton.1 q];exact hn
theorem ziH (hl:l.length≤20000000000) (hlb:∀ x ∈ l,bE x):Spec prog1 zbD [.slice p l.length c] [rdl kHEd p l] (fun R=>∀ Z p' c',SrtI l Z→(∀ x,x ∈ Z ↔ x ∈ l)→R (.slice p' Z.length c') [own kHEd p' c' Z]):=by
 refine spec_code zlF rfl ?_;intro n F R hR;unfold zcp
 repeat' first|apply step|(apply gO;·repeat first|exact eZ|(apply eS;exact rfl))|refine g_keep ?_
 refine at_loopS (ι:=Nat × (Option Addr × Nat) × List HEd) (E:=fun z=>[(0,.slice p l.length c),(3,.slice z.2.1.1 z.2.2.length z.2.1.2),(4,.int .i64 (z.1:Int))]) (Δ:=fun z=>own kHEd z.2.1.1 z.2.1.2 z.2.2::rdl kHEd p l::F) (P:=fun z=>z.1≤l.length + 1∧SrtI l z.2.2∧z.2.2.length=z.1) (μ:=fun z=>l.length + 1 - z.1) (0,(none,0),[]) ⟨Nat.zero_le _,SrtI.nil l,rfl⟩ ?_
 rintro ⟨n1,⟨po,co⟩,O⟩ ⟨hn,hO,hOl⟩
 dsimp only at hn hO hOl ⊢
 have hlen:=hO.len
 rcases Nat.lt_or_ge n1 (l.length + 1) with hlt|hge
 ·repeat' first|apply step|(apply gO;·repeat first|exact eZ|(apply eS;exact rfl))|(refine Br.mk (fun _=>?_) (fun _=>?_)<;>try (exfalso;omega))|refine Fa.mk fun _=>?_|refine g_cond ?_|refine g_keep ?_
  rename_i bb
  refine at_loopS (ι:=Nat × Option HEd) (E:=fun z=>[(0,.slice p l.length c),(3,.slice po O.length co),(4,.int .i64 (n1:Int)),(5,.pointer (some ⟨bb,0,none⟩)),(6,.bool z.2.isSome),(7,.int .i64 (z.1:Int))]) (Δ:=fun z=>pt bb [.int .i64 (z.2.getD zEd).src,.int .i64 (z.2.getD zEd).dst,.int .i64 (z.2.getD zEd).kind,.int .i64 (z.2.getD zEd).key,.int .i64 (z.2.getD zEd).left,.int .i64 (z.2.getD zEd).right] 0::own kHEd po co O::rdl kHEd p l::F) (P:=fun z=>z.1≤l.length∧BstI l O z.1 z.2) (μ:=fun z=>l.length - z.1) (0,none) ⟨Nat.zero_le _,fun _ x hx=>(by simp at hx),fun y e=>(by cases e)⟩ ?_
  rintro ⟨k,bo⟩ ⟨hk,hB⟩
  dsimp only at hk hB ⊢
  rcases Nat.lt_or_ge k l.length with hlk|hgk
  ·have hbk:=hlb l[k] (List.getElem_mem _)
   by_cases hO0:0 < O.length
   ·have hiL:((O.length:Int) - 1).toNat < O.length:=by omega
    have hbL:=hlb (O[((O.length:Int) - 1).toNat]'hiL) (hO.m _ (List.getElem_mem _))
    by_cases hc:cmpE l[k] (O[((O.length:Int) - 1).toNat]'hiL)≤0
    ·have hu:¬ upE O l[k]:=fun q=>zei.1 hc ((zeN hiL).1 q)
     repeat' first|apply step|(apply gO;·repeat first|exact eZ|(apply eS;exact rfl))|(refine Br.mk (fun _=>?_) (fun _=>?_)<;>try (exfalso;omega))|(refine Sd.mk ?_ ?_;·exact qD)|(refine Sx.mk ?_ ?_;·omega)|refine Fa.mk fun _=>?_|refine Im.mk fun _=>?_|refine g_cond ?_|refine g_guard ?_
     all_goals try (exfalso;omega)
     refine at_callS (za1 hbk hbL) ?_
     repeat' first|apply step|(apply gO;·repeat first|exact eZ|(apply eS;exact rfl))|(refine Br.mk (fun _=>?_) (fun _=>?_)<;>try (exfalso;omega))|(refine Sd.mk ?_ ?_;·exact qD)|refine g_cond ?_|refine g_guard ?_|refine g_keep ?_
     all_goals first|(exfalso;omega)|exact lp_next (k + 1,bo) ⟨by dsimp only;omega,hB.skip hlk hu⟩ (by dsimp only;omega)
    ·have hu:upE O l[k]:=(zeN hiL).2 (Classical.byContradiction fun q=>hc (zei.2 q))
     cases bo with
     | none =>
      dsimp only [Option.isSome,Option.getD]
      repeat' first|apply step|(apply gO;·repeat first|exact eZ|(apply eS;exact rfl))|(refine Br.mk (fun _=>?_) (fun _=>?_)<;>try (exfalso;omega))|(refine Sd.mk ?_ ?_;·exact qD)|(refine Sx.mk ?_ ?_;·omega)|refine Fa.mk fun _=>?_|refine Im.mk fun _=>?_|refine g_cond ?_|refine g_guard ?_
      all_goals try (exfalso;omega)
      refine at_callS (za1 hbk hbL) ?_
      repeat' first|apply step|(apply gO;·repeat first|exact eZ|(apply eS;exact rfl))|(refine Br.mk (fun _=>?_) (fun _=>?_)<;>try (exfalso;omega))|(refine Sd.mk ?_ ?_;·exact qD)|(refine Sx.mk ?_ ?_;·omega)|refine Fa.mk fun _=>?_|refine Im.mk fun _=>?_|refine g_cond ?_|refine g_guard ?_|refine g_keep ?_
      all_goals try (exfalso;omega)
      all_goals first|(exfalso;omega)|exact lp_next (k + 1,some l[k]) ⟨by dsimp only;omega,hB.new hlk hu (fun y e=>by cases e)⟩ (by dsimp only;omega)
     | some y =>
      obtain ⟨hy1,hy2,hy3⟩:=hB.2 y rfl
      have hby:=hlb y hy1
      dsimp only [Option.isSome,Option.getD]
      repeat' first|apply step|(apply gO;·repeat first|exact eZ|(apply eS;exact rfl))|(refine Br.mk (fun _=>?_) (fun _=>?_)<;>try (exfalso;omega))|(refine Sd.mk ?_ ?_;·exact qD)|(refine Sx.mk ?_ ?_;·omega)|refine Fa.mk fun _=>?_|refine Im.mk fun _=>?_|refine g_cond ?_|refine g_guard ?_
      all_goals try (exfalso;omega)
      refine at_callS (za1 hbk hbL) ?_
      repeat' first|apply step|(apply gO;·repeat first|exact eZ|(apply eS;exact rfl))|(refine Br.mk (fun _=>?_) (fun _=>?_)<;>try (exfalso;omega))|(refine Sd.mk ?_ ?_;·exact qD)|(refine Sx.mk ?_ ?_;·omega)|refine Fa.mk fun _=>?_|refine Im.mk fun _=>?_|refine g_cond ?_|refine g_guard ?_|refine g_keep ?_
      all_goals try (exfalso;omega)
      all_goals try (exfalso;omega)
      refine at_callS (za1 hbk hby) ?_
      by_cases hlt2:cmpE l[k] y < 0
      ·repeat' first|apply step|(apply gO;·repeat first|exact eZ|(apply eS;exact rfl))|(refine Br.mk (fun _=>?_) (fun _=>?_)<;>try (exfalso;omega))|(refine Sd.mk ?_ ?_;·exact qD)|(refine Sx.mk ?_ ?_;·omega)|refine Fa.mk fun _=>?_|refine Im.mk fun _=>?_|refine g_cond ?_|refine g_guard ?_|refine g_keep ?_
       all_goals first|(exfalso;omega)|exact lp_next (k + 1,some l[k]) ⟨by dsimp only;omega,hB.new hlk hu (fun z e=>by cases e;exact zcO.1 hlt2)⟩ (by dsimp only;omega)
      ·repeat' first|apply step|(apply gO;·repeat first|exact eZ|(apply eS;exact rfl))|(refine Br.mk (fun _=>?_) (fun _=>?_)<;>try (exfalso;omega))|(refine Sd.mk ?_ ?_;·exact qD)|refine g_cond ?_|refine g_guard ?_|refine g_keep ?_
       all_goals first|(exfalso;omega)|exact lp_next (k + 1,some y) ⟨by dsimp only;omega,hB.old hlk (fun g=>hlt2 (zcO.2 g))⟩ (by dsimp only;omega)
   ·have hOe:O=[]:=List.eq_nil_of_length_eq_zero (by omega)
    subst hOe
    have hu:upE [] l[k]:=zj7
    cases bo with
    | none =>
     dsimp only [Option.isSome,Option.getD]
     repeat' first|apply step|(apply gO;·repeat first|exact eZ|(apply eS;exact rfl))|(refine Br.mk (fun _=>?_) (fun _=>?_)<;>try (exfalso;omega))|(refine Sd.mk ?_ ?_;·exact qD)|(refine Sx.mk ?_ ?_;·omega)|refine Fa.mk fun _=>?_|refine Im.mk fun _=>?_|refine g_cond ?_|refine g_guard ?_|refine g_keep ?_
     all_goals first|(exfalso;omega)|exact lp_next (k + 1,some l[k]) ⟨by dsimp only;omega,hB.new hlk hu (fun y e=>by cases e)⟩ (by dsimp only;omega)
    | some y =>
     obtain ⟨hy1,hy2,hy3⟩:=hB.2 y rfl
     have hby:=hlb y hy1
     dsimp only [Option.isSome,Option.getD]
     repeat' first|apply step|(apply gO;·repeat first|exact eZ|(apply eS;exact rfl))|(refine Br.mk (fun _=>?_) (fun _=>?_)<;>try (exfalso;omega))|(refine Sd.mk ?_ ?_;·exact qD)|(refine Sx.mk ?_ ?_;·omega)|refine Fa.mk fun _=>?_|refine Im.mk fun _=>?_|refine g_cond ?_|refine g_guard ?_|refine g_keep ?_
     all_goals try (exfalso;omega)
     refine at_callS (za1 hbk hby) ?_
     by_cases hlt2:cmpE l[k] y < 0
     ·repeat' first|apply step|(apply gO;·repeat first|exact eZ|(apply eS;exact rfl))|(refine Br.mk (fun _=>?_) (fun _=>?_)<;>try (exfalso;omega))|(refine Sd.mk ?_ ?_;·exact qD)|(refine Sx.mk ?_ ?_;·omega)|refine Fa.mk fun _=>?_|refine Im.mk fun _=>?_|refine g_cond ?_|refine g_guard ?_|refine g_keep ?_
      all_goals first|(exfalso;omega)|exact lp_next (k + 1,some l[k]) ⟨by dsimp only;omega,hB.new hlk hu (fun z e=>by cases e;exact zcO.1 hlt2)⟩ (by dsimp only;omega)
     ·repeat' first|apply step|(apply gO;·repeat first|exact eZ|(apply eS;exact rfl))|(refine Br.mk (fun _=>?_) (fun _=>?_)<;>try (exfalso;omega))|(refine Sd.mk ?_ ?_;·exact qD)|refine g_cond ?_|refine g_guard ?_|refine g_keep ?_
      all_goals first|(exfalso;omega)|exact lp_next (k + 1,some y) ⟨by dsimp only;omega,hB.old hlk (fun g=>hlt2 (zcO.2 g))⟩ (by dsimp only;omega)
  ·have e:k=l.length:=by omega
   subst e
   unfold BstI at hB
   rw [List.take_length] at hB
   cases bo with
   | none =>
    dsimp only [Option.isSome,Option.getD]
    have hfin:=hO.fin (hB.1 rfl)
    repeat' first|apply step|(apply gO;·repeat first|exact eZ|(apply eS;exact rfl))|(refine Br.mk (fun _=>?_) (fun _=>?_)<;>try (exfalso;omega))|refine g_cond ?_|refine g_keep ?_|refine g_fin ?_
    exact fin (hR _ _ _ hO hfin)
   | some y =>
    obtain ⟨hy1,hy2,hy3⟩:=hB.2 y rfl
    obtain ⟨⟨b1,b2⟩,⟨b3,b4⟩,⟨b5,b6⟩,⟨b7,b8⟩,⟨b9,b10⟩,⟨b11,b12⟩⟩:=hlb y hy1
    have hnx:=hO.next hy1 hy2 hy3
    dsimp only [Option.isSome,Option.getD]
    repeat' first|apply step|(apply gO;·repeat first|exact eZ|(apply eS;exact rfl))|(refine Br.mk (fun _=>?_) (fun _=>?_)<;>try (exfalso;omega))|(refine Sd.mk ?_ ?_;·exact qD)|refine Fa.mk fun _=>?_|refine g_cond ?_|refine g_keep ?_
    exact lp_next (n1 + 1,(_,_),O++[⟨y.src,y.dst,y.kind,y.key,y.left,y.right⟩]) ⟨by dsimp only;omega,hnx,by dsimp only;rw [List.length_append];simp;omega⟩ (by dsimp only;omega)
 ·omega
end
end Go.AMS

