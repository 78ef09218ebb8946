/- What the functions do, part 3. -/
import Derived.Test.YtenihfdlckgmmaaGreatPart2
import Derived.Test.YtenihfdlckgmmaaGreatSetLaw
namespace Go.AMS
open Go.AM hiding Kt At WP WL Runs RunsY
open Go.AM.G
set_option linter.unusedVariables false
set_option linter.unusedSimpArgs false
set_option linter.unusedSectionVars false
set_option maxRecDepth 100000
set_option maxHeartbeats 1000000
attribute [local irreducible] AtS AtV AtC AtG FinA Spec Post LP G.At G.WP G.WL pt own fro rdl ro hx mp lrec elt sub

open Go.AM.G.Set
section
variable {h:List HTx} {T:Tb} {r:HRd} {p q p1 p2 p3:Option Addr} {c d c1 c2 c3 b mr mt tb rb:Nat}
theorem za5 (W:Wf) (l:List Int):(cleanL W l).length≤l.length:=List.length_filter_le _ _
theorem zde (h1:r.list.length≤1000):Spec prog1 zK [.pointer (some ⟨b,0,none⟩),.agg #[.int .i64 r.txn,.int .i64 r.op,.int .i64 r.key,.slice p1 r.list.length c1,.slice p2 r.own.length c2]] [ro (tabC b T mr mt),fro (kInt .i64) p1 c1 r.list] (fun R=>∀ p' c',R (.slice p' (cleanL (wK T r.key) r.list).length c') [fro (kInt .i64) p' c' (cleanL (wK T r.key) r.list)]):=by
 refine spec_code zjt rfl ?_;intro n F R hR;unfold zcl
 repeat' first|apply step|(apply gO;·repeat first|exact eZ|(apply eS;exact rfl))|refine Fa.mk fun _=>?_
 rename_i tb rb
 refine at_callR (zx (l:=r.list) (by omega)) ?_
 intro p3 c3
 repeat' first|apply step|(apply gO;·repeat first|exact eZ|(apply eS;exact rfl))|apply Lw.go
 refine at_callS (zis (T:=T) (r:=r) (b:=b) (mr:=mr) (mt:=mt) (tb:=tb) (rb:=rb) (p1:=p1) (c1:=c1) (p2:=p2) (c2:=c2) (l:=r.list) h1) ?_
 refine ⟨fun he=>?_,fun cur n1 hn hc=>?_⟩
 ·rw [he] at hR
  refine at_freezeO ?_
  repeat' first|apply step|(apply gO;·repeat first|exact eZ|(apply eS;exact rfl))|refine g_fin ?_
  exact fin (hR _ _)
 ·rw [← hc,List.length_take_of_le hn] at hR
  refine at_freezeO ?_
  refine at_via (zdJ (K:=kInt .i64) (p:=p3) (c:=c3) (l:=cur) (i:=n1) hn) ?_
  repeat' first|apply step|(apply gO;·repeat first|exact eZ|(apply eS;exact rfl))|refine g_fin ?_
  exact fin (hR _ _)
end
end Go.AMS

namespace Go.AM.G.Pre
set_option linter.unusedVariables false
set_option linter.unusedSectionVars false
set_option linter.unusedSimpArgs false
section
variable {α:Type} [DecidableEq α]

def commonL:List α→List α→Nat
 | x::a,y::b=>if x=y then commonL a b + 1 else 0
 | _,_=>0

theorem zjZ {a b:List α} {n:Nat} (ha:n < a.length) (hb:n < b.length):commonL (a.drop n) (b.drop n)=if a[n]=b[n] then commonL (a.drop (n + 1)) (b.drop (n + 1)) + 1 else 0:=by
 rw [List.drop_eq_getElem_cons ha,List.drop_eq_getElem_cons hb];rfl
theorem zd5 {a b:List α} {n:Nat} (h:¬ n < a.length∨¬ n < b.length):commonL (a.drop n) (b.drop n)=0:=by
 rcases h with h|h
 ·rw [List.drop_eq_nil_of_le (by omega)];rfl
 ·rw [show b.drop n=[] from List.drop_eq_nil_of_le (by omega)];cases a.drop n <;> rfl


def isL (a b:List α):Bool:=commonL a b == a.length
def fitL (a b:List α):Bool:=isL a b || isL b a


theorem zeq:∀ {a b:List α},isL a b=true ↔ a.length≤b.length∧a=b.take a.length
 | [],b=>by simp [isL,commonL]
 | x::a,[]=>by simp [isL,commonL]
 | x::a,y::b=>by
  have ih:=zeq (a:=a) (b:=b)
  simp only [isL,commonL,beq_iff_eq] at ih ⊢
  by_cases h:x=y
  ·rw [if_pos h];simp only [List.length_cons,List.take_succ_cons,List.cons.injEq,Nat.add_le_add_iff_right,h,true_and,Nat.add_right_cancel_iff];exact ih
  ·rw [if_neg h];simp [h]


def apartL (x:List α):List (List α)→Nat→Option Nat
 | [],_=>none
 | y::r,j=>if fitL x y=true then apartL x r (j + 1) else some j


/-- The first two that do not fit. -/
def badL:List (List α)→Nat→Option (Nat × Nat)
 | [],_=>none
 | x::r,k=>match apartL x r (k + 1) with
  | some j=>some (k,j)
  | none=>badL r (k + 1)

def longer (b x:List α):List α:=if b.length < x.length then x else b
def bestL (l:List (List α)):List α:=l.foldl longer []

theorem zhG {l:List (List α)} {n:Nat} (h:n < l.length):badL (l.drop n) n=match apartL l[n] (l.drop (n + 1)) (n + 1) with
  | some j=>some (n,j)
  | none=>badL (l.drop (n + 1)) (n + 1):=by
 rw [List.drop_eq_getElem_cons h];rfl

theorem ziF {l:List (List α)} {n:Nat} (h:n < l.length):bestL (l.take (n + 1))=longer (bestL (l.take n)) l[n]:=by
 unfold bestL;rw [List.take_succ_eq_append_getElem h,List.foldl_append];rfl


def fineSt (s:List α × Bool) (x:List α):List α × Bool:=(longer s.1 x,s.2 && fitL x s.1)
def fineS (l:List (List α)):List α × Bool:=l.foldl fineSt ([],true)
theorem zko {l:List (List α)} {n:Nat} (h:n < l.length):fineS (l.take (n + 1))=fineSt (fineS (l.take n)) l[n]:=by
 unfold fineS;rw [List.take_succ_eq_append_getElem h,List.foldl_append];rfl
theorem zdy (b x:List α):longer b x=b∨longer b x=x:=by unfold longer;split <;> simp
theorem ziG {B:Nat}:∀ {l:List (List α)},(∀ x ∈ l,x.length < B)→0 < B→(fineS l).1.length < B:=by
 intro l hl hB
 have key:∀ (l:List (List α)) (s:List α × Bool),(∀ x ∈ l,x.length < B)→s.1.length < B→(l.foldl fineSt s).1.length < B:=by
  intro l
  induction l with
  | nil=>intro s _ hs;exact hs
  | cons x l ih =>
   intro s hx hs
   refine ih _ (fun y hy=>hx y (List.mem_cons_of_mem _ hy)) ?_
   show (longer s.1 x).length < B
   rcases zdy s.1 x with e|e <;> rw [e]
   ·exact hs
   ·exact hx x (by simp)
 exact key l _ hl hB


theorem zer (l:List (List α)):(fineS l).1=bestL l:=by
 have key:∀ (l:List (List α)) (s:List α × Bool),(l.foldl fineSt s).1=l.foldl longer s.1:=by
  intro l
  induction l with
  | nil=>intro s;rfl
  | cons x l ih=>intro s;exact ih _
 exact key l _
theorem zky {a b:List α}:isL a b=true ↔ a <+: b:=by
 rw [zeq]
 constructor
 ·rintro ⟨h1,h2⟩;rw [h2];exact List.take_prefix _ _
 ·intro h;exact ⟨h.length_le,(List.prefix_iff_eq_take.1 h)⟩
theorem zb5 {a b:List α}:fitL a b=true ↔ a <+: b∨b <+: a:=by
 simp only [fitL,Bool.or_eq_true,zky]
theorem zeA {x:List α}:∀ {l:List (List α)} {j:Nat},apartL x l j=none ↔ ∀ y ∈ l,fitL x y=true:=by
 intro l
 induction l with
 | nil=>intro j;simp [apartL]
 | cons y l ih =>
  intro j
  simp only [apartL,List.mem_cons,forall_eq_or_imp]
  by_cases h:fitL x y=true
  ·rw [if_pos h,ih];simp [h]
  ·rw [if_neg h];simp [h]
theorem zgX:∀ {l:List (List α)} {k:Nat},badL l k=none ↔ l.Pairwise (fun x y=>fitL x y=true):=by
 intro l
 induction l with
 | nil=>intro k;simp [badL]
 | cons x l ih =>
  intro k
  simp only [badL,List.pairwise_cons]
  cases hq:apartL x l (k + 1) with
  | some j =>
   simp only [reduceCtorEq,false_iff,not_and]
   intro h;rw [← zeA (j:=k + 1),hq] at h;cases h
  | none=>simp only;rw [ih];simp;exact fun _=>zeA.1 hq
theorem zfh:∀ (l:List (List α)) (s:List α × Bool),s.2=false→(l.foldl fineSt s).2=false:=by
 intro l
 induction l with
 | nil=>intro s h;exact h
 | cons x l ih=>intro s h;exact ih _ (by show (s.2 && _)=false;rw [h];rfl)
theorem ziS:∀ (l D:List (List α)) (b:List α),(∀ y ∈ D,y <+: b)→(b=[]∨b ∈ D) →
  ((l.foldl fineSt (b,true)).2=true ↔ l.Pairwise (fun x y=>fitL x y=true)∧∀ x ∈ l,∀ y ∈ D,fitL y x=true):=by
 intro l
 induction l with
 | nil=>intro D b _ _;simp
 | cons x l ih =>
  intro D b hD hb
  have hx:fitL x b=true ↔ ∀ y ∈ D,fitL y x=true:=by
   constructor
   ·intro h y hy
    rw [zb5] at h ⊢
    rcases h with h|h
    ·rcases Nat.le_total y.length x.length with hl|hl
     ·exact .inl (List.prefix_of_prefix_length_le (hD y hy) h hl)
     ·exact .inr (List.prefix_of_prefix_length_le h (hD y hy) hl)
    ·exact .inl ((hD y hy).trans h)
   ·intro h
    rcases hb with rfl|hb
    ·rw [zb5];exact .inr List.nil_prefix
    ·have:=h b hb
     rw [zb5] at this ⊢;exact this.symm
  show ((l.foldl fineSt (longer b x,(true && fitL x b))).2=true ↔ _)
  rw [Bool.true_and]
  cases hf:fitL x b with
  | false =>
   rw [zfh _ _ rfl]
   constructor
   ·intro h;cases h
   ·rintro ⟨_,h⟩
    have:=hx.2 (h x (by simp))
    rw [hf] at this;cases this
  | true =>
   have hxD:=hx.1 hf
   rw [zb5] at hf
   rw [ih (x::D) (longer b x) ?_ ?_]
   ·simp only [List.pairwise_cons,List.mem_cons,forall_eq_or_imp]
    constructor
    ·rintro ⟨h1,h2⟩;exact ⟨⟨fun y hy=>(h2 y hy).1,h1⟩,hxD,fun y hy=>(h2 y hy).2⟩
    ·rintro ⟨⟨h1,h2⟩,_,h3⟩;exact ⟨h2,fun y hy=>⟨h1 y hy,h3 y hy⟩⟩
   ·intro y hy
    unfold longer
    split
    ·rename_i hlt
     have hbx:b <+: x:=by
      rcases hf with h|h
      ·have:=h.length_le;omega
      ·exact h
     rcases List.mem_cons.1 hy with rfl|hy
     ·exact List.prefix_refl _
     ·exact (hD y hy).trans hbx
    ·rename_i hlt
     rcases List.mem_cons.1 hy with rfl|hy
     ·rcases hf with h|h
      ·exact h
      ·have:=h.eq_of_length_le (by omega);rw [this];exact List.prefix_refl _
     ·exact hD y hy
   ·unfold longer
    split
    ·exact .inr (by simp)
    ·rcases hb with h|h
     ·exact .inl h
     ·exact .inr (List.mem_cons_of_mem _ h)
theorem zek (l:List (List α)):(fineS l).2=true ↔ badL l 0=none:=by
 unfold fineS
 rw [ziS l [] [] (fun y hy=>by cases hy) (.inl rfl),zgX]
 simp

theorem ziH {x:List α}:∀ {l:List (List α)} {n j:Nat},apartL x l n=some j→∃ i,j=n + i∧∃ h:i < l.length,fitL x l[i]=false:=by
 intro l
 induction l with
 | nil=>intro n j h;cases h
 | cons y l ih =>
  intro n j h
  simp only [apartL] at h
  split at h
  ·obtain ⟨i,h1,h2,h3⟩:=ih h
   exact ⟨i + 1,by omega,by simpa using h2,by simpa using h3⟩
  ·rename_i hne
   cases h
   exact ⟨0,rfl,by simp,by simpa using hne⟩
theorem zgS:∀ {l:List (List α)} {n k j:Nat},badL l n=some (k,j)→∃ a b,k=n + a∧j=n + b∧a < b∧∃ (h1:a < l.length) (h2:b < l.length),fitL l[a] l[b]=false:=by
 intro l
 induction l with
 | nil=>intro n k j h;cases h
 | cons x l ih =>
  intro n k j h
  simp only [badL] at h
  split at h
  ·rename_i i hi
   cases h
   obtain ⟨a,h1,h2,h3⟩:=ziH hi
   exact ⟨0,a + 1,by omega,by omega,by omega,by simp,by simpa using h2,by simpa using h3⟩
  ·obtain ⟨a,b,h1,h2,h3,h4,h5,h6⟩:=ih h
   exact ⟨a + 1,b + 1,by omega,by omega,by omega,by simpa using h4,by simpa using h5,by simpa using h6⟩

end
end Go.AM.G.Pre

namespace Go.AMS
open Go.AM hiding Kt At WP WL Runs RunsY
open Go.AM.G
set_option linter.unusedVariables false
set_option linter.unusedSimpArgs false
set_option linter.unusedSectionVars false
set_option maxRecDepth 100000
set_option maxHeartbeats 1000000
attribute [local irreducible] AtS AtV AtC AtG FinA Spec Post LP G.At G.WP G.WL pt own fro rdl ro hx mp lrec elt sub

open Go.AM.G.Set Go.AM.G.Pre
section
variable {p q:Option Addr} {c d:Nat} {a b:List Int} {L:List (List Int)}
theorem zkf (ha:a.length≤100000) (hb:b.length≤100000):Spec prog1 zaW [.slice p a.length c,.slice q b.length d] [rdl (kInt .i64) p a,rdl (kInt .i64) q b] (fun R=>R (.int .i64 (commonL a b:Nat)) []):=by
 refine spec_code zgJ rfl ?_;intro n F R hR;unfold zcG
 repeat' first|apply step|(apply gO;·repeat first|exact eZ|(apply eS;exact rfl))|refine g_keep ?_
 refine at_loopS (ι:=Nat) (E:=fun n=>[(0,.slice p a.length c),(1,.slice q b.length d),(5,.int .i64 (n:Int))]) (Δ:=fun _=>rdl (kInt .i64) p a::rdl (kInt .i64) q b::F) (P:=fun n=>n≤a.length∧n≤b.length∧commonL (a.drop n) (b.drop n) + n=commonL a b) (μ:=fun n=>a.length - n) 0 ⟨Nat.zero_le _,Nat.zero_le _,rfl⟩ ?_
 rintro k ⟨hk1,hk2,hc⟩
 try dsimp only
 by_cases h1:k < a.length
 ·by_cases h2:k < b.length
  ·rw [zjZ h1 h2] at hc
   by_cases he:a[k]=b[k]
   ·rw [if_pos he] at hc
    repeat' first|apply step|(apply gO;·repeat first|exact eZ|(apply eS;exact rfl))|(refine Br.mk (fun _=>?_) (fun _=>?_)<;>try (exfalso;omega))|(refine Sd.mk ?_ ?_;·exact qD)|(refine Sx.mk ?_ ?_;·omega)|refine Im.mk fun _=>?_|refine g_cond ?_|refine g_guard ?_|refine g_keep ?_
    all_goals first|(exfalso;omega)|exact lp_next (k + 1) ⟨by omega,by omega,by omega⟩ (by omega)
   ·rw [if_neg he,Nat.zero_add] at hc
    rw [← hc] at hR
    repeat' first|apply step|(apply gO;·repeat first|exact eZ|(apply eS;exact rfl))|(refine Br.mk (fun _=>?_) (fun _=>?_)<;>try (exfalso;omega))|(refine Sd.mk ?_ ?_;·exact qD)|(refine Sx.mk ?_ ?_;·omega)|refine Im.mk fun _=>?_|refine g_cond ?_|refine g_guard ?_|refine g_keep ?_|refine g_fin ?_
    all_goals first|exact fin hR|(exfalso;omega)
  ·rw [zd5 (.inr h2),Nat.zero_add] at hc
   rw [← hc] at hR
   repeat' first|apply step|(apply gO;·repeat first|exact eZ|(apply eS;exact rfl))|(refine Br.mk (fun _=>?_) (fun _=>?_)<;>try (exfalso;omega))|refine g_cond ?_|refine g_guard ?_|refine g_keep ?_|refine g_fin ?_
   all_goals first|exact fin hR|(exfalso;omega)
 ·rw [zd5 (.inl h1),Nat.zero_add] at hc
  rw [← hc] at hR
  repeat' first|apply step|(apply gO;·repeat first|exact eZ|(apply eS;exact rfl))|(refine Br.mk (fun _=>?_) (fun _=>?_)<;>try (exfalso;omega))|refine g_cond ?_|refine g_guard ?_|refine g_keep ?_|refine g_fin ?_
  all_goals first|exact fin hR|(exfalso;omega)
theorem zeJ (ha:a.length≤100000) (hb:b.length≤100000):Spec prog1 zaa [.slice p a.length c,.slice q b.length d] [rdl (kInt .i64) p a,rdl (kInt .i64) q b] (fun R=>R (.bool (isL a b)) []):=by
 refine spec_code zgA rfl ?_;intro n F R hR;unfold zbr
 repeat' first|apply step|(apply gO;·repeat first|exact eZ|(apply eS;exact rfl))
 refine at_callS (zkf (a:=a) (b:=b) ha hb) ?_
 have hi:isL a b=decide (commonL a b=a.length):=by unfold isL;rw [Bool.eq_iff_iff];simp
 rw [hi] at hR
 by_cases he:commonL a b=a.length
 ·rw [decide_eq_true he] at hR
  repeat' first|apply step|(apply gO;·repeat first|exact eZ|(apply eS;exact rfl))|(refine Br.mk (fun _=>?_) (fun _=>?_)<;>try (exfalso;omega))|refine g_keep ?_|refine g_fin ?_
  all_goals first|exact fin hR|(exfalso;omega)
 ·rw [decide_eq_false he] at hR
  repeat' first|apply step|(apply gO;·repeat first|exact eZ|(apply eS;exact rfl))|(refine Br.mk (fun _=>?_) (fun _=>?_)<;>try (exfalso;omega))|refine g_keep ?_|refine g_fin ?_
  all_goals first|exact fin hR|(exfalso;omega)
theorem zc1 (ha:a.length≤100000) (hb:b.length≤100000):Spec prog1 zM [.slice p a.length c,.slice q b.length d] [rdl (kInt .i64) p a,rdl (kInt .i64) q b] (fun R=>R (.bool (fitL a b)) []):=by
 refine spec_code zh8 rfl ?_;intro n F R hR;unfold zbW
 unfold fitL at hR
 repeat' first|apply step|(apply gO;·repeat first|exact eZ|(apply eS;exact rfl))
 refine at_callR (zeJ (a:=a) (b:=b) ha hb) ?_
 cases h1:isL a b with
 | true =>
  rw [h1,Bool.true_or] at hR
  repeat' first|apply step|(apply gO;·repeat first|exact eZ|(apply eS;exact rfl))|apply Lw.go|refine g_guard ?_|refine g_keep ?_|refine g_fin ?_
  exact fin hR
 | false =>
  rw [h1,Bool.false_or] at hR
  repeat' first|apply step|(apply gO;·repeat first|exact eZ|(apply eS;exact rfl))|apply Lw.go|refine g_guard ?_
  refine at_callR (zeJ (a:=b) (b:=a) hb ha) ?_
  repeat' first|apply step|(apply gO;·repeat first|exact eZ|(apply eS;exact rfl))|apply Lw.go|refine g_keep ?_|refine g_fin ?_
  exact fin hR
theorem zi3 {x:List Int} {j:Nat} (hj:j < L.length):apartL x (L.drop j) j=if fitL x L[j]=true then apartL x (L.drop (j + 1)) (j + 1) else some j:=by
 rw [List.drop_eq_getElem_cons hj];rfl
def twoI:Option Nat→Value
 | some j=>.tuple #[.int .i64 (j:Int),.bool true]
 | none=>.tuple #[.int .i64 0,.bool false]
theorem zjI {k:Nat} (hL:L.length≤100000) (hl:∀ x ∈ L,x.length≤100000) (hk:k < L.length):Spec prog1 zaR [.slice p L.length c,.int .i64 (k:Int)] [rdl (kSl (kInt .i64)) p L] (fun R=>R (twoI (apartL L[k] (L.drop (k + 1)) (k + 1))) []):=by
 refine spec_code zj1 rfl ?_;intro n F R hR;unfold zb3
 repeat' first|apply step|(apply gO;·repeat first|exact eZ|(apply eS;exact rfl))|(refine Sd.mk ?_ ?_;·exact qD)|refine g_keep ?_
 refine at_loopS (ι:=Nat) (E:=fun j=>[(0,.slice p L.length c),(1,.int .i64 (k:Int)),(6,.int .i64 (j:Int))]) (Δ:=fun _=>rdl (kSl (kInt .i64)) p L::F) (P:=fun j=>k < j∧j≤L.length∧apartL L[k] (L.drop j) j=apartL L[k] (L.drop (k + 1)) (k + 1)) (μ:=fun j=>L.length - j) (k + 1) ⟨by omega,by omega,rfl⟩ ?_
 rintro j ⟨hj1,hj2,hd⟩
 try dsimp only
 rcases Nat.lt_or_ge j L.length with hlt|hge
 ·rw [zi3 hlt] at hd
  have l1:=hl L[k] (List.getElem_mem _)
  have l2:=hl L[j] (List.getElem_mem _)
  repeat' first|apply step|(apply gO;·repeat first|exact eZ|(apply eS;exact rfl))|(refine Br.mk (fun _=>?_) (fun _=>?_)<;>try (exfalso;omega))|(refine Sd.mk ?_ ?_;·exact qD)|(refine Sx.mk ?_ ?_;·omega)|refine Fa.mk fun _=>?_|refine Im.mk fun _=>?_|refine g_cond ?_
  refine at_callS (zc1 (a:=L[k]) (b:=L[j]) l1 l2) ?_
  cases hf:fitL L[k] L[j] with
  | true =>
   rw [if_pos hf] at hd
   repeat' first|apply step|(apply gO;·repeat first|exact eZ|(apply eS;exact rfl))|(refine Sd.mk ?_ ?_;·exact qD)|refine g_cond ?_|refine g_keep ?_
   exact lp_next (j + 1) ⟨by omega,by omega,hd⟩ (by omega)
  | false =>
   rw [if_neg (by rw [hf];decide)] at hd
   rw [← hd] at hR
   unfold twoI at hR
   repeat' first|apply step|(apply gO;·repeat first|exact eZ|(apply eS;exact rfl))|refine g_cond ?_|refine g_keep ?_|refine g_fin ?_
   exact fin hR
 ·rw [List.drop_eq_nil_of_le hge] at hd
  rw [← hd] at hR
  repeat' first|apply step|(apply gO;·repeat first|exact eZ|(apply eS;exact rfl))|(refine Br.mk (fun _=>?_) (fun _=>?_)<;>try (exfalso;omega))|refine g_cond ?_|refine g_keep ?_|refine g_fin ?_
  exact fin hR
theorem zdq {n:Nat} (hl:∀ x ∈ L,x.length≤n):(bestL L).length≤n:=by
 have:=ziG (B:=n + 1) (l:=L) (fun x hx=>by have:=hl x hx;omega) (by omega)
 rw [zer] at this;omega
theorem zjj (hL:L.length≤100000) (hl:∀ x ∈ L,x.length≤100000):Spec prog1 zao [.slice p L.length c] [rdl (kSl (kInt .i64)) p L] (fun R=>(badL L 0=none→∀ p' c',R (.tuple #[.slice p' (bestL L).length c',.int .i64 0,.int .i64 0,.bool true]) [own (kInt .i64) p' c' (bestL L)])∧(∀ k j:Nat,badL L 0=some (k,j)→R (.tuple #[.slice none 0 0,.int .i64 (k:Int),.int .i64 (j:Int),.bool false]) [])):=by
 refine spec_code zfQ rfl ?_;intro n F R hR;unfold zcr
 obtain ⟨hR1,hR2⟩:=hR
 refine at_ent (ent_fnil (K:=kInt .i64)) ?_
 repeat' first|apply step|(apply gO;·repeat first|exact eZ|(apply eS;exact rfl))|refine g_keep ?_
 refine at_loopS (ι:=Nat × (Option Addr × Nat)) (E:=fun z=>[(0,.slice p L.length c),(6,.slice z.2.1 (bestL (L.take z.1)).length z.2.2),(7,.bool (fineS (L.take z.1)).2),(13,.slice p L.length c),(14,.int .i64 (L.length:Int)),(15,.int .i64 (z.1:Int))]) (Δ:=fun z=>rdl (kSl (kInt .i64)) p L::fro (kInt .i64) z.2.1 z.2.2 (bestL (L.take z.1))::F) (P:=fun z=>z.1≤L.length) (μ:=fun z=>L.length - z.1) (0,(none,0)) (Nat.zero_le _) ?_
 rintro ⟨i,q,d⟩ hi
 dsimp only at hi ⊢
 have hbl:(bestL (L.take i)).length≤100000:=zdq fun x hx=>hl x (List.mem_of_mem_take hx)
 rcases Nat.lt_or_ge i L.length with hlt|hge
 ·have hb1:=ziF (l:=L) hlt
  have hf1:=zko (l:=L) hlt
  have l1:=hl L[i] (List.getElem_mem _)
  have hf2:(fineS (L.take (i + 1))).2=((fineS (L.take i)).2 && fitL L[i] (bestL (L.take i))):=by rw [hf1,← zer];rfl
  generalize (fineS (L.take i)).2=f at hf2 ⊢
  generalize bestL (L.take i)=B at hbl hb1 hf2 ⊢
  unfold longer at hb1
  by_cases hlen:B.length < L[i].length
  ·rw [if_pos hlen] at hb1
   cases f with
   | true =>
    rw [Bool.true_and] at hf2
    repeat' first|apply step|(apply gO;·repeat first|exact eZ|(apply eS;exact rfl))|(refine Br.mk (fun _=>?_) (fun _=>?_)<;>try (exfalso;omega))|(refine Sd.mk ?_ ?_;·exact qD)|(refine Sx.mk ?_ ?_;·omega)|refine Fa.mk fun _=>?_|refine Im.mk fun _=>?_|refine g_cond ?_|refine g_guard ?_
    refine at_callR (zc1 (a:=L[i]) (b:=B) l1 hbl) ?_
    repeat' first|apply step|(apply gO;·repeat first|exact eZ|(apply eS;exact rfl))|(refine Br.mk (fun _=>?_) (fun _=>?_)<;>try (exfalso;omega))|(refine Sd.mk ?_ ?_;·exact qD)|apply Lw.go|refine g_cond ?_|refine g_keep ?_
    all_goals first|(exfalso;omega)|exact lp_next (i + 1,_,_) (by dsimp only;omega) (by dsimp only;omega) (by dsimp only;rw [hb1,hf2]) (by dsimp only;rw [hb1];repeat first|exact Ent.refl _|(apply Ent.more;· repeat first|exact Ent.keep|exact Ent.here|exact Ent.lend|exact ent_nil|apply Ent.there)|apply Ent.drop)
   | false =>
    rw [Bool.false_and] at hf2
    repeat' first|apply step|(apply gO;·repeat first|exact eZ|(apply eS;exact rfl))|(refine Br.mk (fun _=>?_) (fun _=>?_)<;>try (exfalso;omega))|(refine Sd.mk ?_ ?_;·exact qD)|(refine Sx.mk ?_ ?_;·omega)|refine Fa.mk fun _=>?_|refine Im.mk fun _=>?_|refine g_cond ?_|refine g_guard ?_|refine g_keep ?_
    all_goals first|(exfalso;omega)|exact lp_next (i + 1,_,_) (by dsimp only;omega) (by dsimp only;omega) (by dsimp only;rw [hb1,hf2]) (by dsimp only;rw [hb1];repeat first|exact Ent.refl _|(apply Ent.more;· repeat first|exact Ent.keep|exact Ent.here|exact Ent.lend|exact ent_nil|apply Ent.there)|apply Ent.drop)
  ·rw [if_neg hlen] at hb1
   cases f with
   | true =>
    rw [Bool.true_and] at hf2
    repeat' first|apply step|(apply gO;·repeat first|exact eZ|(apply eS;exact rfl))|(refine Br.mk (fun _=>?_) (fun _=>?_)<;>try (exfalso;omega))|(refine Sd.mk ?_ ?_;·exact qD)|(refine Sx.mk ?_ ?_;·omega)|refine Fa.mk fun _=>?_|refine Im.mk fun _=>?_|refine g_cond ?_|refine g_guard ?_
    refine at_callR (zc1 (a:=L[i]) (b:=B) l1 hbl) ?_
    repeat' first|apply step|(apply gO;·repeat first|exact eZ|(apply eS;exact rfl))|(refine Br.mk (fun _=>?_) (fun _=>?_)<;>try (exfalso;omega))|(refine Sd.mk ?_ ?_;·exact qD)|apply Lw.go|refine g_cond ?_|refine g_keep ?_
    all_goals first|(exfalso;omega)|exact lp_next (i + 1,_,_) (by dsimp only;omega) (by dsimp only;omega) (by dsimp only;rw [hb1,hf2]) (by dsimp only;rw [hb1];repeat first|exact Ent.refl _|(apply Ent.more;· repeat first|exact Ent.keep|exact Ent.here|exact Ent.lend|exact ent_nil|apply Ent.there)|apply Ent.drop)
   | false =>
    rw [Bool.false_and] at hf2
    repeat' first|apply step|(apply gO;·repeat first|exact eZ|(apply eS;exact rfl))|(refine Br.mk (fun _=>?_) (fun _=>?_)<;>try (exfalso;omega))|(refine Sd.mk ?_ ?_;·exact qD)|(refine Sx.mk ?_ ?_;·omega)|refine Fa.mk fun _=>?_|refine Im.mk fun _=>?_|refine g_cond ?_|refine g_guard ?_|refine g_keep ?_
    all_goals first|(exfalso;omega)|exact lp_next (i + 1,_,_) (by dsimp only;omega) (by dsimp only;omega) (by dsimp only;rw [hb1,hf2]) (by dsimp only;rw [hb1];repeat first|exact Ent.refl _|(apply Ent.more;· repeat first|exact Ent.keep|exact Ent.here|exact Ent.lend|exact ent_nil|apply Ent.there)|apply Ent.drop)
 ·rw [List.take_of_length_le hge] at hbl ⊢
  cases hf:(fineS L).2 with
  | true =>
   repeat' first|apply step|(apply gO;·repeat first|exact eZ|(apply eS;exact rfl))|(refine Br.mk (fun _=>?_) (fun _=>?_)<;>try (exfalso;omega))|refine g_cond ?_|refine g_keep ?_
   refine at_callR (zx (l:=bestL L) (by omega)) ?_
   intro p' c'
   repeat' first|apply step|(apply gO;·repeat first|exact eZ|(apply eS;exact rfl))|apply Lw.go|refine g_fin ?_
   exact fin (hR1 ((zek L).1 hf) _ _)
  | false =>
   repeat' first|apply step|(apply gO;·repeat first|exact eZ|(apply eS;exact rfl))|(refine Br.mk (fun _=>?_) (fun _=>?_)<;>try (exfalso;omega))|refine g_cond ?_|refine g_keep ?_
   refine at_loopS (ι:=Nat) (E:=fun k=>[(0,.slice p L.length c),(36,.int .i64 (L.length:Int)),(37,.int .i64 (k:Int))]) (Δ:=fun _=>rdl (kSl (kInt .i64)) p L::F) (P:=fun k=>k≤L.length∧badL (L.drop k) k=badL L 0) (μ:=fun k=>L.length - k) 0 ⟨Nat.zero_le _,rfl⟩ ?_
   rintro k ⟨hk,hd⟩
   try dsimp only
   rcases Nat.lt_or_ge k L.length with hlk|hgk
   ·rw [zhG hlk] at hd
    repeat' first|apply step|(apply gO;·repeat first|exact eZ|(apply eS;exact rfl))|(refine Br.mk (fun _=>?_) (fun _=>?_)<;>try (exfalso;omega))|refine g_cond ?_
    refine at_callR (zjI (L:=L) (k:=k) hL hl hlk) ?_
    cases ha:apartL L[k] (L.drop (k + 1)) (k + 1) with
    | some j =>
     rw [ha] at hd
     unfold twoI
     repeat' first|apply step|(apply gO;·repeat first|exact eZ|(apply eS;exact rfl))|apply Lw.go|refine g_cond ?_|refine g_keep ?_|refine g_fin ?_
     exact fin (hR2 k j hd.symm)
    | none =>
     rw [ha] at hd
     unfold twoI
     repeat' first|apply step|(apply gO;·repeat first|exact eZ|(apply eS;exact rfl))|(refine Sd.mk ?_ ?_;·exact qD)|apply Lw.go|refine g_cond ?_|refine g_keep ?_
     exact lp_next (k + 1) ⟨by omega,hd⟩ (by omega)
   ·rw [List.drop_eq_nil_of_le hgk] at hd
    rw [(zek L).2 hd.symm] at hf
    cases hf
end
end Go.AMS

namespace Go.AMS
open Go.AM hiding Kt At WP WL Runs RunsY
open Go.AM.G
set_option linter.unusedVariables false
set_option linter.unusedSimpArgs false
set_option linter.unusedSectionVars false
set_option maxRecDepth 100000
set_option maxHeartbeats 1000000
attribute [local irreducible] AtS AtV AtC AtG FinA Spec Post LP G.At G.WP G.WL pt own fro rdl ro hx mp lrec elt sub

open Go.AM.G.Set Go.AM.G.Pre
section
variable {h:List HTx} {T:Tb} {r:HRd} {p q p1 p2 p3:Option Addr} {c d c1 c2 c3 b mr mt tb rb:Nat}
/-- The sound reads of a key, and their cleaned lists. -/
def ofS (T:Tb) (key:Int):List HRd:=soundL (wK T key) (agl key T.rd)
def ofL (W:Wf) (S:List HRd):List (List Int):=S.map fun r=>cleanL W r.list
def restL (ch:List Int) (l:List HWr):List Int:=(l.filter fun w=>decide (w.value ∉ ch)).map HWr.value
/-- Which values stand in a list, by a map. -/
def inM (l:List Int):Nat→List (Int × Int)
 | 0=>[]
 | n + 1=>aset (l.getD n 0) ((n + 1:Nat):Int) (inM l n)
theorem zdH {l:List Int} {x:Int}:∀ n,n≤l.length→(x ∈ l.take n∧∃ v:Int,0 < v∧aget x (inM l n)=some v)∨(x ∉ l.take n∧aget x (inM l n)=none)
 | 0,_=>.inr ⟨by simp,rfl⟩
 | n + 1,hn=>by
  have ih:=zdH (l:=l) (x:=x) n (by omega)
  rw [List.take_succ_eq_append_getElem (by omega)]
  unfold inM
  rw [getD_lt (by omega),aget_aset]
  by_cases e:x=l[n]
  ·rw [if_pos e]
   exact .inl ⟨List.mem_append.2 (.inr (List.mem_singleton.2 e)),_,by omega,rfl⟩
  ·rw [if_neg e]
   rcases ih with ⟨h1,h2⟩|⟨h1,h2⟩
   ·exact .inl ⟨List.mem_append.2 (.inl h1),h2⟩
   ·refine .inr ⟨fun q=>?_,h2⟩
    rcases List.mem_append.1 q with q|q
    ·exact h1 q
    ·exact e (List.mem_singleton.1 q)
theorem zfl {ch:List Int} {l:List HWr} {i:Nat} (hi:i < l.length):restL ch (l.take (i + 1))=restL ch (l.take i)++if l[i].value ∉ ch then [l[i].value] else []:=by
 unfold restL
 rw [zey hi,List.map_append]
 congr 1
 by_cases h:l[i].value ∈ ch <;> simp [h]
theorem zhj {key:Int} (hrd:RdOk T) (hwt:(agl key T.wt).length≤100000) (hwb:∀ w ∈ agl key T.wt,bI w.value) (hsl:(ofS T key).length≤2000) (hbd:∀ r ∈ ofS T key,bI r.txn∧bI r.op∧bI r.key) (hkb:-9223372036854775808≤key∧key≤9223372036854775807) :
  Spec prog1 zaU [.pointer (some ⟨b,0,none⟩),.int .i64 key] [ro (tabC b T mr mt),ro (mapF mr kI kHRd T.rd),ro (mapF mt kI kHWr T.wt)] (fun R =>
   (∀ k j (hk:k < (ofS T key).length) (hj:j < (ofS T key).length),badL (ofL (wK T key) (ofS T key)) 0=some (k,j)→∀ w v:wR,R (.agg #[.int .i64 key,.slice none 0 0,.slice none 0 0,.bool true,.int .i64 (ofS T key)[k].txn,.int .i64 (ofS T key)[k].op,.int .i64 (ofS T key)[k].key,.slice w.1.1 (ofS T key)[k].list.length w.1.2,.slice w.2.1 (ofS T key)[k].own.length w.2.2,.int .i64 (ofS T key)[j].txn,.int .i64 (ofS T key)[j].op,.int .i64 (ofS T key)[j].key,.slice v.1.1 (ofS T key)[j].list.length v.1.2,.slice v.2.1 (ofS T key)[j].own.length v.2.2]) [fro (kInt .i64) w.1.1 w.1.2 (ofS T key)[k].list,fro (kInt .i64) w.2.1 w.2.2 (ofS T key)[k].own,fro (kInt .i64) v.1.1 v.1.2 (ofS T key)[j].list,fro (kInt .i64) v.2.1 v.2.2 (ofS T key)[j].own])
   ∧ (badL (ofL (wK T key) (ofS T key)) 0=none→∀ q1 d1 q2 d2,R (.agg #[.int .i64 key,.slice q1 (bestL (ofL (wK T key) (ofS T key))).length d1,.slice q2 (restL (bestL (ofL (wK T key) (ofS T key))) (agl key T.wt)).length d2,.bool false,.int .i64 0,.int .i64 0,.int .i64 0,.slice none 0 0,.slice none 0 0,.int .i64 0,.int .i64 0,.int .i64 0,.slice none 0 0,.slice none 0 0]) [own (kInt .i64) q1 d1 (bestL (ofL (wK T key) (ofS T key))),own (kInt .i64) q2 d2 (restL (bestL (ofL (wK T key) (ofS T key))) (agl key T.wt))])):=by
 refine spec_code zkB rfl ?_;intro n F R hR;unfold zcA
 obtain ⟨hR1,hR2⟩:=hR
 obtain ⟨hn1,hn2⟩:=hrd key
 have hS:∀ r ∈ ofS T key,(r.list.length≤100∧r.own.length≤100)∧r.key=key:=fun r hr=>hn2 r (List.mem_filter.1 hr).1
 repeat' first|apply step|(apply gO;·repeat first|exact eZ|(apply eS;exact rfl))|refine Fa.mk fun _=>?_
 rename_i bb kb ab lb
 refine at_callS (zdV (b:=b) (key:=key)) ?_
 intro x y
 repeat' first|apply step
 generalize hW:wK T key=W at hR1 hR2
 have hWr:∀ r ∈ ofS T key,wK T r.key=W:=fun r hr=>by rw [(hS r hr).2,hW]
 obtain ⟨I,hI⟩:∃ I:Nat→HP,∀ i,I i=hx fun (w:wR)=>(True,[ro (tabC b T mr mt),pt bb [.pointer (some ⟨b,0,none⟩)] 0,pt ab [.slice w.1.1 ((ofS T key).take i).length w.1.2] 0,own kHRd w.1.1 w.1.2 ((ofS T key).take i),pt lb [.slice w.2.1 (ofL W ((ofS T key).take i)).length w.2.2] 0,own (kSl (kInt .i64)) w.2.1 w.2.2 (ofL W ((ofS T key).take i))]):=⟨_,fun _=>rfl⟩
 obtain ⟨J,hJ⟩:∃ J:AX→HP,∀ ax,J ax=hx fun (_:Unit)=>(False,[]):=⟨_,fun _=>rfl⟩
 refine at_foldP (I 0) (hI 0) ((none,0),(none,0)) trivial ?_
 refine at_rfunSD (I:=I) (J:=J) (Po:=[]) (Ps:=[pt x [.pointer (some ⟨b,0,none⟩)] 0,pt y [.int .i64 key] 0,ro (tabC b T mr mt),ro (mapF mr kI kHRd T.rd)]) (ofS T key).length (fun i (d:wR)=>vaRead d (ofS T key)[i]?) (fun i d=>paRead d (ofS T key)[i]?) (fun ly A B h=>?_) (fun i hi d=>by rw [List.getElem?_eq_getElem hi];rfl) ?_ ?_ ?_
 ·exact ze6 (L:=agl key T.rd) (key:=key) (x:=x) (y:=y) rfl (by omega) (fun r hr=>⟨⟨by have:=(hn2 r hr).1.1;omega,by have:=(hn2 r hr).1.2;omega⟩,(hn2 r hr).2⟩) h
 ·intro i hi d ly m F'
  rw [List.getElem?_eq_getElem hi]
  obtain ⟨⟨k1,k2⟩,k3⟩:=hS _ (List.getElem_mem hi)
  have hWi:=hWr _ (List.getElem_mem hi)
  obtain ⟨⟨e1,e2⟩,⟨e3,e4⟩,⟨e5,e6⟩⟩:=hbd _ (List.getElem_mem hi)
  have ht1:(ofS T key).take (i + 1)=(ofS T key).take i++[(⟨(ofS T key)[i].txn,(ofS T key)[i].op,(ofS T key)[i].key,(ofS T key)[i].list,(ofS T key)[i].own⟩:HRd)]:=List.take_succ_eq_append_getElem hi
  have ht2:ofL W ((ofS T key).take (i + 1))=ofL W ((ofS T key).take i)++[cleanL W (ofS T key)[i].list]:=by
   unfold ofL;rw [List.take_succ_eq_append_getElem hi,List.map_append];rfl
  have hl1:((ofS T key).take i).length≤2000:=by rw [List.length_take];omega
  have hl2:(ofL W ((ofS T key).take i)).length≤2000:=by unfold ofL;rw [List.length_map];exact hl1
  have hcl:=za5 W (ofS T key)[i].list
  have hIi:=hI i
  have hIn:=hI (i + 1)
  rw [ht2,ht1] at hIn
  generalize ofL W ((ofS T key).take i)=LL at hIi hIn hl2
  generalize (ofS T key).take i=SS at hIi hIn hl1
  generalize (ofS T key)[i]=s at hIn hcl k1 k2 hWi e1 e2 e3 e4 e5 e6 ⊢
  dsimp only [vaRead,paRead,List.cons_append,List.nil_append]
  refine at_openP (I i) hIi ?_
  rintro ⟨⟨q1,d1⟩,⟨q2,d2⟩⟩ -
  dsimp only [List.cons_append,List.nil_append]
  repeat' first|apply step|(apply gO;·repeat first|exact eZ|(apply eS;exact rfl))|(refine Sd.mk ?_ ?_;·exact qD)|refine Fa.mk fun _=>?_
  refine at_callR (zde (T:=T) (r:=s) (b:=b) (mr:=mr) (mt:=mt) (by omega)) ?_
  rw [hWi]
  intro p3 c3
  repeat' first|apply step|(apply gO;·repeat first|exact eZ|(apply eS;exact rfl))|(refine Sd.mk ?_ ?_;·exact qD)|refine Fa.mk fun _=>?_|apply Lw.go
  refine at_foldP (I (i + 1)) hIn ((_,_),(_,_)) trivial ?_
  exact y_next
 ·refine at_openP (I _) (hI _) ?_
  rintro ⟨⟨q1,d1⟩,⟨q2,d2⟩⟩ -
  dsimp only [List.cons_append,List.nil_append]
  rw [List.take_length]
  have hLl:(ofL W (ofS T key)).length=(ofS T key).length:=by unfold ofL;rw [List.length_map]
  have hLx:∀ l ∈ ofL W (ofS T key),l.length≤100:=fun l hl=>by
   obtain ⟨r,hr,rfl⟩:=List.mem_map.1 hl
   exact Nat.le_trans (za5 _ _) (hS r hr).1.1
  have hch:=zdq hLx
  repeat' first|apply step|(apply gO;·repeat first|exact eZ|(apply eS;exact rfl))|refine g_keep ?_
  refine at_callR (zjj (L:=ofL W (ofS T key)) (by omega) (fun l hl=>by have:=hLx l hl;omega)) ?_
  refine ⟨fun hb0 p8 c8=>?_,fun k j hkj=>?_⟩
  ·have hR2:=hR2 hb0
   generalize bestL (ofL W (ofS T key))=ch at hR2 hch ⊢
   repeat' first|apply step|(apply gO;·repeat first|exact eZ|(apply eS;exact rfl))|refine Fa.mk fun _=>?_|apply Lw.go|refine g_cond ?_|refine g_keep ?_
   rename_i k2 mm mb
   refine at_loopS (ι:=Nat) (E:=fun i=>[(1,.int .i64 key),(2,.pointer (some ⟨bb,0,none⟩)),(4,.pointer (some ⟨kb,0,none⟩)),(12,.pointer (some ⟨k2,0,none⟩)),(13,.pointer (some ⟨mb,0,none⟩)),(54,.slice p8 ch.length c8),(55,.int .i64 (ch.length:Int)),(56,.int .i64 (i:Int))]) (Δ:=fun i=>own (kInt .i64) p8 c8 ch::mp mm (amap kI kI (inM ch i))::pt mb [.map (some mm)] 0::pt k2 [.int .i64 key,.slice p8 ch.length c8,.slice none 0 0,.bool false,.int .i64 0,.int .i64 0,.int .i64 0,.slice none 0 0,.slice none 0 0,.int .i64 0,.int .i64 0,.int .i64 0,.slice none 0 0,.slice none 0 0] 0::pt bb [.pointer (some ⟨b,0,none⟩)] 0::pt kb [.int .i64 0,.slice none 0 0,.slice none 0 0,.bool false,.int .i64 0,.int .i64 0,.int .i64 0,.slice none 0 0,.slice none 0 0,.int .i64 0,.int .i64 0,.int .i64 0,.slice none 0 0,.slice none 0 0] 0::ro (tabC b T mr mt)::ro (mapF mt kI kHWr T.wt)::F) (P:=fun i=>i≤ch.length) (μ:=fun i=>ch.length - i) 0 (Nat.zero_le _) ?_
   rintro i hi
   try dsimp only
   rcases Nat.lt_or_ge i ch.length with hlt|hge
   ·have hnx:inM ch (i + 1)=aset ch[i] ((i + 1:Nat):Int) (inM ch i):=by rw [← getD_lt (d:=0) hlt];rfl
    repeat' first|apply step|(apply gO;·repeat first|exact eZ|(apply eS;exact rfl))|(refine Br.mk (fun _=>?_) (fun _=>?_)<;>try (exfalso;omega))|(refine Sd.mk ?_ ?_;·exact qD)|(refine Sx.mk ?_ ?_;·omega)|refine Im.mk fun _=>?_|refine g_cond ?_
    refine av_put (d:=false) (bar:=false) (s:=.one 1) (m:=mm) (l:=inM ch i) (enc:=kI) (vv:=kI) (key:=ch[i]) (val:=((i + 1:Nat):Int)) rfl inferInstance ?_
    rw [← hnx]
    repeat' first|apply step|(apply gO;·repeat first|exact eZ|(apply eS;exact rfl))|(refine Sd.mk ?_ ?_;·exact qD)|refine g_keep ?_
    exact lp_next (i + 1) (by omega) (by omega)
   ·have e:i=ch.length:=by omega
    subst e
    have hin:=fun x=>zdH (l:=ch) (x:=x) ch.length (Nat.le_refl _)
    simp only [List.take_length] at hin
    generalize inM ch ch.length=M at hin ⊢
    repeat' first|apply step|(apply gO;·repeat first|exact eZ|(apply eS;exact rfl))|(refine Br.mk (fun _=>?_) (fun _=>?_)<;>try (exfalso;omega))|refine g_cond ?_|refine g_keep ?_
    refine at_callR (zfN (T:=T) (b:=b) (mr:=mr) (mt:=mt) (y:=key)) ?_
    intro xw pw cw
    generalize agl key T.wt=L at hR2 hwt hwb ⊢
    repeat' first|apply step|apply Lw.go
    obtain ⟨I2,hI2⟩:∃ I:Nat→HP,∀ i,I i=hx fun (w:Option Addr × Nat)=>(True,[pt mb [.map (some mm)] 0,mp mm (amap kI kI M),pt k2 [.int .i64 key,.slice p8 ch.length c8,.slice w.1 (restL ch (L.take i)).length w.2,.bool false,.int .i64 0,.int .i64 0,.int .i64 0,.slice none 0 0,.slice none 0 0,.int .i64 0,.int .i64 0,.int .i64 0,.slice none 0 0,.slice none 0 0] 0,own (kInt .i64) w.1 w.2 (restL ch (L.take i))]):=⟨_,fun _=>rfl⟩
    refine at_foldP (I2 0) (hI2 0) (none,0) trivial ?_
    refine at_rfunSD (I:=I2) (J:=J) (Po:=[]) L.length (fun i (d:Unit)=>vaWrite d L[i]?) (fun i d=>paWrite d L[i]?) (fun ly A B h=>zgN (l:=L) (by omega) h) (fun i hi d=>by rw [List.getElem?_eq_getElem hi];rfl) ?_ ?_ ?_
    ·intro i hi d ly m F'
     rw [List.getElem?_eq_getElem hi]
     obtain ⟨v1,v2⟩:=hwb _ (List.getElem_mem hi)
     have hrx:=zfl (ch:=ch) hi
     have hrl:(restL ch (L.take i)).length≤100000:=by
      unfold restL
      rw [List.length_map]
      have h1:=List.length_filter_le (fun w:HWr=>decide (w.value ∉ ch)) (L.take i)
      have h2:(L.take i).length≤100000:=by rw [List.length_take];omega
      omega
     have hIi:=hI2 i
     have hIn:=hI2 (i + 1)
     rw [hrx] at hIn
     generalize restL ch (L.take i)=O at hIi hIn hrl
     dsimp only [vaWrite,paWrite,List.cons_append,List.nil_append]
     rcases hin L[i].value with ⟨g1,v,g2,g3⟩|⟨g1,g2⟩
     ·rw [if_neg (fun q=>q g1),List.append_nil] at hIn
      refine at_openP (I2 i) hIi ?_
      rintro ⟨q2,d2⟩ -
      dsimp only [List.cons_append,List.nil_append]
      repeat' first|apply step|(apply gO;·repeat first|exact eZ|(apply eS;exact rfl))|refine Fa.mk fun _=>?_
      refine av_at1 (enc:=kI) (vv:=kI) (key:=L[i].value) inferInstance g3 ?_
      unfold kI
      repeat' first|apply step|(apply gO;·repeat first|exact eZ|(apply eS;exact rfl))|(refine Br.mk (fun _=>?_) (fun _=>?_)<;>try (exfalso;omega))|refine g_cond ?_
      all_goals first|(exfalso;omega)|(refine at_foldP (I2 (i + 1)) hIn (_,_) trivial ?_;exact y_next)
     ·rw [if_pos g1] at hIn
      refine at_openP (I2 i) hIi ?_
      rintro ⟨q2,d2⟩ -
      dsimp only [List.cons_append,List.nil_append]
      repeat' first|apply step|(apply gO;·repeat first|exact eZ|(apply eS;exact rfl))|refine Fa.mk fun _=>?_
      refine av_at0 (enc:=kI) (vv:=kI) (key:=L[i].value) inferInstance g2 ?_
      repeat' first|apply step|(apply gO;·repeat first|exact eZ|(apply eS;exact rfl))|(refine Br.mk (fun _=>?_) (fun _=>?_)<;>try (exfalso;omega))|(refine Sd.mk ?_ ?_;·exact qD)|refine Fa.mk fun _=>?_|refine g_cond ?_
      all_goals first|(exfalso;omega)|(refine at_foldP (I2 (i + 1)) hIn (_,_) trivial ?_;exact y_next)
    ·refine at_openP (I2 _) (hI2 _) ?_
     rintro ⟨q2,d2⟩ -
     dsimp only [List.cons_append,List.nil_append]
     rw [List.take_length]
     repeat' first|apply step|(apply gO;·repeat first|exact eZ|(apply eS;exact rfl))|refine g_keep ?_|refine g_fin ?_
     exact fin (hR2 _ _ _ _)
    ·intro ax hax
     refine at_openP (J ax) (hJ ax) ?_
     intro u hu
     exact (show False from hu).elim
  ·obtain ⟨a1,b1,e1,e2,hab,h1,h2,_⟩:=zgS hkj
   rw [Nat.zero_add] at e1 e2
   subst e1
   subst e2
   rw [hLl] at h1 h2
   repeat' first|apply step|(apply gO;·repeat first|exact eZ|(apply eS;exact rfl))|(refine Sd.mk ?_ ?_;·exact qD)|(refine Sx.mk ?_ ?_;·omega)|refine Fa.mk fun _=>?_|refine Im.mk fun _=>?_|apply Lw.go|refine g_cond ?_|refine g_keep ?_|refine g_fin ?_
   refine fin (hR1 _ _ h1 h2 hkj ((_,_),(_,_)) ((_,_),(_,_)))
 ·intro ax hax
  refine at_openP (J ax) (hJ ax) ?_
  intro u hu
  exact (show False from hu).elim
end
end Go.AMS

namespace Go.AMS
open Go.AM hiding Kt At WP WL Runs RunsY
open Go.AM.G
set_option linter.unusedVariables false
set_option linter.unusedSimpArgs false
set_option linter.unusedSectionVars false
set_option maxRecDepth 100000
set_option maxHeartbeats 1000000
attribute [local irreducible] AtS AtV AtC AtG FinA Spec Post LP G.At G.WP G.WL pt own fro rdl ro hx mp lrec elt sub

open Go.AM.G.Set Go.AM.G.Pre
section
variable {h:List HTx} {T:Tb} {r:HRd} {p q:Option Addr} {c d b:Nat}
theorem zgK {prog:AProg} {rr:Option Nat} {e:Env} {Q:Pst} {kk:List Kt} {n:Nat} {d:Bool} {r:List AI} {F:List HP} {f:List (Int × List HWr)} {mt:Nat} (w:AtS n prog rr (.o d r::kk) .norm e (mapF mt kI kHWr f::F) Q):AtS n prog rr (.o d r::kk) .norm e (mapL mt kI kHWr f::F) Q:=by
 refine at_openP (mapL mt kI kHWr f) rfl ?_
 rintro Z hZ
 dsimp only [List.cons_append,List.nil_append]
 refine at_ent (Δ:=alls (ownE kHWr) Z::mp mt (amap kI slV Z)::_) (by repeat first|exact Ent.refl _|(apply Ent.more;· repeat first|exact Ent.keep|exact Ent.here|exact Ent.lend|exact ent_nil|apply Ent.there)|apply Ent.drop) ?_
 refine zev ?_
 refine at_foldP (mapF mt kI kHWr f) rfl Z hZ ?_
 exact w
theorem zfP {prog:AProg} {rr:Option Nat} {e:Env} {Q:Pst} {kk:List Kt} {n:Nat} {d:Bool} {r:List AI} {F:List HP} (w:∀ mr mt,AtS n prog rr (.o d r::kk) .norm e (mapF mt kI kHWr T.wt::tabC b T mr mt::mapF mr kI kHRd T.rd::F) Q):AtS n prog rr (.o d r::kk) .norm e (tab b T::F) Q:=by
 refine zgH (fun mr mt=>?_)
 refine at_ent (Δ:=mapL mt kI kHWr T.wt::tabC b T mr mt::mapF mr kI kHRd T.rd::F) (by repeat first|exact Ent.refl _|(apply Ent.more;· repeat first|exact Ent.keep|exact Ent.here|exact Ent.lend|exact ent_nil|apply Ent.there)|apply Ent.drop) ?_
 exact zgK (w mr mt)
/-- What is known of a history's table, for orders. -/
structure OfOk (h:List HTx) (key:Int):Prop where
 rd:RdOk (TH h)
 wt:(agl key (TH h).wt).length≤1200
 wb:∀ w ∈ agl key (TH h).wt,bI w.value
 sl:(ofS (TH h) key).length≤1200
 bd:∀ r ∈ ofS (TH h) key,bI r.txn∧bI r.op∧bI r.key
 ll:∀ r ∈ ofS (TH h) key,(r.list.length≤100∧r.own.length≤100)∧r.key=key
 se:soundL (wK (TH h) key) (rdK h key)=ofS (TH h) key
 le:outW h key (setL (comm h))=agl key (TH h).wt
theorem zee {key:Int} {t:HTx} {r:HWr}:∀ n,n≤t.ops.length→r ∈ wtsN key t n→∃ j,∃ hj:j < t.ops.length,t.ops[j].read=false∧r.value=t.ops[j].value
 | 0,_,hr=>by cases hr
 | n + 1,hn,hr=>by
  simp only [wtsN] at hr
  rw [getD_lt (by omega:n < t.ops.length)] at hr
  rcases List.mem_append.1 hr with hr|hr
  ·exact zee n (by omega) hr
  ·split at hr
   ·rename_i hc
    rw [List.mem_singleton.1 hr]
    exact ⟨n,by omega,hc.1,rfl⟩
   ·cases hr
theorem of_ok {key:Int} (hf:FewH h 20 60) (hk:OkH h):OfOk h key:=by
 have hrd:agl key (TH h).rd=rdK h key:=zV hk.i key
 have hwt:agl key (TH h).wt=outW h key (setL (comm h)):=zg6 hk.i key
 have hby:∀ x,mayN x→bI x:=fun x hx=>by unfold mayN at hx;unfold bI;omega
 have hsm:∀ r ∈ ofS (TH h) key,r ∈ rdK h key:=fun r hr=>by rw [← hrd];exact (List.mem_filter.1 hr).1
 refine ⟨(th_ok hf hk).rd,by rw [hwt];exact zgy hf hk.m key,fun w hw=>?_,?_,fun r hr=>?_,fun r hr=>?_,by unfold ofS;rw [hrd],hwt.symm⟩
 ·rw [hwt] at hw
  obtain ⟨x,hx,h1⟩:=List.mem_flatMap.1 hw
  obtain ⟨t,ht,hb,rfl⟩:=zE.1 (mem_setL.1 hx)
  rw [zk hk.i ht] at h1
  obtain ⟨j,hj,h2,h3⟩:=zee _ (Nat.le_refl _) h1
  have hmo:=(hk.m t ht).2 _ (List.getElem_mem hj)
  unfold mayO at hmo
  rw [h2] at hmo
  rw [h3]
  exact hby _ (show mayN t.ops[j].value∧t.ops[j].list=[] by simpa using hmo.2).1
 ·have h1:(rdK h key).length≤1200:=zdI hf hk.m key
  have h2:=zjA (W:=wK (TH h) key) (agl key (TH h).rd)
  rw [hrd] at h2
  unfold ofS
  rw [hrd];omega
 ·obtain ⟨t,ht,hb,j,h1,h2,h3,h4,h5⟩:=zP hk (hsm r hr)
  subst h4
  have h6:=zB hf hk.m t.id (hk.m t ht).1
  rw [zk hk.i ht] at h6
  have hmo:=(hk.m t ht).2 _ (List.getElem_mem h1)
  rw [getD_lt h1] at h3
  refine ⟨hby _ (hk.m t ht).1,by unfold bI;dsimp only;omega,?_⟩
  dsimp only
  rw [← h3]
  unfold mayO at hmo
  split at hmo <;> exact hby _ hmo.1
 ·exact ((th_ok hf hk).rd key).2 r (List.mem_filter.1 hr).1
theorem ze4 (L:List (List Int)):bestL L=[]∨bestL L ∈ L:=by
 have key:∀ (l:List (List Int)) (b:List Int),l.foldl longer b=b∨l.foldl longer b ∈ l:=by
  intro l
  induction l with
  | nil=>intro b;exact .inl rfl
  | cons x l ih =>
   intro b
   rcases ih (longer b x) with h|h
   ·rcases zdy b x with e|e
    ·exact .inl (h.trans e)
    ·exact .inr (by rw [List.foldl_cons,h,e];exact List.mem_cons_self)
   ·exact .inr (List.mem_cons_of_mem _ h)
 exact key L []
theorem ch_bI {key:Int} (hk:OkH h) {v:Int} (hv:v ∈ bestL (ofL (wK (TH h) key) (ofS (TH h) key))):bI v:=by
 rcases ze4 (ofL (wK (TH h) key) (ofS (TH h) key)) with e|e
 ·rw [e] at hv;cases hv
 ·obtain ⟨r,hr,e2⟩:=List.mem_map.1 e
  rw [← e2] at hv
  have hv2:=(List.mem_filter.1 hv).1
  have hrd:agl key (TH h).rd=rdK h key:=zV hk.i key
  have hr2:r ∈ rdK h key:=by rw [← hrd];exact (List.mem_filter.1 hr).1
  obtain ⟨t,ht,hb,j,h1,h2,h3,h4,h5⟩:=zP hk hr2
  subst h4
  have hmo:=(hk.m t ht).2 _ (List.getElem_mem h1)
  rw [getD_lt h1] at h2 hv2
  unfold mayO at hmo
  rw [h2] at hmo
  have h6:t.ops[j].value=0∧∀ x ∈ t.ops[j].list,mayN x:=by simpa using hmo.2
  have h7:=h6.2 v hv2
  unfold mayN at h7
  unfold bI;omega
end
end Go.AMS

namespace Go.AMS
open Go.AM hiding Kt At WP WL Runs RunsY
open Go.AM.G
set_option linter.unusedVariables false
set_option linter.unusedSimpArgs false
set_option linter.unusedSectionVars false
set_option maxRecDepth 100000
set_option maxHeartbeats 1000000
attribute [local irreducible] AtS AtV AtC AtG FinA Spec Post LP G.At G.WP G.WL pt own fro rdl ro hx mp lrec elt sub

open Go.AM.G.Set Go.AM.G.Pre
section
variable {h:List HTx} {key:Int}
theorem zdZ:∀ (l s:List Int),s.Nodup→twL s l=none→(s++l).Nodup
 | [],s,hs,_=>by rw [List.append_nil];exact hs
 | x::l,s,hs,e=>by
  unfold twL at e
  split at e
  ·cases e
  ·rename_i hx
   have h1:=zdZ l (s++[x]) (by
    rw [List.nodup_append]
    exact ⟨hs,by simp,fun a ha b hb e2=>hx (by rw [List.mem_singleton.1 hb] at e2;exact e2 ▸ ha)⟩) e
   rw [List.append_assoc] at h1
   exact h1
theorem zbF {W:Wf}:∀ {l:List Int},bornL W l=none→∀ x ∈ l,∃ w,W x=some w
 | [],_,x,hx=>by cases hx
 | y::l,e,x,hx=>by
  unfold bornL at e
  split at e
  ·rename_i w hw
   rcases List.mem_cons.1 hx with q|q
   ·rw [q];exact ⟨w,hw⟩
   ·exact zbF e x q
  ·cases e
theorem zdp {W:Wf} {r:HRd} (h0:(kindL W r).1=0):twL [] r.list=none∧bornL W r.list=none:=by
 unfold kindL at h0
 split at h0
 ·cases h0
 ·rename_i e1
  split at h0
  ·cases h0
  ·rename_i e2
   exact ⟨e1,e2⟩
theorem zc3 {T:Tb} {r:HRd} (hr:r ∈ ofS T key):(kindL (wK T key) r).1=0:=of_decide_eq_true (List.mem_filter.1 hr).2
/-- The chain: no value twice, and each a committed transaction's. -/
theorem zfo {T:Tb}:(bestL (ofL (wK T key) (ofS T key))).Nodup∧∀ x ∈ bestL (ofL (wK T key) (ofS T key)),∃ w,wK T key x=some w∧w.ab=false:=by
 rcases ze4 (ofL (wK T key) (ofS T key)) with e|e
 ·rw [e];exact ⟨List.nodup_nil,fun x hx=>by cases hx⟩
 ·obtain ⟨r,hr,e2⟩:=List.mem_map.1 e
  rw [← e2]
  obtain ⟨k1,k2⟩:=zdp (zc3 hr)
  have hn:=zdZ r.list [] List.nodup_nil k1
  rw [List.nil_append] at hn
  refine ⟨hn.filter _,fun x hx=>?_⟩
  obtain ⟨h1,h2⟩:=List.mem_filter.1 hx
  obtain ⟨w,hw⟩:=zbF k2 x h1
  refine ⟨w,hw,?_⟩
  unfold abW at h2
  rw [hw] at h2
  simpa using h2
theorem zeP {key:Int} {t:HTx} {r:HWr}:∀ n,n≤t.ops.length→r ∈ wtsN key t n→∃ j,∃ hj:j < t.ops.length,j < n∧t.ops[j].read=false∧t.ops[j].key=key∧r=⟨t.id,(j:Nat),key,t.ops[j].value,false⟩
 | 0,_,hr=>by cases hr
 | n + 1,hn,hr=>by
  simp only [wtsN] at hr
  rw [getD_lt (by omega:n < t.ops.length)] at hr
  rcases List.mem_append.1 hr with hr|hr
  ·obtain ⟨j,hj,h1,h2⟩:=zeP n (by omega) hr
   exact ⟨j,hj,by omega,h2⟩
  ·split at hr
   ·rename_i hc
    exact ⟨n,by omega,by omega,hc.1,hc.2,List.mem_singleton.1 hr⟩
   ·cases hr
theorem wt_at (hk:OkH h) {r:HWr} (hr:r ∈ outW h key (setL (comm h))):wK (TH h) key r.value=some r∧r.ab=false:=by
 obtain ⟨x,hx,h1⟩:=List.mem_flatMap.1 hr
 obtain ⟨t,ht,hb,rfl⟩:=zE.1 (mem_setL.1 hx)
 rw [zk hk.i ht] at h1
 obtain ⟨j,hj,_,h2,h3,rfl⟩:=zeP _ (Nat.le_refl _) h1
 have:=zeL hk.p ht hj h2 h3 rfl
 rw [hb] at this
 exact ⟨this,rfl⟩
end
end Go.AMS

namespace Go.AMS
open Go.AM hiding Kt At WP WL Runs RunsY
open Go.AM.G
set_option linter.unusedVariables false
set_option linter.unusedSimpArgs false
set_option linter.unusedSectionVars false
set_option maxRecDepth 100000
set_option maxHeartbeats 1000000
attribute [local irreducible] AtS AtV AtC AtG FinA Spec Post LP G.At G.WP G.WL pt own fro rdl ro hx mp lrec elt sub

open Go.AM.G.Set Go.AM.G.Pre
section
variable {h:List HTx} {key:Int}
def tupE (a:HEd):List Int:=[a.src,a.dst,a.kind,a.key,a.left,a.right]
def cmpL:List Int→List Int→Int
 | x::a,y::b=>if x < y then -1 else if y < x then 1 else cmpL a b
 | _,_=>0
def cmpE (a b:HEd):Int:=cmpL (tupE a) (tupE b)
theorem zeS:∀ a b:List Int,cmpL a b=-1∨cmpL a b=0∨cmpL a b=1
 | x::a,y::b=>by
  unfold cmpL
  split
  ·exact .inl rfl
  ·split
   ·exact .inr (.inr rfl)
   ·exact zeS a b
 | [],b=>by unfold cmpL;exact .inr (.inl rfl)
 | x::a,[]=>by unfold cmpL;exact .inr (.inl rfl)
theorem zeg:∀ {a b:List Int},a.length=b.length→(cmpL a b=0 ↔ a=b)
 | [],[],_=>by simp [cmpL]
 | x::a,y::b,hl=>by
  have ih:=zeg (a:=a) (b:=b) (by simpa using hl)
  unfold cmpL
  by_cases h1:x < y
  ·rw [if_pos h1]
   exact ⟨fun q=>absurd q (by decide),fun q=>by have:=(List.cons.inj q).1;omega⟩
  ·rw [if_neg h1]
   by_cases h2:y < x
   ·rw [if_pos h2]
    exact ⟨fun q=>absurd q (by decide),fun q=>by have:=(List.cons.inj q).1;omega⟩
   ·rw [if_neg h2,ih]
    have e:x=y:=by omega
    subst e
    simp
theorem zd6:∀ {a b:List Int},a.length=b.length→(cmpL a b=-1 ↔ cmpL b a=1)
 | [],[],_=>by simp [cmpL]
 | x::a,y::b,hl=>by
  have ih:=zd6 (a:=a) (b:=b) (by simpa using hl)
  unfold cmpL
  by_cases h1:x < y
  ·rw [if_pos h1,if_neg (by omega),if_pos h1];simp
  ·rw [if_neg h1]
   by_cases h2:y < x
   ·rw [if_pos h2,if_pos h2];decide
   ·rw [if_neg h2,if_neg h2,if_neg h1];exact ih
theorem zdw:∀ {a b c:List Int},a.length=b.length→b.length=c.length→cmpL a b=-1→cmpL b c=-1→cmpL a c=-1
 | [],[],[],_,_,h1,_=>by simp [cmpL] at h1
 | x::a,y::b,z::c,hl,hl2,h1,h2=>by
  have ih:=fun q1 q2=>zdw (a:=a) (b:=b) (c:=c) (by simpa using hl) (by simpa using hl2) q1 q2
  unfold cmpL at h1 h2 ⊢
  by_cases e1:x < y
  ·by_cases e2:y < z
   ·rw [if_pos (by omega)]
   ·rw [if_neg e2] at h2
    by_cases e3:z < y
    ·rw [if_pos e3] at h2;cases h2
    ·rw [if_pos (by omega)]
  ·rw [if_neg e1] at h1
   by_cases e2:y < x
   ·rw [if_pos e2] at h1;cases h1
   ·rw [if_neg e2] at h1
    by_cases e3:y < z
    ·rw [if_pos (by omega)]
    ·rw [if_neg e3] at h2
     by_cases e4:z < y
     ·rw [if_pos e4] at h2;cases h2
     ·rw [if_neg e4] at h2
      rw [if_neg (by omega),if_neg (by omega)]
      exact ih h1 h2
def ltE (a b:HEd):Prop:=cmpE a b=-1
theorem zhH {a b:HEd} (e:tupE a=tupE b):a=b:=by
 cases a;cases b
 simp only [tupE,List.cons.injEq,and_true] at e
 obtain ⟨e1,e2,e3,e4,e5,e6⟩:=e
 subst e1;subst e2;subst e3;subst e4;subst e5;subst e6
 rfl
theorem zeM {a b:HEd}:cmpE a b=0 ↔ a=b:=by
 unfold cmpE
 rw [zeg (show (tupE a).length=(tupE b).length from rfl)]
 exact ⟨zhH,fun e=>by rw [e]⟩
theorem zdm {a b c:HEd} (h1:ltE a b) (h2:ltE b c):ltE a c:=zdw (show (tupE a).length=(tupE b).length from rfl) (show (tupE b).length=(tupE c).length from rfl) h1 h2
theorem zcZ (a b:HEd):ltE a b∨a=b∨ltE b a:=by
 rcases zeS (tupE a) (tupE b) with h|h|h
 ·exact .inl h
 ·exact .inr (.inl (zeM.1 h))
 ·exact .inr (.inr ((zd6 (show (tupE b).length=(tupE a).length from rfl)).2 h))
theorem zcc (a:HEd):¬ ltE a a:=fun q=>by
 have:=zeM.2 (rfl:a=a)
 unfold ltE at q
 rw [this] at q;cases q
/-- What is in order so far: all that is not above its last. -/
structure SrtI (l O:List HEd):Prop where
 s:O.Pairwise ltE
 m:∀ x ∈ O,x ∈ l
 a:∀ x ∈ l,x ∉ O→∀ y ∈ O,ltE y x
theorem SrtI.nil (l:List HEd):SrtI l []:=⟨List.Pairwise.nil,fun _ q=>(by cases q),fun _ _ _ _ q=>(by cases q)⟩
theorem SrtI.nodup {l O:List HEd} (i:SrtI l O):O.Nodup:=i.s.imp fun {a b} q e=>by rw [e] at q;exact zcc _ q
theorem SrtI.len {l O:List HEd} (i:SrtI l O):O.length≤l.length:=List.Nodup.length_le_of_subset i.nodup i.m
/-- Above the last one. -/
def upE (O:List HEd) (x:HEd):Prop:=∀ y,O.getLast? = some y→ltE y x
theorem SrtI.up {l O:List HEd} (i:SrtI l O) {x:HEd} (hx:x ∈ l):upE O x ↔ x ∉ O:=by
 constructor
 ·intro q hm
  cases hl:O.getLast? with
  | none=>rw [List.getLast?_eq_none_iff] at hl;rw [hl] at hm;cases hm
  | some y =>
   have h1:=q y hl
   obtain ⟨ys,rfl⟩:=List.getLast?_eq_some_iff.1 hl
   rcases List.mem_append.1 hm with g|g
   ·have:=(List.pairwise_append.1 i.s).2.2 x g y (List.mem_singleton.2 rfl)
    exact zcc _ (zdm h1 this)
   ·rw [List.mem_singleton.1 g] at h1;exact zcc _ h1
 ·intro q y hy
  exact i.a x hx q y (List.mem_of_getLast? hy)
theorem SrtI.next {l O:List HEd} (i:SrtI l O) {x:HEd} (hx:x ∈ l) (hu:upE O x) (hb:∀ y ∈ l,upE O y→¬ ltE y x):SrtI l (O++[x]):=by
 have hn:=(i.up hx).1 hu
 refine ⟨?_,fun y hy=>?_,fun y hy hn2 z hz=>?_⟩
 ·rw [List.pairwise_append]
  exact ⟨i.s,by simp,fun a ha b hb2=>by rw [List.mem_singleton.1 hb2];exact i.a x hx hn a ha⟩
 ·rcases List.mem_append.1 hy with g|g
  ·exact i.m y g
  ·rw [List.mem_singleton.1 g];exact hx
 ·have hn3:y ∉ O:=fun q=>hn2 (List.mem_append.2 (.inl q))
  rcases List.mem_append.1 hz with g|g
  ·exact i.a y hy hn3 z g
  ·rw [List.mem_singleton.1 g]
   have h1:=hb y hy ((i.up hy).2 hn3)
   rcases zcZ x y with q|q|q
   ·exact q
   ·exact absurd (List.mem_append.2 (.inr (List.mem_singleton.2 q.symm))) hn2
   ·exact absurd q h1
theorem SrtI.fin {l O:List HEd} (i:SrtI l O) (hb:∀ y ∈ l,¬ upE O y):∀ x,x ∈ O ↔ x ∈ l:=fun x=>⟨i.m x,fun hx=>by
 by_cases e:x ∈ O
 ·exact e
 ·exact absurd ((i.up hx).2 e) (hb x hx)⟩
def wtx (W:Wf) (x:Int):Int:=txZ (W x)
/-- What comes behind so many values. -/
def nxI (ch rs:List Int) (n:Nat):List Int:=if n=ch.length then rs else if n < ch.length then [ch.getD n 0] else []
def lastD (l:List Int):Int:=l.getLast?.getD (-1)
def chE (W:Wf) (key:Int) (ch:List Int) (n:Nat):List HEd:=(List.range n).map fun i=>⟨wtx W (ch.getD i 0),wtx W (ch.getD (i + 1) 0),1,key,ch.getD i 0,ch.getD (i + 1) 0⟩
def rsE (W:Wf) (key x:Int) (rs:List Int):List HEd:=rs.map fun y=>⟨wtx W x,wtx W y,1,key,x,y⟩
def frE (W:Wf) (key:Int) (r:HRd):List HEd:=match (cleanL W (frontL r)).getLast? with
 | some x=>[⟨wtx W x,r.txn,2,key,x,-1⟩]
 | none=>[]
def rwE (W:Wf) (key:Int) (r:HRd) (l:List Int):List HEd:=l.map fun y=>⟨r.txn,wtx W y,4,key,lastD (cleanL W r.list),y⟩
def rdE (W:Wf) (key:Int) (ch rs:List Int) (r:HRd):List HEd:=frE W key r++rwE W key r (nxI ch rs (cleanL W r.list).length)
def ofE (W:Wf) (key:Int) (S:List HRd) (ch rs:List Int):List HEd:=chE W key ch (ch.length - 1)++((if 0 < ch.length then rsE W key (lastD ch) rs else [])++S.flatMap (rdE W key ch rs))
def ownsP (W:Wf) (id x:Int):Prop:=∃ w,W x=some w∧w.txn=id∧w.ab=false
def jdgW (W:Wf) (ch rs:List Int) (x:HEd):Prop:=∃ i,ch[i]? = some x.left∧x.right ∈ nxI ch rs (i + 1)∧ownsP W x.src x.left∧ownsP W x.dst x.right
def jdgS (W:Wf) (S:List HRd) (x:HEd):Prop:=x.right=-1∧ownsP W x.src x.left∧∃ r ∈ S,r.txn=x.dst∧lastD (cleanL W (frontL r))=x.left
def jdgM (W:Wf) (S:List HRd) (ch rs:List Int) (x:HEd):Prop:=ownsP W x.dst x.right∧∃ r ∈ S,r.txn=x.src∧lastD (cleanL W r.list)=x.left∧x.right ∈ nxI ch rs (cleanL W r.list).length
def jdgE (W:Wf) (S:List HRd) (ch rs:List Int) (x:HEd):Prop:=(x.kind=1∧jdgW W ch rs x)∨(x.kind=2∧jdgS W S x)∨(x.kind=4∧jdgM W S ch rs x)
theorem zaS {W:Wf} {id x:Int} (h:ownsP W id x):wtx W x=id:=by
 obtain ⟨w,h1,h2,_⟩:=h
 unfold wtx
 rw [h1];exact h2
theorem zax {l:List Int} (h:0 < l.length):lastD l=l[l.length - 1]:=by
 unfold lastD
 rw [List.getLast?_eq_getElem?,List.getElem?_eq_getElem (by omega)];rfl
theorem zca {ch rs:List Int} {n:Nat} {y:Int} (hy:y ∈ nxI ch rs n):(n=ch.length∧y ∈ rs)∨∃ h:n < ch.length,y=ch[n]:=by
 unfold nxI at hy
 split at hy
 ·exact .inl ⟨‹_›,hy⟩
 ·split at hy
  ·rename_i q
   rw [getD_lt q] at hy
   exact .inr ⟨q,List.mem_singleton.1 hy⟩
  ·cases hy
theorem zgt {W:Wf} {ch rs:List Int} (hc:∀ x ∈ ch,∃ w,W x=some w∧w.ab=false) (hr:∀ x ∈ rs,∃ w,W x=some w∧w.ab=false) {n:Nat} {y:Int} (hy:y ∈ nxI ch rs n):ownsP W (wtx W y) y:=by
 have:∃ w,W y=some w∧w.ab=false:=by
  rcases zca hy with ⟨_,q⟩|⟨q,rfl⟩
  ·exact hr y q
  ·exact hc _ (List.getElem_mem _)
 obtain ⟨w,h1,h2⟩:=this
 exact ⟨w,h1,by unfold wtx;rw [h1];rfl,h2⟩
theorem zaM {W:Wf} {x:Int} (hc:∃ w,W x=some w∧w.ab=false):ownsP W (wtx W x) x:=by
 obtain ⟨w,h1,h2⟩:=hc
 exact ⟨w,h1,by unfold wtx;rw [h1];rfl,h2⟩
/-- An edge is judged to be one just if it is one. -/
theorem zd2 {W:Wf} {S:List HRd} {ch rs:List Int} (hc:∀ x ∈ ch,∃ w,W x=some w∧w.ab=false) (hr:∀ x ∈ rs,∃ w,W x=some w∧w.ab=false) (hf:∀ r ∈ S,∀ x ∈ cleanL W (frontL r),∃ w,W x=some w∧w.ab=false) (hz:W (-1)=none) (x:HEd):x ∈ ofE W key S ch rs ↔ x.key=key∧jdgE W S ch rs x:=by
 have hn0:¬ ∃ id,ownsP W id (-1):=fun ⟨id,w,q,_⟩=>by rw [hz] at q;cases q
 unfold ofE
 rw [List.mem_append,List.mem_append]
 constructor
 ·rintro (q|q|q)
  ·obtain ⟨i,hi,rfl⟩:=List.mem_map.1 q
   have hi:=List.mem_range.1 hi
   refine ⟨rfl,.inl ⟨rfl,i,?_,?_,?_,?_⟩⟩
   ·dsimp only
    rw [getD_lt (by omega:i < ch.length)];exact List.getElem?_eq_getElem _
   ·dsimp only
    unfold nxI
    rw [if_neg (by omega),if_pos (by omega)];exact List.mem_singleton.2 rfl
   ·dsimp only
    rw [getD_lt (by omega:i < ch.length)]
    exact zaM (hc _ (List.getElem_mem _))
   ·dsimp only
    rw [getD_lt (by omega:i + 1 < ch.length)]
    exact zaM (hc _ (List.getElem_mem _))
  ·split at q
   ·rename_i hl
    obtain ⟨y,hy,rfl⟩:=List.mem_map.1 q
    rw [zax hl]
    refine ⟨rfl,.inl ⟨rfl,ch.length - 1,List.getElem?_eq_getElem _,?_,zaM (hc _ (List.getElem_mem _)),zaM (hr y hy)⟩⟩
    dsimp only
    unfold nxI
    rw [if_pos (by omega)];exact hy
   ·cases q
  ·obtain ⟨r,hr1,q⟩:=List.mem_flatMap.1 q
   rcases List.mem_append.1 q with q|q
   ·unfold frE at q
    split at q
    ·rename_i y hy
     have e:=List.mem_singleton.1 q
     subst e
     refine ⟨rfl,.inr (.inl ⟨rfl,rfl,zaM (hf r hr1 y (List.mem_of_getLast? hy)),r,hr1,rfl,?_⟩)⟩
     unfold lastD
     rw [hy];rfl
    ·cases q
   ·obtain ⟨y,hy,rfl⟩:=List.mem_map.1 q
    exact ⟨rfl,.inr (.inr ⟨rfl,zgt hc hr hy,r,hr1,rfl,rfl,hy⟩)⟩
 ·obtain ⟨src,dst,kind,k0,left,right⟩:=x
  rintro ⟨rfl,⟨rfl,i,h1,h2,h3,h4⟩|⟨rfl,rfl,h1,r,hr1,h2,h3⟩|⟨rfl,h1,r,hr1,h2,h3,h4⟩⟩
  ·dsimp only at h1 h2 h3 h4
   obtain ⟨hi,rfl⟩:=List.getElem?_eq_some_iff.1 h1
   have e3:=zaS h3
   have e4:=zaS h4
   subst e3
   subst e4
   rcases zca h2 with ⟨g1,g2⟩|⟨g1,rfl⟩
   ·refine .inr (.inl ?_)
    rw [if_pos (by omega),zax (by omega)]
    refine List.mem_map.2 ⟨right,g2,?_⟩
    have e:ch.length - 1=i:=by omega
    simp only [e]
   ·refine .inl (List.mem_map.2 ⟨i,List.mem_range.2 (by omega),?_⟩)
    rw [getD_lt hi,getD_lt g1]
  ·dsimp only at h1 h2 h3
   refine .inr (.inr (List.mem_flatMap.2 ⟨r,hr1,List.mem_append.2 (.inl ?_)⟩))
   unfold frE
   unfold lastD at h3
   cases hl:(cleanL W (frontL r)).getLast? with
   | none=>rw [hl] at h3;exact absurd ⟨src,by rw [show (-1:Int)=left from h3];exact h1⟩ hn0
   | some y =>
    rw [hl] at h3
    have e:y=left:=h3
    subst e
    have e1:=zaS h1
    subst e1
    subst h2
    exact List.mem_singleton.2 rfl
  ·dsimp only at h1 h2 h3 h4
   have e1:=zaS h1
   subst e1
   subst h2
   subst h3
   exact .inr (.inr (List.mem_flatMap.2 ⟨r,hr1,List.mem_append.2 (.inr (List.mem_map.2 ⟨right,h4,rfl⟩))⟩))
end
end Go.AMS

namespace Go.AMS
open Go.AM hiding Kt At WP WL Runs RunsY
open Go.AM.G
set_option linter.unusedVariables false
set_option linter.unusedSimpArgs false
set_option linter.unusedSectionVars false
set_option maxRecDepth 100000
set_option maxHeartbeats 1000000
attribute [local irreducible] AtS AtV AtC AtG FinA Spec Post LP G.At G.WP G.WL pt own fro rdl ro hx mp lrec elt sub

open Go.AM.G.Set Go.AM.G.Pre
section
variable {h:List HTx} {key:Int}
/-- The chain of a key, and its rest. -/
noncomputable def chH (h:List HTx) (key:Int):List Int:=bestL (ofL (wK (TH h) key) (ofS (TH h) key))
noncomputable def rsH (h:List HTx) (key:Int):List Int:=restL (chH h key) (agl key (TH h).wt)
theorem zdN:∀ x ∈ chH h key,∃ w,wK (TH h) key x=some w∧w.ab=false:=zfo.2
theorem zdj (hf:FewH h 20 60) (hk:OkH h):∀ x ∈ rsH h key,∃ w,wK (TH h) key x=some w∧w.ab=false:=fun x hx=>by
 unfold rsH restL at hx
 obtain ⟨w,hw,rfl⟩:=List.mem_map.1 hx
 have h1:=(List.mem_filter.1 hw).1
 rw [← (of_ok hf hk).le] at h1
 exact ⟨w,wt_at hk h1⟩
theorem zdt:∀ r ∈ ofS (TH h) key,∀ x ∈ cleanL (wK (TH h) key) (frontL r),∃ w,wK (TH h) key x=some w∧w.ab=false:=fun r hr x hx=>by
 obtain ⟨h1,h2⟩:=List.mem_filter.1 hx
 obtain ⟨_,k2⟩:=zdp (zc3 hr)
 obtain ⟨w,hw⟩:=zbF k2 x (List.mem_of_mem_take h1)
 refine ⟨w,hw,?_⟩
 unfold abW at h2
 rw [hw] at h2
 simpa using h2
theorem zbX (hk:OkH h):wK (TH h) key (-1)=none:=by
 cases hw:wK (TH h) key (-1) with
 | none=>rfl
 | some w =>
  obtain ⟨t,ht,i,hi,⟨g1,g2,g3⟩,_⟩:=wr_at hk hw
  have hmo:=(hk.m t ht).2 _ (List.getElem_mem hi)
  unfold mayO at hmo
  rw [g1] at hmo
  have h2:mayN t.ops[i].value∧t.ops[i].list=[]:=by simpa using hmo.2
  unfold mayN at h2
  omega
/-- The edges of a key, those to itself among them. -/
noncomputable def keyE (h:List HTx) (key:Int):List HEd:=match badL (ofL (wK (TH h) key) (ofS (TH h) key)) 0 with
 | none=>ofE (wK (TH h) key) key (ofS (TH h) key) (chH h key) (rsH h key)
 | some _=>[]
def neE (a:HEd):Bool:=decide (a.src≠a.dst)
end
end Go.AMS

namespace Go.AMS
open Go.AM hiding Kt At WP WL Runs RunsY
open Go.AM.G
set_option linter.unusedVariables false
set_option linter.unusedSimpArgs false
set_option linter.unusedSectionVars false
set_option maxRecDepth 100000
set_option maxHeartbeats 1000000
attribute [local irreducible] AtS AtV AtC AtG FinA Spec Post LP G.At G.WP G.WL pt own fro rdl ro hx mp lrec elt sub

open Go.AM.G.Set Go.AM.G.Pre
section
variable {h:List HTx} {p q:Option Addr} {c d:Nat} {a b:HEd} {l:List HEd} {key:Int}
def bE (a:HEd):Prop:=bI a.src∧bI a.dst∧bI a.kind∧bI a.key∧bI a.left∧bI a.right
/-- The least above the last, of the first ones. -/
def BstI (l O:List HEd) (k:Nat) (b:Option HEd):Prop:=(b=none→∀ x ∈ l.take k,¬ upE O x)∧∀ y,b=some y→y ∈ l∧upE O y∧∀ x ∈ l.take k,upE O x→¬ ltE x y
theorem BstI.new {l O:List HEd} {k:Nat} {b:Option HEd} (i:BstI l O k b) (hk:k < l.length) (hu:upE O l[k]) (hb:∀ y,b=some y→ltE l[k] y):BstI l O (k + 1) (some l[k]):=by
 refine ⟨fun e=>(by cases e),fun y e=>?_⟩
 cases e
 refine ⟨List.getElem_mem _,hu,fun x hx hux=>?_⟩
 rw [List.take_succ_eq_append_getElem hk] at hx
 rcases List.mem_append.1 hx with q|q
 ·cases hb2:b with
  | none=>exact absurd hux (i.1 hb2 x q)
  | some y =>
   have h1:=(i.2 y hb2).2.2 x q hux
   intro g
   exact h1 (zdm g (hb y hb2))
 ·rw [List.mem_singleton.1 q];exact zcc _
theorem BstI.old {l O:List HEd} {k:Nat} {y:HEd} (i:BstI l O k (some y)) (hk:k < l.length) (hn:¬ ltE l[k] y):BstI l O (k + 1) (some y):=by
 obtain ⟨h1,h2,h3⟩:=i.2 y rfl
 refine ⟨fun e=>(by cases e),fun z e=>?_⟩
 cases e
 refine ⟨h1,h2,fun x hx hu=>?_⟩
 rw [List.take_succ_eq_append_getElem hk] at hx
 rcases List.mem_append.1 hx with q|q
 ·exact h3 x q hu
 ·rw [List.mem_singleton.1 q];exact hn
end
end Go.AMS

namespace Go.AMS
open Go.AM hiding Kt At WP WL Runs RunsY
open Go.AM.G
set_option linter.unusedVariables false
set_option linter.unusedSimpArgs false
set_option linter.unusedSectionVars false
set_option maxRecDepth 100000
set_option maxHeartbeats 1000000
attribute [local irreducible] AtS AtV AtC AtG FinA Spec Post LP G.At G.WP G.WL pt own fro rdl ro hx mp lrec elt sub

open Go.AM.G.Set Go.AM.G.Pre
section
variable {h:List HTx} {p q:Option Addr} {c d:Nat} {key:Int}
theorem zea (hk:OkH h) (x:Int):bI (wtx (wK (TH h) key) x):=by
 unfold wtx
 cases hw:wK (TH h) key x with
 | none=>exact ⟨by decide,by decide⟩
 | some w =>
  obtain ⟨t,ht,i,hi,_,rfl⟩:=wr_at hk hw
  have:=(hk.m t ht).1
  unfold mayN at this
  unfold txZ bI
  dsimp only;omega
theorem zcg {ch rs:List Int} {n:Nat} (h1:rs.length≤1200):(nxI ch rs n).length≤1200:=by
 unfold nxI
 split
 ·exact h1
 ·split <;> simp
theorem ze3 {W:Wf} {ch rs:List Int} (h1:rs.length≤1200) (r:HRd):(rdE W key ch rs r).length≤1201:=by
 unfold rdE frE rwE
 rw [List.length_append,List.length_map]
 have:=zcg (ch:=ch) (n:=(cleanL W r.list).length) h1
 split <;> simp <;> omega
theorem zj7 {l:List Int} (hi:((l.length:Int) - 1).toNat < l.length):lastD l=l[((l.length:Int) - 1).toNat]:=by
 have e:((l.length:Int) - 1).toNat=l.length - 1:=by omega
 rw [zax (by omega)]
 simp only [e]
theorem zkl {α β:Type} (f:α→List β) {l:List α} {n:Nat} (hn:n < l.length):(l.take (n + 1)).flatMap f=(l.take n).flatMap f++f l[n]:=by
 rw [List.take_succ_eq_append_getElem hn,List.flatMap_append]
 congr 1
 simp
end
end Go.AMS

namespace Go.AMS
open Go.AM hiding Kt At WP WL Runs RunsY
open Go.AM.G
set_option linter.unusedVariables false
set_option linter.unusedSimpArgs false
set_option linter.unusedSectionVars false
set_option maxRecDepth 100000
set_option maxHeartbeats 1000000
attribute [local irreducible] AtS AtV AtC AtG FinA Spec Post LP G.At G.WP G.WL pt own fro rdl ro hx mp lrec elt sub

open Go.AM.G.Set Go.AM.G.Pre
section
variable {h:List HTx} {p q pk:Option Addr} {c d ck:Nat} {key:Int} {keys:List Int}
theorem zfH (W:Wf) (ch:List Int) (n:Nat):(chE W key ch n).length=n:=by unfold chE;simp
theorem zd3 (hf:FewH h 20 60) (hk:OkH h):(chH h key).length≤100:=zdq fun l hl=>by
 obtain ⟨r,hr,rfl⟩:=List.mem_map.1 hl
 exact Nat.le_trans (za5 _ _) ((of_ok hf hk).ll r hr).1.1
theorem zeT (hf:FewH h 20 60) (hk:OkH h):(rsH h key).length≤1200:=by
 unfold rsH restL
 rw [List.length_map]
 exact Nat.le_trans (List.length_filter_le _ _) (of_ok hf hk).wt
theorem zhB (hf:FewH h 20 60) (hk:OkH h):(keyE h key).length≤1501400:=by
 unfold keyE
 split
 ·unfold ofE
  rw [List.length_append,List.length_append,zfH]
  have h1:=zd3 (key:=key) hf hk
  have h2:=zeT (key:=key) hf hk
  have h3:=zb8 (rdE (wK (TH h) key) key (chH h key) (rsH h key)) 1201 (fun r=>ze3 h2 r) (ofS (TH h) key)
  have h4:=(of_ok (key:=key) hf hk).sl
  have h5:=Nat.mul_le_mul_right 1201 h4
  have h6:(if 0 < (chH h key).length then rsE (wK (TH h) key) key (lastD (chH h key)) (rsH h key) else []).length≤1200:=by
   split
   ·unfold rsE;rw [List.length_map];exact h2
   ·simp
  omega
 ·simp
theorem wr_bI (hk:OkH h) {x:Int} {w:HWr} (hw:wK (TH h) key x=some w):bI x:=by
 obtain ⟨t,ht,i,hi,⟨g1,g2,g3⟩,_⟩:=wr_at hk hw
 have hmo:=(hk.m t ht).2 _ (List.getElem_mem hi)
 unfold mayO at hmo
 rw [g1] at hmo
 have h2:mayN t.ops[i].value∧t.ops[i].list=[]:=by simpa using hmo.2
 unfold mayN at h2
 unfold bI;omega
theorem zw (hk:OkH h) {u x:Int} (ho:ownsP (wK (TH h) key) u x):bI u∧bI x:=by
 obtain ⟨w,hw,_⟩:=id ho
 have:=zea (key:=key) hk x
 rw [zaS ho] at this
 exact ⟨this,wr_bI hk hw⟩
theorem zen {l:List Int} (hl:∀ x ∈ l,bI x):bI (lastD l):=by
 unfold lastD
 cases hq:l.getLast? with
 | none=>exact ⟨by decide,by decide⟩
 | some x=>exact hl x (List.mem_of_getLast? hq)
theorem zed (hk:OkH h) {r:HRd} (hr:r ∈ ofS (TH h) key):∀ x ∈ cleanL (wK (TH h) key) r.list,bI x:=fun x hx=>by
 obtain ⟨h1,_⟩:=List.mem_filter.1 hx
 obtain ⟨_,k2⟩:=zdp (zc3 hr)
 obtain ⟨w,hw⟩:=zbF k2 x h1
 exact wr_bI hk hw
theorem zfm (hf:FewH h 20 60) (hk:OkH h) (hy:bI key) {x:HEd} (hx:x ∈ keyE h key):bE x:=by
 unfold keyE at hx
 split at hx
 ·obtain ⟨e,hj⟩:=(zd2 zdN (zdj hf hk) zdt (zbX hk) x).1 hx
  have hn:∀ n:Int,n=1∨n=2∨n=4→bI n:=fun n hn=>by unfold bI;omega
  unfold bE
  rw [e]
  rcases hj with ⟨e2,i,_,_,h1,h2⟩|⟨e2,e3,h1,r,hr,h2,_⟩|⟨e2,h1,r,hr,h2,h3,_⟩
  ·exact ⟨(zw hk h1).1,(zw hk h2).1,hn _ (by omega),hy,(zw hk h1).2,(zw hk h2).2⟩
  ·rw [e3,← h2]
   exact ⟨(zw hk h1).1,((of_ok hf hk).bd r hr).1,hn _ (by omega),hy,(zw hk h1).2,by decide,by decide⟩
  ·rw [← h2,← h3]
   exact ⟨((of_ok hf hk).bd r hr).1,(zw hk h1).1,hn _ (by omega),hy,zen (zed hk hr),(zw hk h1).2⟩
 ·cases hx
theorem zjN {α:Type} (f:α→Bool) {l:List α} {n:Nat} (hn:n < l.length):(l.take (n + 1)).filter f=(l.take n).filter f++if f l[n]=true then [l[n]] else []:=by
 rw [List.take_succ_eq_append_getElem hn,List.filter_append]
 cases hq:f l[n] <;> simp [hq]
end
end Go.AMS

namespace Go.AMS
open Go.AM hiding Kt At WP WL Runs RunsY
open Go.AM.G
set_option linter.unusedVariables false
set_option linter.unusedSimpArgs false
set_option linter.unusedSectionVars false
set_option maxRecDepth 100000
set_option maxHeartbeats 1000000
attribute [local irreducible] AtS AtV AtC AtG FinA Spec Post LP G.At G.WP G.WL pt own fro rdl ro hx mp lrec elt sub

open Go.AM.G.Set Go.AM.G.Pre
section
variable {h:List HTx} {T:Tb} {r:HRd} {l:List Int} {p q p1 p2 p3 q1 q2:Option Addr} {c d c1 c2 c3 d1 d2 b mr mt tb xb kb:Nat} {ch rs:List Int} {key:Int} {x:HEd}
theorem zeD {m:Nat} (h1:ch.length≤100000) (h2:rs.length≤100000) (h3:m≤100000) (hb:∀ v ∈ ch,bI v):Spec prog1 zN [.agg #[.int .i64 key,.slice q1 ch.length d1,.slice q2 rs.length d2,.bool false,.int .i64 0,.int .i64 0,.int .i64 0,.slice none 0 0,.slice none 0 0,.int .i64 0,.int .i64 0,.int .i64 0,.slice none 0 0,.slice none 0 0],.int .i64 (m:Int)] [rdl (kInt .i64) q1 ch,rdl (kInt .i64) q2 rs] (fun R=>∀ q' d',R (.slice q' (nxI ch rs m).length d') [own (kInt .i64) q' d' (nxI ch rs m)]):=by
 refine spec_code zib rfl ?_;intro n F R hR;unfold zcM
 unfold nxI at hR
 by_cases e1:m=ch.length
 ·rw [if_pos e1] at hR
  repeat' first|apply step|(apply gO;·repeat first|exact eZ|(apply eS;exact rfl))|(refine Br.mk (fun _=>?_) (fun _=>?_)<;>try (exfalso;omega))|refine Fa.mk fun _=>?_|refine g_cond ?_
  all_goals try (exfalso;omega)
  refine at_callR (zx (l:=rs) (by omega)) ?_
  intro p' c'
  repeat' first|apply step|(apply gO;·repeat first|exact eZ|(apply eS;exact rfl))|apply Lw.go|refine g_fin ?_
  exact fin (hR _ _)
 ·rw [if_neg e1] at hR
  by_cases e2:m < ch.length
  ·rw [if_pos e2,getD_lt e2] at hR
   have hbm:=hb _ (List.getElem_mem e2)
   repeat' first|apply step|(apply gO;·repeat first|exact eZ|(apply eS;exact rfl))|(refine Br.mk (fun _=>?_) (fun _=>?_)<;>try (exfalso;omega))|(refine Sd.mk ?_ ?_;·exact qD)|(refine Sx.mk ?_ ?_;·omega)|refine Fa.mk fun _=>?_|refine Im.mk fun _=>?_|refine g_cond ?_|refine g_guard ?_|refine g_keep ?_|refine g_fin ?_
   all_goals try (exfalso;omega)
   all_goals
    refine fin_via (pt_own (K:=kInt .i64) (l:=[ch[m]]) (cap:=1) rfl inferInstance hbm) ?_
    exact fin (hR _ _)
  ·rw [if_neg e2] at hR
   repeat' first|apply step|(apply gO;·repeat first|exact eZ|(apply eS;exact rfl))|(refine Br.mk (fun _=>?_) (fun _=>?_)<;>try (exfalso;omega))|refine Fa.mk fun _=>?_|refine g_cond ?_|refine g_guard ?_|refine g_keep ?_|refine g_fin ?_
   all_goals first|exact fin (hR _ _)|(exfalso;omega)
end
end Go.AMS

namespace Go.AMS
open Go.AM hiding Kt At WP WL Runs RunsY
open Go.AM.G
set_option linter.unusedVariables false
set_option linter.unusedSimpArgs false
theorem zdP {m:M}:∀ {l:List HEd} {cs:List Value},Cells kHEd m cs l→cs=(l.map tupE).flatMap AM.x6c∧∀ a ∈ l,kHEd.rd m (AM.x6c (tupE a)) a
 | [],cs,h=>⟨h,by simp⟩
 | t::l,cs,⟨c,r,e,h1,h2⟩=>by
  obtain ⟨e1,e2⟩:=zdP h2
  obtain ⟨v0,v1,v2,v3,v4,v5,hc,q0,q1,q2,q3,q4,q5⟩:=id h1
  have k0:v0=.int .i64 t.src:=(List.cons.inj q0.1).1
  have k1:v1=.int .i64 t.dst:=(List.cons.inj q1.1).1
  have k2:v2=.int .i64 t.kind:=(List.cons.inj q2.1).1
  have k3:v3=.int .i64 t.key:=(List.cons.inj q3.1).1
  have k4:v4=.int .i64 t.left:=(List.cons.inj q4.1).1
  have k5:v5=.int .i64 t.right:=(List.cons.inj q5.1).1
  subst k0 k1 k2 k3 k4 k5
  have hx:c=AM.x6c (tupE t):=hc
  refine ⟨by rw [e,e1,hx];rfl,fun a ha=>?_⟩
  rcases List.mem_cons.1 ha with rfl|ha
  ·rw [← hx];exact h1
  ·exact e2 a ha
theorem zeE {m:M}:∀ {zs:List HEd},(∀ z ∈ zs,kHEd.rd m (AM.x6c (tupE z)) z)→Cells kHEd m ((zs.map tupE).flatMap AM.x6c) zs
 | [],_=>rfl
 | z::zs,h=>⟨_,_,by rw [List.map_cons,List.flatMap_cons],h z (by simp),zeE fun y hy=>h y (by simp [hy])⟩
theorem zdu:∀ a b:List Int,AM.cmpL a b=cmpL a b
 | [],b=>by cases b <;> rfl
 | x::a,[]=>rfl
 | x::a,y::b=>by
  simp only [AM.cmpL,cmpL,zdu a b]
def unT:List Int→HEd
 | [a,b,c,d,e,f]=>⟨a,b,c,d,e,f⟩
 | _=>⟨0,0,0,0,0,0⟩
theorem zgR (a:HEd):unT (tupE a)=a:=rfl
theorem zgE {x:List Int} (h:x.length=6):tupE (unT x)=x:=by
 obtain ⟨a,b,c,d,e,f,rfl⟩:=AM.six_inv h
 rfl
theorem zet:∀ {l:List (List Int)},(∀ x ∈ l,x.length=6)→(l.map unT).map tupE=l
 | [],_=>rfl
 | x::l,h=>by
  rw [List.map_cons,List.map_cons,zgE (h x (by simp)),zet fun y hy=>h y (List.mem_cons_of_mem _ hy)]
theorem tups6 (l:List HEd):∀ x ∈ l.map tupE,x.length=6:=fun x hx=>by
 obtain ⟨a,_,rfl⟩:=List.mem_map.1 hx;rfl
/-- Edges, sorted. -/
def sortE (l:List HEd):List HEd:=(AM.sortG (l.map tupE)).map unT
theorem zdk (l:List HEd):(sortE l).Perm l:=by
 have:=(AM.sortG_perm (l.map tupE)).map unT
 rw [List.map_map] at this
 have e:l.map (unT ∘ tupE)=l:=by
  have:(unT ∘ tupE)=id:=by funext a;exact zgR a
  rw [this,List.map_id]
 rw [e] at this
 exact this
theorem zdA (l:List HEd):(sortE l).map tupE=AM.sortG (l.map tupE):=zet fun x hx=>tups6 l x ((AM.sortG_perm _).mem_iff.1 hx)
theorem zf2 (l:List HEd):(sortE l).Pairwise fun a b=>¬ ltE b a:=by
 have h:=AM.sortG_sorted (tups6 l)
 rw [← zdA] at h
 have h:=List.pairwise_map.1 h
 refine h.imp fun {a b} q g=>q ?_
 rw [zdu]
 show cmpE b a < 0
 unfold ltE at g
 rw [g];decide
theorem ze2 (l:List HEd):(sortE l).length=l.length:=(zdk l).length_eq
theorem zfK {p:Option Addr} {c:Nat} {l:List HEd} (hl:l.length≤100000000000):Spec prog1 zai [.slice p l.length c,.func (.func zc) #[] #[]] [own kHEd p c l] (fun R=>R (.tuple #[]) [own kHEd p c (sortE l)]):=by
 intro n F h R hs hw H hH
 obtain ⟨⟨S,⟨t1,t2,k1,k3,k4,k5⟩,k6⟩,hp,hn⟩:=id hs
 by_cases h0:l=[]
 ·subst h0
  have e:sortE []=[]:=rfl
  rw [e] at hw
  refine ⟨1,.tuple #[],H,h,?_,rfl,hH,.refl h,rfl,_,hw,hs⟩
  simp only [callV,zdK,AM.sortEO,Nat.beq_refl,Bool.true_and,cond_true,List.isEmpty_nil,Bool.and_self]
  rfl
 ·have k1':∃ b cs,p=some ⟨b,0,none⟩∧b < h.size∧h.get b=some (.cells cs (some kHEd.esz))∧Cells kHEd (tz h) cs l∧t1=(·=b):=by
   unfold own at k1
   rcases k1 with ⟨_,_,h1,_⟩|k1
   ·exact absurd h1 h0
   ·exact k1
  obtain ⟨b,cs,rfl,h2,h3,h4,rfl⟩:=k1'
  obtain ⟨hz2,hz3⟩:=zdP h4
  have hcl:cs.length=l.length * 6:=by rw [hz2,AM.x6c_len (tups6 l),List.length_map]
  have hn0:¬ l.length=0:=by simpa using h0
  have hb:n≤b:=k6 b ((k5 b).2 (.inl rfl))
  obtain ⟨own',e1,e2⟩:=hH.cells h3
  have e3:H.get b=some (.cells cs (some 6)):=by
   rcases e2 with rfl|e2
   ·exact e1
   ·cases e2
  have hsp:splice cs 0 (((sortE l).map tupE).flatMap AM.x6c)=((sortE l).map tupE).flatMap AM.x6c:=by
   unfold splice
   simp only [List.take_zero,List.nil_append,Nat.zero_add]
   rw [AM.x6c_len (tups6 _),List.length_map,ze2,List.drop_eq_nil_of_le (by omega),List.append_nil]
  have hst:St h (h.set b (.cells (((sortE l).map tupE).flatMap AM.x6c) (some 6))):=.set _ (by rw [hp];exact hb) (fun x hx=>by rw [h3] at hx;cases hx)
  refine ⟨1,.tuple #[],H.set b (.cells (((sortE l).map tupE).flatMap AM.x6c) (some 6)),h.set b (.cells (((sortE l).map tupE).flatMap AM.x6c) (some 6)),?_,rfl,hH.set _ _,hst,rfl,_,hw,⟨S,⟨(·=b),t2,?_,k3.loc hst (fun x hx=>by rw [Heap.get_set,if_neg (fun e=>k4 x e hx)]),k4,k5⟩,k6⟩,hp,hn⟩
  ·simp only [callV,zdK,AM.sortEO]
   rw [show (Nat.beq zc zc && (#[]:Array Value).toList.isEmpty && (#[]:Array Value).toList.isEmpty)=true by simp,cond_true,if_neg hn0]
   simp only [e3]
   rw [if_pos ⟨trivial,by have:=hH.prot;omega,by omega,by omega⟩]
   rw [List.drop_zero,show l.length * 6=cs.length by omega,List.take_length,hz2,AM.x6s_of (tups6 l)]
   simp only []
   rw [← zdA,← hz2,hsp]
  ·unfold own
   refine .inr ⟨b,_,rfl,h2,by rw [Heap.get_set,if_pos rfl];rfl,?_,rfl⟩
   exact Cells.mono (St_tz hst) (zeE fun z hz=>hz3 z ((zdk l).mem_iff.1 hz))
end Go.AMS

namespace Go.AMS
open Go.AM hiding Kt At WP WL Runs RunsY
open Go.AM.G
set_option linter.unusedVariables false
set_option linter.unusedSimpArgs false
set_option linter.unusedSectionVars false
set_option maxRecDepth 100000
set_option maxHeartbeats 1000000
attribute [local irreducible] AtS AtV AtC AtG FinA Spec Post LP G.At G.WP G.WL pt own fro rdl ro hx mp lrec elt sub

open Go.AM.G.Set Go.AM.G.Pre
def orL:List Int→Int
 | []=>0
 | x::l=>if x=0 then orL l else x
def cmI (x y:Int):Int:=if x < y then -1 else if y < x then 1 else 0
theorem zS (x y:Int):-1≤cmI x y∧cmI x y≤1:=by
 unfold cmI
 split
 ·decide
 ·split <;> decide
theorem zdS:∀ a b:List Int,a.length=b.length→cmpL a b=orL ((a.zip b).map fun z=>cmI z.1 z.2)
 | [],[],_=>rfl
 | [],_::_,h=>by simp at h
 | _::_,[],h=>by simp at h
 | x::a,y::b,h=>by
  have ih:=zdS a b (by simpa using h)
  simp only [cmpL,List.zip_cons_cons,List.map_cons,orL,cmI,ih]
  by_cases h1:x < y
  ·simp [h1]
  ·by_cases h2:y < x
   ·simp [h1,h2]
   ·simp [h1,h2]
theorem zgx {l:List Int} {i:Nat} (h:i < l.length):orL (l.drop i)=if l[i]=0 then orL (l.drop (i + 1)) else l[i]:=by
 rw [List.drop_eq_getElem_cons h];rfl
section
variable {prog:AProg} {p:Option Addr} {c:Nat} {l:List Int} {x y:Int}
theorem zd7 (zi:prog zd=some (.code zf)):Spec prog zd [.int .i64 x] [] (fun R=>R (.bool false) []):=by
 refine spec_code zi rfl ?_;intro n F R hR;unfold zf
 repeat' first|apply step|(apply gO;·repeat first|exact eZ|(apply eS;exact rfl))|(refine Br.mk (fun _=>?_) (fun _=>?_)<;>try (exfalso;omega))|refine g_fin ?_
 all_goals first|exact fin hR|(exfalso;omega)
theorem ziX (zi:prog zd=some (.code zf)) (zy:prog zb=some (.code zm)):Spec prog zb [.int .i64 x,.int .i64 y] [] (fun R=>R (.int .i64 (cmI x y)) []):=by
 refine spec_code zy rfl ?_;intro n F R hR;unfold zm
 repeat' first|apply step|(apply gO;·repeat first|exact eZ|(apply eS;exact rfl))
 refine at_callS (zd7 zi) ?_
 repeat' first|apply step|(apply gO;·repeat first|exact eZ|(apply eS;exact rfl))
 refine at_callS (zd7 zi) ?_
 unfold cmI at hR
 repeat' first|apply step|(apply gO;·repeat first|exact eZ|(apply eS;exact rfl))|(refine Br.mk (fun _=>?_) (fun _=>?_)<;>try (exfalso;omega))|refine g_cond ?_|refine g_fin ?_
 ·rw [if_pos ‹_›] at hR;exact fin hR
 ·rw [if_neg (by omega),if_pos ‹_›] at hR;exact fin hR
 ·rw [if_neg (by omega),if_neg (by omega)] at hR;exact fin hR
theorem zkz (zO:prog zj=some (.code zp)) (hl:l.length≤1000):Spec prog zj [.slice p l.length c] [own (kInt .i64) p c l] (fun R=>R (.int .i64 (orL l)) []):=by
 refine spec_code zO rfl ?_;intro n F R hR;unfold zp
 repeat' first|apply step|(apply gO;·repeat first|exact eZ|(apply eS;exact rfl))|refine g_keep ?_
 refine at_loopS (ι:=Nat) (E:=fun i=>[(3,.int .i64 0),(6,.slice p l.length c),(7,.int .i64 (l.length:Int)),(8,.int .i64 (i:Int))]) (Δ:=fun i=>own (kInt .i64) p c l::F) (P:=fun i=>i≤l.length∧orL (l.drop i)=orL l) (μ:=fun i=>l.length - i) 0 ⟨Nat.zero_le _,rfl⟩ ?_
 rintro i ⟨hi,hd⟩
 try dsimp only at hi hd ⊢
 rcases Nat.lt_or_ge i l.length with hlt|hge
 ·rw [zgx hlt] at hd
  by_cases e:l[i]=0
  ·rw [if_pos e] at hd
   repeat' first|apply step|(apply gO;·repeat first|exact eZ|(apply eS;exact rfl))|(refine Br.mk (fun _=>?_) (fun _=>?_)<;>try (exfalso;omega))|(refine Sd.mk ?_ ?_;·exact qD)|(refine Sx.mk ?_ ?_;·omega)|refine Im.mk fun _=>?_|refine g_cond ?_|refine g_keep ?_
   all_goals first|(exfalso;omega)|exact lp_next (i + 1) ⟨by omega,hd⟩ (by omega)
  ·rw [if_neg e] at hd
   rw [← hd] at hR
   repeat' first|apply step|(apply gO;·repeat first|exact eZ|(apply eS;exact rfl))|(refine Br.mk (fun _=>?_) (fun _=>?_)<;>try (exfalso;omega))|(refine Sd.mk ?_ ?_;·exact qD)|(refine Sx.mk ?_ ?_;·omega)|refine Im.mk fun _=>?_|refine g_cond ?_|refine g_fin ?_
   all_goals first|(exfalso;omega)|exact fin hR
 ·have e:i=l.length:=by omega
  subst e
  rw [List.drop_length] at hd
  have hd0:(0:Int)=orL l:=hd
  rw [← hd0] at hR
  repeat' first|apply step|(apply gO;·repeat first|exact eZ|(apply eS;exact rfl))|(refine Br.mk (fun _=>?_) (fun _=>?_)<;>try (exfalso;omega))|refine g_cond ?_|refine g_keep ?_|refine g_fin ?_
  all_goals first|(exfalso;omega)|exact fin hR
theorem zgz (zi:prog zd=some (.code zf)) (zy:prog zb=some (.code zm)) (zO:prog zj=some (.code zp)) (zcC:prog zc=some (.code zG)) {a b:HEd} :
  Spec prog zc [.agg #[.int .i64 a.src,.int .i64 a.dst,.int .i64 a.kind,.int .i64 a.key,.int .i64 a.left,.int .i64 a.right],.agg #[.int .i64 b.src,.int .i64 b.dst,.int .i64 b.kind,.int .i64 b.key,.int .i64 b.left,.int .i64 b.right]] [] (fun R=>R (.int .i64 (cmpE a b)) []):=by
 refine spec_code zcC rfl ?_;intro n F R hR;unfold zG
 have hc:∀ x y:Int,Spec prog zb [.int .i64 x,.int .i64 y] [] (fun R=>R (.int .i64 (cmI x y)) []):=fun x y=>ziX zi zy
 have he:cmpE a b=orL [cmI a.src b.src,cmI a.dst b.dst,cmI a.kind b.kind,cmI a.key b.key,cmI a.left b.left,cmI a.right b.right]:=zdS (tupE a) (tupE b) rfl
 rw [he] at hR
 have ho:=fun (p:Option Addr) (c:Nat)=>zkz (p:=p) (c:=c) (l:=[cmI a.src b.src,cmI a.dst b.dst,cmI a.kind b.kind,cmI a.key b.key,cmI a.left b.left,cmI a.right b.right]) zO (by simp)
 have b1:=zS a.src b.src
 have b2:=zS a.dst b.dst
 have b3:=zS a.kind b.kind
 have b4:=zS a.key b.key
 have b5:=zS a.left b.left
 have b6:=zS a.right b.right
 repeat' first|apply step|(apply gO;·repeat first|exact eZ|(apply eS;exact rfl))|refine Fa.mk fun _=>?_
 refine at_callR (hc a.src b.src) ?_
 repeat' first|apply step|(apply gO;·repeat first|exact eZ|(apply eS;exact rfl))|apply Lw.go
 refine at_callR (hc a.dst b.dst) ?_
 repeat' first|apply step|(apply gO;·repeat first|exact eZ|(apply eS;exact rfl))|apply Lw.go
 refine at_callR (hc a.kind b.kind) ?_
 repeat' first|apply step|(apply gO;·repeat first|exact eZ|(apply eS;exact rfl))|apply Lw.go
 refine at_callR (hc a.key b.key) ?_
 repeat' first|apply step|(apply gO;·repeat first|exact eZ|(apply eS;exact rfl))|apply Lw.go
 refine at_callR (hc a.left b.left) ?_
 repeat' first|apply step|(apply gO;·repeat first|exact eZ|(apply eS;exact rfl))|apply Lw.go
 refine at_callR (hc a.right b.right) ?_
 generalize cmI a.src b.src=m1 at *
 generalize cmI a.dst b.dst=m2 at *
 generalize cmI a.kind b.kind=m3 at *
 generalize cmI a.key b.key=m4 at *
 generalize cmI a.left b.left=m5 at *
 generalize cmI a.right b.right=m6 at *
 repeat' first|apply step|(apply gO;·repeat first|exact eZ|(apply eS;exact rfl))|refine Fa.mk fun _=>?_|apply Lw.go
 rename_i lb
 refine av_via (pt_own (K:=kInt .i64) (b:=lb) (cs:=[.int .i64 m1,.int .i64 m2,.int .i64 m3,.int .i64 m4,.int .i64 m5,.int .i64 m6]) (l:=[m1,m2,m3,m4,m5,m6]) (cap:=6) rfl (show OfVs _ (kInt .i64) [.int .i64 m1,.int .i64 m2,.int .i64 m3,.int .i64 m4,.int .i64 m5,.int .i64 m6] [m1,m2,m3,m4,m5,m6] _ from inferInstance) (by repeat' constructor;all_goals omega)) ?_
 refine at_callS (ho (some ⟨lb,0,none⟩) 6) ?_
 repeat' first|apply step|(apply gO;·repeat first|exact eZ|(apply eS;exact rfl))|refine g_keep ?_|refine g_fin ?_
 exact fin hR
end
section
instance dec_HEd:DecidableEq HEd:=fun a b=>decidable_of_iff (a.src=b.src∧a.dst=b.dst∧a.kind=b.kind∧a.key=b.key∧a.left=b.left∧a.right=b.right) (by cases a;cases b;simp)
instance zk_ed:ZeroK [.int .i64 0,.int .i64 0,.int .i64 0,.int .i64 0,.int .i64 0,.int .i64 0] kHEd ⟨0,0,0,0,0,0⟩:=⟨fun m=>⟨_,_,_,_,_,_,rfl,⟨rfl,by decide,by decide⟩,⟨rfl,by decide,by decide⟩,⟨rfl,by decide,by decide⟩,⟨rfl,by decide,by decide⟩,⟨rfl,by decide,by decide⟩,⟨rfl,by decide,by decide⟩⟩⟩
theorem zcT {a b:HEd}:(a.src=b.src∧a.dst=b.dst∧a.kind=b.kind∧a.key=b.key∧a.left=b.left∧a.right=b.right) ↔ a=b:=by
 cases a;cases b
 simp
theorem zj2 {l:List HEd} {i:Nat} {a:HEd} (h:i < l.length):(l.set i a).take (i + 1)=l.take i++[a]:=by
 rw [List.take_succ_eq_append_getElem (by simp;omega),List.take_set_of_le (Nat.le_refl _)];simp
theorem zho {p:Option Addr} {c:Nat} {l:List HEd} (hl:l.length≤100000000000):Spec prog1 zau [.slice p l.length c] [own kHEd p c l] (fun R=>∀ c' (l':List HEd),l'.take (compactL l).length=compactL l→(compactL l).length≤l'.length→R (.slice p (compactL l).length c') [own kHEd p c l']):=by
 refine spec_code ziB rfl ?_;intro n F R hR;unfold zb7
 have same:compactL l=l→R (.slice p l.length c) [own kHEd p c l]:=fun e=>by
  have:=hR c l (by rw [e,List.take_length]) (by rw [e];exact Nat.le_refl _)
  rwa [e] at this
 repeat' first|apply step|(apply gO;·repeat first|exact eZ|(apply eS;exact rfl))|(refine Br.mk (fun _=>?_) (fun _=>?_)<;>try (exfalso;omega))|refine g_cond ?_|refine g_keep ?_|refine g_fin ?_
 ·exact fin (same (compactL_short (by omega)))
 refine at_loopS (ι:=Nat) (E:=fun k=>[(0,.slice p l.length c),(3,.int .i64 (k:Int))]) (Δ:=fun _=>own kHEd p c l::F) (P:=fun k=>0 < k∧k≤l.length∧∀ i,0 < i→(hi:i < l.length)→i < k→l[i]≠l[i - 1]) (μ:=fun k=>l.length - k) 1 ⟨by omega,by omega,fun i h1 h2 h3=>by omega⟩ ?_
 rintro k ⟨hk0,hk,hI⟩
 repeat' first|apply step|(apply gO;·repeat first|exact eZ|(apply eS;exact rfl))|(refine Br.mk (fun _=>?_) (fun _=>?_)<;>try (exfalso;omega))|(refine Sd.mk ?_ ?_;·exact qD)|(refine Sx.mk ?_ ?_;·omega)|refine Fa.mk fun _=>?_|refine Im.mk fun _=>?_|refine g_cond ?_|refine g_keep ?_|refine g_fin ?_
 ·-- two alike
  rename_i hi1 _ hi2 _ hdup
  have hk1:((k:Int) - 1).toNat=k - 1:=by omega
  simp only [hk1] at hdup
  replace hdup:=zcT.1 hdup
  have hkl:k < l.length:=by omega
  have hstart:compactL (l.take (k + 1))=l.take k:=by
   rw [compactL_take hk0 hkl,if_pos hdup]
   refine compactL_id fun i h1 h2=>?_
   have h3:i < k:=by simp at h2;omega
   simp only [List.getElem_take]
   exact hI i h1 (by omega) h3
  refine at_loopS (ι:=Nat × Nat × List HEd) (E:=fun w=>[(0,.slice p l.length c),(3,.int .i64 (w.2.1:Int)),(4,.slice (sub p k 6) (l.length - k) (l.length - k)),(5,.int .i64 (w.1:Int))]) (Δ:=fun w=>own kHEd p c w.2.2::F)
   (P:=fun w=>w.2.2.length=l.length∧1≤w.1∧w.1≤l.length - k∧w.2.1≤k + w.1 - 1∧w.2.2.take w.2.1=compactL (l.take (k + w.1))∧w.2.2.drop (k + w.1 - 1)=l.drop (k + w.1 - 1)) (μ:=fun w=>l.length - w.1) (1,k,l) ⟨rfl,by omega,by omega,by simp,hstart.symm,rfl⟩ ?_
  rintro ⟨j,kk,l2⟩ ⟨hl2,hj1,hj2,hkk,htk,hdr⟩
  simp only at hl2 hj1 hj2 hkk htk hdr
  have hdl:(l2.drop k).length=l.length - k:=by simp;omega
  have hsame:∀ q,k + j - 1≤q→(hq:q < l.length)→l2[q]'(by omega)=l[q]:=by
   intro q h1 h3
   have:=congrArg (fun z=>z[q - (k + j - 1)]?) hdr
   simp only [List.getElem?_drop] at this
   rw [show k + j - 1 + (q - (k + j - 1))=q by omega,List.getElem?_eq_getElem (by omega),List.getElem?_eq_getElem h3] at this
   exact Option.some.inj this
  have hct:∀ hq:k + j < l.length,compactL (l.take (k + j + 1))=if l[k + j]=l[k + j - 1] then compactL (l.take (k + j)) else compactL (l.take (k + j))++[l[k + j]]:=fun hq=>compactL_take (by omega) hq
  have hj:((j:Int) - 1).toNat=j - 1:=by omega
  dsimp only
  repeat' first|apply step|(apply gO;·repeat first|exact eZ|(apply eS;exact rfl))|(refine Br.mk (fun _=>?_) (fun _=>?_)<;>try (exfalso;omega))|(refine Sd.mk ?_ ?_;·exact qD)|(refine Sx.mk ?_ ?_;·omega)|refine Fa.mk fun _=>?_|refine Im.mk fun _=>?_|refine g_cond ?_|refine g_keep ?_|refine g_fin ?_
  ·have hjn:j < l.length - k:=by omega
   have hq:k + j < l.length:=by omega
   have e1:(l2.drop k)[j]'(by omega)=l[k + j]:=by rw [List.getElem_drop];exact hsame _ (by omega) hq
   have e2:(l2.drop k)[((j:Int) - 1).toNat]'(by omega)=l[k + j - 1]:=by
    rw [List.getElem_drop]
    have:=hsame (k + (j - 1)) (by omega) (by omega)
    simp only [hj]
    rw [this];congr 1;omega
   have hcmp:¬ l[k + j]=l[k + j - 1]:=by rw [← e1,← e2,← zcT];assumption
   have hkn:kk < l2.length:=by omega
   rw [e1]
   refine lp_next (j + 1,kk + 1,l2.set kk l[k + j]) ⟨by simp [hl2],by dsimp only;omega,by dsimp only;omega,by dsimp only;omega,?_,?_⟩ (by dsimp only;omega)
   ·show (l2.set kk l[k + j]).take (kk + 1)=compactL (l.take (k + (j + 1)))
    rw [show k + (j + 1)=k + j + 1 by omega,hct hq,if_neg hcmp,← htk,zj2 hkn]
   ·show (l2.set kk l[k + j]).drop (k + (j + 1) - 1)=l.drop (k + (j + 1) - 1)
    rw [show k + (j + 1) - 1=k + j by omega,List.drop_set_of_lt (by omega)]
    have:=congrArg (List.drop 1) hdr
    rw [List.drop_drop,List.drop_drop,show k + j - 1 + 1=k + j by omega] at this
    exact this
  ·have hjn:j < l.length - k:=by omega
   have hq:k + j < l.length:=by omega
   have e1:(l2.drop k)[j]'(by omega)=l[k + j]:=by rw [List.getElem_drop];exact hsame _ (by omega) hq
   have e2:(l2.drop k)[((j:Int) - 1).toNat]'(by omega)=l[k + j - 1]:=by
    rw [List.getElem_drop]
    have:=hsame (k + (j - 1)) (by omega) (by omega)
    simp only [hj]
    rw [this];congr 1;omega
   have hcmp:¬ l[k + j]≠l[k + j - 1]:=by rw [← e1,← e2,ne_eq,← zcT];assumption
   refine lp_next (j + 1,kk,l2) ⟨hl2,by dsimp only;omega,by dsimp only;omega,by dsimp only;omega,?_,?_⟩ (by dsimp only;omega)
   ·show l2.take kk=compactL (l.take (k + (j + 1)))
    rw [show k + (j + 1)=k + j + 1 by omega,hct hq,if_pos (by simpa using hcmp)];exact htk
   ·show l2.drop (k + (j + 1) - 1)=l.drop (k + (j + 1) - 1)
    have:=congrArg (List.drop 1) hdr
    rw [List.drop_drop,List.drop_drop,show k + j - 1 + 1=k + j by omega] at this
    rw [show k + (j + 1) - 1=k + j by omega];exact this
  ·have hkl2:compactL l=l2.take kk:=by rw [htk,show k + j=l.length by omega,List.take_length]
   have hlen:(compactL l).length=kk:=by rw [hkl2];simp;omega
   have:=hR kk (l2.take kk++List.replicate (l.length - kk) ⟨0,0,0,0,0,0⟩++l2.drop (kk + (l.length - kk))) (by rw [hlen,hkl2,List.append_assoc,List.take_left' (by simp;omega)]) (by rw [hlen];simp;omega)
   rw [hlen] at this
   exact fin this
 ·refine lp_next (k + 1) ⟨by omega,by omega,fun i h1 h2 h3=>?_⟩ (by omega)
  rename_i hdup
  have hk1:((k:Int) - 1).toNat=k - 1:=by omega
  simp only [hk1] at hdup
  by_cases e:i=k
  ·subst e;exact fun q=>hdup (zcT.2 q)
  ·exact hI i h1 h2 (by omega)
 ·exact fin (same (compactL_id fun i h1 h2=>hI i h1 h2 (by omega)))
theorem zfu {p:Option Addr} {c:Nat} {l:List HEd} (hl:l.length≤10000000000):Spec prog1 zbf [.slice p l.length c] [rdl kHEd p l] (fun R=>∀ p' c',R (.slice p' l.length c') [own kHEd p' c' l]):=by
 refine spec_code zfs rfl ?_;intro n F R hR;unfold zcB
 repeat' first|apply step|(apply gO;·repeat first|exact eZ|(apply eS;exact rfl))|(refine Br.mk (fun _=>?_) (fun _=>?_)<;>try (exfalso;omega))|(refine Sd.mk ?_ ?_;·exact qD)|refine Fa.mk fun _=>?_|refine Im.mk fun _=>?_|refine g_cond ?_|refine g_fin ?_
 ·subst_vars
  exact fin (hR none 0)
 ·exact fin (hR _ _)
theorem zeF:∀ {l:List HEd},l.Pairwise (fun a b=>¬ ltE b a)→(compactL l).Pairwise ltE
 | [],_=>by simp [compactL]
 | [x],_=>by simp [compactL]
 | x::y::r,h=>by
  rw [List.pairwise_cons] at h
  have ih:=zeF h.2
  unfold compactL
  split
  ·exact ih
  ·rename_i hne
   rw [List.pairwise_cons]
   refine ⟨fun a ha=>?_,ih⟩
   have hxy:=h.1 y (by simp)
   rw [mem_compactL] at ha
   have hlt:ltE x y:=by
    rcases zcZ x y with q|q|q
    ·exact q
    ·exact absurd q hne
    ·exact absurd q hxy
   rcases List.mem_cons.1 ha with rfl|ha
   ·exact hlt
   ·have h2:=h.2
    rw [List.pairwise_cons] at h2
    have h3:=h2.1 a ha
    rcases zcZ y a with q|q|q
    ·exact zdm hlt q
    ·rw [← q];exact hlt
    ·exact absurd q h3
theorem SrtI.of {l Z:List HEd} (h1:Z.Pairwise ltE) (h2:∀ x,x ∈ Z ↔ x ∈ l):SrtI l Z:=⟨h1,fun x hx=>(h2 x).1 hx,fun x hx hn=>absurd ((h2 x).2 hx) hn⟩
/-- edges.Sort: in order, each once. -/
theorem zgc {p:Option Addr} {c:Nat} {l:List HEd} (hl:l.length≤10000000000):Spec prog1 zaO [.slice p l.length c] [rdl kHEd p l] (fun R=>∀ Z p' c',SrtI l Z→(∀ x,x ∈ Z ↔ x ∈ l)→R (.slice p' Z.length c') [lst kHEd p' Z]):=by
 refine spec_code zjJ rfl ?_;intro n F R hR;unfold zbx
 have hm:∀ x,x ∈ compactL (sortE l) ↔ x ∈ l:=fun x=>by rw [mem_compactL];exact (zdk l).mem_iff
 have hs:SrtI l (compactL (sortE l)):=.of (zeF (zf2 l)) hm
 have hsl:=ze2 l
 repeat' first|apply step|(apply gO;·repeat first|exact eZ|(apply eS;exact rfl))
 refine at_callS (zfu (l:=l) hl) ?_
 intro p1 c1
 repeat' first|apply step|(apply gO;·repeat first|exact eZ|(apply eS;exact rfl))
 refine at_callS (zfK (l:=l) (by omega)) ?_
 repeat' first|apply step|(apply gO;·repeat first|exact eZ|(apply eS;exact rfl))
 rw [← hsl]
 refine at_callS (zho (l:=sortE l) (by omega)) ?_
 intro c2 l2 h1 h2
 repeat' first|apply step|(apply gO;·repeat first|exact eZ|(apply eS;exact rfl))|refine g_fin ?_
 refine fin_via (own_lst (p:=p1) (l:=l2) _ h1) ?_
 exact fin (hR _ p1 c2 hs hm)
end
end Go.AMS

namespace Go.AMS
open Go.AM hiding Kt At WP WL Runs RunsY
open Go.AM.G
set_option linter.unusedVariables false
set_option linter.unusedSimpArgs false
section
variable {prog:AProg}
theorem zjK (zi:prog zd=some (.code zf)) (zy:prog zb=some (.code zm)) (zO:prog zj=some (.code zp)) (zcC:prog zc=some (.code zG)) (x y:AM.M6) :
  ∃ n h',callV prog n (.func zc) [.agg x.enc.toArray,.agg y.enc.toArray] Heap.empty=some (.int .i64 (AM.M6.cf x y),h'):=by
 obtain ⟨x,hx⟩:=x
 obtain ⟨y,hy⟩:=y
 obtain ⟨a,b,c,d,e,f,rfl⟩:=AM.six_inv hx
 obtain ⟨a',b',c',d',e',f',rfl⟩:=AM.six_inv hy
 obtain ⟨n,v,H',h',h1,_,rfl⟩:=(zgz zi zy zO zcC (a:=⟨a,b,c,d,e,f⟩) (b:=⟨a',b',c',d',e',f'⟩) 0 [] Heap.empty (fun v _=>v=.int .i64 (cmpL [a,b,c,d,e,f] [a',b',c',d',e',f'])) ⟨⟨fun _=>False,fun b q=>q,fun b q=>q.elim⟩,rfl,Nat.zero_le _⟩ rfl).mono (fun v _ _ _ ⟨_,h,_⟩=>h) |>.run
 refine ⟨n,H',?_⟩
 rw [show AM.M6.cf ⟨[a,b,c,d,e,f],hx⟩ ⟨[a',b',c',d',e',f'],hy⟩=cmpL [a,b,c,d,e,f] [a',b',c',d',e',f'] from zdu _ _]
 exact h1
end
end Go.AMS

namespace Go.AMS
open Go.AM hiding Kt At WP WL Runs RunsY
open Go.AM.G
set_option linter.unusedVariables false
set_option linter.unusedSimpArgs false
set_option linter.unusedSectionVars false
set_option maxRecDepth 100000
set_option maxHeartbeats 1000000
attribute [local irreducible] AtS AtV AtC AtG FinA Spec Post LP G.At G.WP G.WL pt own fro rdl ro hx mp lrec elt sub

open Go.AM.G.Set Go.AM.G.Pre
section
variable {h:List HTx} {T:Tb} {r:HRd} {l:List Int} {p q p1 p2 p3 q1 q2 po:Option Addr} {c d c1 c2 c3 d1 d2 co b mr mt mb tb xb kb:Nat} {ch rs:List Int} {key:Int} {x:HEd} {O:List HEd}
theorem bI_s (n:Int) (h:-10≤n∧n≤10):bI n:=by unfold bI;omega
theorem zef (hl:l.length≤1000000):Spec prog1 z9 [.slice p l.length c] [rdl (kInt .i64) p l] (fun R=>R (.int .i64 (lastD l)) []):=by
 refine spec_code zf9 rfl ?_;intro n F R hR;unfold zcq
 by_cases h0:0 < l.length
 ·have hi:((l.length:Int) - 1).toNat < l.length:=by omega
  rw [zj7 hi] at hR
  repeat' first|apply step|(apply gO;·repeat first|exact eZ|(apply eS;exact rfl))|(refine Br.mk (fun _=>?_) (fun _=>?_)<;>try (exfalso;omega))|(refine Sd.mk ?_ ?_;·exact qD)|(refine Sx.mk ?_ ?_;·omega)|refine Im.mk fun _=>?_|refine g_cond ?_|refine g_keep ?_|refine g_fin ?_
  all_goals first|exact fin hR|(exfalso;omega)
 ·have e:=List.eq_nil_of_length_eq_zero (by omega:l.length=0)
  subst e
  rw [show lastD []=-1 from rfl] at hR
  repeat' first|apply step|(apply gO;·repeat first|exact eZ|(apply eS;exact rfl))|(refine Br.mk (fun _=>?_) (fun _=>?_)<;>try (exfalso;omega))|refine g_cond ?_|refine g_fin ?_
  all_goals first|exact fin hR|(exfalso;omega)
theorem zeX {x:Int} {cs:List Value} {v:Value} (hcs:cs=[.pointer (some ⟨b,0,none⟩),.int .i64 key,.slice q1 ch.length d1,.slice q2 rs.length d2,.bool false,.int .i64 0,.int .i64 0,.int .i64 0,.slice none 0 0,.slice none 0 0,.int .i64 0,.int .i64 0,.int .i64 0,.slice none 0 0,.slice none 0 0,v]):Spec prog1 zh [.pointer (some ⟨mb,0,none⟩),.int .i64 x] [ro (pt mb cs 0),ro (tabC b T mr mt)] (fun R=>R (.int .i64 (wtx (wK T key) x)) []):=by
 subst hcs
 refine spec_code zfT rfl ?_;intro n F R hR;unfold zco
 unfold wtx at hR
 repeat' first|apply step|(apply gO;·repeat first|exact eZ|(apply eS;exact rfl))
 refine at_callR (zbb (T:=T) (mr:=mr) (mt:=mt) (x:=key) (y:=x)) ?_
 rw [show aget (key,x) T.wr=wK T key x from rfl]
 cases hw:wK T key x with
 | none =>
  rw [hw] at hR
  unfold wrO
  unfold txZ at hR
  repeat' first|apply step|(apply gO;·repeat first|exact eZ|(apply eS;exact rfl))|refine Fa.mk fun _=>?_|apply Lw.go|refine g_keep ?_|refine g_fin ?_
  exact fin hR
 | some w =>
  rw [hw] at hR
  unfold wrO
  unfold txZ at hR
  repeat' first|apply step|(apply gO;·repeat first|exact eZ|(apply eS;exact rfl))|refine Fa.mk fun _=>?_|apply Lw.go|refine g_keep ?_|refine g_fin ?_
  exact fin hR
def pute (O:List HEd) (x:HEd):List HEd:=if x.src≠x.dst then O++[x] else O
theorem zdr {u v w y z:Int} (hb:bE ⟨u,v,w,key,y,z⟩) (hO:O.length≤1000000000):Spec prog1 zD [.pointer (some ⟨mb,0,none⟩),.int .i64 u,.int .i64 v,.int .i64 w,.int .i64 y,.int .i64 z] [pt mb [.pointer (some ⟨b,0,none⟩),.int .i64 key,.slice q1 ch.length d1,.slice q2 rs.length d2,.bool false,.int .i64 0,.int .i64 0,.int .i64 0,.slice none 0 0,.slice none 0 0,.int .i64 0,.int .i64 0,.int .i64 0,.slice none 0 0,.slice none 0 0,.slice po O.length co] 0,own kHEd po co O] (fun R=>∀ p' c',R (.tuple #[]) [pt mb [.pointer (some ⟨b,0,none⟩),.int .i64 key,.slice q1 ch.length d1,.slice q2 rs.length d2,.bool false,.int .i64 0,.int .i64 0,.int .i64 0,.slice none 0 0,.slice none 0 0,.int .i64 0,.int .i64 0,.int .i64 0,.slice none 0 0,.slice none 0 0,.slice p' (pute O ⟨u,v,w,key,y,z⟩).length c'] 0,own kHEd p' c' (pute O ⟨u,v,w,key,y,z⟩)]):=by
 refine spec_code ziY rfl ?_;intro n F R hR;unfold zbs
 unfold pute at hR
 dsimp only at hR
 unfold bE bI at hb
 dsimp only at hb
 by_cases e:u=v
 ·rw [if_neg (by simpa using e)] at hR
  repeat' first|apply step|(apply gO;·repeat first|exact eZ|(apply eS;exact rfl))|(refine Br.mk (fun _=>?_) (fun _=>?_)<;>try (exfalso;omega))|refine g_cond ?_|refine g_fin ?_
  all_goals first|exact fin (hR _ _)|(exfalso;omega)
 ·rw [if_pos e] at hR
  repeat' first|apply step|(apply gO;·repeat first|exact eZ|(apply eS;exact rfl))|(refine Br.mk (fun _=>?_) (fun _=>?_)<;>try (exfalso;omega))|(refine Sd.mk ?_ ?_;·exact qD)|refine Fa.mk fun _=>?_|refine g_cond ?_|refine g_fin ?_
  exact fin (hR _ _)
def wrA (W:Wf) (key:Int) (ch rs:List Int) (n:Nat):List HEd:=(nxI ch rs (n + 1)).map fun y=>⟨wtx W (ch.getD n 0),wtx W y,1,key,ch.getD n 0,y⟩
def wrL (W:Wf) (key:Int) (ch rs:List Int) (n:Nat):List HEd:=(List.range n).flatMap fun i=>(wrA W key ch rs i).filter neE
theorem zkx (W:Wf) (n:Nat):wrL W key ch rs (n + 1)=wrL W key ch rs n++(wrA W key ch rs n).filter neE:=by
 unfold wrL;rw [List.range_succ,List.flatMap_append];simp
theorem zc2 {O l:List HEd} {j:Nat} (hj:j < l.length):pute (O++(l.take j).filter neE) l[j]=O++(l.take (j + 1)).filter neE:=by
 rw [zjN neE hj,← List.append_assoc]
 unfold pute
 by_cases e:l[j].src=l[j].dst
 ·rw [if_neg (by simpa using e),if_neg (by unfold neE;simp [e]),List.append_nil]
 ·rw [if_pos e,if_pos (by unfold neE;simp [e])]
theorem zdB (h1:rs.length≤1200) (W:Wf) (n:Nat):(wrL W key ch rs n).length≤n * 1200:=by
 have:=zb8 (fun i=>(wrA W key ch rs i).filter neE) 1200 (fun i=>by
  have h2:=List.length_filter_le neE (wrA W key ch rs i)
  have h3:(wrA W key ch rs i).length=(nxI ch rs (i + 1)).length:=by unfold wrA;rw [List.length_map]
  have h4:=zcg (ch:=ch) (n:=i + 1) h1
  omega) (List.range n)
 unfold wrL
 rw [List.length_range] at this
 exact this
theorem zh9 {W:Wf} (hW:wK T key=W) (h1:ch.length≤100) (h2:rs.length≤1200) (hb1:∀ v ∈ ch,bI v) (hb2:∀ v ∈ rs,bI v) (hwb:∀ x,bI (wtx W x)) (hkb:bI key) :
  Spec prog1 zaq [.pointer (some ⟨mb,0,none⟩)] [pt mb [.pointer (some ⟨b,0,none⟩),.int .i64 key,.slice q1 ch.length d1,.slice q2 rs.length d2,.bool false,.int .i64 0,.int .i64 0,.int .i64 0,.slice none 0 0,.slice none 0 0,.int .i64 0,.int .i64 0,.int .i64 0,.slice none 0 0,.slice none 0 0,.slice none ([]:List HEd).length 0] 0,fro (kInt .i64) q1 d1 ch,fro (kInt .i64) q2 d2 rs,ro (tabC b T mr mt)] (fun R=>∀ p' c',R (.tuple #[]) [pt mb [.pointer (some ⟨b,0,none⟩),.int .i64 key,.slice q1 ch.length d1,.slice q2 rs.length d2,.bool false,.int .i64 0,.int .i64 0,.int .i64 0,.slice none 0 0,.slice none 0 0,.int .i64 0,.int .i64 0,.int .i64 0,.slice none 0 0,.slice none 0 0,.slice p' (wrL W key ch rs ch.length).length c'] 0,own kHEd p' c' (wrL W key ch rs ch.length),fro (kInt .i64) q1 d1 ch,fro (kInt .i64) q2 d2 rs,ro (tabC b T mr mt)]):=by
 refine spec_code zhJ rfl ?_;intro n F R hR;unfold zbi
 have how:∀ (x:Int) (cs:List Value) (v:Value),cs=[.pointer (some ⟨b,0,none⟩),.int .i64 key,.slice q1 ch.length d1,.slice q2 rs.length d2,.bool false,.int .i64 0,.int .i64 0,.int .i64 0,.slice none 0 0,.slice none 0 0,.int .i64 0,.int .i64 0,.int .i64 0,.slice none 0 0,.slice none 0 0,v]→Spec prog1 zh [.pointer (some ⟨mb,0,none⟩),.int .i64 x] [ro (pt mb cs 0),ro (tabC b T mr mt)] (fun R=>R (.int .i64 (wtx W x)) []):=fun x cs v hc=>by
  rw [← hW];exact zeX hc
 repeat' first|apply step|(apply gO;·repeat first|exact eZ|(apply eS;exact rfl))|refine g_keep ?_
 refine at_loopS (ι:=Nat × (Option Addr × Nat)) (E:=fun z=>[(0,.pointer (some ⟨mb,0,none⟩)),(10,.slice q1 ch.length d1),(11,.int .i64 (ch.length:Int)),(12,.int .i64 (z.1:Int))]) (Δ:=fun z=>pt mb [.pointer (some ⟨b,0,none⟩),.int .i64 key,.slice q1 ch.length d1,.slice q2 rs.length d2,.bool false,.int .i64 0,.int .i64 0,.int .i64 0,.slice none 0 0,.slice none 0 0,.int .i64 0,.int .i64 0,.int .i64 0,.slice none 0 0,.slice none 0 0,.slice z.2.1 (wrL W key ch rs z.1).length z.2.2] 0::own kHEd z.2.1 z.2.2 (wrL W key ch rs z.1)::fro (kInt .i64) q1 d1 ch::fro (kInt .i64) q2 d2 rs::ro (tabC b T mr mt)::F) (P:=fun z=>z.1≤ch.length) (μ:=fun z=>ch.length - z.1) (0,(none,0)) (Nat.zero_le _) ?_
 rintro ⟨i,p3,c3⟩ hi
 dsimp only at hi ⊢
 have hlen:=zdB (key:=key) (ch:=ch) h2 W i
 have hmul:i * 1200≤100 * 1200:=Nat.mul_le_mul_right _ (by omega)
 rcases Nat.lt_or_ge i ch.length with hlt|hge
 ·have hnx:=zkx (key:=key) (ch:=ch) (rs:=rs) W i
  have hbi:=hb1 ch[i] (List.getElem_mem _)
  have hyb:∀ y ∈ nxI ch rs (i + 1),bI y:=fun y hy=>by
   rcases zca hy with ⟨_,q⟩|⟨q,rfl⟩
   ·exact hb2 y q
   ·exact hb1 _ (List.getElem_mem _)
  have hYl:=zcg (ch:=ch) (n:=i + 1) h2
  have hNx:=zeD (key:=key) (q1:=q1) (q2:=q2) (d1:=d1) (d2:=d2) (ch:=ch) (rs:=rs) (m:=i + 1) (by omega) (by omega) (by omega) hb1
  have hLe:wrA W key ch rs i=(nxI ch rs (i + 1)).map fun y=>⟨wtx W ch[i],wtx W y,1,key,ch[i],y⟩:=by unfold wrA;rw [getD_lt hlt]
  rw [hLe] at hnx
  clear hLe
  generalize nxI ch rs (i + 1)=Y at hyb hYl hNx hnx
  obtain ⟨L,hL⟩:∃ L:List HEd,(Y.map fun y=>(⟨wtx W ch[i],wtx W y,1,key,ch[i],y⟩:HEd))=L:=⟨_,rfl⟩
  have hLl:L.length=Y.length:=by rw [← hL,List.length_map]
  have hLa:∀ j (hj:j < L.length) (hj2:j < Y.length),L[j]=⟨wtx W ch[i],wtx W Y[j],1,key,ch[i],Y[j]⟩:=fun j hj hj2=>by
   subst hL
   rw [List.getElem_map]
  rw [hL] at hnx
  clear hL
  generalize wrL W key ch rs i=O at hnx hlen ⊢
  repeat' first|apply step|(apply gO;·repeat first|exact eZ|(apply eS;exact rfl))|(refine Br.mk (fun _=>?_) (fun _=>?_)<;>try (exfalso;omega))|(refine Sd.mk ?_ ?_;·exact qD)|(refine Sx.mk ?_ ?_;·omega)|refine Im.mk fun _=>?_|refine g_cond ?_
  refine at_callR (hNx) ?_
  intro py cy
  repeat' first|apply step|(apply gO;·repeat first|exact eZ|(apply eS;exact rfl))|apply Lw.go|refine g_keep ?_
  refine at_loopS (ι:=Nat × (Option Addr × Nat)) (E:=fun z=>[(0,.pointer (some ⟨mb,0,none⟩)),(3,.int .i64 ch[i]),(10,.slice q1 ch.length d1),(11,.int .i64 (ch.length:Int)),(12,.int .i64 (i:Int)),(23,.slice py Y.length cy),(24,.int .i64 (Y.length:Int)),(25,.int .i64 (z.1:Int))]) (Δ:=fun z=>pt mb [.pointer (some ⟨b,0,none⟩),.int .i64 key,.slice q1 ch.length d1,.slice q2 rs.length d2,.bool false,.int .i64 0,.int .i64 0,.int .i64 0,.slice none 0 0,.slice none 0 0,.int .i64 0,.int .i64 0,.int .i64 0,.slice none 0 0,.slice none 0 0,.slice z.2.1 (O++(L.take z.1).filter neE).length z.2.2] 0::own kHEd z.2.1 z.2.2 (O++(L.take z.1).filter neE)::own (kInt .i64) py cy Y::fro (kInt .i64) q1 d1 ch::fro (kInt .i64) q2 d2 rs::ro (tabC b T mr mt)::F) (P:=fun z=>z.1≤Y.length) (μ:=fun z=>Y.length - z.1) (0,(p3,c3)) (Nat.zero_le _) ?_ (by dsimp only;rfl) (by dsimp only;rw [List.take_zero,List.filter_nil,List.append_nil];repeat first|exact Ent.refl _|(apply Ent.more;· repeat first|exact Ent.keep|exact Ent.here|exact Ent.lend|exact ent_nil|apply Ent.there)|apply Ent.drop)
  rintro ⟨j,p5,c5⟩ hj
  dsimp only at hj ⊢
  have hfl:(O++(L.take j).filter neE).length≤200000:=by
   rw [List.length_append]
   have h3:=List.length_filter_le neE (L.take j)
   rw [List.length_take] at h3
   omega
  rcases Nat.lt_or_ge j Y.length with hlj|hgj
  ·have hp:=zc2 (O:=O) (l:=L) (j:=j) (by omega)
   rw [hLa j (by omega) hlj] at hp
   have hyj:=hyb Y[j] (List.getElem_mem _)
   have hw1:=hwb ch[i]
   have hw2:=hwb Y[j]
   generalize O++(L.take j).filter neE=O2 at hp hfl ⊢
   repeat' first|apply step|(apply gO;·repeat first|exact eZ|(apply eS;exact rfl))|(refine Br.mk (fun _=>?_) (fun _=>?_)<;>try (exfalso;omega))|(refine Sd.mk ?_ ?_;·exact qD)|(refine Sx.mk ?_ ?_;·omega)|refine Im.mk fun _=>?_|refine g_cond ?_
   refine at_callR (how ch[i] _ _ rfl) ?_
   repeat' first|apply step|(apply gO;·repeat first|exact eZ|(apply eS;exact rfl))|apply Lw.go
   refine at_callR (how Y[j] _ _ rfl) ?_
   repeat' first|apply step|(apply gO;·repeat first|exact eZ|(apply eS;exact rfl))|apply Lw.go
   refine at_callS (zdr (mb:=mb) (b:=b) (key:=key) (po:=p5) (co:=c5) (O:=O2) (u:=wtx W ch[i]) (v:=wtx W Y[j]) (w:=1) (y:=ch[i]) (z:=Y[j]) ⟨hw1,hw2,bI_s 1 (by omega),hkb,hbi,hyj⟩ (by omega)) ?_
   intro p6 c6
   rw [hp]
   repeat' first|apply step|(apply gO;·repeat first|exact eZ|(apply eS;exact rfl))|(refine Sd.mk ?_ ?_;·exact qD)|refine g_keep ?_
   exact lp_next (j + 1,_,_) (by dsimp only;omega) (by dsimp only;omega)
  ·have hjl:L.take j=L:=List.take_of_length_le (by omega)
   rw [hjl,← hnx]
   repeat' first|apply step|(apply gO;·repeat first|exact eZ|(apply eS;exact rfl))|(refine Br.mk (fun _=>?_) (fun _=>?_)<;>try (exfalso;omega))|(refine Sd.mk ?_ ?_;·exact qD)|refine g_cond ?_|refine g_keep ?_
   exact lp_next (i + 1,_,_) (by dsimp only;omega) (by dsimp only;omega)
 ·have e:i=ch.length:=by omega
  subst e
  repeat' first|apply step|(apply gO;·repeat first|exact eZ|(apply eS;exact rfl))|(refine Br.mk (fun _=>?_) (fun _=>?_)<;>try (exfalso;omega))|refine g_cond ?_|refine g_fin ?_
  exact fin (hR _ _)
end
end Go.AMS

namespace Go.AMS
open Go.AM hiding Kt At WP WL Runs RunsY
open Go.AM.G
set_option linter.unusedVariables false
set_option linter.unusedSimpArgs false
set_option linter.unusedSectionVars false
set_option maxRecDepth 100000
set_option maxHeartbeats 1000000
attribute [local irreducible] AtS AtV AtC AtG FinA Spec Post LP G.At G.WP G.WL pt own fro rdl ro hx mp lrec elt sub

open Go.AM.G.Set Go.AM.G.Pre
section
variable {h:List HTx} {T:Tb} {r:HRd} {l:List Int} {p q p1 p2 p3 q1 q2 po:Option Addr} {c d c1 c2 c3 d1 d2 co b mr mt mb tb xb kb:Nat} {ch rs:List Int} {key:Int} {x:HEd} {O:List HEd}
theorem zie {W:Wf} (hW:wK T key=W) (hrk:r.key=key) (h3:r.list.length≤100) (h4:r.own.length≤100) (h1:ch.length≤100) (h2:rs.length≤1200) (hb1:∀ v ∈ ch,bI v) (hb2:∀ v ∈ rs,bI v) (hwb:∀ x,bI (wtx W x)) (hkb:bI key) (hrt:bI r.txn) (hcb:∀ v ∈ cleanL W r.list,bI v) (hfb:∀ v ∈ cleanL W (frontL r),bI v∧v≠-1) (hO:O.length≤2000000) :
  Spec prog1 zap [.pointer (some ⟨mb,0,none⟩),.agg #[.int .i64 r.txn,.int .i64 r.op,.int .i64 r.key,.slice p1 r.list.length c1,.slice p2 r.own.length c2]] [pt mb [.pointer (some ⟨b,0,none⟩),.int .i64 key,.slice q1 ch.length d1,.slice q2 rs.length d2,.bool false,.int .i64 0,.int .i64 0,.int .i64 0,.slice none 0 0,.slice none 0 0,.int .i64 0,.int .i64 0,.int .i64 0,.slice none 0 0,.slice none 0 0,.slice po O.length co] 0,own kHEd po co O,fro (kInt .i64) p1 c1 r.list,fro (kInt .i64) p2 c2 r.own,fro (kInt .i64) q1 d1 ch,fro (kInt .i64) q2 d2 rs,ro (tabC b T mr mt)] (fun R=>∀ p' c',R (.tuple #[]) [pt mb [.pointer (some ⟨b,0,none⟩),.int .i64 key,.slice q1 ch.length d1,.slice q2 rs.length d2,.bool false,.int .i64 0,.int .i64 0,.int .i64 0,.slice none 0 0,.slice none 0 0,.int .i64 0,.int .i64 0,.int .i64 0,.slice none 0 0,.slice none 0 0,.slice p' (O++(rdE W key ch rs r).filter neE).length c'] 0,own kHEd p' c' (O++(rdE W key ch rs r).filter neE),fro (kInt .i64) q1 d1 ch,fro (kInt .i64) q2 d2 rs,ro (tabC b T mr mt)]):=by
 subst hrk
 refine spec_code zfe rfl ?_;intro n F R hR;unfold zbh
 have how:∀ (x:Int) (cs:List Value) (v:Value),cs=[.pointer (some ⟨b,0,none⟩),.int .i64 r.key,.slice q1 ch.length d1,.slice q2 rs.length d2,.bool false,.int .i64 0,.int .i64 0,.int .i64 0,.slice none 0 0,.slice none 0 0,.int .i64 0,.int .i64 0,.int .i64 0,.slice none 0 0,.slice none 0 0,v]→Spec prog1 zh [.pointer (some ⟨mb,0,none⟩),.int .i64 x] [ro (pt mb cs 0),ro (tabC b T mr mt)] (fun R=>R (.int .i64 (wtx W x)) []):=fun x cs v hc=>by
  rw [← hW];exact zeX hc
 have hfl:=zdv r
 have hcl1:=za5 W r.list
 have hcl2:=za5 W (frontL r)
 repeat' first|apply step|(apply gO;·repeat first|exact eZ|(apply eS;exact rfl))|refine Fa.mk fun _=>?_
 rename_i rb
 refine at_callR (zde (T:=T) (b:=b) (mr:=mr) (mt:=mt) (r:=r) (p1:=p1) (c1:=c1) (by omega)) ?_
 intro pb cb
 rw [hW]
 repeat' first|apply step|(apply gO;·repeat first|exact eZ|(apply eS;exact rfl))|apply Lw.go|refine g_keep ?_
 refine at_callR (zeH (r:=r) (by omega) (by omega)) ?_
 intro pf cf
 refine Lw.go ?_
 refine at_freezeO (K:=kInt .i64) (l:=frontL r) ?_
 repeat' first|apply step|(apply gO;·repeat first|exact eZ|(apply eS;exact rfl))
 have hc1:=zde (T:=T) (b:=b) (mr:=mr) (mt:=mt) (r:=⟨0,0,r.key,frontL r,[]⟩) (p1:=pf) (c1:=cf) (p2:=none) (c2:=0) (by dsimp only;omega)
 dsimp only at hc1
 rw [hW] at hc1
 refine at_callR (hc1) ?_
 intro pa ca
 dsimp only [List.append,List.nil_append,List.cons_append]
 have hlast0:=zef (p:=pa) (c:=ca) (l:=cleanL W (frontL r)) (by omega)
 obtain ⟨x0,hx0⟩:∃ x,lastD (cleanL W (frontL r))=x:=⟨_,rfl⟩
 have hfr:(x0=-1∧frE W r.key r=[])∨(x0≠-1∧bI x0∧frE W r.key r=[⟨wtx W x0,r.txn,2,r.key,x0,-1⟩]):=by
  unfold lastD at hx0
  unfold frE
  cases hg:(cleanL W (frontL r)).getLast? with
  | none=>rw [hg] at hx0;exact .inl ⟨hx0.symm,rfl⟩
  | some y =>
   rw [hg] at hx0
   have hx0:y=x0:=hx0
   subst hx0
   obtain ⟨k1,k2⟩:=hfb y (List.mem_of_getLast? hg)
   exact .inr ⟨k2,k1,rfl⟩
 have htot:O++(rdE W r.key ch rs r).filter neE=(O++(frE W r.key r).filter neE)++(rwE W r.key r (nxI ch rs (cleanL W r.list).length)).filter neE:=by
  unfold rdE
  rw [List.filter_append,List.append_assoc]
 rw [htot] at hR
 clear htot
 rw [hx0] at hlast0
 clear hx0
 obtain ⟨O3,hO3⟩:∃ O3,O++(frE W r.key r).filter neE=O3:=⟨_,rfl⟩
 have hO3l:O3.length≤2000001:=by
  rw [← hO3,List.length_append]
  have:=List.length_filter_le neE (frE W r.key r)
  rcases hfr with ⟨_,q⟩|⟨_,_,q⟩ <;> rw [q] at this ⊢ <;> simp at this ⊢ <;> omega
 rw [hO3] at hR
 repeat (fail_if_success (refine at_cutK (ι:=Unit) (fun _=>[]) (fun _=>[]) (fun _=>True) ?_ ?_));(first|apply step|(apply g_op;· repeat first|exact Evs.nil|(apply Evs.cons;exact rfl))|(refine Br.mk (fun _=>?_) (fun _=>?_) <;> try (exfalso;omega))|(refine Sd.mk ?_ ?_;· ((repeat' apply And.intro) <;> first|omega|trivial|assumption|(simp;done)|(simp;omega)))|(refine Sx.mk ?_ ?_;· omega)|refine Fa.mk (fun _=>?_)|refine Im.mk (fun _=>?_)|apply Lw.go|refine g_cond ?_|refine g_guard ?_|refine g_keep ?_|refine g_pass ?_|refine g_fin ?_|(apply g_ap;exact rfl;exact rfl;assumption))
 refine at_cutK (E:=fun (z:Option Addr × Nat)=>[(0,.pointer (some ⟨mb,0,none⟩)),(3,.pointer (some ⟨rb,0,none⟩)),(4,.slice pb (cleanL W r.list).length cb)]) (Δ:=fun z=>pt mb [.pointer (some ⟨b,0,none⟩),.int .i64 r.key,.slice q1 ch.length d1,.slice q2 rs.length d2,.bool false,.int .i64 0,.int .i64 0,.int .i64 0,.slice none 0 0,.slice none 0 0,.int .i64 0,.int .i64 0,.int .i64 0,.slice none 0 0,.slice none 0 0,.slice z.1 O3.length z.2] 0::own kHEd z.1 z.2 O3::pt rb [.int .i64 r.txn,.int .i64 r.op,.int .i64 r.key,.slice p1 r.list.length c1,.slice p2 r.own.length c2] 0::fro (kInt .i64) pb cb (cleanL W r.list)::fro (kInt .i64) q1 d1 ch::fro (kInt .i64) q2 d2 rs::ro (tabC b T mr mt)::F) (P:=fun _=>True) ?_ ?_
 ·rcases hfr with ⟨k1,k2⟩|⟨k1,k2,k3⟩
  ·rw [k2,List.filter_nil,List.append_nil] at hO3
   subst hO3
   repeat' first|apply step|(apply gO;·repeat first|exact eZ|(apply eS;exact rfl))
   refine at_callR (hlast0) ?_
   repeat' first|apply step|(apply gO;·repeat first|exact eZ|(apply eS;exact rfl))|(refine Br.mk (fun _=>?_) (fun _=>?_)<;>try (exfalso;omega))|apply Lw.go|refine g_cond ?_|refine g_keep ?_
   all_goals first|(exfalso;omega)|exact cut_end (_,_) trivial
  ·have hp:=zc2 (O:=O) (l:=[⟨wtx W x0,r.txn,2,r.key,x0,-1⟩]) (j:=0) (by simp)
   rw [k3] at hO3
   rw [List.take_zero,List.filter_nil,List.append_nil,show (List.take (0 + 1) [(⟨wtx W x0,r.txn,2,r.key,x0,-1⟩:HEd)])=[⟨wtx W x0,r.txn,2,r.key,x0,-1⟩] from rfl,hO3] at hp
   have hp:pute O ⟨wtx W x0,r.txn,2,r.key,x0,-1⟩=O3:=hp
   have hw1:=hwb x0
   repeat' first|apply step|(apply gO;·repeat first|exact eZ|(apply eS;exact rfl))
   refine at_callR (hlast0) ?_
   repeat' first|apply step|(apply gO;·repeat first|exact eZ|(apply eS;exact rfl))|(refine Br.mk (fun _=>?_) (fun _=>?_)<;>try (exfalso;omega))|apply Lw.go|refine g_cond ?_
   all_goals try (exfalso;omega)
   refine at_callR (how x0 _ _ rfl) ?_
   repeat' first|apply step|(apply gO;·repeat first|exact eZ|(apply eS;exact rfl))|apply Lw.go
   refine at_callS (zdr (mb:=mb) (b:=b) (key:=r.key) (po:=po) (co:=co) (O:=O) (u:=wtx W x0) (v:=r.txn) (w:=2) (y:=x0) (z:=-1) ⟨hw1,hrt,bI_s 2 (by omega),hkb,k2,bI_s (-1) (by omega)⟩ (by omega)) ?_
   intro p6 c6
   rw [hp]
   repeat' first|apply step|refine g_keep ?_
   exact cut_end (_,_) trivial
 rintro ⟨p6,c6⟩ -
 dsimp only
 have hcb2:(cleanL W r.list).length≤100:=by omega
 obtain ⟨ld,hld⟩:∃ x,lastD (cleanL W r.list)=x:=⟨_,rfl⟩
 have hldb:bI ld:=by rw [← hld];exact zen hcb
 have hlast:=fun (p:Option Addr) (c:Nat)=>zef (p:=p) (c:=c) (l:=cleanL W r.list) (by omega)
 rw [hld] at hlast
 have hyb:∀ y ∈ nxI ch rs (cleanL W r.list).length,bI y:=fun y hy=>by
  rcases zca hy with ⟨_,q⟩|⟨q,rfl⟩
  ·exact hb2 y q
  ·exact hb1 _ (List.getElem_mem _)
 have hYl:=zcg (ch:=ch) (n:=(cleanL W r.list).length) h2
 have hNx:=zeD (key:=r.key) (q1:=q1) (q2:=q2) (d1:=d1) (d2:=d2) (ch:=ch) (rs:=rs) (m:=(cleanL W r.list).length) (by omega) (by omega) (by omega) hb1
 unfold rwE at hR
 rw [hld] at hR
 generalize nxI ch rs (cleanL W r.list).length=Y at hyb hYl hNx hR
 obtain ⟨L,hL⟩:∃ L:List HEd,(Y.map fun y=>(⟨r.txn,wtx W y,4,r.key,ld,y⟩:HEd))=L:=⟨_,rfl⟩
 have hLl:L.length=Y.length:=by rw [← hL,List.length_map]
 have hLa:∀ j (hj:j < L.length) (hj2:j < Y.length),L[j]=⟨r.txn,wtx W Y[j],4,r.key,ld,Y[j]⟩:=fun j hj hj2=>by
  subst hL
  rw [List.getElem_map]
 rw [hL] at hR
 clear hL hld
 generalize cleanL W r.list=B at hcb hcl1 hcb2 hlast hNx ⊢
 repeat' first|apply step|(apply gO;·repeat first|exact eZ|(apply eS;exact rfl))
 refine at_callR (hNx) ?_
 intro py cy
 repeat' first|apply step|(apply gO;·repeat first|exact eZ|(apply eS;exact rfl))|apply Lw.go|refine g_keep ?_
 refine at_loopS (ι:=Nat × (Option Addr × Nat)) (E:=fun z=>[(0,.pointer (some ⟨mb,0,none⟩)),(3,.pointer (some ⟨rb,0,none⟩)),(4,.slice pb B.length cb),(43,.slice py Y.length cy),(44,.int .i64 (Y.length:Int)),(45,.int .i64 (z.1:Int))]) (Δ:=fun z=>pt mb [.pointer (some ⟨b,0,none⟩),.int .i64 r.key,.slice q1 ch.length d1,.slice q2 rs.length d2,.bool false,.int .i64 0,.int .i64 0,.int .i64 0,.slice none 0 0,.slice none 0 0,.int .i64 0,.int .i64 0,.int .i64 0,.slice none 0 0,.slice none 0 0,.slice z.2.1 (O3++(L.take z.1).filter neE).length z.2.2] 0::own kHEd z.2.1 z.2.2 (O3++(L.take z.1).filter neE)::own (kInt .i64) py cy Y::pt rb [.int .i64 r.txn,.int .i64 r.op,.int .i64 r.key,.slice p1 r.list.length c1,.slice p2 r.own.length c2] 0::fro (kInt .i64) pb cb B::fro (kInt .i64) q1 d1 ch::fro (kInt .i64) q2 d2 rs::ro (tabC b T mr mt)::F) (P:=fun z=>z.1≤Y.length) (μ:=fun z=>Y.length - z.1) (0,(p6,c6)) (Nat.zero_le _) ?_ (by dsimp only;rfl) (by dsimp only;rw [List.take_zero,List.filter_nil,List.append_nil];repeat first|exact Ent.refl _|(apply Ent.more;· repeat first|exact Ent.keep|exact Ent.here|exact Ent.lend|exact ent_nil|apply Ent.there)|apply Ent.drop)
 rintro ⟨j,p7,c7⟩ hj
 dsimp only at hj ⊢
 have hfl2:(O3++(L.take j).filter neE).length≤3000000:=by
  rw [List.length_append]
  have h3:=List.length_filter_le neE (L.take j)
  rw [List.length_take] at h3
  omega
 rcases Nat.lt_or_ge j Y.length with hlj|hgj
 ·have hp:=zc2 (O:=O3) (l:=L) (j:=j) (by omega)
  rw [hLa j (by omega) hlj] at hp
  have hyj:=hyb Y[j] (List.getElem_mem _)
  have hw2:=hwb Y[j]
  generalize O3++(L.take j).filter neE=O2 at hp hfl2 ⊢
  repeat' first|apply step|(apply gO;·repeat first|exact eZ|(apply eS;exact rfl))|(refine Br.mk (fun _=>?_) (fun _=>?_)<;>try (exfalso;omega))|(refine Sd.mk ?_ ?_;·exact qD)|(refine Sx.mk ?_ ?_;·omega)|refine Im.mk fun _=>?_|refine g_cond ?_
  refine at_callR (how Y[j] _ _ rfl) ?_
  repeat' first|apply step|(apply gO;·repeat first|exact eZ|(apply eS;exact rfl))|apply Lw.go
  refine at_callR (hlast _ _) ?_
  repeat' first|apply step|(apply gO;·repeat first|exact eZ|(apply eS;exact rfl))|apply Lw.go
  refine at_callS (zdr (mb:=mb) (b:=b) (key:=r.key) (po:=p7) (co:=c7) (O:=O2) (u:=r.txn) (v:=wtx W Y[j]) (w:=4) (y:=ld) (z:=Y[j]) ⟨hrt,hw2,bI_s 4 (by omega),hkb,hldb,hyj⟩ (by omega)) ?_
  intro p8 c8
  rw [hp]
  repeat' first|apply step|(apply gO;·repeat first|exact eZ|(apply eS;exact rfl))|(refine Sd.mk ?_ ?_;·exact qD)|refine g_keep ?_
  exact lp_next (j + 1,_,_) (by dsimp only;omega) (by dsimp only;omega)
 ·have hjl:L.take j=L:=List.take_of_length_le (by omega)
  rw [hjl]
  repeat' first|apply step|(apply gO;·repeat first|exact eZ|(apply eS;exact rfl))|(refine Br.mk (fun _=>?_) (fun _=>?_)<;>try (exfalso;omega))|refine g_cond ?_|refine g_fin ?_
  exact fin (hR _ _)
end
end Go.AMS

namespace Go.AMS
open Go.AM hiding Kt At WP WL Runs RunsY
open Go.AM.G
set_option linter.unusedVariables false
set_option linter.unusedSimpArgs false
set_option linter.unusedSectionVars false
set_option maxRecDepth 100000
set_option maxHeartbeats 1000000
attribute [local irreducible] AtS AtV AtC AtG FinA Spec Post LP G.At G.WP G.WL pt own fro rdl ro hx mp lrec elt sub

open Go.AM.G.Set Go.AM.G.Pre
section
variable {h:List HTx} {T:Tb} {r:HRd} {l:List Int} {p q p1 p2 p3 q1 q2 po:Option Addr} {c d c1 c2 c3 d1 d2 co b mr mt mb tb xb kb:Nat} {ch rs:List Int} {key:Int} {x:HEd} {O:List HEd}
theorem zfL {α:Type} {K:Kind α} {Γ:List HP}:Ent Γ (lst K none []::Γ):=Ent.trans (ent_nil (K:=K)) (own_lst 0 rfl)
/-- The edges of a key, but those that lead to themselves. -/
noncomputable def keyG (h:List HTx) (key:Int):List HEd:=(keyE h key).filter neE
/-- What edges.Of gathers. -/
def keyP (W:Wf) (key:Int) (S:List HRd) (ch rs:List Int) (n:Nat):List HEd:=wrL W key ch rs ch.length++(S.take n).flatMap fun r=>(rdE W key ch rs r).filter neE
theorem zfS {W:Wf} {S:List HRd} {n:Nat} (hn:n < S.length):keyP W key S ch rs (n + 1)=keyP W key S ch rs n++(rdE W key ch rs S[n]).filter neE:=by
 unfold keyP
 rw [zkl _ hn,List.append_assoc]
theorem zil {W:Wf} {S:List HRd} (h1:ch.length≤100) (h2:rs.length≤1200) (h3:S.length≤1200) (n:Nat):(keyP W key S ch rs n).length≤1700000:=by
 unfold keyP
 rw [List.length_append]
 have k1:=zdB (key:=key) (ch:=ch) h2 W ch.length
 have k2:=zb8 (fun r=>(rdE W key ch rs r).filter neE) 1201 (fun r=>Nat.le_trans (List.length_filter_le _ _) (ze3 h2 r)) (S.take n)
 have k3:(S.take n).length≤1200:=by rw [List.length_take];omega
 have k4:=Nat.mul_le_mul_right 1201 k3
 have k5:=Nat.mul_le_mul_right 1200 h1
 omega
theorem zkc {W:Wf} {S:List HRd} {x:HEd}:x ∈ keyP W key S ch rs S.length ↔ x ∈ (ofE W key S ch rs).filter neE:=by
 unfold keyP wrL ofE
 rw [List.take_length,List.mem_append,List.mem_filter,List.mem_append,List.mem_append,List.mem_flatMap,List.mem_flatMap,List.mem_flatMap]
 have key1:(∃ a ∈ List.range ch.length,x ∈ (wrA W key ch rs a).filter neE) ↔ (x ∈ chE W key ch (ch.length - 1)∨x ∈ (if 0 < ch.length then rsE W key (lastD ch) rs else []))∧neE x=true:=by
  constructor
  ·rintro ⟨a,ha,hx⟩
   have ha:=List.mem_range.1 ha
   obtain ⟨h1,h2⟩:=List.mem_filter.1 hx
   refine ⟨?_,h2⟩
   unfold wrA nxI at h1
   by_cases e:a + 1=ch.length
   ·rw [if_pos e] at h1
    right
    rw [if_pos (by omega)]
    unfold rsE
    have e2:lastD ch=ch.getD a 0:=by rw [zax (by omega),getD_lt ha];simp only [← e,Nat.add_sub_cancel]
    rw [e2]
    exact h1
   ·rw [if_neg e,if_pos (by omega)] at h1
    left
    unfold chE
    obtain ⟨y,hy,rfl⟩:=List.mem_map.1 h1
    rw [List.mem_singleton.1 hy]
    exact List.mem_map.2 ⟨a,List.mem_range.2 (by omega),rfl⟩
  ·rintro ⟨h1,h2⟩
   rcases h1 with h1|h1
   ·unfold chE at h1
    obtain ⟨a,ha,rfl⟩:=List.mem_map.1 h1
    have ha:=List.mem_range.1 ha
    refine ⟨a,List.mem_range.2 (by omega),List.mem_filter.2 ⟨?_,h2⟩⟩
    unfold wrA nxI
    rw [if_neg (by omega),if_pos (by omega)]
    exact List.mem_map.2 ⟨_,List.mem_singleton.2 rfl,rfl⟩
   ·split at h1
    ·rename_i hl
     refine ⟨ch.length - 1,List.mem_range.2 (by omega),List.mem_filter.2 ⟨?_,h2⟩⟩
     unfold wrA nxI
     rw [if_pos (by omega)]
     unfold rsE at h1
     rw [zax hl] at h1
     rw [getD_lt (by omega)]
     exact h1
    ·cases h1
 rw [key1]
 constructor
 ·rintro (⟨h1|h1,h2⟩|⟨r,hr,hx⟩)
  ·exact ⟨.inl h1,h2⟩
  ·exact ⟨.inr (.inl h1),h2⟩
  ·obtain ⟨h1,h2⟩:=List.mem_filter.1 hx
   exact ⟨.inr (.inr ⟨r,hr,h1⟩),h2⟩
 ·rintro ⟨h1|h1|⟨r,hr,h1⟩,h2⟩
  ·exact .inl ⟨.inl h1,h2⟩
  ·exact .inl ⟨.inr h1,h2⟩
  ·exact .inr ⟨r,hr,List.mem_filter.2 ⟨h1,h2⟩⟩
theorem SrtI.mem {l l' Z:List HEd} (h:∀ x,x ∈ l ↔ x ∈ l') (s:SrtI l Z) (m:∀ x,x ∈ Z ↔ x ∈ l):SrtI l' Z∧∀ x,x ∈ Z ↔ x ∈ l' :=
 ⟨⟨s.s,fun x hx=>(h x).1 (s.m x hx),fun x hx hn=>s.a x ((h x).2 hx) hn⟩,fun x=>(m x).trans (h x)⟩
theorem zgj (hf:FewH h 20 60) (hk:OkH h) (hkb:bI key):Spec prog1 zae [.pointer (some ⟨b,0,none⟩),.int .i64 key] [ro (tabC b (TH h) mr mt),ro (mapF mr kI kHRd (TH h).rd),ro (mapF mt kI kHWr (TH h).wt)] (fun R=>∀ Z p' c',SrtI (keyG h key) Z→(∀ x,x ∈ Z ↔ x ∈ keyG h key)→R (.slice p' Z.length c') [lst kHEd p' Z]):=by
 refine spec_code zgo rfl ?_;intro n F R hR;unfold zcy
 have ok:=of_ok (key:=key) hf hk
 have hkb2:=hkb
 unfold bI at hkb2
 repeat' first|apply step|(apply gO;·repeat first|exact eZ|(apply eS;exact rfl))
 refine at_callR (zhj (T:=TH h) (b:=b) (mr:=mr) (mt:=mt) (key:=key) ok.rd (by have:=ok.wt;omega) ok.wb (by have:=ok.sl;omega) ok.bd hkb2) ?_
 unfold keyG keyE at hR
 refine ⟨fun k j hk1 hj1 hb1 w v=>?_,fun hb1 q1 d1 q2 d2=>?_⟩
 ·rw [hb1] at hR
  have hv:=hR [] none 0 (SrtI.nil _) (fun x=>Iff.rfl)
  repeat' first|apply step|(apply gO;·repeat first|exact eZ|(apply eS;exact rfl))|refine Fa.mk fun _=>?_|apply Lw.go|refine g_cond ?_|refine g_keep ?_|refine g_fin ?_
  refine fin_ent (zfL (K:=kHEd)) ?_
  exact fin hv
 ·rw [hb1] at hR
  rw [show restL (bestL (ofL (wK (TH h) key) (ofS (TH h) key))) (agl key (TH h).wt)=rsH h key from rfl,show bestL (ofL (wK (TH h) key) (ofS (TH h) key))=chH h key from rfl]
  have hwb:=fun x=>zea (key:=key) hk x
  have hsl:=ok.sl
  have hll:=ok.ll
  have hchl:=zd3 (key:=key) hf hk
  have hrsl:=zeT (key:=key) hf hk
  have hb1:∀ v ∈ chH h key,bI v:=fun v hv=>ch_bI hk hv
  have hb2:∀ v ∈ rsH h key,bI v:=fun v hv=>by obtain ⟨w,hw,_⟩:=zdj hf hk v hv;exact wr_bI hk hw
  have hcb:∀ r ∈ ofS (TH h) key,∀ v ∈ cleanL (wK (TH h) key) r.list,bI v:=fun r hr=>zed hk hr
  have hfb:∀ r ∈ ofS (TH h) key,∀ v ∈ cleanL (wK (TH h) key) (frontL r),bI v∧v≠-1:=fun r hr v hv=>by
   obtain ⟨w,hw,_⟩:=zdt r hr v hv
   refine ⟨wr_bI hk hw,fun e=>?_⟩
   rw [e,zbX hk] at hw
   cases hw
  have hrt:∀ r ∈ ofS (TH h) key,bI r.txn:=fun r hr=>(ok.bd r hr).1
  obtain ⟨hn1,hn2⟩:=ok.rd key
  obtain ⟨L0,hL0⟩:∃ L,agl key (TH h).rd=L:=⟨_,rfl⟩
  obtain ⟨S,hS⟩:∃ S,ofS (TH h) key=S:=⟨_,rfl⟩
  have hS2:soundL (wK (TH h) key) L0=S:=by rw [← hL0];exact hS
  have hit:=fun (x y ly:Nat) (A:Nat→HP) (B:AX→HP)=>ze6 (T:=TH h) (b:=b) (mr:=mr) (mt:=mt) (L:=L0) (key:=key) (x:=x) (y:=y) (ly:=ly) (A:=A) (B:=B) hL0 (by rw [← hL0];omega) (fun r hr=>by rw [← hL0] at hr;exact ⟨⟨by have:=(hn2 r hr).1.1;omega,by have:=(hn2 r hr).1.2;omega⟩,(hn2 r hr).2⟩)
  rw [hS2] at hit
  rw [hS] at hsl hll hcb hfb hrt hR
  obtain ⟨W,hW⟩:∃ W,wK (TH h) key=W:=⟨_,rfl⟩
  rw [hW] at hwb hcb hfb hR
  clear hS hS2 hL0
  generalize chH h key=ch at hR hchl hb1 ⊢
  generalize rsH h key=rs at hR hrsl hb2 ⊢
  dsimp only at hR
  refine Lw.go ?_
  dsimp only [List.append,List.cons_append,List.nil_append]
  refine at_freezeO (K:=kInt .i64) (l:=ch) ?_
  refine at_freezeO (K:=kInt .i64) (l:=rs) ?_
  repeat' first|apply step|(apply gO;·repeat first|exact eZ|(apply eS;exact rfl))|refine Fa.mk fun _=>?_|refine g_cond ?_|refine g_keep ?_
  rename_i mb xb
  refine at_callS (zh9 (T:=TH h) (mb:=mb) (b:=b) (mr:=mr) (mt:=mt) (q1:=q1) (d1:=d1) (q2:=q2) (d2:=d2) hW hchl hrsl hb1 hb2 hwb hkb) ?_
  intro p3 c3
  repeat' first|apply step|(apply gO;·repeat first|exact eZ|(apply eS;exact rfl))
  refine at_callS (zdV (b:=b) (key:=key)) ?_
  intro x y
  repeat' first|apply step
  have hk0:wrL W key ch rs ch.length=keyP W key S ch rs 0:=by unfold keyP;simp
  rw [hk0]
  have hkl:=fun n=>zil (W:=W) (key:=key) (S:=S) hchl hrsl hsl n
  have hkn:=fun n (hn:n < S.length)=>zfS (W:=W) (key:=key) (ch:=ch) (rs:=rs) hn
  have hkm:=fun x=>zkc (W:=W) (key:=key) (S:=S) (ch:=ch) (rs:=rs) (x:=x)
  clear hk0
  generalize keyP W key S ch rs=G at hkl hkn hkm ⊢
  obtain ⟨I,hI⟩:∃ I:Nat→HP,∀ i,I i=hx fun (z:Option Addr × Nat)=>(True,[pt xb [.pointer (some ⟨mb,0,none⟩)] 0,pt mb [.pointer (some ⟨b,0,none⟩),.int .i64 key,.slice q1 ch.length d1,.slice q2 rs.length d2,.bool false,.int .i64 0,.int .i64 0,.int .i64 0,.slice none 0 0,.slice none 0 0,.int .i64 0,.int .i64 0,.int .i64 0,.slice none 0 0,.slice none 0 0,.slice z.1 (G i).length z.2] 0,own kHEd z.1 z.2 (G i),fro (kInt .i64) q1 d1 ch,fro (kInt .i64) q2 d2 rs,ro (tabC b (TH h) mr mt)]):=⟨_,fun _=>rfl⟩
  obtain ⟨J,hJ⟩:∃ J:AX→HP,∀ ax,J ax=hx fun (_:Unit)=>(False,[]):=⟨_,fun _=>rfl⟩
  refine at_foldP (I 0) (hI 0) (p3,c3) trivial ?_
  refine at_rfunSD (I:=I) (J:=J) (Po:=[]) (Ps:=[pt x [.pointer (some ⟨b,0,none⟩)] 0,pt y [.int .i64 key] 0,ro (tabC b (TH h) mr mt),ro (mapF mr kI kHRd (TH h).rd)]) S.length (fun i (d:wR)=>vaRead d S[i]?) (fun i d=>paRead d S[i]?) (fun ly A B h=>hit x y ly A B h) (fun i hi d=>by rw [List.getElem?_eq_getElem hi];rfl) ?_ ?_ ?_
  ·intro i hi d ly m F'
   obtain ⟨⟨k1,k2⟩,k3⟩:=hll _ (List.getElem_mem hi)
   have hre:=fun (po:Option Addr) (co:Nat)=>zie (T:=TH h) (r:=S[i]) (po:=po) (co:=co) (p1:=d.1.1) (c1:=d.1.2) (p2:=d.2.1) (c2:=d.2.2) (mb:=mb) (b:=b) (mr:=mr) (mt:=mt) (q1:=q1) (d1:=d1) (q2:=q2) (d2:=d2) (ch:=ch) (rs:=rs) (O:=G i) (key:=key) hW k3 k1 k2 hchl hrsl hb1 hb2 hwb hkb (hrt _ (List.getElem_mem hi)) (hcb _ (List.getElem_mem hi)) (hfb _ (List.getElem_mem hi)) (by have:=hkl i;omega)
   rw [← hkn i hi] at hre
   rw [List.getElem?_eq_getElem hi]
   dsimp only [vaRead,paRead,List.cons_append,List.nil_append]
   refine at_openP (I i) (hI i) ?_
   rintro ⟨p4,c4⟩ -
   dsimp only [List.cons_append,List.nil_append]
   repeat' first|apply step|(apply gO;·repeat first|exact eZ|(apply eS;exact rfl))|refine Fa.mk fun _=>?_
   refine at_callS (hre p4 c4) ?_
   intro p5 c5
   repeat' first|apply step
   refine at_foldP (I (i + 1)) (hI (i + 1)) (p5,c5) trivial ?_
   exact y_next
  ·refine at_openP (I S.length) (hI S.length) ?_
   rintro ⟨p4,c4⟩ -
   dsimp only [List.cons_append,List.nil_append]
   have hgl:=hkl S.length
   repeat' first|apply step|(apply gO;·repeat first|exact eZ|(apply eS;exact rfl))|refine g_keep ?_
   refine at_callR (zgc (p:=p4) (c:=c4) (l:=G S.length) (by omega)) ?_
   intro Z pz cz h1 h2
   obtain ⟨h1,h2⟩:=SrtI.mem hkm h1 h2
   repeat' first|apply step|(apply gO;·repeat first|exact eZ|(apply eS;exact rfl))|apply Lw.go|refine g_fin ?_
   exact fin (hR Z pz cz h1 h2)
  ·intro ax hax
   refine at_openP (J ax) (hJ ax) ?_
   intro u hu
   exact hu.elim
end
end Go.AMS

namespace Go.AMS
open Go.AM hiding Kt At WP WL Runs RunsY
open Go.AM.G
set_option linter.unusedVariables false
set_option linter.unusedSimpArgs false
set_option linter.unusedSectionVars false
set_option maxRecDepth 100000
set_option maxHeartbeats 1000000
attribute [local irreducible] AtS AtV AtC AtG FinA Spec Post LP G.At G.WP G.WL pt own fro rdl ro hx mp lrec elt sub

open Go.AM.G.Set Go.AM.G.Pre
section
variable {h:List HTx} {T:Tb} {p q pk:Option Addr} {c d ck b mr mt:Nat} {key:Int} {x a a2:HEd} {l Z Y:List HEd} {keys:List Int}
theorem zdT:Spec prog1 zJ [] [] (fun R=>R (.bool true) []):=closed_spec zj9
theorem zfA:Spec prog1 za2 [.agg #[.slice p h.length c]] [fro kHTx p c h] (fun R=>(FewH h 20 60→chkH h=0→R (.bool true) [])∧R (.bool false) []):=by
 refine spec_code zfy rfl ?_;intro n F R hR;unfold zcI
 repeat' first|apply step|(apply gO;·repeat first|exact eZ|(apply eS;exact rfl))|refine Fa.mk fun _=>?_
 refine at_callS (ziU (h:=h) (a:=20) (b:=60) (by omega) (by omega)) ?_
 refine ⟨fun hf=>?_,?_⟩
 ·repeat' first|apply step|(apply gO;·repeat first|exact eZ|(apply eS;exact rfl))|refine g_guard ?_
  refine at_callS (zf3 hf) ?_
  repeat' first|apply step|(apply gO;·repeat first|exact eZ|(apply eS;exact rfl))|(refine Br.mk (fun _=>?_) (fun _=>?_)<;>try (exfalso;omega))|refine g_guard ?_|refine g_keep ?_|refine g_fin ?_
  ·exact fin (hR.1 hf ‹_›)
  ·exact fin hR.2
 ·repeat' first|apply step|(apply gO;·repeat first|exact eZ|(apply eS;exact rfl))|refine g_guard ?_|refine g_keep ?_|refine g_fin ?_
  exact fin hR.2
end
end Go.AMS

namespace Go.AMS
open Go.AM hiding Kt At WP WL Runs RunsY
open Go.AM.G
set_option linter.unusedVariables false
set_option linter.unusedSimpArgs false
set_option linter.unusedSectionVars false
set_option maxRecDepth 100000
set_option maxHeartbeats 1000000
attribute [local irreducible] AtS AtV AtC AtG FinA Spec Post LP G.At G.WP G.WL pt own fro rdl ro hx mp lrec elt sub

open Go.AM.G.Set Go.AM.G.Pre
section
variable {h:List HTx} {T:Tb} {p q pk:Option Addr} {c d ck b mr mt:Nat} {key:Int} {x a a2:HEd} {l Z Y:List HEd} {keys:List Int}
theorem zit {x:Int} (hl:T.ids.length≤1000000) (hs:T.ids.Pairwise (fun a b=>a < b)):Spec prog1 zad [.pointer (some ⟨b,0,none⟩),.int .i64 x] [ro (tabC b T mr mt)] (fun R=>(∀ k (hk:k < T.ids.length),T.ids[k]=x→R (.tuple #[.int .i64 (k:Int),.bool true]) [])∧(x ∉ T.ids→R (.tuple #[.int .i64 0,.bool false]) [])):=by
 refine spec_code zgY rfl ?_;intro n F R hR;unfold zb6
 refine at_openRP (tabC b T mr mt) rfl ?_
 rintro ⟨⟨⟨pi,ci⟩,⟨pk,ck⟩⟩,⟨mw,ma⟩⟩ -
 try dsimp only [List.cons_append,List.nil_append]
 repeat' first|apply step|(apply gO;·repeat first|exact eZ|(apply eS;exact rfl))
 refine at_callR (zbE) ?_
 repeat' first|apply step|(apply gO;·repeat first|exact eZ|(apply eS;exact rfl))|apply Lw.go|refine g_cond ?_
 refine at_callR (ze5 (l:=T.ids) (by omega) hs) ?_
 refine ⟨fun k hk e=>?_,fun hn k=>?_⟩
 ·repeat' first|apply step|(apply gO;·repeat first|exact eZ|(apply eS;exact rfl))|apply Lw.go|refine g_cond ?_|refine g_keep ?_|refine g_fin ?_
  exact fin (hR.1 k hk e)
 ·repeat' first|apply step|(apply gO;·repeat first|exact eZ|(apply eS;exact rfl))|apply Lw.go|refine g_cond ?_|refine g_keep ?_|refine g_fin ?_
  exact fin (hR.2 hn)
theorem zdc (hk:OkH h):(TH h).ids=setL (comm h):=zjb hk.i
theorem zbP (hk:OkH h) {id x:Int} (ho:ownsP (wK (TH h) key) id x):id ∈ (TH h).ids:=by
 obtain ⟨w,h1,h2,h3⟩:=ho
 obtain ⟨t,ht,i,hi,_,rfl⟩:=wr_at hk h1
 rw [zdc hk,mem_setL,zE]
 exact ⟨t,ht,h3,h2⟩
structure NamE (h:List HTx) (key:Int) (x:HEd):Prop where
 s:x.src ∈ (TH h).ids
 d:x.dst ∈ (TH h).ids
 n:x.src≠x.dst
 k:x.key=key
 c:(x.kind=1∧(∃ w,wK (TH h) key x.left=some w∧w.txn=x.src)∧∃ w,wK (TH h) key x.right=some w∧w.txn=x.dst)∨(x.kind=2∧x.right=-1∧(∃ w,wK (TH h) key x.left=some w∧w.txn=x.src)∧∃ r ∈ rdK h key,r.txn=x.dst)∨(x.kind=4∧(∃ w,wK (TH h) key x.right=some w∧w.txn=x.dst)∧∃ r ∈ rdK h key,r.txn=x.src)
theorem zg9 (hf:FewH h 20 60) (hk:OkH h) (hx:x ∈ keyG h key):NamE h key x:=by
 obtain ⟨h1,h2⟩:=List.mem_filter.1 hx
 have hne:x.src≠x.dst:=by unfold neE at h2;simpa using h2
 have hsm:∀ r ∈ ofS (TH h) key,r ∈ rdK h key:=fun r hr=>by
  have e:agl key (TH h).rd=rdK h key:=zV hk.i key
  rw [← e];exact (List.mem_filter.1 hr).1
 have hrt:∀ r ∈ rdK h key,r.txn ∈ (TH h).ids:=fun r hr=>by rw [zdc hk];exact (zhm hf hk r hr).1
 have ho:∀ {id y:Int},ownsP (wK (TH h) key) id y→∃ w,wK (TH h) key y=some w∧w.txn=id:=fun ⟨w,k1,k2,_⟩=>⟨w,k1,k2⟩
 unfold keyE at h1
 split at h1
 ·obtain ⟨e,hj⟩:=(zd2 zdN (zdj hf hk) zdt (zbX hk) x).1 h1
  rcases hj with ⟨e2,i,_,_,k1,k2⟩|⟨e2,e3,k1,r,hr,k2,_⟩|⟨e2,k1,r,hr,k2,_,_⟩
  ·exact ⟨zbP hk k1,zbP hk k2,hne,e,.inl ⟨e2,ho k1,ho k2⟩⟩
  ·exact ⟨zbP hk k1,by rw [← k2];exact hrt r (hsm r hr),hne,e,.inr (.inl ⟨e2,e3,ho k1,r,hsm r hr,k2⟩)⟩
  ·exact ⟨by rw [← k2];exact hrt r (hsm r hr),zbP hk k1,hne,e,.inr (.inr ⟨e2,ho k1,r,hsm r hr,k2⟩)⟩
 ·cases h1
theorem zfR {id:Int} (hf:FewH h 20 60) (hk:OkH h) (hid:∃ r ∈ rdK h key,r.txn=id):Spec prog1 zR [.agg #[.slice p h.length c],.int .i64 key,.int .i64 id] [fro kHTx p c h] (fun R=>R (.bool true) []):=by
 refine spec_code zkp rfl ?_;intro n F R hR;unfold zce
 have hrs:=zkm (h:=h) (p:=p) (c:=c) (key:=key) hf hk.m
 rw [show outR h key (setL (comm h))=rdK h key from rfl] at hrs
 have hll:(rdK h key).length≤100000:=by
  have e:agl key (TH h).rd=rdK h key:=zV hk.i key
  rw [← e]
  exact ((th_ok hf hk).rd key).1
 generalize rdK h key=L at hid hrs hll
 repeat' first|apply step|(apply gO;·repeat first|exact eZ|(apply eS;exact rfl))|refine Fa.mk fun _=>?_
 refine at_callS (hrs) ?_
 intro p1 c1
 repeat' first|apply step|(apply gO;·repeat first|exact eZ|(apply eS;exact rfl))|refine g_keep ?_
 refine at_loopS (ι:=Nat) (E:=fun i=>[(2,.int .i64 id),(7,.slice p1 L.length c1),(8,.int .i64 (i:Int))]) (Δ:=fun i=>own kHRd p1 c1 L::fro kHTx p c h::F) (P:=fun i=>i≤L.length∧∀ j (hj:j < L.length),j < i→L[j].txn≠id) (μ:=fun i=>L.length - i) 0 ⟨Nat.zero_le _,fun j hj q=>absurd q (by omega)⟩ ?_
 rintro i ⟨hi,hno⟩
 try dsimp only at hi ⊢
 rcases Nat.lt_or_ge i L.length with hlt|hge
 ·by_cases e:L[i].txn=id
  ·repeat' first|apply step|(apply gO;·repeat first|exact eZ|(apply eS;exact rfl))|(refine Br.mk (fun _=>?_) (fun _=>?_)<;>try (exfalso;omega))|(refine Sd.mk ?_ ?_;·exact qD)|(refine Sx.mk ?_ ?_;·omega)|refine Im.mk fun _=>?_|refine g_cond ?_|refine g_keep ?_|refine g_fin ?_
   all_goals first|exact fin hR|(exfalso;omega)
  ·have hno2:∀ j (hj:j < L.length),j < i + 1→L[j].txn≠id:=fun j hj q=>by
    by_cases ej:j=i
    ·subst ej;exact e
    ·exact hno j hj (by omega)
   repeat' first|apply step|(apply gO;·repeat first|exact eZ|(apply eS;exact rfl))|(refine Br.mk (fun _=>?_) (fun _=>?_)<;>try (exfalso;omega))|(refine Sd.mk ?_ ?_;·exact qD)|(refine Sx.mk ?_ ?_;·omega)|refine Im.mk fun _=>?_|refine g_cond ?_|refine g_keep ?_
   all_goals first|(exfalso;omega)|exact lp_next (i + 1) ⟨by omega,hno2⟩ (by omega)
 ·exfalso
  obtain ⟨r,hr,e⟩:=hid
  obtain ⟨j,hj,rfl⟩:=List.getElem_of_mem hr
  exact hno j hj (by omega) e
theorem zgC (hkb:bI key):Spec prog1 zch [.agg #[.slice p h.length c],.int .i64 key] [fro kHTx p c h] (fun R=>R (.bool true) []):=by
 refine spec_code zja rfl ?_;intro n F R hR;unfold zbm
 repeat' first|apply step|(apply gO;·repeat first|exact eZ|(apply eS;exact rfl))|refine Fa.mk fun _=>?_
 rename_i hb
 refine at_callS (zfA (h:=h)) ?_
 refine ⟨fun hf hc=>?_,?_⟩
 ·have hk:=zbK hc
  repeat' first|apply step|(apply gO;·repeat first|exact eZ|(apply eS;exact rfl))|refine g_cond ?_
  refine at_callS (zfj hf) ?_
  refine ⟨fun hc2=>absurd hc hc2,fun _ b=>?_⟩
  dsimp only [List.cons_append,List.nil_append]
  rw [show (tabS (sortK HTx.id h)).fin=TH h from rfl]
  refine zfP (fun mr mt=>?_)
  repeat' first|apply step|(apply gO;·repeat first|exact eZ|(apply eS;exact rfl))|(refine Br.mk (fun _=>?_) (fun _=>?_)<;>try (exfalso;omega))|refine g_cond ?_|refine g_guard ?_|refine g_keep ?_
  have hkl:(keyG h key).length≤1501400:=Nat.le_trans (List.length_filter_le _ _) (zhB hf hk)
  refine at_callR (zgj (h:=h) (b:=b) (mr:=mr) (mt:=mt) (key:=key) hf hk hkb) ?_
  intro Z pz cz h1 h2
  have hlz:=h1.len
  have hnm:∀ i (hi:i < Z.length),NamE h key Z[i]:=fun i hi=>zg9 hf hk ((h2 _).1 (List.getElem_mem hi))
  have hZb:∀ i (hi:i < Z.length),bE Z[i]:=fun i hi=>zfm hf hk hkb (List.mem_filter.1 ((h2 _).1 (List.getElem_mem hi))).1
  have hids:=zdc hk
  have hrk:=fun (x:Int)=>zit (T:=TH h) (b:=b) (mr:=mr) (mt:=mt) (x:=x) (by rw [hids];have:=setL_le (comm h);have:=zz h;have:=hf.t;omega) (by rw [hids];exact setL_lt _)
  have hwr:=fun (y:Int)=>zbb (T:=TH h) (b:=b) (mr:=mr) (mt:=mt) (x:=key) (y:=y)
  have hnw:=zbX (key:=key) hk
  have hrd:=fun (id:Int)=>zfR (p:=p) (c:=c) (key:=key) (id:=id) hf hk
  repeat' first|apply step|(apply gO;·repeat first|exact eZ|(apply eS;exact rfl))|apply Lw.go|refine g_keep ?_
  refine at_loopS (ι:=Nat) (E:=fun i=>[(1,.int .i64 key),(2,.pointer (some ⟨hb,0,none⟩)),(5,.pointer (some ⟨b,0,none⟩)),(7,.slice pz Z.length cz),(8,.int .i64 (i:Int))]) (Δ:=fun _=>lst kHEd pz Z::pt hb [.slice p h.length c] 0::fro kHTx p c h::tabC b (TH h) mr mt::mapF mr kI kHRd (TH h).rd::mapF mt kI kHWr (TH h).wt::F) (P:=fun i=>i≤Z.length) (μ:=fun i=>Z.length - i) 0 (Nat.zero_le _) ?_
  intro i hi
  try dsimp only at hi ⊢
  rcases Nat.lt_or_ge i Z.length with hlt|hge
  ·obtain ⟨ks,kd,kn,kk,kc⟩:=hnm i hlt
   have hbi:=hZb i hlt
   obtain ⟨r1,e1,e2⟩:=List.getElem_of_mem ks
   obtain ⟨r2,e3,e4⟩:=List.getElem_of_mem kd
   repeat' first|apply step|(apply gO;·repeat first|exact eZ|(apply eS;exact rfl))|(refine Br.mk (fun _=>?_) (fun _=>?_)<;>try (exfalso;omega))|(refine Sd.mk ?_ ?_;·exact qD)|(refine Sx.mk ?_ ?_;·omega)|refine Fa.mk fun _=>?_|refine Im.mk fun _=>?_|refine g_cond ?_
   refine at_callR (hrk Z[i].src) ?_
   refine ⟨fun k0 hk0 ek0=>?_,fun q=>absurd ks q⟩
   repeat' first|apply step|(apply gO;·repeat first|exact eZ|(apply eS;exact rfl))|apply Lw.go|refine g_keep ?_
   refine at_callR (hrk Z[i].dst) ?_
   refine ⟨fun k3 hk3 ek3=>?_,fun q=>absurd kd q⟩
   repeat' first|apply step|(apply gO;·repeat first|exact eZ|(apply eS;exact rfl))|apply Lw.go|refine g_keep ?_
   refine at_callR (hwr Z[i].left) ?_
   rw [show aget (key,Z[i].left) (TH h).wr=wK (TH h) key Z[i].left from rfl]
   rcases kc with ⟨c1,⟨w1,c2,c3⟩,⟨w2,c4,c5⟩⟩|⟨c1,c2,⟨w1,c3,c4⟩,c5⟩|⟨c1,⟨w2,c4,c5⟩,c6⟩
   ·rw [c2]
    unfold wrO wrV
    repeat' first|apply step|(apply gO;·repeat first|exact eZ|(apply eS;exact rfl))|refine Fa.mk fun _=>?_|apply Lw.go|refine g_keep ?_
    refine at_callR (hwr Z[i].right) ?_
    rw [show aget (key,Z[i].right) (TH h).wr=wK (TH h) key Z[i].right from rfl,c4]
    unfold wrO wrV
    repeat' first|apply step|(apply gO;·repeat first|exact eZ|(apply eS;exact rfl))|(refine Br.mk (fun _=>?_) (fun _=>?_)<;>try (exfalso;omega))|(refine Sd.mk ?_ ?_;·exact qD)|refine Fa.mk fun _=>?_|apply Lw.go|refine g_cond ?_|refine g_guard ?_|refine g_keep ?_
    all_goals first|(exfalso;omega)|exact lp_next (i + 1) (by omega) (by omega)
   ·rw [c3]
    unfold wrO wrV
    repeat' first|apply step|(apply gO;·repeat first|exact eZ|(apply eS;exact rfl))|refine Fa.mk fun _=>?_|apply Lw.go|refine g_keep ?_
    refine at_callR (hwr Z[i].right) ?_
    rw [show aget (key,Z[i].right) (TH h).wr=none from by rw [c2];exact hnw]
    unfold wrO zWr
    repeat' first|apply step|(apply gO;·repeat first|exact eZ|(apply eS;exact rfl))|(refine Br.mk (fun _=>?_) (fun _=>?_)<;>try (exfalso;omega))|refine Fa.mk fun _=>?_|apply Lw.go|refine g_cond ?_|refine g_guard ?_|refine g_keep ?_
    all_goals try (exfalso;omega)
    refine at_callR (hrd Z[i].dst c5) ?_
    repeat' first|apply step|(apply gO;·repeat first|exact eZ|(apply eS;exact rfl))|(refine Sd.mk ?_ ?_;·exact qD)|apply Lw.go|refine g_cond ?_|refine g_guard ?_|refine g_keep ?_
    all_goals first|(exfalso;omega)|exact lp_next (i + 1) (by omega) (by omega)
   ·cases hwl:wK (TH h) key Z[i].left with
    | none =>
     unfold wrO zWr
     repeat' first|apply step|(apply gO;·repeat first|exact eZ|(apply eS;exact rfl))|refine Fa.mk fun _=>?_|apply Lw.go|refine g_keep ?_
     refine at_callR (hwr Z[i].right) ?_
     rw [show aget (key,Z[i].right) (TH h).wr=wK (TH h) key Z[i].right from rfl,c4]
     unfold wrO wrV
     repeat' first|apply step|(apply gO;·repeat first|exact eZ|(apply eS;exact rfl))|(refine Br.mk (fun _=>?_) (fun _=>?_)<;>try (exfalso;omega))|refine Fa.mk fun _=>?_|apply Lw.go|refine g_cond ?_|refine g_guard ?_|refine g_keep ?_
     all_goals try (exfalso;omega)
     refine at_callR (hrd Z[i].src c6) ?_
     repeat' first|apply step|(apply gO;·repeat first|exact eZ|(apply eS;exact rfl))|(refine Br.mk (fun _=>?_) (fun _=>?_)<;>try (exfalso;omega))|(refine Sd.mk ?_ ?_;·exact qD)|apply Lw.go|refine g_cond ?_|refine g_guard ?_|refine g_keep ?_
     all_goals first|(exfalso;omega)|exact lp_next (i + 1) (by omega) (by omega)
    | some w1 =>
     unfold wrO wrV
     repeat' first|apply step|(apply gO;·repeat first|exact eZ|(apply eS;exact rfl))|refine Fa.mk fun _=>?_|apply Lw.go|refine g_keep ?_
     refine at_callR (hwr Z[i].right) ?_
     rw [show aget (key,Z[i].right) (TH h).wr=wK (TH h) key Z[i].right from rfl,c4]
     unfold wrO wrV
     repeat' first|apply step|(apply gO;·repeat first|exact eZ|(apply eS;exact rfl))|(refine Br.mk (fun _=>?_) (fun _=>?_)<;>try (exfalso;omega))|refine Fa.mk fun _=>?_|apply Lw.go|refine g_cond ?_|refine g_guard ?_|refine g_keep ?_
     all_goals try (exfalso;omega)
     refine at_callR (hrd Z[i].src c6) ?_
     repeat' first|apply step|(apply gO;·repeat first|exact eZ|(apply eS;exact rfl))|(refine Br.mk (fun _=>?_) (fun _=>?_)<;>try (exfalso;omega))|(refine Sd.mk ?_ ?_;·exact qD)|apply Lw.go|refine g_cond ?_|refine g_guard ?_|refine g_keep ?_
     all_goals first|(exfalso;omega)|exact lp_next (i + 1) (by omega) (by omega)
  ·repeat' first|apply step|(apply gO;·repeat first|exact eZ|(apply eS;exact rfl))|(refine Br.mk (fun _=>?_) (fun _=>?_)<;>try (exfalso;omega))|refine g_cond ?_|refine g_keep ?_
   refine at_callS (zdT) ?_
   repeat' first|apply step|(apply gO;·repeat first|exact eZ|(apply eS;exact rfl))|refine g_fin ?_
   exact fin hR
 ·repeat' first|apply step|(apply gO;·repeat first|exact eZ|(apply eS;exact rfl))|refine g_cond ?_
  refine at_callS (zdT) ?_
  repeat' first|apply step|(apply gO;·repeat first|exact eZ|(apply eS;exact rfl))|refine g_fin ?_
  exact fin hR
end
end Go.AMS

