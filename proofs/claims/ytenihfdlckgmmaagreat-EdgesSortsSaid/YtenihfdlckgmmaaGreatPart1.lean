/- What the functions do, part 1. -/
import Derived.Test.YtenihfdlckgmmaaGreatCode
import Derived.Test.YtenihfdlckgmmaaGreatSetLaw
namespace Go.AMS
open Go.AM hiding Kt At WP WL Runs RunsY
open Go.AM.G
set_option linter.unusedVariables false
set_option linter.unusedSimpArgs false
set_option linter.unusedSectionVars false
set_option maxRecDepth 100000
set_option maxHeartbeats 1000000
attribute [local irreducible] AtS AtV AtC AtG FinA Spec Post LP G.At G.WP G.WL pt own fro rdl ro hx mp lrec elt sub

open Go.AM.G.Set
section
/-- A script: picks, where all is cancelled, how many steps there were, how many picks were used. -/
structure Scr where
 l:List Int
 cancel:Int
 steps:Nat
 used:Nat
def Scr.one (s:Scr):Scr:={ s with steps:=s.steps + 1 }
structure Scr.ok (s:Scr):Prop where
 hc:-9223372036854775808≤s.cancel∧s.cancel≤9223372036854775807
 hs:s.steps≤1000000000000
 hu:s.used≤1000000000000
 hl:s.l.length≤1000000000
section
variable {b:Nat} {s:Scr} {m:Bool}
end
end
end Go.AMS

namespace Go.AMS
open Go.AM hiding Kt At WP WL Runs RunsY
open Go.AM.G
set_option linter.unusedVariables false
set_option linter.unusedSimpArgs false
set_option linter.unusedSectionVars false
set_option maxRecDepth 100000
set_option maxHeartbeats 1000000
attribute [local irreducible] AtS AtV AtC AtG FinA Spec Post LP G.At G.WP G.WL pt own fro rdl ro hx mp lrec elt sub

structure HOp where
 read:Bool
 key:Int
 value:Int
 list:List Int
structure HTx where
 id:Int
 ab:Bool
 ops:List HOp
def mayN (n:Int):Prop:=0≤n∧n≤2147483647
instance (n:Int):Decidable (mayN n):=by unfold mayN;infer_instance
def mayO (o:HOp):Prop:=if o.read=true then mayN o.key∧o.value=0∧∀ x ∈ o.list,mayN x else mayN o.key∧mayN o.value∧o.list=[]
instance (o:HOp):Decidable (mayO o):=by unfold mayO;infer_instance
section
variable {p:Option Addr} {c:Nat} {h:List HTx}
end
end Go.AMS

namespace Go.AMS
open Go.AM hiding Kt At WP WL Runs RunsY
open Go.AM.G
set_option linter.unusedVariables false
set_option linter.unusedSimpArgs false
set_option linter.unusedSectionVars false
set_option maxRecDepth 100000
set_option maxHeartbeats 1000000
attribute [local irreducible] AtS AtV AtC AtG FinA Spec Post LP G.At G.WP G.WL pt own fro rdl ro hx mp lrec elt sub

def prs (l:List HOp):List (Int × Int):=(l.filter fun o=>!o.read).map fun o=>(o.key,o.value)
def idsH (h:List HTx):List Int:=h.map HTx.id
def prsH (h:List HTx):List (Int × Int):=h.flatMap fun t=>prs t.ops
def scanO (met:List (Int × Int)):List HOp→Int
 | []=>0
 | o::r=>if ¬ mayO o then 2 else if o.read=true then scanO met r else if (o.key,o.value) ∈ met then 6 else scanO (met++[(o.key,o.value)]) r
def scanH (ids:List Int) (met:List (Int × Int)):List HTx→Int
 | []=>0
 | t::r=>if ¬ mayN t.id then 2 else if t.id ∈ ids then 5 else if scanO met t.ops≠0 then scanO met t.ops else scanH (ids++[t.id]) (met++prs t.ops) r
/-- Whether a history may be: 0, or an error's number. -/
def chkH (h:List HTx):Int:=scanH [] [] h
theorem zR (l:List HOp) (o:HOp):prs (l++[o])=prs l++if o.read=true then [] else [(o.key,o.value)]:=by
 unfold prs
 rw [List.filter_append,List.map_append]
 congr 1
 cases h:o.read <;> simp [h]
theorem za7 (h:List HTx) (t:HTx):idsH (h++[t])=idsH h++[t.id]:=by unfold idsH;simp
theorem zax (h:List HTx) (t:HTx):prsH (h++[t])=prsH h++prs t.ops:=by unfold prsH;simp
/-- So it is known when all that is to be known of the first ones is known. -/
structure PreO (met:List (Int × Int)) (l:List HOp) (i:Nat):Prop where
 go:scanO met l=scanO (met++prs (l.take i)) (l.drop i)
 ok:∀ o ∈ l.take i,mayO o
section
variable {met:List (Int × Int)} {l:List HOp} {i:Nat} (hp:PreO met l i) (hi:i < l.length)
include hp hi
theorem PreO.old (h:mayO l[i]) (h2:¬ l[i].read=true) (h3:(l[i].key,l[i].value) ∈ met++prs (l.take i)):scanO met l=6:=by
 rw [hp.go,List.drop_eq_getElem_cons hi,scanO,if_neg (by simpa using h),if_neg h2,if_pos h3]
theorem PreO.read (h:mayO l[i]) (h2:l[i].read=true):PreO met l (i + 1)∧prs (l.take (i + 1))=prs (l.take i):=by
 have e:prs (l.take (i + 1))=prs (l.take i):=by rw [List.take_succ_eq_append_getElem hi,zR,if_pos h2,List.append_nil]
 refine ⟨⟨?_,?_⟩,e⟩
 ·rw [hp.go,List.drop_eq_getElem_cons hi,scanO,if_neg (by simpa using h),if_pos h2,e]
 ·intro o ho
  rw [List.take_succ_eq_append_getElem hi] at ho
  rcases List.mem_append.1 ho with ho|ho
  ·exact hp.ok o ho
  ·rw [List.mem_singleton.1 ho];exact h
theorem PreO.new (h:mayO l[i]) (h2:¬ l[i].read=true) (h3:(l[i].key,l[i].value) ∉ met++prs (l.take i)):PreO met l (i + 1)∧prs (l.take (i + 1))=prs (l.take i)++[(l[i].key,l[i].value)]:=by
 have e:prs (l.take (i + 1))=prs (l.take i)++[(l[i].key,l[i].value)]:=by rw [List.take_succ_eq_append_getElem hi,zR,if_neg h2]
 refine ⟨⟨?_,?_⟩,e⟩
 ·rw [hp.go,List.drop_eq_getElem_cons hi,scanO,if_neg (by simpa using h),if_neg h2,if_neg h3,e,List.append_assoc]
 ·intro o ho
  rw [List.take_succ_eq_append_getElem hi] at ho
  rcases List.mem_append.1 ho with ho|ho
  ·exact hp.ok o ho
  ·rw [List.mem_singleton.1 ho];exact h
end
theorem PreO.all {met:List (Int × Int)} {l:List HOp} (hp:PreO met l l.length):scanO met l=0:=by
 rw [hp.go,List.drop_length];rfl
structure PreH (h:List HTx) (j:Nat):Prop where
 go:chkH h=scanH (idsH (h.take j)) (prsH (h.take j)) (h.drop j)
 ok:∀ t ∈ h.take j,mayN t.id∧∀ o ∈ t.ops,mayO o
section
variable {h:List HTx} {j:Nat} (hp:PreH h j) (hj:j < h.length)
include hp hj
theorem PreH.op (h1:mayN h[j].id) (h2:h[j].id ∉ idsH (h.take j)) {e:Int} (h3:scanO (prsH (h.take j)) h[j].ops=e) (he:e≠0):chkH h=e:=by
 rw [hp.go,List.drop_eq_getElem_cons hj,scanH,if_neg (by simpa using h1),if_neg h2,h3,if_pos he]
theorem PreH.next (h1:mayN h[j].id) (h2:h[j].id ∉ idsH (h.take j)) (h3:PreO (prsH (h.take j)) h[j].ops h[j].ops.length):PreH h (j + 1)∧idsH (h.take (j + 1))=idsH (h.take j)++[h[j].id]∧prsH (h.take (j + 1))=prsH (h.take j)++prs h[j].ops:=by
 have e1:idsH (h.take (j + 1))=idsH (h.take j)++[h[j].id]:=by rw [List.take_succ_eq_append_getElem hj,za7]
 have e2:prsH (h.take (j + 1))=prsH (h.take j)++prs h[j].ops:=by rw [List.take_succ_eq_append_getElem hj,zax]
 refine ⟨⟨?_,?_⟩,e1,e2⟩
 ·rw [hp.go,List.drop_eq_getElem_cons hj,scanH,if_neg (by simpa using h1),if_neg h2,h3.all,if_neg (by simp),e1,e2]
 ·intro t ht
  rw [List.take_succ_eq_append_getElem hj] at ht
  rcases List.mem_append.1 ht with ht|ht
  ·exact hp.ok t ht
  ·rw [List.mem_singleton.1 ht]
   refine ⟨h1,?_⟩
   have:=h3.ok
   rwa [List.take_length] at this
end
theorem PreH.all {h:List HTx} (hp:PreH h h.length):chkH h=0:=by
 rw [hp.go,List.drop_length];rfl
section
variable {κ β:Type} [DecidableEq κ]
end
section
variable {p:Option Addr} {c:Nat} {h:List HTx}
end
end Go.AMS

namespace Go.AMS
open Go.AM hiding Kt At WP WL Runs RunsY
open Go.AM.G
set_option linter.unusedVariables false
set_option linter.unusedSimpArgs false
set_option linter.unusedSectionVars false
set_option maxRecDepth 100000
set_option maxHeartbeats 1000000
attribute [local irreducible] AtS AtV AtC AtG FinA Spec Post LP G.At G.WP G.WL pt own fro rdl ro hx mp lrec elt sub

open Go.AM.G.Set
structure HRd where
 txn:Int
 op:Int
 key:Int
 list:List Int
 own:List Int
structure HWr where
 txn:Int
 op:Int
 key:Int
 value:Int
 ab:Bool
instance:Inhabited HOp:=⟨⟨false,0,0,[]⟩⟩
/-- A table. -/
structure Tb where
 ids:List Int
 keys:List Int
 wr:List ((Int × Int) × HWr)
 ap:List ((Int × Int) × List Int)
 rd:List (Int × List HRd)
 wt:List (Int × List HWr)
def agl {κ α:Type} [DecidableEq κ] (k:κ) (f:List (κ × List α)):List α:=(aget k f).getD []
def adl {κ α:Type} [DecidableEq κ] (k:κ) (a:α) (f:List (κ × List α)):List (κ × List α):=aset k (agl k f++[a]) f
def Tb.put (T:Tb) (t:HTx) (i:Nat) (o:HOp):Tb :=
 if o.read=true then
  if t.ab=true then T else { T with rd:=adl o.key ⟨t.id,i,o.key,o.list,agl (t.id,o.key) T.ap⟩ T.rd }
 else { T with wr:=aset (o.key,o.value) ⟨t.id,i,o.key,o.value,t.ab⟩ T.wr,ap:=adl (t.id,o.key) o.value T.ap,wt:=if t.ab=true then T.wt else adl o.key ⟨t.id,i,o.key,o.value,t.ab⟩ T.wt }
def Tb.one (T:Tb) (x:HTx × Nat):Tb:={ T with keys:=T.keys++[(x.1.ops.getD x.2 default).key] }.put x.1 x.2 (x.1.ops.getD x.2 default)
def Tb.fin (T:Tb):Tb:={ T with keys:=setL T.keys }
theorem zah {κ α:Type} [DecidableEq κ] (k j:κ) (a:α) (f:List (κ × List α)):agl j (adl k a f)=agl j f++if j=k then [a] else []:=by
 unfold agl adl
 rw [aget_aset]
 by_cases h:j=k
 ·rw [if_pos h,if_pos h,h];rfl
 ·rw [if_neg h,if_neg h,List.append_nil]
theorem zaS (T:Tb) (t:HTx) (i:Nat) (o:HOp):(T.put t i o).ap=if o.read=true then T.ap else adl (t.id,o.key) o.value T.ap:=by
 unfold Tb.put;split
 ·split <;> rfl
 ·rfl
theorem zaL (T:Tb) (t:HTx) (i:Nat) (o:HOp):(T.put t i o).rd=if o.read=true∧¬ t.ab=true then adl o.key ⟨t.id,i,o.key,o.list,agl (t.id,o.key) T.ap⟩ T.rd else T.rd:=by
 unfold Tb.put
 by_cases h:o.read=true
 ·by_cases h2:t.ab=true <;> simp [h,h2]
 ·simp [h]
theorem zaA (T:Tb) (t:HTx) (i:Nat) (o:HOp):(T.put t i o).wt=if ¬ o.read=true∧¬ t.ab=true then adl o.key ⟨t.id,i,o.key,o.value,t.ab⟩ T.wt else T.wt:=by
 unfold Tb.put
 by_cases h:o.read=true
 ·by_cases h2:t.ab=true <;> simp [h,h2]
 ·by_cases h2:t.ab=true <;> simp [h,h2]
theorem zaV (T:Tb) (t:HTx) (i:Nat) (o:HOp):(T.put t i o).keys=T.keys:=by
 unfold Tb.put;split
 ·split <;> rfl
 ·rfl
end Go.AMS

namespace Go.AMS
open Go.AM hiding Kt At WP WL Runs RunsY
open Go.AM.G
set_option linter.unusedVariables false
set_option linter.unusedSimpArgs false
set_option linter.unusedSectionVars false
set_option maxRecDepth 100000
set_option maxHeartbeats 1000000
attribute [local irreducible] AtS AtV AtC AtG FinA Spec Post LP G.At G.WP G.WL pt own fro rdl ro hx mp lrec elt sub

open Go.AM.G.Set
/-- None of its lists is long. -/
structure Tb.sm (T:Tb) (n:Nat):Prop where
 a:∀ k,(agl k T.ap).length≤n
 r:∀ k,(agl k T.rd).length≤n
 w:∀ k,(agl k T.wt).length≤n
 k:T.keys.length≤n
section
variable {α κ:Type} [DecidableEq κ] {K:Kind α} {k:κ} {Z:List (LE κ α)} {Γ:List HP}
variable {prog:AProg} {rr:Option Nat} {e:Env} {Q:Pst} {kk:List Kt} {x y:Operand} {n t:Nat} {d bar:Bool} {r:List AI} {m:Nat} {s:KS} {enc:κ→Value} [ke:KeyE s enc]
end
section
variable {b:Nat} {T:Tb} {t:HTx} {i:Nat} {o:HOp} {p q:Option Addr} {c d:Nat}
end
end Go.AMS

namespace Go.AMS
open Go.AM hiding Kt At WP WL Runs RunsY
open Go.AM.G
set_option linter.unusedVariables false
set_option linter.unusedSimpArgs false
set_option linter.unusedSectionVars false
set_option maxRecDepth 100000
set_option maxHeartbeats 1000000
attribute [local irreducible] AtS AtV AtC AtG FinA Spec Post LP G.At G.WP G.WL pt own fro rdl ro hx mp lrec elt sub

open Go.AM.G.Set
section
variable {b:Nat} {T:Tb} {s h:List HTx} {p q:Option Addr} {c d:Nat}
theorem Tb.sm.one {T:Tb} {n:Nat} (hT:T.sm n) (x:HTx × Nat):(T.one x).sm (n + 1):=by
 have g:∀ {κ α:Type} [DecidableEq κ] (k j:κ) (a:α) (f:List (κ × List α)),(agl j (adl k a f)).length≤(agl j f).length + 1:=by
  intro κ α _ k j a f
  rw [zah,List.length_append]
  split <;> simp
 refine ⟨fun k=>?_,fun k=>?_,fun k=>?_,?_⟩
 ·have:=hT.a k
  unfold Tb.one;rw [zaS];split
  ·exact Nat.le_succ_of_le this
  ·exact Nat.le_trans (g _ _ _ _) (Nat.succ_le_succ this)
 ·have:=hT.r k
  unfold Tb.one;rw [zaL];split
  ·exact Nat.le_trans (g _ _ _ _) (Nat.succ_le_succ this)
  ·exact Nat.le_succ_of_le this
 ·have:=hT.w k
  unfold Tb.one;rw [zaA];split
  ·exact Nat.le_trans (g _ _ _ _) (Nat.succ_le_succ this)
  ·exact Nat.le_succ_of_le this
 ·have:=hT.k
  unfold Tb.one;rw [zaV];simp;exact this
end
end Go.AMS

namespace Go.AMS
open Go.AM hiding Kt At WP WL Runs RunsY
open Go.AM.G
set_option linter.unusedVariables false
set_option linter.unusedSectionVars false
set_option linter.unusedSimpArgs false
section
variable {prog:AProg} {rr:Option Nat} {e:Env} {Q:Pst} {k:List Kt} {x y:Operand} {n:Nat} {Γ:List HP} {d bar:Bool} {r:List AI} {t:Nat} {p q:Int}
theorem wrapU64 (h:0≤p∧p≤18446744073709551615):IntKind.u64.wrap p=p:=by
 unfold IntKind.wrap
 simp only [IntKind.signed,IntKind.bits,Bool.false_eq_true,if_false]
 show p % 18446744073709551616=p
 omega
instance v_convU64 {ki:IntKind}:Step (AtV n prog rr d bar (some t) (.conv .u64 x) [.int ki p] r k e Γ Q) (Sd (0≤p∧p≤18446744073709551615) (AtS n prog rr (.o d r::k) .norm ((t,.int .u64 p)::e) Γ Q)):=⟨fun w hE=>go1 (fun h _ m=>by simp only [aop,hE.a,wrapU64 w.c]) w.a⟩
theorem zaH {i:Nat}:binV .shr (.int .u64 (i:Int)) (.int .u64 1)=some (.int .u64 ((i / 2:Nat):Int)):=by
 rw [b_shr,if_neg (by omega)]
 simp only [IntKind.bits]
 rw [show Nat.min (1:Int).toNat 64=1 from rfl,show (2:Int) ^ 1=((2:Nat):Int) by decide,Int.fdiv_eq_ediv_of_nonneg _ (Int.natCast_nonneg _),← Int.natCast_ediv]
instance v_shr1 {i:Nat}:Step (AtV n prog rr d bar (some t) (.bin .shr x y) [.int .u64 (i:Int),.int .u64 1] r k e Γ Q) (AtS n prog rr (.o d r::k) .norm ((t,.int .u64 ((i / 2:Nat):Int))::e) Γ Q):=⟨fun w hE=>bin1 hE zaH w⟩
end
end Go.AMS

namespace Go.AMS
open Go.AM hiding Kt At WP WL Runs RunsY
open Go.AM.G
set_option linter.unusedVariables false
set_option linter.unusedSimpArgs false
set_option linter.unusedSectionVars false
set_option maxRecDepth 100000
set_option maxHeartbeats 1000000
attribute [local irreducible] AtS AtV AtC AtG FinA Spec Post LP G.At G.WP G.WL pt own fro rdl ro hx mp lrec elt sub

open Go.AM.G.Set
section
variable {h:List HTx} {T:Tb} {r:HRd} {p q p1 p2 p3:Option Addr} {c d c1 c2 c3 b:Nat}
def t1:Option (Int × Int)→Int
 | some q=>q.1
 | none=>0
def t2:Option (Int × Int)→Int
 | some q=>q.2
 | none=>0
end
end Go.AMS

namespace Go.AMS
open Go.AM hiding Kt At WP WL Runs RunsY
open Go.AM.G
set_option linter.unusedVariables false
set_option linter.unusedSimpArgs false
set_option linter.unusedSectionVars false
set_option maxRecDepth 100000
set_option maxHeartbeats 1000000
attribute [local irreducible] AtS AtV AtC AtG FinA Spec Post LP G.At G.WP G.WL pt own fro rdl ro hx mp lrec elt sub

open Go.AM.G.Set
section
variable {p q:Option Addr} {c d:Nat} {l m:List Int}
/-- What is in one of both, on the way: a row that rises, of what was gone through, below what comes. -/
structure OrI (l m o:List Int) (i j:Nat):Prop where
 hi:i≤l.length
 hj:j≤m.length
 hs:o.Pairwise (fun a b=>a < b)
 hl:∀ x ∈ o,∀ k (h:k < l.length),i≤k→x < l[k]
 hm:∀ x ∈ o,∀ k (h:k < m.length),j≤k→x < m[k]
 he:∀ x,x ∈ o ↔ x ∈ l.take i∨x ∈ m.take j
theorem pw_at {l:List Int} (hs:l.Pairwise (fun a b=>a < b)) {a b:Nat} (ha:a < l.length) (hb:b < l.length) (h:a < b):l[a] < l[b]:=List.pairwise_iff_getElem.1 hs a b ha hb h
theorem zaw {o:List Int} {x:Int} (h:o.Pairwise (fun a b=>a < b)) (hx:∀ y ∈ o,y < x):(o++[x]).Pairwise (fun a b=>a < b) :=
 List.pairwise_append.2 ⟨h,List.pairwise_singleton _ _,fun a ha b hb=>by rw [List.mem_singleton.1 hb];exact hx a ha⟩
theorem OrI.same {o:List Int} {i j:Nat} (h:OrI l m o i j) (sl:l.Pairwise (fun a b=>a < b)) (sm:m.Pairwise (fun a b=>a < b)) (hi:i < l.length) (hj:j < m.length) (q:l[i]=m[j]):OrI l m (o++[l[i]]) (i + 1) (j + 1):=by
 refine ⟨hi,hj,zaw h.hs fun y hy=>h.hl y hy i hi (Nat.le_refl _),fun x hx k hk hik=>?_,fun x hx k hk hjk=>?_,fun x=>?_⟩
 ·rcases List.mem_append.1 hx with hx|hx
  ·exact h.hl x hx k hk (by omega)
  ·rw [List.mem_singleton.1 hx];exact pw_at sl hi hk (by omega)
 ·rcases List.mem_append.1 hx with hx|hx
  ·exact h.hm x hx k hk (by omega)
  ·rw [List.mem_singleton.1 hx,q];exact pw_at sm hj hk (by omega)
 ·rw [List.mem_append,h.he,List.take_succ_eq_append_getElem hi,List.take_succ_eq_append_getElem hj,List.mem_append,List.mem_append,← q]
  constructor
  ·rintro ((a|a)|a)
   ·exact .inl (.inl a)
   ·exact .inr (.inl a)
   ·exact .inl (.inr a)
  ·rintro ((a|a)|(a|a))
   ·exact .inl (.inl a)
   ·exact .inr a
   ·exact .inl (.inr a)
   ·exact .inr a
theorem zaf {l:List Int} (h:l.Pairwise (fun a b=>a < b)) (i:Nat):(l.drop i).Pairwise (fun a b=>a < b):=h.sublist (List.drop_sublist _ _)
theorem zZ {l:List Int} {i:Nat} {x:Int} (h:x ∈ l.drop i):∃ k,∃ hk:k < l.length,i≤k∧l[k]=x:=by
 obtain ⟨k,hk,e⟩:=List.mem_iff_getElem.1 h
 rw [List.length_drop] at hk
 rw [List.getElem_drop] at e
 exact ⟨i + k,by omega,by omega,e⟩
theorem OrI.fin {o:List Int} {i j:Nat} (h:OrI l m o i j) (sl:l.Pairwise (fun a b=>a < b)) (sm:m.Pairwise (fun a b=>a < b)) (e:i=l.length∨j=m.length):(o++l.drop i++m.drop j).Pairwise (fun a b=>a < b)∧∀ x,x ∈ o++l.drop i++m.drop j ↔ x ∈ l∨x ∈ m:=by
 constructor
 ·refine List.pairwise_append.2 ⟨List.pairwise_append.2 ⟨h.hs,zaf sl i,fun a ha b hb=>?_⟩,zaf sm j,fun a ha b hb=>?_⟩
  ·obtain ⟨k,hk,hik,rfl⟩:=zZ hb
   exact h.hl a ha k hk hik
  ·obtain ⟨k,hk,hjk,rfl⟩:=zZ hb
   rcases List.mem_append.1 ha with ha|ha
   ·exact h.hm a ha k hk hjk
   ·rcases e with e|e
    ·rw [e,List.drop_length] at ha;cases ha
    ·omega
 ·intro x
  rw [List.mem_append,List.mem_append,h.he]
  conv=>rhs;rw [← List.take_append_drop i l,← List.take_append_drop j m,List.mem_append,List.mem_append]
  constructor
  ·rintro (((a|a)|a)|a)
   ·exact .inl (.inl a)
   ·exact .inr (.inl a)
   ·exact .inl (.inr a)
   ·exact .inr (.inr a)
  ·rintro ((a|a)|(a|a))
   ·exact .inl (.inl (.inl a))
   ·exact .inl (.inr a)
   ·exact .inl (.inl (.inr a))
   ·exact .inr a
end
end Go.AMS

namespace Go.AMS
open Go.AM hiding Kt At WP WL Runs RunsY
open Go.AM.G
set_option linter.unusedVariables false
set_option linter.unusedSimpArgs false
set_option linter.unusedSectionVars false
set_option maxRecDepth 100000
set_option maxHeartbeats 1000000
attribute [local irreducible] AtS AtV AtC AtG FinA Spec Post LP G.At G.WP G.WL pt own fro rdl ro hx mp lrec elt sub

open Go.AM.G.Set
structure HEd where
 src:Int
 dst:Int
 kind:Int
 key:Int
 left:Int
 right:Int
def kHEd:Kind HEd:=⟨6,by decide,fun m cs a=>∃ v0 v1 v2 v3 v4 v5,cs=[v0,v1,v2,v3,v4,v5]∧(kInt .i64).rd m [v0] a.src∧(kInt .i64).rd m [v1] a.dst∧(kInt .i64).rd m [v2] a.kind∧(kInt .i64).rd m [v3] a.key∧(kInt .i64).rd m [v4] a.left∧(kInt .i64).rd m [v5] a.right,
 fun s ⟨v0,v1,v2,v3,v4,v5,hc,h0,h1,h2,h3,h4,h5⟩=>⟨v0,v1,v2,v3,v4,v5,hc,(kInt .i64).mono s h0,(kInt .i64).mono s h1,(kInt .i64).mono s h2,(kInt .i64).mono s h3,(kInt .i64).mono s h4,(kInt .i64).mono s h5⟩,fun ⟨v0,v1,v2,v3,v4,v5,hc,h0,h1,h2,h3,h4,h5⟩=>by rw [hc];rfl,
 fun ⟨v0,v1,v2,v3,v4,v5,hc,h0,h1,h2,h3,h4,h5⟩=>by
  have e0:=(kInt .i64).ok h0
  have e1:=(kInt .i64).ok h1
  have e2:=(kInt .i64).ok h2
  have e3:=(kInt .i64).ok h3
  have e4:=(kInt .i64).ok h4
  have e5:=(kInt .i64).ok h5
  simp only [List.all_cons,List.all_nil,Bool.and_true] at e0 e1 e2 e3 e4 e5
  rw [hc];simp only [List.all_cons,List.all_nil,Bool.and_true,e0,e1,e2,e3,e4,e5]⟩
instance esz_HEd:Esz kHEd 6:=⟨rfl⟩
instance cel_HEd:Cel kHEd (Unit) (fun a x=>[.int .i64 a.src,.int .i64 a.dst,.int .i64 a.kind,.int .i64 a.key,.int .i64 a.left,.int .i64 a.right]) (fun a x=>[]) (fun a=>(-9223372036854775808≤a.src∧a.src≤9223372036854775807)∧(-9223372036854775808≤a.dst∧a.dst≤9223372036854775807)∧(-9223372036854775808≤a.kind∧a.kind≤9223372036854775807)∧(-9223372036854775808≤a.key∧a.key≤9223372036854775807)∧(-9223372036854775808≤a.left∧a.left≤9223372036854775807)∧(-9223372036854775808≤a.right∧a.right≤9223372036854775807)∧True):=⟨fun ⟨v0,v1,v2,v3,v4,v5,hc,h0,h1,h2,h3,h4,h5⟩=>by
 obtain ⟨q0,b0⟩:=h0;cases q0
 obtain ⟨q1,b1⟩:=h1;cases q1
 obtain ⟨q2,b2⟩:=h2;cases q2
 obtain ⟨q3,b3⟩:=h3;cases q3
 obtain ⟨q4,b4⟩:=h4;cases q4
 obtain ⟨q5,b5⟩:=h5;cases q5
 exact ⟨(),hc,⟨b0,b1,b2,b3,b4,b5,trivial⟩,sat_nil0⟩⟩
instance ofc_HEd {Γ:List HP} {v0 v1 v2 v3 v4 v5:Value} {a0:Int} {φ0:Prop} {a1:Int} {φ1:Prop} {a2:Int} {φ2:Prop} {a3:Int} {φ3:Prop} {a4:Int} {φ4:Prop} {a5:Int} {φ5:Prop} [o0:OfC Γ (kInt .i64) [v0] a0 φ0] [o1:OfC Γ (kInt .i64) [v1] a1 φ1] [o2:OfC Γ (kInt .i64) [v2] a2 φ2] [o3:OfC Γ (kInt .i64) [v3] a3 φ3] [o4:OfC Γ (kInt .i64) [v4] a4 φ4] [o5:OfC Γ (kInt .i64) [v5] a5 φ5]:OfC Γ kHEd [v0,v1,v2,v3,v4,v5] ⟨a0,a1,a2,a3,a4,a5⟩ (φ0∧φ1∧φ2∧φ3∧φ4∧φ5):=⟨fun h _ _ hs=>⟨v0,v1,v2,v3,v4,v5,rfl,o0.rd h.1 hs,o1.rd h.2.1 hs,o2.rd h.2.2.1 hs,o3.rd h.2.2.2.1 hs,o4.rd h.2.2.2.2.1 hs,o5.rd h.2.2.2.2.2 hs⟩⟩
instance fld_HEd_src:Fld kHEd 0 (kInt .i64) (fun a=>a.src):=⟨fun ⟨v0,v1,v2,v3,v4,v5,hc,h0,h1,h2,h3,h4,h5⟩=>by subst hc;exact h0,by decide⟩
instance fld_HEd_dst:Fld kHEd 1 (kInt .i64) (fun a=>a.dst):=⟨fun ⟨v0,v1,v2,v3,v4,v5,hc,h0,h1,h2,h3,h4,h5⟩=>by subst hc;exact h1,by decide⟩
instance fld_HEd_kind:Fld kHEd 2 (kInt .i64) (fun a=>a.kind):=⟨fun ⟨v0,v1,v2,v3,v4,v5,hc,h0,h1,h2,h3,h4,h5⟩=>by subst hc;exact h2,by decide⟩
instance fld_HEd_key:Fld kHEd 3 (kInt .i64) (fun a=>a.key):=⟨fun ⟨v0,v1,v2,v3,v4,v5,hc,h0,h1,h2,h3,h4,h5⟩=>by subst hc;exact h3,by decide⟩
instance fld_HEd_left:Fld kHEd 4 (kInt .i64) (fun a=>a.left):=⟨fun ⟨v0,v1,v2,v3,v4,v5,hc,h0,h1,h2,h3,h4,h5⟩=>by subst hc;exact h4,by decide⟩
instance fld_HEd_right:Fld kHEd 5 (kInt .i64) (fun a=>a.right):=⟨fun ⟨v0,v1,v2,v3,v4,v5,hc,h0,h1,h2,h3,h4,h5⟩=>by subst hc;exact h5,by decide⟩
instance ktz_HEd:KTz kHEd:=⟨fun hf ⟨v0,v1,v2,v3,v4,v5,hc,h0,h1,h2,h3,h4,h5⟩=>⟨v0,v1,v2,v3,v4,v5,hc,(inferInstance:KTz (kInt .i64)).tz hf h0,(inferInstance:KTz (kInt .i64)).tz hf h1,(inferInstance:KTz (kInt .i64)).tz hf h2,(inferInstance:KTz (kInt .i64)).tz hf h3,(inferInstance:KTz (kInt .i64)).tz hf h4,(inferInstance:KTz (kInt .i64)).tz hf h5⟩⟩
section
variable {T:Tb} {r:HRd} {p q p1 p2:Option Addr} {c d c1 c2 b mr mt:Nat}
end
end Go.AMS

namespace Go.AMS
open Go.AM hiding Kt At WP WL Runs RunsY
open Go.AM.G
set_option linter.unusedVariables false
set_option linter.unusedSimpArgs false
set_option linter.unusedSectionVars false
set_option maxRecDepth 100000
set_option maxHeartbeats 1000000
attribute [local irreducible] AtS AtV AtC AtG FinA Spec Post LP G.At G.WP G.WL pt own fro rdl ro hx mp lrec elt sub

open Go.AM.G.Set
section
variable {T:Tb} {r:HRd} {p q p1 p2:Option Addr} {c d c1 c2 b mr mt:Nat}
def bI (x:Int):Prop:=-9223372036854775808≤x∧x≤9223372036854775807
end
end Go.AMS

namespace Go.AMS
open Go.AM hiding Kt At WP WL Runs RunsY
open Go.AM.G
set_option linter.unusedVariables false
set_option linter.unusedSimpArgs false
set_option linter.unusedSectionVars false
set_option maxRecDepth 100000
set_option maxHeartbeats 1000000
attribute [local irreducible] AtS AtV AtC AtG FinA Spec Post LP G.At G.WP G.WL pt own fro rdl ro hx mp lrec elt sub

open Go.AM.G.Set Go.AM.G.Pre
section
variable {h:List HTx} {key:Int}
def tupE (a:HEd):List Int:=[a.src,a.dst,a.kind,a.key,a.left,a.right]
def cmpL:List Int→List Int→Int
 | x::a,y::b=>if x < y then -1 else if y < x then 1 else cmpL a b
 | _,_=>0
def cmpE (a b:HEd):Int:=cmpL (tupE a) (tupE b)
theorem zF:∀ a b:List Int,cmpL a b=-1∨cmpL a b=0∨cmpL a b=1
 | x::a,y::b=>by
  unfold cmpL
  split
  ·exact .inl rfl
  ·split
   ·exact .inr (.inr rfl)
   ·exact zF a b
 | [],b=>by unfold cmpL;exact .inr (.inl rfl)
 | x::a,[]=>by unfold cmpL;exact .inr (.inl rfl)
theorem zW:∀ {a b:List Int},a.length=b.length→(cmpL a b=0 ↔ a=b)
 | [],[],_=>by simp [cmpL]
 | x::a,y::b,hl=>by
  have ih:=zW (a:=a) (b:=b) (by simpa using hl)
  unfold cmpL
  by_cases h1:x < y
  ·rw [if_pos h1]
   exact ⟨fun q=>absurd q (by decide),fun q=>by have:=(List.cons.inj q).1;omega⟩
  ·rw [if_neg h1]
   by_cases h2:y < x
   ·rw [if_pos h2]
    exact ⟨fun q=>absurd q (by decide),fun q=>by have:=(List.cons.inj q).1;omega⟩
   ·rw [if_neg h2,ih]
    have e:x=y:=by omega
    subst e
    simp
theorem zN:∀ {a b:List Int},a.length=b.length→(cmpL a b=-1 ↔ cmpL b a=1)
 | [],[],_=>by simp [cmpL]
 | x::a,y::b,hl=>by
  have ih:=zN (a:=a) (b:=b) (by simpa using hl)
  unfold cmpL
  by_cases h1:x < y
  ·rw [if_pos h1,if_neg (by omega),if_pos h1];simp
  ·rw [if_neg h1]
   by_cases h2:y < x
   ·rw [if_pos h2,if_pos h2];decide
   ·rw [if_neg h2,if_neg h2,if_neg h1];exact ih
theorem z8:∀ {a b c:List Int},a.length=b.length→b.length=c.length→cmpL a b=-1→cmpL b c=-1→cmpL a c=-1
 | [],[],[],_,_,h1,_=>by simp [cmpL] at h1
 | x::a,y::b,z::c,hl,hl2,h1,h2=>by
  have ih:=fun q1 q2=>z8 (a:=a) (b:=b) (c:=c) (by simpa using hl) (by simpa using hl2) q1 q2
  unfold cmpL at h1 h2 ⊢
  by_cases e1:x < y
  ·by_cases e2:y < z
   ·rw [if_pos (by omega)]
   ·rw [if_neg e2] at h2
    by_cases e3:z < y
    ·rw [if_pos e3] at h2;cases h2
    ·rw [if_pos (by omega)]
  ·rw [if_neg e1] at h1
   by_cases e2:y < x
   ·rw [if_pos e2] at h1;cases h1
   ·rw [if_neg e2] at h1
    by_cases e3:y < z
    ·rw [if_pos (by omega)]
    ·rw [if_neg e3] at h2
     by_cases e4:z < y
     ·rw [if_pos e4] at h2;cases h2
     ·rw [if_neg e4] at h2
      rw [if_neg (by omega),if_neg (by omega)]
      exact ih h1 h2
def ltE (a b:HEd):Prop:=cmpE a b=-1
theorem zaB {a b:HEd} (e:tupE a=tupE b):a=b:=by
 cases a;cases b
 simp only [tupE,List.cons.injEq,and_true] at e
 obtain ⟨e1,e2,e3,e4,e5,e6⟩:=e
 subst e1;subst e2;subst e3;subst e4;subst e5;subst e6
 rfl
theorem zL {a b:HEd}:cmpE a b=0 ↔ a=b:=by
 unfold cmpE
 rw [zW (show (tupE a).length=(tupE b).length from rfl)]
 exact ⟨zaB,fun e=>by rw [e]⟩
theorem zw {a b c:HEd} (h1:ltE a b) (h2:ltE b c):ltE a c:=z8 (show (tupE a).length=(tupE b).length from rfl) (show (tupE b).length=(tupE c).length from rfl) h1 h2
theorem zO (a b:HEd):ltE a b∨a=b∨ltE b a:=by
 rcases zF (tupE a) (tupE b) with h|h|h
 ·exact .inl h
 ·exact .inr (.inl (zL.1 h))
 ·exact .inr (.inr ((zN (show (tupE b).length=(tupE a).length from rfl)).2 h))
theorem zf (a:HEd):¬ ltE a a:=fun q=>by
 have:=zL.2 (rfl:a=a)
 unfold ltE at q
 rw [this] at q;cases q
theorem z4 {a b:HEd}:cmpE a b≤0 ↔ ¬ ltE b a:=by
 rcases zF (tupE a) (tupE b) with h|h|h
 ·have e:cmpE a b=-1:=h
  rw [e]
  exact ⟨fun _ q=>zf a (zw e q),fun _=>by decide⟩
 ·have e:cmpE a b=0:=h
  rw [e]
  exact ⟨fun _ q=>by rw [zL.1 e] at q;exact zf b q,fun _=>by decide⟩
 ·have e:cmpE a b=1:=h
  rw [e]
  exact ⟨fun q=>absurd q (by decide),fun q=>absurd ((zN (show (tupE b).length=(tupE a).length from rfl)).2 h) q⟩
/-- What is in order so far: all that is not above its last. -/
structure SrtI (l O:List HEd):Prop where
 s:O.Pairwise ltE
 m:∀ x ∈ O,x ∈ l
 a:∀ x ∈ l,x ∉ O→∀ y ∈ O,ltE y x
theorem SrtI.nil (l:List HEd):SrtI l []:=⟨List.Pairwise.nil,fun _ q=>(by cases q),fun _ _ _ _ q=>(by cases q)⟩
theorem SrtI.nodup {l O:List HEd} (i:SrtI l O):O.Nodup:=i.s.imp fun {a b} q e=>by rw [e] at q;exact zf _ q
theorem SrtI.len {l O:List HEd} (i:SrtI l O):O.length≤l.length:=List.Nodup.length_le_of_subset i.nodup i.m
/-- Above the last one. -/
def upE (O:List HEd) (x:HEd):Prop:=∀ y,O.getLast? = some y→ltE y x
theorem SrtI.up {l O:List HEd} (i:SrtI l O) {x:HEd} (hx:x ∈ l):upE O x ↔ x ∉ O:=by
 constructor
 ·intro q hm
  cases hl:O.getLast? with
  | none=>rw [List.getLast?_eq_none_iff] at hl;rw [hl] at hm;cases hm
  | some y =>
   have h1:=q y hl
   obtain ⟨ys,rfl⟩:=List.getLast?_eq_some_iff.1 hl
   rcases List.mem_append.1 hm with g|g
   ·have:=(List.pairwise_append.1 i.s).2.2 x g y (List.mem_singleton.2 rfl)
    exact zf _ (zw h1 this)
   ·rw [List.mem_singleton.1 g] at h1;exact zf _ h1
 ·intro q y hy
  exact i.a x hx q y (List.mem_of_getLast? hy)
theorem SrtI.next {l O:List HEd} (i:SrtI l O) {x:HEd} (hx:x ∈ l) (hu:upE O x) (hb:∀ y ∈ l,upE O y→¬ ltE y x):SrtI l (O++[x]):=by
 have hn:=(i.up hx).1 hu
 refine ⟨?_,fun y hy=>?_,fun y hy hn2 z hz=>?_⟩
 ·rw [List.pairwise_append]
  exact ⟨i.s,by simp,fun a ha b hb2=>by rw [List.mem_singleton.1 hb2];exact i.a x hx hn a ha⟩
 ·rcases List.mem_append.1 hy with g|g
  ·exact i.m y g
  ·rw [List.mem_singleton.1 g];exact hx
 ·have hn3:y ∉ O:=fun q=>hn2 (List.mem_append.2 (.inl q))
  rcases List.mem_append.1 hz with g|g
  ·exact i.a y hy hn3 z g
  ·rw [List.mem_singleton.1 g]
   have h1:=hb y hy ((i.up hy).2 hn3)
   rcases zO x y with q|q|q
   ·exact q
   ·exact absurd (List.mem_append.2 (.inr (List.mem_singleton.2 q.symm))) hn2
   ·exact absurd q h1
theorem SrtI.fin {l O:List HEd} (i:SrtI l O) (hb:∀ y ∈ l,¬ upE O y):∀ x,x ∈ O ↔ x ∈ l:=fun x=>⟨i.m x,fun hx=>by
 by_cases e:x ∈ O
 ·exact e
 ·exact absurd ((i.up hx).2 e) (hb x hx)⟩
end
end Go.AMS

namespace Go.AMS
open Go.AM hiding Kt At WP WL Runs RunsY
open Go.AM.G
set_option linter.unusedVariables false
set_option linter.unusedSimpArgs false
set_option linter.unusedSectionVars false
set_option maxRecDepth 100000
set_option maxHeartbeats 1000000
attribute [local irreducible] AtS AtV AtC AtG FinA Spec Post LP G.At G.WP G.WL pt own fro rdl ro hx mp lrec elt sub

open Go.AM.G.Set Go.AM.G.Pre
section
variable {h:List HTx} {p q:Option Addr} {c d:Nat} {a b:HEd} {l:List HEd} {key:Int}
def bE (a:HEd):Prop:=bI a.src∧bI a.dst∧bI a.kind∧bI a.key∧bI a.left∧bI a.right
theorem zaN {a b:List Int} {j:Nat} (h1:j < a.length) (h2:j < b.length):cmpL (a.drop j) (b.drop j)=if a[j] < b[j] then -1 else if b[j] < a[j] then 1 else cmpL (a.drop (j + 1)) (b.drop (j + 1)):=by
 rw [List.drop_eq_getElem_cons h1,List.drop_eq_getElem_cons h2]
 rfl
theorem zp (ha:bE a) (hb:bE b):Spec prog1 zk [.agg #[.int .i64 a.src,.int .i64 a.dst,.int .i64 a.kind,.int .i64 a.key,.int .i64 a.left,.int .i64 a.right],.agg #[.int .i64 b.src,.int .i64 b.dst,.int .i64 b.kind,.int .i64 b.key,.int .i64 b.left,.int .i64 b.right]] [] (fun R=>R (.int .i64 (cmpE a b)) []):=by
 refine spec_code zao rfl ?_;intro n F R hR;unfold zJ
 have hla:(tupE a).length=6:=rfl
 have hlb:(tupE b).length=6:=rfl
 repeat' first|apply step|(apply gO;·repeat first|exact eZ|(apply eS;exact rfl))|refine Fa.mk fun _=>?_|refine g_keep ?_
 rename_i xa xb
 refine at_ent (pt_own (K:=kInt .i64) (l:=tupE b) (cap:=6) rfl (show OfVs _ (kInt .i64) [.int .i64 b.src,.int .i64 b.dst,.int .i64 b.kind,.int .i64 b.key,.int .i64 b.left,.int .i64 b.right] (tupE b) _ from inferInstance) hb) ?_
 refine at_via (pt_own (K:=kInt .i64) (b:=xa) (cs:=[.int .i64 a.src,.int .i64 a.dst,.int .i64 a.kind,.int .i64 a.key,.int .i64 a.left,.int .i64 a.right]) (l:=tupE a) (cap:=6) rfl (show OfVs _ (kInt .i64) [.int .i64 a.src,.int .i64 a.dst,.int .i64 a.kind,.int .i64 a.key,.int .i64 a.left,.int .i64 a.right] (tupE a) _ from inferInstance) ha) ?_
 refine at_loopS (ι:=Nat) (E:=fun j=>[(5,.slice (some ⟨xa,0,none⟩) 6 6),(6,.slice (some ⟨xb,0,none⟩) 6 6),(7,.int .i64 (j:Int))]) (Δ:=fun j=>own (kInt .i64) (some ⟨xa,0,none⟩) 6 (tupE a)::own (kInt .i64) (some ⟨xb,0,none⟩) 6 (tupE b)::F) (P:=fun j=>j≤6∧cmpL ((tupE a).drop j) ((tupE b).drop j)=cmpE a b) (μ:=fun j=>6 - j) 0 ⟨Nat.zero_le _,rfl⟩ ?_
 rintro j ⟨hj,hd⟩
 try dsimp only
 rcases Nat.lt_or_ge j 6 with hlt|hge
 ·have h1:j < (tupE a).length:=hlt
  have h2:j < (tupE b).length:=hlt
  rw [zaN h1 h2] at hd
  by_cases e1:(tupE a)[j]'h1 < (tupE b)[j]'h2
  ·rw [if_pos e1] at hd
   rw [← hd] at hR
   repeat' first|apply step|(apply gO;·repeat first|exact eZ|(apply eS;exact rfl))|(refine Br.mk (fun _=>?_) (fun _=>?_)<;>try (exfalso;omega))|(refine Sd.mk ?_ ?_;·exact qD)|(refine Sx.mk ?_ ?_;·omega)|refine Im.mk fun _=>?_|refine g_cond ?_|refine g_keep ?_|refine g_fin ?_
   all_goals first|exact fin hR|(exfalso;omega)
  ·rw [if_neg e1] at hd
   by_cases e2:(tupE b)[j]'h2 < (tupE a)[j]'h1
   ·rw [if_pos e2] at hd
    rw [← hd] at hR
    repeat' first|apply step|(apply gO;·repeat first|exact eZ|(apply eS;exact rfl))|(refine Br.mk (fun _=>?_) (fun _=>?_)<;>try (exfalso;omega))|(refine Sd.mk ?_ ?_;·exact qD)|(refine Sx.mk ?_ ?_;·omega)|refine Im.mk fun _=>?_|refine g_cond ?_|refine g_keep ?_|refine g_fin ?_
    all_goals first|exact fin hR|(exfalso;omega)
   ·rw [if_neg e2] at hd
    repeat' first|apply step|(apply gO;·repeat first|exact eZ|(apply eS;exact rfl))|(refine Br.mk (fun _=>?_) (fun _=>?_)<;>try (exfalso;omega))|(refine Sd.mk ?_ ?_;·exact qD)|(refine Sx.mk ?_ ?_;·omega)|refine Im.mk fun _=>?_|refine g_cond ?_|refine g_keep ?_
    all_goals first|(exfalso;omega)|exact lp_next (j + 1) ⟨by omega,hd⟩ (by omega)
 ·have e:j=6:=by omega
  subst e
  have hd0:(0:Int)=cmpE a b:=hd
  rw [← hd0] at hR
  repeat' first|apply step|(apply gO;·repeat first|exact eZ|(apply eS;exact rfl))|(refine Br.mk (fun _=>?_) (fun _=>?_)<;>try (exfalso;omega))|refine g_cond ?_|refine g_keep ?_|refine g_fin ?_
  all_goals first|exact fin hR|(exfalso;omega)
def zEd:HEd:=⟨0,0,0,0,0,0⟩
theorem zG {a b:HEd}:cmpE a b < 0 ↔ ltE a b:=by
 rcases zF (tupE a) (tupE b) with q|q|q
 ·have e:cmpE a b=-1:=q
  unfold ltE
  rw [e];decide
 ·have e:cmpE a b=0:=q
  unfold ltE
  rw [e];decide
 ·have e:cmpE a b=1:=q
  unfold ltE
  rw [e];decide
theorem za5 {O:List HEd} {x:HEd} (h:0 < O.length):upE O x ↔ ltE O[O.length - 1] x:=by
 have e:O.getLast? = some O[O.length - 1]:=by rw [List.getLast?_eq_getElem?,List.getElem?_eq_getElem (by omega)]
 unfold upE
 rw [e]
 exact ⟨fun q=>q _ rfl,fun q y hy=>by cases hy;exact q⟩
theorem zad {O:List HEd} {x:HEd} (h:((O.length:Int) - 1).toNat < O.length):upE O x ↔ ltE O[((O.length:Int) - 1).toNat] x:=by
 have e:((O.length:Int) - 1).toNat=O.length - 1:=by omega
 rw [za5 (by omega)]
 simp only [e]
theorem zaq {x:HEd}:upE [] x:=fun y hy=>by cases hy
/-- The least above the last, of the first ones. -/
def BstI (l O:List HEd) (k:Nat) (b:Option HEd):Prop:=(b=none→∀ x ∈ l.take k,¬ upE O x)∧∀ y,b=some y→y ∈ l∧upE O y∧∀ x ∈ l.take k,upE O x→¬ ltE x y
theorem BstI.skip {l O:List HEd} {k:Nat} {b:Option HEd} (i:BstI l O k b) (hk:k < l.length) (hn:¬ upE O l[k]):BstI l O (k + 1) b:=by
 refine ⟨fun e x hx=>?_,fun y e=>?_⟩
 ·rw [List.take_succ_eq_append_getElem hk] at hx
  rcases List.mem_append.1 hx with q|q
  ·exact i.1 e x q
  ·rw [List.mem_singleton.1 q];exact hn
 ·obtain ⟨h1,h2,h3⟩:=i.2 y e
  refine ⟨h1,h2,fun x hx hu=>?_⟩
  rw [List.take_succ_eq_append_getElem hk] at hx
  rcases List.mem_append.1 hx with q|q
  ·exact h3 x q hu
  ·rw [List.mem_singleton.1 q] at hu;exact absurd hu hn
theorem BstI.new {l O:List HEd} {k:Nat} {b:Option HEd} (i:BstI l O k b) (hk:k < l.length) (hu:upE O l[k]) (hb:∀ y,b=some y→ltE l[k] y):BstI l O (k + 1) (some l[k]):=by
 refine ⟨fun e=>(by cases e),fun y e=>?_⟩
 cases e
 refine ⟨List.getElem_mem _,hu,fun x hx hux=>?_⟩
 rw [List.take_succ_eq_append_getElem hk] at hx
 rcases List.mem_append.1 hx with q|q
 ·cases hb2:b with
  | none=>exact absurd hux (i.1 hb2 x q)
  | some y =>
   have h1:=(i.2 y hb2).2.2 x q hux
   intro g
   exact h1 (zw g (hb y hb2))
 ·rw [List.mem_singleton.1 q];exact zf _
theorem BstI.old {l O:List HEd} {k:Nat} {y:HEd} (i:BstI l O k (some y)) (hk:k < l.length) (hn:¬ ltE l[k] y):BstI l O (k + 1) (some y):=by
 obtain ⟨h1,h2,h3⟩:=i.2 y rfl
 refine ⟨fun e=>(by cases e),fun z e=>?_⟩
 cases e
 refine ⟨h1,h2,fun x hx hu=>?_⟩
 rw [List.take_succ_eq_append_getElem hk] at hx
 rcases List.mem_append.1 hx with q|q
 ·exact h3 x q hu
 ·rw [List.mem_singleton.1 q];exact hn
theorem za9 (hl:l.length≤20000000000) (hlb:∀ x ∈ l,bE x):Spec prog1 zq [.slice p l.length c] [rdl kHEd p l] (fun R=>∀ Z p' c',SrtI l Z→(∀ x,x ∈ Z ↔ x ∈ l)→R (.slice p' Z.length c') [own kHEd p' c' Z]):=by
 refine spec_code za3 rfl ?_;intro n F R hR;unfold zI
 repeat' first|apply step|(apply gO;·repeat first|exact eZ|(apply eS;exact rfl))|refine g_keep ?_
 refine at_loopS (ι:=Nat × (Option Addr × Nat) × List HEd) (E:=fun z=>[(0,.slice p l.length c),(3,.slice z.2.1.1 z.2.2.length z.2.1.2),(4,.int .i64 (z.1:Int))]) (Δ:=fun z=>own kHEd z.2.1.1 z.2.1.2 z.2.2::rdl kHEd p l::F) (P:=fun z=>z.1≤l.length + 1∧SrtI l z.2.2∧z.2.2.length=z.1) (μ:=fun z=>l.length + 1 - z.1) (0,(none,0),[]) ⟨Nat.zero_le _,SrtI.nil l,rfl⟩ ?_
 rintro ⟨n1,⟨po,co⟩,O⟩ ⟨hn,hO,hOl⟩
 dsimp only at hn hO hOl ⊢
 have hlen:=hO.len
 rcases Nat.lt_or_ge n1 (l.length + 1) with hlt|hge
 ·repeat' first|apply step|(apply gO;·repeat first|exact eZ|(apply eS;exact rfl))|(refine Br.mk (fun _=>?_) (fun _=>?_)<;>try (exfalso;omega))|refine Fa.mk fun _=>?_|refine g_cond ?_|refine g_keep ?_
  rename_i bb
  refine at_loopS (ι:=Nat × Option HEd) (E:=fun z=>[(0,.slice p l.length c),(3,.slice po O.length co),(4,.int .i64 (n1:Int)),(5,.pointer (some ⟨bb,0,none⟩)),(6,.bool z.2.isSome),(7,.int .i64 (z.1:Int))]) (Δ:=fun z=>pt bb [.int .i64 (z.2.getD zEd).src,.int .i64 (z.2.getD zEd).dst,.int .i64 (z.2.getD zEd).kind,.int .i64 (z.2.getD zEd).key,.int .i64 (z.2.getD zEd).left,.int .i64 (z.2.getD zEd).right] 0::own kHEd po co O::rdl kHEd p l::F) (P:=fun z=>z.1≤l.length∧BstI l O z.1 z.2) (μ:=fun z=>l.length - z.1) (0,none) ⟨Nat.zero_le _,fun _ x hx=>(by simp at hx),fun y e=>(by cases e)⟩ ?_
  rintro ⟨k,bo⟩ ⟨hk,hB⟩
  dsimp only at hk hB ⊢
  rcases Nat.lt_or_ge k l.length with hlk|hgk
  ·have hbk:=hlb l[k] (List.getElem_mem _)
   by_cases hO0:0 < O.length
   ·have hiL:((O.length:Int) - 1).toNat < O.length:=by omega
    have hbL:=hlb (O[((O.length:Int) - 1).toNat]'hiL) (hO.m _ (List.getElem_mem _))
    by_cases hc:cmpE l[k] (O[((O.length:Int) - 1).toNat]'hiL)≤0
    ·have hu:¬ upE O l[k]:=fun q=>z4.1 hc ((zad hiL).1 q)
     repeat' first|apply step|(apply gO;·repeat first|exact eZ|(apply eS;exact rfl))|(refine Br.mk (fun _=>?_) (fun _=>?_)<;>try (exfalso;omega))|(refine Sd.mk ?_ ?_;·exact qD)|(refine Sx.mk ?_ ?_;·omega)|refine Fa.mk fun _=>?_|refine Im.mk fun _=>?_|refine g_cond ?_|refine g_guard ?_
     all_goals try (exfalso;omega)
     refine at_callS (zp hbk hbL) ?_
     repeat' first|apply step|(apply gO;·repeat first|exact eZ|(apply eS;exact rfl))|(refine Br.mk (fun _=>?_) (fun _=>?_)<;>try (exfalso;omega))|(refine Sd.mk ?_ ?_;·exact qD)|refine g_cond ?_|refine g_guard ?_|refine g_keep ?_
     all_goals first|(exfalso;omega)|exact lp_next (k + 1,bo) ⟨by dsimp only;omega,hB.skip hlk hu⟩ (by dsimp only;omega)
    ·have hu:upE O l[k]:=(zad hiL).2 (Classical.byContradiction fun q=>hc (z4.2 q))
     cases bo with
     | none =>
      dsimp only [Option.isSome,Option.getD]
      repeat' first|apply step|(apply gO;·repeat first|exact eZ|(apply eS;exact rfl))|(refine Br.mk (fun _=>?_) (fun _=>?_)<;>try (exfalso;omega))|(refine Sd.mk ?_ ?_;·exact qD)|(refine Sx.mk ?_ ?_;·omega)|refine Fa.mk fun _=>?_|refine Im.mk fun _=>?_|refine g_cond ?_|refine g_guard ?_
      all_goals try (exfalso;omega)
      refine at_callS (zp hbk hbL) ?_
      repeat' first|apply step|(apply gO;·repeat first|exact eZ|(apply eS;exact rfl))|(refine Br.mk (fun _=>?_) (fun _=>?_)<;>try (exfalso;omega))|(refine Sd.mk ?_ ?_;·exact qD)|(refine Sx.mk ?_ ?_;·omega)|refine Fa.mk fun _=>?_|refine Im.mk fun _=>?_|refine g_cond ?_|refine g_guard ?_|refine g_keep ?_
      all_goals try (exfalso;omega)
      all_goals first|(exfalso;omega)|exact lp_next (k + 1,some l[k]) ⟨by dsimp only;omega,hB.new hlk hu (fun y e=>by cases e)⟩ (by dsimp only;omega)
     | some y =>
      obtain ⟨hy1,hy2,hy3⟩:=hB.2 y rfl
      have hby:=hlb y hy1
      dsimp only [Option.isSome,Option.getD]
      repeat' first|apply step|(apply gO;·repeat first|exact eZ|(apply eS;exact rfl))|(refine Br.mk (fun _=>?_) (fun _=>?_)<;>try (exfalso;omega))|(refine Sd.mk ?_ ?_;·exact qD)|(refine Sx.mk ?_ ?_;·omega)|refine Fa.mk fun _=>?_|refine Im.mk fun _=>?_|refine g_cond ?_|refine g_guard ?_
      all_goals try (exfalso;omega)
      refine at_callS (zp hbk hbL) ?_
      repeat' first|apply step|(apply gO;·repeat first|exact eZ|(apply eS;exact rfl))|(refine Br.mk (fun _=>?_) (fun _=>?_)<;>try (exfalso;omega))|(refine Sd.mk ?_ ?_;·exact qD)|(refine Sx.mk ?_ ?_;·omega)|refine Fa.mk fun _=>?_|refine Im.mk fun _=>?_|refine g_cond ?_|refine g_guard ?_|refine g_keep ?_
      all_goals try (exfalso;omega)
      all_goals try (exfalso;omega)
      refine at_callS (zp hbk hby) ?_
      by_cases hlt2:cmpE l[k] y < 0
      ·repeat' first|apply step|(apply gO;·repeat first|exact eZ|(apply eS;exact rfl))|(refine Br.mk (fun _=>?_) (fun _=>?_)<;>try (exfalso;omega))|(refine Sd.mk ?_ ?_;·exact qD)|(refine Sx.mk ?_ ?_;·omega)|refine Fa.mk fun _=>?_|refine Im.mk fun _=>?_|refine g_cond ?_|refine g_guard ?_|refine g_keep ?_
       all_goals first|(exfalso;omega)|exact lp_next (k + 1,some l[k]) ⟨by dsimp only;omega,hB.new hlk hu (fun z e=>by cases e;exact zG.1 hlt2)⟩ (by dsimp only;omega)
      ·repeat' first|apply step|(apply gO;·repeat first|exact eZ|(apply eS;exact rfl))|(refine Br.mk (fun _=>?_) (fun _=>?_)<;>try (exfalso;omega))|(refine Sd.mk ?_ ?_;·exact qD)|refine g_cond ?_|refine g_guard ?_|refine g_keep ?_
       all_goals first|(exfalso;omega)|exact lp_next (k + 1,some y) ⟨by dsimp only;omega,hB.old hlk (fun g=>hlt2 (zG.2 g))⟩ (by dsimp only;omega)
   ·have hOe:O=[]:=List.eq_nil_of_length_eq_zero (by omega)
    subst hOe
    have hu:upE [] l[k]:=zaq
    cases bo with
    | none =>
     dsimp only [Option.isSome,Option.getD]
     repeat' first|apply step|(apply gO;·repeat first|exact eZ|(apply eS;exact rfl))|(refine Br.mk (fun _=>?_) (fun _=>?_)<;>try (exfalso;omega))|(refine Sd.mk ?_ ?_;·exact qD)|(refine Sx.mk ?_ ?_;·omega)|refine Fa.mk fun _=>?_|refine Im.mk fun _=>?_|refine g_cond ?_|refine g_guard ?_|refine g_keep ?_
     all_goals first|(exfalso;omega)|exact lp_next (k + 1,some l[k]) ⟨by dsimp only;omega,hB.new hlk hu (fun y e=>by cases e)⟩ (by dsimp only;omega)
    | some y =>
     obtain ⟨hy1,hy2,hy3⟩:=hB.2 y rfl
     have hby:=hlb y hy1
     dsimp only [Option.isSome,Option.getD]
     repeat' first|apply step|(apply gO;·repeat first|exact eZ|(apply eS;exact rfl))|(refine Br.mk (fun _=>?_) (fun _=>?_)<;>try (exfalso;omega))|(refine Sd.mk ?_ ?_;·exact qD)|(refine Sx.mk ?_ ?_;·omega)|refine Fa.mk fun _=>?_|refine Im.mk fun _=>?_|refine g_cond ?_|refine g_guard ?_|refine g_keep ?_
     all_goals try (exfalso;omega)
     refine at_callS (zp hbk hby) ?_
     by_cases hlt2:cmpE l[k] y < 0
     ·repeat' first|apply step|(apply gO;·repeat first|exact eZ|(apply eS;exact rfl))|(refine Br.mk (fun _=>?_) (fun _=>?_)<;>try (exfalso;omega))|(refine Sd.mk ?_ ?_;·exact qD)|(refine Sx.mk ?_ ?_;·omega)|refine Fa.mk fun _=>?_|refine Im.mk fun _=>?_|refine g_cond ?_|refine g_guard ?_|refine g_keep ?_
      all_goals first|(exfalso;omega)|exact lp_next (k + 1,some l[k]) ⟨by dsimp only;omega,hB.new hlk hu (fun z e=>by cases e;exact zG.1 hlt2)⟩ (by dsimp only;omega)
     ·repeat' first|apply step|(apply gO;·repeat first|exact eZ|(apply eS;exact rfl))|(refine Br.mk (fun _=>?_) (fun _=>?_)<;>try (exfalso;omega))|(refine Sd.mk ?_ ?_;·exact qD)|refine g_cond ?_|refine g_guard ?_|refine g_keep ?_
      all_goals first|(exfalso;omega)|exact lp_next (k + 1,some y) ⟨by dsimp only;omega,hB.old hlk (fun g=>hlt2 (zG.2 g))⟩ (by dsimp only;omega)
  ·have e:k=l.length:=by omega
   subst e
   unfold BstI at hB
   rw [List.take_length] at hB
   cases bo with
   | none =>
    dsimp only [Option.isSome,Option.getD]
    have hfin:=hO.fin (hB.1 rfl)
    repeat' first|apply step|(apply gO;·repeat first|exact eZ|(apply eS;exact rfl))|(refine Br.mk (fun _=>?_) (fun _=>?_)<;>try (exfalso;omega))|refine g_cond ?_|refine g_keep ?_|refine g_fin ?_
    exact fin (hR _ _ _ hO hfin)
   | some y =>
    obtain ⟨hy1,hy2,hy3⟩:=hB.2 y rfl
    obtain ⟨⟨b1,b2⟩,⟨b3,b4⟩,⟨b5,b6⟩,⟨b7,b8⟩,⟨b9,b10⟩,⟨b11,b12⟩⟩:=hlb y hy1
    have hnx:=hO.next hy1 hy2 hy3
    dsimp only [Option.isSome,Option.getD]
    repeat' first|apply step|(apply gO;·repeat first|exact eZ|(apply eS;exact rfl))|(refine Br.mk (fun _=>?_) (fun _=>?_)<;>try (exfalso;omega))|(refine Sd.mk ?_ ?_;·exact qD)|refine Fa.mk fun _=>?_|refine g_cond ?_|refine g_keep ?_
    exact lp_next (n1 + 1,(_,_),O++[⟨y.src,y.dst,y.kind,y.key,y.left,y.right⟩]) ⟨by dsimp only;omega,hnx,by dsimp only;rw [List.length_append];simp;omega⟩ (by dsimp only;omega)
 ·omega
end
end Go.AMS

namespace Go.AMS
open Go.AM hiding Kt At WP WL Runs RunsY
open Go.AM.G
set_option linter.unusedVariables false
set_option linter.unusedSimpArgs false
theorem zS {m:M}:∀ {l:List HEd} {cs:List Value},Cells kHEd m cs l→cs=(l.map tupE).flatMap AM.x6c∧∀ a ∈ l,kHEd.rd m (AM.x6c (tupE a)) a
 | [],cs,h=>⟨h,by simp⟩
 | t::l,cs,⟨c,r,e,h1,h2⟩=>by
  obtain ⟨e1,e2⟩:=zS h2
  obtain ⟨v0,v1,v2,v3,v4,v5,hc,q0,q1,q2,q3,q4,q5⟩:=id h1
  have k0:v0=.int .i64 t.src:=(List.cons.inj q0.1).1
  have k1:v1=.int .i64 t.dst:=(List.cons.inj q1.1).1
  have k2:v2=.int .i64 t.kind:=(List.cons.inj q2.1).1
  have k3:v3=.int .i64 t.key:=(List.cons.inj q3.1).1
  have k4:v4=.int .i64 t.left:=(List.cons.inj q4.1).1
  have k5:v5=.int .i64 t.right:=(List.cons.inj q5.1).1
  subst k0 k1 k2 k3 k4 k5
  have hx:c=AM.x6c (tupE t):=hc
  refine ⟨by rw [e,e1,hx];rfl,fun a ha=>?_⟩
  rcases List.mem_cons.1 ha with rfl|ha
  ·rw [← hx];exact h1
  ·exact e2 a ha
theorem zag {m:M}:∀ {zs:List HEd},(∀ z ∈ zs,kHEd.rd m (AM.x6c (tupE z)) z)→Cells kHEd m ((zs.map tupE).flatMap AM.x6c) zs
 | [],_=>rfl
 | z::zs,h=>⟨_,_,by rw [List.map_cons,List.flatMap_cons],h z (by simp),zag fun y hy=>h y (by simp [hy])⟩
theorem zM:∀ a b:List Int,AM.cmpL a b=cmpL a b
 | [],b=>by cases b <;> rfl
 | x::a,[]=>rfl
 | x::a,y::b=>by
  simp only [AM.cmpL,cmpL,zM a b]
def unT:List Int→HEd
 | [a,b,c,d,e,f]=>⟨a,b,c,d,e,f⟩
 | _=>⟨0,0,0,0,0,0⟩
theorem za8 (a:HEd):unT (tupE a)=a:=rfl
theorem za2 {x:List Int} (h:x.length=6):tupE (unT x)=x:=by
 obtain ⟨a,b,c,d,e,f,rfl⟩:=AM.six_inv h
 rfl
theorem zac:∀ {l:List (List Int)},(∀ x ∈ l,x.length=6)→(l.map unT).map tupE=l
 | [],_=>rfl
 | x::l,h=>by
  rw [List.map_cons,List.map_cons,za2 (h x (by simp)),zac fun y hy=>h y (List.mem_cons_of_mem _ hy)]
theorem tups6 (l:List HEd):∀ x ∈ l.map tupE,x.length=6:=fun x hx=>by
 obtain ⟨a,_,rfl⟩:=List.mem_map.1 hx;rfl
/-- Edges, sorted. -/
def sortE (l:List HEd):List HEd:=(AM.sortG (l.map tupE)).map unT
theorem zK (l:List HEd):(sortE l).Perm l:=by
 have:=(AM.sortG_perm (l.map tupE)).map unT
 rw [List.map_map] at this
 have e:l.map (unT ∘ tupE)=l:=by
  have:(unT ∘ tupE)=id:=by funext a;exact za8 a
  rw [this,List.map_id]
 rw [e] at this
 exact this
theorem z6 (l:List HEd):(sortE l).map tupE=AM.sortG (l.map tupE):=zac fun x hx=>tups6 l x ((AM.sortG_perm _).mem_iff.1 hx)
theorem zay (l:List HEd):(sortE l).Pairwise fun a b=>¬ ltE b a:=by
 have h:=AM.sortG_sorted (tups6 l)
 rw [← z6] at h
 have h:=List.pairwise_map.1 h
 refine h.imp fun {a b} q g=>q ?_
 rw [zM]
 show cmpE b a < 0
 unfold ltE at g
 rw [g];decide
theorem zae (l:List HEd):(sortE l).length=l.length:=(zK l).length_eq
theorem zaQ {p:Option Addr} {c:Nat} {l:List HEd} (hl:l.length≤100000000000):Spec prog1 zy [.slice p l.length c,.func (.func za) #[] #[]] [own kHEd p c l] (fun R=>R (.tuple #[]) [own kHEd p c (sortE l)]):=by
 intro n F h R hs hw H hH
 obtain ⟨⟨S,⟨t1,t2,k1,k3,k4,k5⟩,k6⟩,hp,hn⟩:=id hs
 by_cases h0:l=[]
 ·subst h0
  have e:sortE []=[]:=rfl
  rw [e] at hw
  refine ⟨1,.tuple #[],H,h,?_,rfl,hH,.refl h,rfl,_,hw,hs⟩
  simp only [callV,z3,AM.sortEO,Nat.beq_refl,Bool.true_and,cond_true,List.isEmpty_nil,Bool.and_self]
  rfl
 ·have k1':∃ b cs,p=some ⟨b,0,none⟩∧b < h.size∧h.get b=some (.cells cs (some kHEd.esz))∧Cells kHEd (tz h) cs l∧t1=(·=b):=by
   unfold own at k1
   rcases k1 with ⟨_,_,h1,_⟩|k1
   ·exact absurd h1 h0
   ·exact k1
  obtain ⟨b,cs,rfl,h2,h3,h4,rfl⟩:=k1'
  obtain ⟨hz2,hz3⟩:=zS h4
  have hcl:cs.length=l.length * 6:=by rw [hz2,AM.x6c_len (tups6 l),List.length_map]
  have hn0:¬ l.length=0:=by simpa using h0
  have hb:n≤b:=k6 b ((k5 b).2 (.inl rfl))
  obtain ⟨own',e1,e2⟩:=hH.cells h3
  have e3:H.get b=some (.cells cs (some 6)):=by
   rcases e2 with rfl|e2
   ·exact e1
   ·cases e2
  have hsp:splice cs 0 (((sortE l).map tupE).flatMap AM.x6c)=((sortE l).map tupE).flatMap AM.x6c:=by
   unfold splice
   simp only [List.take_zero,List.nil_append,Nat.zero_add]
   rw [AM.x6c_len (tups6 _),List.length_map,zae,List.drop_eq_nil_of_le (by omega),List.append_nil]
  have hst:St h (h.set b (.cells (((sortE l).map tupE).flatMap AM.x6c) (some 6))):=.set _ (by rw [hp];exact hb) (fun x hx=>by rw [h3] at hx;cases hx)
  refine ⟨1,.tuple #[],H.set b (.cells (((sortE l).map tupE).flatMap AM.x6c) (some 6)),h.set b (.cells (((sortE l).map tupE).flatMap AM.x6c) (some 6)),?_,rfl,hH.set _ _,hst,rfl,_,hw,⟨S,⟨(·=b),t2,?_,k3.loc hst (fun x hx=>by rw [Heap.get_set,if_neg (fun e=>k4 x e hx)]),k4,k5⟩,k6⟩,hp,hn⟩
  ·simp only [callV,z3,AM.sortEO]
   rw [show (Nat.beq za za && (#[]:Array Value).toList.isEmpty && (#[]:Array Value).toList.isEmpty)=true by simp,cond_true,if_neg hn0]
   simp only [e3]
   rw [if_pos ⟨trivial,by have:=hH.prot;omega,by omega,by omega⟩]
   rw [List.drop_zero,show l.length * 6=cs.length by omega,List.take_length,hz2,AM.x6s_of (tups6 l)]
   simp only []
   rw [← z6,← hz2,hsp]
  ·unfold own
   refine .inr ⟨b,_,rfl,h2,by rw [Heap.get_set,if_pos rfl];rfl,?_,rfl⟩
   exact Cells.mono (St_tz hst) (zag fun z hz=>hz3 z ((zK l).mem_iff.1 hz))
end Go.AMS

namespace Go.AMS
open Go.AM hiding Kt At WP WL Runs RunsY
open Go.AM.G
set_option linter.unusedVariables false
set_option linter.unusedSimpArgs false
set_option linter.unusedSectionVars false
set_option maxRecDepth 100000
set_option maxHeartbeats 1000000
attribute [local irreducible] AtS AtV AtC AtG FinA Spec Post LP G.At G.WP G.WL pt own fro rdl ro hx mp lrec elt sub

open Go.AM.G.Set Go.AM.G.Pre
def orL:List Int→Int
 | []=>0
 | x::l=>if x=0 then orL l else x
def cmI (x y:Int):Int:=if x < y then -1 else if y < x then 1 else 0
theorem zo (x y:Int):-1≤cmI x y∧cmI x y≤1:=by
 unfold cmI
 split
 ·decide
 ·split <;> decide
theorem zab:∀ a b:List Int,a.length=b.length→cmpL a b=orL ((a.zip b).map fun z=>cmI z.1 z.2)
 | [],[],_=>rfl
 | [],_::_,h=>by simp at h
 | _::_,[],h=>by simp at h
 | x::a,y::b,h=>by
  have ih:=zab a b (by simpa using h)
  simp only [cmpL,List.zip_cons_cons,List.map_cons,orL,cmI,ih]
  by_cases h1:x < y
  ·simp [h1]
  ·by_cases h2:y < x
   ·simp [h1,h2]
   ·simp [h1,h2]
theorem zaG {l:List Int} {i:Nat} (h:i < l.length):orL (l.drop i)=if l[i]=0 then orL (l.drop (i + 1)) else l[i]:=by
 rw [List.drop_eq_getElem_cons h];rfl
section
variable {prog:AProg} {p:Option Addr} {c:Nat} {l:List Int} {x y:Int}
theorem z7 (zd:prog zc=some (.code ze)):Spec prog zc [.int .i64 x] [] (fun R=>R (.bool false) []):=by
 refine spec_code zd rfl ?_;intro n F R hR;unfold ze
 repeat' first|apply step|(apply gO;·repeat first|exact eZ|(apply eS;exact rfl))|(refine Br.mk (fun _=>?_) (fun _=>?_)<;>try (exfalso;omega))|refine g_fin ?_
 all_goals first|exact fin hR|(exfalso;omega)
theorem za1 (zd:prog zc=some (.code ze)) (zm:prog zb=some (.code zh)):Spec prog zb [.int .i64 x,.int .i64 y] [] (fun R=>R (.int .i64 (cmI x y)) []):=by
 refine spec_code zm rfl ?_;intro n F R hR;unfold zh
 repeat' first|apply step|(apply gO;·repeat first|exact eZ|(apply eS;exact rfl))
 refine at_callS (z7 zd) ?_
 repeat' first|apply step|(apply gO;·repeat first|exact eZ|(apply eS;exact rfl))
 refine at_callS (z7 zd) ?_
 unfold cmI at hR
 repeat' first|apply step|(apply gO;·repeat first|exact eZ|(apply eS;exact rfl))|(refine Br.mk (fun _=>?_) (fun _=>?_)<;>try (exfalso;omega))|refine g_cond ?_|refine g_fin ?_
 ·rw [if_pos ‹_›] at hR;exact fin hR
 ·rw [if_neg (by omega),if_pos ‹_›] at hR;exact fin hR
 ·rw [if_neg (by omega),if_neg (by omega)] at hR;exact fin hR
theorem zaU (zj:prog zg=some (.code zi)) (hl:l.length≤1000):Spec prog zg [.slice p l.length c] [own (kInt .i64) p c l] (fun R=>R (.int .i64 (orL l)) []):=by
 refine spec_code zj rfl ?_;intro n F R hR;unfold zi
 repeat' first|apply step|(apply gO;·repeat first|exact eZ|(apply eS;exact rfl))|refine g_keep ?_
 refine at_loopS (ι:=Nat) (E:=fun i=>[(3,.int .i64 0),(6,.slice p l.length c),(7,.int .i64 (l.length:Int)),(8,.int .i64 (i:Int))]) (Δ:=fun i=>own (kInt .i64) p c l::F) (P:=fun i=>i≤l.length∧orL (l.drop i)=orL l) (μ:=fun i=>l.length - i) 0 ⟨Nat.zero_le _,rfl⟩ ?_
 rintro i ⟨hi,hd⟩
 try dsimp only at hi hd ⊢
 rcases Nat.lt_or_ge i l.length with hlt|hge
 ·rw [zaG hlt] at hd
  by_cases e:l[i]=0
  ·rw [if_pos e] at hd
   repeat' first|apply step|(apply gO;·repeat first|exact eZ|(apply eS;exact rfl))|(refine Br.mk (fun _=>?_) (fun _=>?_)<;>try (exfalso;omega))|(refine Sd.mk ?_ ?_;·exact qD)|(refine Sx.mk ?_ ?_;·omega)|refine Im.mk fun _=>?_|refine g_cond ?_|refine g_keep ?_
   all_goals first|(exfalso;omega)|exact lp_next (i + 1) ⟨by omega,hd⟩ (by omega)
  ·rw [if_neg e] at hd
   rw [← hd] at hR
   repeat' first|apply step|(apply gO;·repeat first|exact eZ|(apply eS;exact rfl))|(refine Br.mk (fun _=>?_) (fun _=>?_)<;>try (exfalso;omega))|(refine Sd.mk ?_ ?_;·exact qD)|(refine Sx.mk ?_ ?_;·omega)|refine Im.mk fun _=>?_|refine g_cond ?_|refine g_fin ?_
   all_goals first|(exfalso;omega)|exact fin hR
 ·have e:i=l.length:=by omega
  subst e
  rw [List.drop_length] at hd
  have hd0:(0:Int)=orL l:=hd
  rw [← hd0] at hR
  repeat' first|apply step|(apply gO;·repeat first|exact eZ|(apply eS;exact rfl))|(refine Br.mk (fun _=>?_) (fun _=>?_)<;>try (exfalso;omega))|refine g_cond ?_|refine g_keep ?_|refine g_fin ?_
  all_goals first|(exfalso;omega)|exact fin hR
theorem zaa (zd:prog zc=some (.code ze)) (zm:prog zb=some (.code zh)) (zj:prog zg=some (.code zi)) (zr:prog za=some (.code zn)) {a b:HEd} :
  Spec prog za [.agg #[.int .i64 a.src,.int .i64 a.dst,.int .i64 a.kind,.int .i64 a.key,.int .i64 a.left,.int .i64 a.right],.agg #[.int .i64 b.src,.int .i64 b.dst,.int .i64 b.kind,.int .i64 b.key,.int .i64 b.left,.int .i64 b.right]] [] (fun R=>R (.int .i64 (cmpE a b)) []):=by
 refine spec_code zr rfl ?_;intro n F R hR;unfold zn
 have hc:∀ x y:Int,Spec prog zb [.int .i64 x,.int .i64 y] [] (fun R=>R (.int .i64 (cmI x y)) []):=fun x y=>za1 zd zm
 have he:cmpE a b=orL [cmI a.src b.src,cmI a.dst b.dst,cmI a.kind b.kind,cmI a.key b.key,cmI a.left b.left,cmI a.right b.right]:=zab (tupE a) (tupE b) rfl
 rw [he] at hR
 have ho:=fun (p:Option Addr) (c:Nat)=>zaU (p:=p) (c:=c) (l:=[cmI a.src b.src,cmI a.dst b.dst,cmI a.kind b.kind,cmI a.key b.key,cmI a.left b.left,cmI a.right b.right]) zj (by simp)
 have b1:=zo a.src b.src
 have b2:=zo a.dst b.dst
 have b3:=zo a.kind b.kind
 have b4:=zo a.key b.key
 have b5:=zo a.left b.left
 have b6:=zo a.right b.right
 repeat' first|apply step|(apply gO;·repeat first|exact eZ|(apply eS;exact rfl))|refine Fa.mk fun _=>?_
 refine at_callR (hc a.src b.src) ?_
 repeat' first|apply step|(apply gO;·repeat first|exact eZ|(apply eS;exact rfl))|apply Lw.go
 refine at_callR (hc a.dst b.dst) ?_
 repeat' first|apply step|(apply gO;·repeat first|exact eZ|(apply eS;exact rfl))|apply Lw.go
 refine at_callR (hc a.kind b.kind) ?_
 repeat' first|apply step|(apply gO;·repeat first|exact eZ|(apply eS;exact rfl))|apply Lw.go
 refine at_callR (hc a.key b.key) ?_
 repeat' first|apply step|(apply gO;·repeat first|exact eZ|(apply eS;exact rfl))|apply Lw.go
 refine at_callR (hc a.left b.left) ?_
 repeat' first|apply step|(apply gO;·repeat first|exact eZ|(apply eS;exact rfl))|apply Lw.go
 refine at_callR (hc a.right b.right) ?_
 generalize cmI a.src b.src=m1 at *
 generalize cmI a.dst b.dst=m2 at *
 generalize cmI a.kind b.kind=m3 at *
 generalize cmI a.key b.key=m4 at *
 generalize cmI a.left b.left=m5 at *
 generalize cmI a.right b.right=m6 at *
 repeat' first|apply step|(apply gO;·repeat first|exact eZ|(apply eS;exact rfl))|refine Fa.mk fun _=>?_|apply Lw.go
 rename_i lb
 refine av_via (pt_own (K:=kInt .i64) (b:=lb) (cs:=[.int .i64 m1,.int .i64 m2,.int .i64 m3,.int .i64 m4,.int .i64 m5,.int .i64 m6]) (l:=[m1,m2,m3,m4,m5,m6]) (cap:=6) rfl (show OfVs _ (kInt .i64) [.int .i64 m1,.int .i64 m2,.int .i64 m3,.int .i64 m4,.int .i64 m5,.int .i64 m6] [m1,m2,m3,m4,m5,m6] _ from inferInstance) (by repeat' constructor;all_goals omega)) ?_
 refine at_callS (ho (some ⟨lb,0,none⟩) 6) ?_
 repeat' first|apply step|(apply gO;·repeat first|exact eZ|(apply eS;exact rfl))|refine g_keep ?_|refine g_fin ?_
 exact fin hR
end
section
instance dec_HEd:DecidableEq HEd:=fun a b=>decidable_of_iff (a.src=b.src∧a.dst=b.dst∧a.kind=b.kind∧a.key=b.key∧a.left=b.left∧a.right=b.right) (by cases a;cases b;simp)
instance zk_ed:ZeroK [.int .i64 0,.int .i64 0,.int .i64 0,.int .i64 0,.int .i64 0,.int .i64 0] kHEd ⟨0,0,0,0,0,0⟩:=⟨fun m=>⟨_,_,_,_,_,_,rfl,⟨rfl,by decide,by decide⟩,⟨rfl,by decide,by decide⟩,⟨rfl,by decide,by decide⟩,⟨rfl,by decide,by decide⟩,⟨rfl,by decide,by decide⟩,⟨rfl,by decide,by decide⟩⟩⟩
theorem zA {a b:HEd}:(a.src=b.src∧a.dst=b.dst∧a.kind=b.kind∧a.key=b.key∧a.left=b.left∧a.right=b.right) ↔ a=b:=by
 cases a;cases b
 simp
theorem zaE {l:List HEd} {i:Nat} {a:HEd} (h:i < l.length):(l.set i a).take (i + 1)=l.take i++[a]:=by
 rw [List.take_succ_eq_append_getElem (by simp;omega),List.take_set_of_le (Nat.le_refl _)];simp
theorem zak {p:Option Addr} {c:Nat} {l:List HEd} (hl:l.length≤100000000000):Spec prog1 zu [.slice p l.length c] [own kHEd p c l] (fun R=>∀ c' (l':List HEd),l'.take (compactL l).length=compactL l→(compactL l).length≤l'.length→R (.slice p (compactL l).length c') [own kHEd p c l']):=by
 refine spec_code zap rfl ?_;intro n F R hR;unfold zD
 have same:compactL l=l→R (.slice p l.length c) [own kHEd p c l]:=fun e=>by
  have:=hR c l (by rw [e,List.take_length]) (by rw [e];exact Nat.le_refl _)
  rwa [e] at this
 repeat' first|apply step|(apply gO;·repeat first|exact eZ|(apply eS;exact rfl))|(refine Br.mk (fun _=>?_) (fun _=>?_)<;>try (exfalso;omega))|refine g_cond ?_|refine g_keep ?_|refine g_fin ?_
 ·exact fin (same (compactL_short (by omega)))
 refine at_loopS (ι:=Nat) (E:=fun k=>[(0,.slice p l.length c),(3,.int .i64 (k:Int))]) (Δ:=fun _=>own kHEd p c l::F) (P:=fun k=>0 < k∧k≤l.length∧∀ i,0 < i→(hi:i < l.length)→i < k→l[i]≠l[i - 1]) (μ:=fun k=>l.length - k) 1 ⟨by omega,by omega,fun i h1 h2 h3=>by omega⟩ ?_
 rintro k ⟨hk0,hk,hI⟩
 repeat' first|apply step|(apply gO;·repeat first|exact eZ|(apply eS;exact rfl))|(refine Br.mk (fun _=>?_) (fun _=>?_)<;>try (exfalso;omega))|(refine Sd.mk ?_ ?_;·exact qD)|(refine Sx.mk ?_ ?_;·omega)|refine Fa.mk fun _=>?_|refine Im.mk fun _=>?_|refine g_cond ?_|refine g_keep ?_|refine g_fin ?_
 ·-- two alike
  rename_i hi1 _ hi2 _ hdup
  have hk1:((k:Int) - 1).toNat=k - 1:=by omega
  simp only [hk1] at hdup
  replace hdup:=zA.1 hdup
  have hkl:k < l.length:=by omega
  have hstart:compactL (l.take (k + 1))=l.take k:=by
   rw [compactL_take hk0 hkl,if_pos hdup]
   refine compactL_id fun i h1 h2=>?_
   have h3:i < k:=by simp at h2;omega
   simp only [List.getElem_take]
   exact hI i h1 (by omega) h3
  refine at_loopS (ι:=Nat × Nat × List HEd) (E:=fun w=>[(0,.slice p l.length c),(3,.int .i64 (w.2.1:Int)),(4,.slice (sub p k 6) (l.length - k) (l.length - k)),(5,.int .i64 (w.1:Int))]) (Δ:=fun w=>own kHEd p c w.2.2::F)
   (P:=fun w=>w.2.2.length=l.length∧1≤w.1∧w.1≤l.length - k∧w.2.1≤k + w.1 - 1∧w.2.2.take w.2.1=compactL (l.take (k + w.1))∧w.2.2.drop (k + w.1 - 1)=l.drop (k + w.1 - 1)) (μ:=fun w=>l.length - w.1) (1,k,l) ⟨rfl,by omega,by omega,by simp,hstart.symm,rfl⟩ ?_
  rintro ⟨j,kk,l2⟩ ⟨hl2,hj1,hj2,hkk,htk,hdr⟩
  simp only at hl2 hj1 hj2 hkk htk hdr
  have hdl:(l2.drop k).length=l.length - k:=by simp;omega
  have hsame:∀ q,k + j - 1≤q→(hq:q < l.length)→l2[q]'(by omega)=l[q]:=by
   intro q h1 h3
   have:=congrArg (fun z=>z[q - (k + j - 1)]?) hdr
   simp only [List.getElem?_drop] at this
   rw [show k + j - 1 + (q - (k + j - 1))=q by omega,List.getElem?_eq_getElem (by omega),List.getElem?_eq_getElem h3] at this
   exact Option.some.inj this
  have hct:∀ hq:k + j < l.length,compactL (l.take (k + j + 1))=if l[k + j]=l[k + j - 1] then compactL (l.take (k + j)) else compactL (l.take (k + j))++[l[k + j]]:=fun hq=>compactL_take (by omega) hq
  have hj:((j:Int) - 1).toNat=j - 1:=by omega
  dsimp only
  repeat' first|apply step|(apply gO;·repeat first|exact eZ|(apply eS;exact rfl))|(refine Br.mk (fun _=>?_) (fun _=>?_)<;>try (exfalso;omega))|(refine Sd.mk ?_ ?_;·exact qD)|(refine Sx.mk ?_ ?_;·omega)|refine Fa.mk fun _=>?_|refine Im.mk fun _=>?_|refine g_cond ?_|refine g_keep ?_|refine g_fin ?_
  ·have hjn:j < l.length - k:=by omega
   have hq:k + j < l.length:=by omega
   have e1:(l2.drop k)[j]'(by omega)=l[k + j]:=by rw [List.getElem_drop];exact hsame _ (by omega) hq
   have e2:(l2.drop k)[((j:Int) - 1).toNat]'(by omega)=l[k + j - 1]:=by
    rw [List.getElem_drop]
    have:=hsame (k + (j - 1)) (by omega) (by omega)
    simp only [hj]
    rw [this];congr 1;omega
   have hcmp:¬ l[k + j]=l[k + j - 1]:=by rw [← e1,← e2,← zA];assumption
   have hkn:kk < l2.length:=by omega
   rw [e1]
   refine lp_next (j + 1,kk + 1,l2.set kk l[k + j]) ⟨by simp [hl2],by dsimp only;omega,by dsimp only;omega,by dsimp only;omega,?_,?_⟩ (by dsimp only;omega)
   ·show (l2.set kk l[k + j]).take (kk + 1)=compactL (l.take (k + (j + 1)))
    rw [show k + (j + 1)=k + j + 1 by omega,hct hq,if_neg hcmp,← htk,zaE hkn]
   ·show (l2.set kk l[k + j]).drop (k + (j + 1) - 1)=l.drop (k + (j + 1) - 1)
    rw [show k + (j + 1) - 1=k + j by omega,List.drop_set_of_lt (by omega)]
    have:=congrArg (List.drop 1) hdr
    rw [List.drop_drop,List.drop_drop,show k + j - 1 + 1=k + j by omega] at this
    exact this
  ·have hjn:j < l.length - k:=by omega
   have hq:k + j < l.length:=by omega
   have e1:(l2.drop k)[j]'(by omega)=l[k + j]:=by rw [List.getElem_drop];exact hsame _ (by omega) hq
   have e2:(l2.drop k)[((j:Int) - 1).toNat]'(by omega)=l[k + j - 1]:=by
    rw [List.getElem_drop]
    have:=hsame (k + (j - 1)) (by omega) (by omega)
    simp only [hj]
    rw [this];congr 1;omega
   have hcmp:¬ l[k + j]≠l[k + j - 1]:=by rw [← e1,← e2,ne_eq,← zA];assumption
   refine lp_next (j + 1,kk,l2) ⟨hl2,by dsimp only;omega,by dsimp only;omega,by dsimp only;omega,?_,?_⟩ (by dsimp only;omega)
   ·show l2.take kk=compactL (l.take (k + (j + 1)))
    rw [show k + (j + 1)=k + j + 1 by omega,hct hq,if_pos (by simpa using hcmp)];exact htk
   ·show l2.drop (k + (j + 1) - 1)=l.drop (k + (j + 1) - 1)
    have:=congrArg (List.drop 1) hdr
    rw [List.drop_drop,List.drop_drop,show k + j - 1 + 1=k + j by omega] at this
    rw [show k + (j + 1) - 1=k + j by omega];exact this
  ·have hkl2:compactL l=l2.take kk:=by rw [htk,show k + j=l.length by omega,List.take_length]
   have hlen:(compactL l).length=kk:=by rw [hkl2];simp;omega
   have:=hR kk (l2.take kk++List.replicate (l.length - kk) ⟨0,0,0,0,0,0⟩++l2.drop (kk + (l.length - kk))) (by rw [hlen,hkl2,List.append_assoc,List.take_left' (by simp;omega)]) (by rw [hlen];simp;omega)
   rw [hlen] at this
   exact fin this
 ·refine lp_next (k + 1) ⟨by omega,by omega,fun i h1 h2 h3=>?_⟩ (by omega)
  rename_i hdup
  have hk1:((k:Int) - 1).toNat=k - 1:=by omega
  simp only [hk1] at hdup
  by_cases e:i=k
  ·subst e;exact fun q=>hdup (zA.2 q)
  ·exact hI i h1 h2 (by omega)
 ·exact fin (same (compactL_id fun i h1 h2=>hI i h1 h2 (by omega)))
theorem zaF {p:Option Addr} {c:Nat} {l:List HEd} (hl:l.length≤10000000000):Spec prog1 zx [.slice p l.length c] [rdl kHEd p l] (fun R=>∀ p' c',R (.slice p' l.length c') [own kHEd p' c' l]):=by
 refine spec_code zaY rfl ?_;intro n F R hR;unfold zz
 repeat' first|apply step|(apply gO;·repeat first|exact eZ|(apply eS;exact rfl))|(refine Br.mk (fun _=>?_) (fun _=>?_)<;>try (exfalso;omega))|(refine Sd.mk ?_ ?_;·exact qD)|refine Fa.mk fun _=>?_|refine Im.mk fun _=>?_|refine g_cond ?_|refine g_fin ?_
 ·subst_vars
  exact fin (hR none 0)
 ·exact fin (hR _ _)
theorem zU:∀ {l:List HEd},l.Pairwise (fun a b=>¬ ltE b a)→(compactL l).Pairwise ltE
 | [],_=>by simp [compactL]
 | [x],_=>by simp [compactL]
 | x::y::r,h=>by
  rw [List.pairwise_cons] at h
  have ih:=zU h.2
  unfold compactL
  split
  ·exact ih
  ·rename_i hne
   rw [List.pairwise_cons]
   refine ⟨fun a ha=>?_,ih⟩
   have hxy:=h.1 y (by simp)
   rw [mem_compactL] at ha
   have hlt:ltE x y:=by
    rcases zO x y with q|q|q
    ·exact q
    ·exact absurd q hne
    ·exact absurd q hxy
   rcases List.mem_cons.1 ha with rfl|ha
   ·exact hlt
   ·have h2:=h.2
    rw [List.pairwise_cons] at h2
    have h3:=h2.1 a ha
    rcases zO y a with q|q|q
    ·exact zw hlt q
    ·rw [← q];exact hlt
    ·exact absurd q h3
theorem SrtI.of {l Z:List HEd} (h1:Z.Pairwise ltE) (h2:∀ x,x ∈ Z ↔ x ∈ l):SrtI l Z:=⟨h1,fun x hx=>(h2 x).1 hx,fun x hx hn=>absurd ((h2 x).2 hx) hn⟩
/-- edges.Sort: in order, each once. -/
theorem zaR {p:Option Addr} {c:Nat} {l:List HEd} (hl:l.length≤10000000000):Spec prog1 zt [.slice p l.length c] [rdl kHEd p l] (fun R=>∀ Z p' c',SrtI l Z→(∀ x,x ∈ Z ↔ x ∈ l)→R (.slice p' Z.length c') [lst kHEd p' Z]):=by
 refine spec_code zaP rfl ?_;intro n F R hR;unfold zE
 have hm:∀ x,x ∈ compactL (sortE l) ↔ x ∈ l:=fun x=>by rw [mem_compactL];exact (zK l).mem_iff
 have hs:SrtI l (compactL (sortE l)):=.of (zU (zay l)) hm
 have hsl:=zae l
 repeat' first|apply step|(apply gO;·repeat first|exact eZ|(apply eS;exact rfl))
 refine at_callS (zaF (l:=l) hl) ?_
 intro p1 c1
 repeat' first|apply step|(apply gO;·repeat first|exact eZ|(apply eS;exact rfl))
 refine at_callS (zaQ (l:=l) (by omega)) ?_
 repeat' first|apply step|(apply gO;·repeat first|exact eZ|(apply eS;exact rfl))
 rw [← hsl]
 refine at_callS (zak (l:=sortE l) (by omega)) ?_
 intro c2 l2 h1 h2
 repeat' first|apply step|(apply gO;·repeat first|exact eZ|(apply eS;exact rfl))|refine g_fin ?_
 refine fin_via (own_lst (p:=p1) (l:=l2) _ h1) ?_
 exact fin (hR _ p1 c2 hs hm)
end
end Go.AMS

namespace Go.AMS
open Go.AM hiding Kt At WP WL Runs RunsY
open Go.AM.G
set_option linter.unusedVariables false
set_option linter.unusedSimpArgs false
section
variable {prog:AProg}
theorem zai (zd:prog zc=some (.code ze)) (zm:prog zb=some (.code zh)) (zj:prog zg=some (.code zi)) (zr:prog za=some (.code zn)) (x y:AM.M6) :
  ∃ n h',callV prog n (.func za) [.agg x.enc.toArray,.agg y.enc.toArray] Heap.empty=some (.int .i64 (AM.M6.cf x y),h'):=by
 obtain ⟨x,hx⟩:=x
 obtain ⟨y,hy⟩:=y
 obtain ⟨a,b,c,d,e,f,rfl⟩:=AM.six_inv hx
 obtain ⟨a',b',c',d',e',f',rfl⟩:=AM.six_inv hy
 obtain ⟨n,v,H',h',h1,_,rfl⟩:=(zaa zd zm zj zr (a:=⟨a,b,c,d,e,f⟩) (b:=⟨a',b',c',d',e',f'⟩) 0 [] Heap.empty (fun v _=>v=.int .i64 (cmpL [a,b,c,d,e,f] [a',b',c',d',e',f'])) ⟨⟨fun _=>False,fun b q=>q,fun b q=>q.elim⟩,rfl,Nat.zero_le _⟩ rfl).mono (fun v _ _ _ ⟨_,h,_⟩=>h) |>.run
 refine ⟨n,H',?_⟩
 rw [show AM.M6.cf ⟨[a,b,c,d,e,f],hx⟩ ⟨[a',b',c',d',e',f'],hy⟩=cmpL [a,b,c,d,e,f] [a',b',c',d',e',f'] from zM _ _]
 exact h1
end
end Go.AMS

namespace Go.AMS
open Go.AM hiding Kt At WP WL Runs RunsY
open Go.AM.G
set_option linter.unusedVariables false
set_option linter.unusedSimpArgs false
set_option linter.unusedSectionVars false
set_option maxRecDepth 100000
set_option maxHeartbeats 1000000
attribute [local irreducible] AtS AtV AtC AtG FinA Spec Post LP G.At G.WP G.WL pt own fro rdl ro hx mp lrec elt sub

open Go.AM.G.Set Go.AM.G.Pre
section
variable {h:List HTx} {T:Tb} {r:HRd} {l:List Int} {p q p1 p2 p3 q1 q2 po:Option Addr} {c d c1 c2 c3 d1 d2 co b mr mt mb tb xb kb:Nat} {ch rs:List Int} {key:Int} {x:HEd} {O:List HEd}
theorem SrtI.mem {l l' Z:List HEd} (h:∀ x,x ∈ l ↔ x ∈ l') (s:SrtI l Z) (m:∀ x,x ∈ Z ↔ x ∈ l):SrtI l' Z∧∀ x,x ∈ Z ↔ x ∈ l' :=
 ⟨⟨s.s,fun x hx=>(h x).1 (s.m x hx),fun x hx hn=>s.a x ((h x).2 hx) hn⟩,fun x=>(m x).trans (h x)⟩
end
end Go.AMS

namespace Go.AMS
open Go.AM hiding Kt At WP WL Runs RunsY
open Go.AM.G
set_option linter.unusedVariables false
set_option linter.unusedSimpArgs false
theorem bndsE {Γ:List HP} {p:Option Addr} {l:List HEd} {h:Heap} {n:Nat} (a:LkS Γ p kHEd l) (hs:Sat n Γ h):∀ x ∈ l,bE x:=by
 intro x hx
 obtain ⟨S,h1,_⟩:=hs.s
 obtain ⟨b,o,cs,_,_,k3⟩:=(a.get h1).2.2 (List.ne_nil_of_mem hx)
 obtain ⟨c,h⟩:=k3.mem x hx
 obtain ⟨v0,v1,v2,v3,v4,v5,hc,q0,q1,q2,q3,q4,q5⟩:=h
 exact ⟨q0.2,q1.2,q2.2,q3.2,q4.2,q5.2⟩
theorem za4 {prog:AProg} {rr:Option Nat} {e:Env} {Q:Pst} {k:List Kt} {x:AX} {n:Nat} {Γ:List HP} {p:Option Addr} {l:List HEd} (w:(∀ x ∈ l,bE x)→AtS n prog rr k x e Γ Q) (a:LkS Γ p kHEd l:=by infer_instance):AtS n prog rr k x e Γ Q:=fun h hs=>w (bndsE a hs) h hs
end Go.AMS

namespace Go.AMS
open Go.AM hiding Kt At WP WL Runs RunsY
open Go.AM.G
set_option linter.unusedVariables false
set_option linter.unusedSimpArgs false
set_option linter.unusedSectionVars false
set_option maxRecDepth 100000
set_option maxHeartbeats 1000000
attribute [local irreducible] AtS AtV AtC AtG FinA Spec Post LP G.At G.WP G.WL pt own fro rdl ro hx mp lrec elt sub

open Go.AM.G.Set Go.AM.G.Pre
section
variable {h:List HTx} {T:Tb} {p q pk:Option Addr} {c d ck b mr mt:Nat} {key:Int} {x a a2:HEd} {l Z Y:List HEd} {keys:List Int}
theorem zX:∀ {l r:List HEd},l.Pairwise ltE→r.Pairwise ltE→(∀ x,x ∈ l ↔ x ∈ r)→l=r
 | [],[],_,_,_=>rfl
 | [],y::r,_,_,h=>absurd ((h y).2 (by simp)) (by simp)
 | x::l,[],_,_,h=>absurd ((h x).1 (by simp)) (by simp)
 | x::l,y::r,hl,hr,h=>by
  rw [List.pairwise_cons] at hl hr
  have hxy:x=y:=by
   rcases List.mem_cons.1 ((h x).1 (by simp)) with e|e
   ·exact e
   ·rcases List.mem_cons.1 ((h y).2 (by simp)) with e2|e2
    ·exact e2.symm
    ·exact absurd (zw (hl.1 y e2) (hr.1 x e)) (zf _)
  subst hxy
  congr 1
  refine zX hl.2 hr.2 fun z=>⟨fun hz=>?_,fun hz=>?_⟩
  ·rcases List.mem_cons.1 ((h z).1 (by simp [hz])) with e|e
   ·subst e;exact absurd (hl.1 _ hz) (zf _)
   ·exact e
  ·rcases List.mem_cons.1 ((h z).2 (by simp [hz])) with e|e
   ·subst e;exact absurd (hr.1 _ hz) (zf _)
   ·exact e
theorem SrtI.uniq {l l':List HEd} (hm:∀ x,x ∈ l ↔ x ∈ l') (s:SrtI l Z) (m:∀ x,x ∈ Z ↔ x ∈ l) (s':SrtI l' Y) (m':∀ x,x ∈ Y ↔ x ∈ l'):Z=Y :=
 zX s.s s'.s fun x=>(m x).trans ((hm x).trans (m' x).symm)
theorem zaj (hl:Z.length≤100000000000):Spec prog1 zv [.slice p Z.length c,.slice q Z.length d] [rdl kHEd p Z,rdl kHEd q Z] (fun R=>R (.bool true) []):=by
 refine spec_code zaW rfl ?_;intro n F R hR;unfold zB
 repeat' first|apply step|(apply gO;·repeat first|exact eZ|(apply eS;exact rfl))|(refine Br.mk (fun _=>?_) (fun _=>?_)<;>try (exfalso;omega))|refine g_cond ?_|refine g_keep ?_
 all_goals try (exfalso;omega)
 refine at_loopS (ι:=Nat) (E:=fun i=>[(0,.slice p Z.length c),(1,.slice q Z.length d),(5,.int .i64 (i:Int))]) (Δ:=fun i=>rdl kHEd p Z::rdl kHEd q Z::F) (P:=fun i=>i≤Z.length) (μ:=fun i=>Z.length - i) 0 (Nat.zero_le _) ?_
 rintro i hi
 try dsimp only at hi ⊢
 rcases Nat.lt_or_ge i Z.length with hlt|hge
 ·repeat' first|apply step|(apply gO;·repeat first|exact eZ|(apply eS;exact rfl))|(refine Br.mk (fun _=>?_) (fun _=>?_)<;>try (exfalso;omega))|(refine Sd.mk ?_ ?_;·exact qD)|(refine Sx.mk ?_ ?_;·omega)|refine Fa.mk fun _=>?_|refine Im.mk fun _=>?_|refine g_cond ?_|refine g_keep ?_
  all_goals first|exact lp_next (i + 1) (by omega) (by omega)|(exfalso;rename_i q;exact q ⟨rfl,rfl,rfl,rfl,rfl,rfl⟩)|(exfalso;omega)|(exfalso;simp_all;done)
 ·repeat' first|apply step|(apply gO;·repeat first|exact eZ|(apply eS;exact rfl))|(refine Br.mk (fun _=>?_) (fun _=>?_)<;>try (exfalso;omega))|refine g_cond ?_|refine g_keep ?_|refine g_fin ?_
  exact fin hR
theorem zaJ:Spec prog1 za [.agg #[.int .i64 a.src,.int .i64 a.dst,.int .i64 a.kind,.int .i64 a.key,.int .i64 a.left,.int .i64 a.right],.agg #[.int .i64 a2.src,.int .i64 a2.dst,.int .i64 a2.kind,.int .i64 a2.key,.int .i64 a2.left,.int .i64 a2.right]] [] (fun R=>R (.int .i64 (cmpE a a2)) []):=zaa zd zm zj zr
theorem zP:Spec prog1 zl [] [] (fun R=>R (.bool true) []):=closed_spec zaD
theorem zba (ha:bE a) (ha2:bE a2):Spec prog1 zH [.slice p l.length c,.agg #[.int .i64 a.src,.int .i64 a.dst,.int .i64 a.kind,.int .i64 a.key,.int .i64 a.left,.int .i64 a.right],.agg #[.int .i64 a2.src,.int .i64 a2.dst,.int .i64 a2.kind,.int .i64 a2.key,.int .i64 a2.left,.int .i64 a2.right]] [fro kHEd p c l] (fun R=>R (.bool true) []):=by
 refine spec_code zan rfl ?_;intro n F R hR;unfold zC
 dsimp only [List.cons_append,List.nil_append]
 refine za4 (p:=p) (l:=l) (fun hlb=>?_)
 repeat' first|apply step|(apply gO;·repeat first|exact eZ|(apply eS;exact rfl))|(refine Br.mk (fun _=>?_) (fun _=>?_)<;>try (exfalso;omega))|refine Fa.mk fun _=>?_|refine g_cond ?_
 ·refine at_callS (zP) ?_
  repeat' first|apply step|(apply gO;·repeat first|exact eZ|(apply eS;exact rfl))|refine g_fin ?_
  exact fin hR
 ·refine at_callR (zaJ (a:=a) (a2:=a2)) ?_
  repeat' first|apply step|(apply gO;·repeat first|exact eZ|(apply eS;exact rfl))|apply Lw.go
  refine at_callR (zp (a:=a) (b:=a2) ha ha2) ?_
  repeat' first|apply step|(apply gO;·repeat first|exact eZ|(apply eS;exact rfl))|(refine Br.mk (fun _=>?_) (fun _=>?_)<;>try (exfalso;omega))|apply Lw.go|refine g_guard ?_
  all_goals try (exfalso;omega)
  refine at_callR (zaR (p:=p) (c:=c) (l:=l) (by omega)) ?_
  intro Z p1 c1 h1 h2
  repeat' first|apply step|(apply gO;·repeat first|exact eZ|(apply eS;exact rfl))|apply Lw.go|refine g_guard ?_
  refine at_callR (za9 (p:=p) (c:=c) (l:=l) (by omega) hlb) ?_
  intro Y p2 c2 h3 h4
  obtain rfl:=SrtI.uniq (fun _=>Iff.rfl) h1 h2 h3 h4
  have hlz:=h1.len
  repeat' first|apply step|(apply gO;·repeat first|exact eZ|(apply eS;exact rfl))|apply Lw.go|refine g_guard ?_
  refine at_callR (zaj (p:=p1) (c:=c1) (q:=p2) (d:=c2) (Z:=Z) (by omega)) ?_
  repeat' first|apply step|(apply gO;·repeat first|exact eZ|(apply eS;exact rfl))|apply Lw.go|refine g_guard ?_
  refine at_callS (zP) ?_
  repeat' first|apply step|(apply gO;·repeat first|exact eZ|(apply eS;exact rfl))|refine g_keep ?_|refine g_fin ?_
  exact fin hR
end
end Go.AMS

