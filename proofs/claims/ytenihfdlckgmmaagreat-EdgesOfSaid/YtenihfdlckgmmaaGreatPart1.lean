/- What the functions do, part 1. -/
import Derived.Test.YtenihfdlckgmmaaGreatCode
import Derived.Test.YtenihfdlckgmmaaGreatSetLaw
namespace Go.AMS
open Go.AM hiding Kt At WP WL Runs RunsY
open Go.AM.G
set_option linter.unusedVariables false
set_option linter.unusedSimpArgs false
theorem zdY (l:List Int):(sortL l).length=l.length:=by unfold sortL;simp
theorem zhS {p:Option Addr} {c:Nat} {l:List Int} (hl:l.length≤1000000000):Spec prog1 zbg [.slice p l.length c] [own (kInt .i64) p c l] (fun R=>R (.tuple #[]) [own (kInt .i64) p c (sortL l)]):=by
 intro n F h R hs hw H hH
 obtain ⟨⟨S,⟨t1,t2,k1,k3,k4,k5⟩,k6⟩,hp,hn⟩:=id hs
 have hsl:=zdY l
 by_cases h0:l=[]
 ·subst h0
  have e:sortL []=[]:=by simp [sortL]
  rw [e] at hw
  exact ⟨1,.tuple #[],H,h,by simp only [callV,zfQ];rfl,rfl,hH,.refl h,rfl,_,hw,hs⟩
 ·rcases k1 with ⟨_,_,h1,_⟩|⟨b,cs,rfl,h2,h3,h4,rfl⟩
  ·exact absurd h1 h0
  have hcs:=cells_int_eq h4
  subst hcs
  have hn0:¬ l.length=0:=by simpa using h0
  have hb:n≤b:=k6 b ((k5 b).2 (.inl rfl))
  obtain ⟨own',e1,e2⟩:=hH.cells h3
  have e3:H.get b=some (.cells (l.map (.int .i64)) (some 1)):=by
   rcases e2 with rfl|e2
   ·exact e1
   ·cases e2
  have hsp:splice (l.map (Value.int .i64)) 0 ((sortL l).map (.int .i64))=(sortL l).map (.int .i64):=by
   unfold splice
   simp only [List.take_zero,List.nil_append,List.length_map,hsl,Nat.zero_add]
   rw [List.drop_eq_nil_of_le (by simp),List.append_nil]
  have hst:St h (h.set b (.cells ((sortL l).map (.int .i64)) (some 1))):=.set _ (by rw [hp];exact hb) (fun x hx=>by rw [h3] at hx;cases hx)
  refine ⟨1,.tuple #[],H.set b (.cells ((sortL l).map (.int .i64)) (some 1)),h.set b (.cells ((sortL l).map (.int .i64)) (some 1)),?_,rfl,hH.set _ _,hst,rfl,_,hw,⟨S,⟨(·=b),t2,.inr ⟨b,_,rfl,h2,by rw [Heap.get_set,if_pos rfl];rfl,cells_int fun x hx=>?_,rfl⟩,k3.loc hst (fun x hx=>by rw [Heap.get_set,if_neg (fun e=>k4 x e hx)]),k4,k5⟩,k6⟩,hp,hn⟩
  ·simp only [callV,zfQ,sortO]
   rw [if_neg hn0]
   simp only [e3]
   rw [if_pos ⟨by have:=hH.prot;omega,by simp,by omega⟩]
   rw [List.drop_zero,show l.length=(l.map (Value.int .i64)).length by simp,List.take_length,intsOf_map]
   simp only [hsp]
  ·have hx':x ∈ l:=by unfold sortL at hx;rwa [List.mem_mergeSort] at hx
   obtain ⟨c,h⟩:=h4.mem x hx'
   exact h.2

end Go.AMS

namespace Go.AMS
open Go.AM hiding Kt At WP WL Runs RunsY
open Go.AM.G
set_option linter.unusedVariables false
set_option linter.unusedSimpArgs false
set_option linter.unusedSectionVars false
set_option maxRecDepth 100000
set_option maxHeartbeats 1000000
attribute [local irreducible] AtS AtV AtC AtG FinA Spec Post LP G.At G.WP G.WL pt own fro rdl ro hx mp lrec elt sub

open Go.AM.G.Set
section
theorem zr {p:Option Addr} {c:Nat} {l:List Int} (hl:l.length≤1000000000):Spec prog1 zf [.slice p l.length c] [rdl (kInt .i64) p l] (fun R=>∀ p' c',R (.slice p' l.length c') [own (kInt .i64) p' c' l]):=by
 refine spec_code zjx rfl ?_;intro n F R hR;unfold zbO
 repeat' first|apply step|(apply gO;·repeat first|exact eZ|(apply eS;exact rfl))|(refine Br.mk (fun _=>?_) (fun _=>?_)<;>try (exfalso;omega))|(refine Sd.mk ?_ ?_;·exact qD)|refine Fa.mk fun _=>?_|refine Im.mk fun _=>?_|refine g_cond ?_|refine g_fin ?_
 ·subst_vars
  exact fin (hR none 0)
 ·exact fin (hR _ _)

theorem zjs {l:List Int} {i:Nat} {a:Int} (h:i < l.length):(l.set i a).take (i + 1)=l.take i++[a]:=by
 rw [List.take_succ_eq_append_getElem (by simp;omega),List.take_set_of_le (Nat.le_refl _)];simp
theorem zlR {p:Option Addr} {c:Nat} {l:List Int} (hl:l.length≤1000000000):Spec prog1 zax [.slice p l.length c] [own (kInt .i64) p c l] (fun R=>∀ c' (l':List Int),l'.take (compactL l).length=compactL l→(compactL l).length≤l'.length→R (.slice p (compactL l).length c') [own (kInt .i64) p c l']):=by
 refine spec_code zgJ rfl ?_;intro n F R hR;unfold zcT
 have same:compactL l=l→R (.slice p l.length c) [own (kInt .i64) p c l]:=fun e=>by
  have:=hR c l (by rw [e,List.take_length]) (by rw [e];exact Nat.le_refl _)
  rwa [e] at this
 repeat' first|apply step|(apply gO;·repeat first|exact eZ|(apply eS;exact rfl))|(refine Br.mk (fun _=>?_) (fun _=>?_)<;>try (exfalso;omega))|refine g_cond ?_|refine g_keep ?_|refine g_fin ?_
 ·exact fin (same (compactL_short (by omega)))
 refine at_loopS (ι:=Nat) (E:=fun k=>[(0,.slice p l.length c),(3,.int .i64 (k:Int))]) (Δ:=fun _=>own (kInt .i64) p c l::F) (P:=fun k=>0 < k∧k≤l.length∧∀ i,0 < i→(hi:i < l.length)→i < k→l[i]≠l[i - 1]) (μ:=fun k=>l.length - k) 1 ⟨by omega,by omega,fun i h1 h2 h3=>by omega⟩ ?_
 rintro k ⟨hk0,hk,hI⟩
 repeat' first|apply step|(apply gO;·repeat first|exact eZ|(apply eS;exact rfl))|(refine Br.mk (fun _=>?_) (fun _=>?_)<;>try (exfalso;omega))|(refine Sd.mk ?_ ?_;·exact qD)|(refine Sx.mk ?_ ?_;·omega)|refine Im.mk fun _=>?_|refine g_cond ?_|refine g_keep ?_|refine g_fin ?_
 ·-- two alike
  rename_i hi1 _ hi2 _ hdup
  have hk1:((k:Int) - 1).toNat=k - 1:=by omega
  simp only [hk1] at hdup
  have hkl:k < l.length:=by omega
  have hstart:compactL (l.take (k + 1))=l.take k:=by
   rw [compactL_take hk0 hkl,if_pos hdup]
   refine compactL_id fun i h1 h2=>?_
   have h3:i < k:=by simp at h2;omega
   simp only [List.getElem_take]
   exact hI i h1 (by omega) h3
  refine at_loopS (ι:=Nat × Nat × List Int) (E:=fun w=>[(0,.slice p l.length c),(3,.int .i64 (w.2.1:Int)),(4,.slice (sub p k 1) (l.length - k) (l.length - k)),(5,.int .i64 (w.1:Int))]) (Δ:=fun w=>own (kInt .i64) p c w.2.2::F)
   (P:=fun w=>w.2.2.length=l.length∧1≤w.1∧w.1≤l.length - k∧w.2.1≤k + w.1 - 1∧w.2.2.take w.2.1=compactL (l.take (k + w.1))∧w.2.2.drop (k + w.1 - 1)=l.drop (k + w.1 - 1)) (μ:=fun w=>l.length - w.1) (1,k,l) ⟨rfl,by omega,by omega,by simp,hstart.symm,rfl⟩ ?_
  rintro ⟨j,kk,l2⟩ ⟨hl2,hj1,hj2,hkk,htk,hdr⟩
  simp only at hl2 hj1 hj2 hkk htk hdr
  have hdl:(l2.drop k).length=l.length - k:=by simp;omega
  have hsame:∀ q,k + j - 1≤q→(hq:q < l.length)→l2[q]'(by omega)=l[q]:=by
   intro q h1 h3
   have:=congrArg (fun z=>z[q - (k + j - 1)]?) hdr
   simp only [List.getElem?_drop] at this
   rw [show k + j - 1 + (q - (k + j - 1))=q by omega,List.getElem?_eq_getElem (by omega),List.getElem?_eq_getElem h3] at this
   exact Option.some.inj this
  have hct:∀ hq:k + j < l.length,compactL (l.take (k + j + 1))=if l[k + j]=l[k + j - 1] then compactL (l.take (k + j)) else compactL (l.take (k + j))++[l[k + j]]:=fun hq=>compactL_take (by omega) hq
  have hj:((j:Int) - 1).toNat=j - 1:=by omega
  dsimp only
  repeat' first|apply step|(apply gO;·repeat first|exact eZ|(apply eS;exact rfl))|(refine Br.mk (fun _=>?_) (fun _=>?_)<;>try (exfalso;omega))|(refine Sd.mk ?_ ?_;·exact qD)|(refine Sx.mk ?_ ?_;·omega)|refine Im.mk fun _=>?_|refine g_cond ?_|refine g_keep ?_|refine g_fin ?_
  ·have hjn:j < l.length - k:=by omega
   have hq:k + j < l.length:=by omega
   have e1:(l2.drop k)[j]'(by omega)=l[k + j]:=by rw [List.getElem_drop];exact hsame _ (by omega) hq
   have e2:(l2.drop k)[((j:Int) - 1).toNat]'(by omega)=l[k + j - 1]:=by
    rw [List.getElem_drop]
    have:=hsame (k + (j - 1)) (by omega) (by omega)
    simp only [hj]
    rw [this];congr 1;omega
   have hcmp:¬ l[k + j]=l[k + j - 1]:=by rw [← e1,← e2];assumption
   have hkn:kk < l2.length:=by omega
   rw [e1]
   refine lp_next (j + 1,kk + 1,l2.set kk l[k + j]) ⟨by simp [hl2],by dsimp only;omega,by dsimp only;omega,by dsimp only;omega,?_,?_⟩ (by dsimp only;omega)
   ·show (l2.set kk l[k + j]).take (kk + 1)=compactL (l.take (k + (j + 1)))
    rw [show k + (j + 1)=k + j + 1 by omega,hct hq,if_neg hcmp,← htk,zjs hkn]
   ·show (l2.set kk l[k + j]).drop (k + (j + 1) - 1)=l.drop (k + (j + 1) - 1)
    rw [show k + (j + 1) - 1=k + j by omega,List.drop_set_of_lt (by omega)]
    have:=congrArg (List.drop 1) hdr
    rw [List.drop_drop,List.drop_drop,show k + j - 1 + 1=k + j by omega] at this
    exact this
  ·have hjn:j < l.length - k:=by omega
   have hq:k + j < l.length:=by omega
   have e1:(l2.drop k)[j]'(by omega)=l[k + j]:=by rw [List.getElem_drop];exact hsame _ (by omega) hq
   have e2:(l2.drop k)[((j:Int) - 1).toNat]'(by omega)=l[k + j - 1]:=by
    rw [List.getElem_drop]
    have:=hsame (k + (j - 1)) (by omega) (by omega)
    simp only [hj]
    rw [this];congr 1;omega
   have hcmp:¬ l[k + j]≠l[k + j - 1]:=by rw [← e1,← e2];assumption
   refine lp_next (j + 1,kk,l2) ⟨hl2,by dsimp only;omega,by dsimp only;omega,by dsimp only;omega,?_,?_⟩ (by dsimp only;omega)
   ·show l2.take kk=compactL (l.take (k + (j + 1)))
    rw [show k + (j + 1)=k + j + 1 by omega,hct hq,if_pos (by simpa using hcmp)];exact htk
   ·show l2.drop (k + (j + 1) - 1)=l.drop (k + (j + 1) - 1)
    have:=congrArg (List.drop 1) hdr
    rw [List.drop_drop,List.drop_drop,show k + j - 1 + 1=k + j by omega] at this
    rw [show k + (j + 1) - 1=k + j by omega];exact this
  ·have hkl2:compactL l=l2.take kk:=by rw [htk,show k + j=l.length by omega,List.take_length]
   have hlen:(compactL l).length=kk:=by rw [hkl2];simp;omega
   have:=hR kk (l2.take kk++List.replicate (l.length - kk) 0++l2.drop (kk + (l.length - kk))) (by rw [hlen,hkl2,List.append_assoc,List.take_left' (by simp;omega)]) (by rw [hlen];simp;omega)
   rw [hlen] at this
   exact fin this
 ·refine lp_next (k + 1) ⟨by omega,by omega,fun i h1 h2 h3=>?_⟩ (by omega)
  rename_i hdup
  have hk1:((k:Int) - 1).toNat=k - 1:=by omega
  simp only [hk1] at hdup
  by_cases e:i=k
  ·subst e;exact hdup
  ·exact hI i h1 h2 (by omega)
 ·exact fin (same (compactL_id fun i h1 h2=>hI i h1 h2 (by omega)))
end
end Go.AMS

namespace Go.AMS
open Go.AM hiding Kt At WP WL Runs RunsY
open Go.AM.G
set_option linter.unusedVariables false
set_option linter.unusedSimpArgs false
set_option linter.unusedSectionVars false
set_option maxRecDepth 100000
set_option maxHeartbeats 1000000
attribute [local irreducible] AtS AtV AtC AtG FinA Spec Post LP G.At G.WP G.WL pt own fro rdl ro hx mp lrec elt sub

open Go.AM.G.Set
section
theorem zer {p:Option Addr} {c:Nat} {l:List Int} (hl:l.length≤1000000000):Spec prog1 zad [.slice p l.length c] [rdl (kInt .i64) p l] (fun R=>∀ p' c',R (.agg #[.slice p' (setL l).length c']) [lst (kInt .i64) p' (setL l)]):=by
 refine spec_code zge rfl ?_;intro n F R hR;unfold zcZ
 repeat' first|apply step|(apply gO;·repeat first|exact eZ|(apply eS;exact rfl))|refine Fa.mk fun _=>?_
 refine at_callS (zr hl) ?_
 intro p1 c1
 repeat' first|apply step|(apply gO;·repeat first|exact eZ|(apply eS;exact rfl))
 refine at_callS (zhS hl) ?_
 repeat' first|apply step|(apply gO;·repeat first|exact eZ|(apply eS;exact rfl))
 rw [← zdY l]
 refine at_callS (zlR (by rw [zdY];exact hl)) ?_
 intro c2 l2 h1 h2
 repeat' first|apply step|(apply gO;·repeat first|exact eZ|(apply eS;exact rfl))|refine g_fin ?_
 refine fin_via (own_lst (p:=p1) (l:=l2) _ h1) ?_
 exact fin (hR p1 c2)
theorem zio {p:Option Addr} {c:Nat} {l:List Int} (hl:l.length≤1000000000):Spec prog1 zbb [.agg #[.slice p l.length c]] [rdl (kInt .i64) p l] (fun R=>∀ p' c',R (.slice p' l.length c') [own (kInt .i64) p' c' l]):=by
 refine spec_code zgB rfl ?_;intro n F R hR;unfold zbV
 repeat' first|apply step|(apply gO;·repeat first|exact eZ|(apply eS;exact rfl))|refine Fa.mk fun _=>?_
 refine at_callS (zr hl) ?_
 intro p1 c1
 repeat' first|apply step|(apply gO;·repeat first|exact eZ|(apply eS;exact rfl))|refine g_fin ?_
 exact fin (hR p1 c1)

/-- A script: picks, where all is cancelled, how many steps there were, how many picks were used. -/
structure Scr where
 l:List Int
 cancel:Int
 steps:Nat
 used:Nat
def Scr.one (s:Scr):Scr:={ s with steps:=s.steps + 1 }
structure Scr.ok (s:Scr):Prop where
 hc:-9223372036854775808≤s.cancel∧s.cancel≤9223372036854775807
 hs:s.steps≤1000000000000
 hu:s.used≤1000000000000
 hl:s.l.length≤1000000000
section
variable {b:Nat} {s:Scr} {m:Bool}
end
end
end Go.AMS

namespace Go.AMS
open Go.AM hiding Kt At WP WL Runs RunsY
open Go.AM.G
set_option linter.unusedVariables false
set_option linter.unusedSimpArgs false
set_option linter.unusedSectionVars false
set_option maxRecDepth 100000
set_option maxHeartbeats 1000000
attribute [local irreducible] AtS AtV AtC AtG FinA Spec Post LP G.At G.WP G.WL pt own fro rdl ro hx mp lrec elt sub

open Go.AM.G.Set
section
theorem zin {p q:Option Addr} {c c':Nat} {a b:List Int} (ha:a.length≤1000000000000):Spec prog1 zaP [.slice p a.length c,.slice q b.length c'] [rdl (kInt .i64) p a,rdl (kInt .i64) q b] (fun R=>(a=b→R (.bool true) [])∧(a≠b→R (.bool false) [])):=by
 refine spec_code zhD rfl ?_;intro n F R hR;unfold zca
 repeat' first|apply step|(apply gO;·repeat first|exact eZ|(apply eS;exact rfl))|(refine Br.mk (fun _=>?_) (fun _=>?_)<;>try (exfalso;omega))|refine g_cond ?_|refine g_keep ?_|refine g_fin ?_
 ·exact fin (hR.2 (fun h=>by subst h;simp at *))
 refine at_loopS (ι:=Nat) (E:=fun k=>[(0,.slice p a.length c),(1,.slice q b.length c'),(5,.int .i64 (k:Int))]) (Δ:=fun _=>rdl (kInt .i64) p a::rdl (kInt .i64) q b::F) (P:=fun k=>k≤a.length∧a.take k=b.take k) (μ:=fun k=>a.length - k) 0 ⟨Nat.zero_le _,by simp⟩ ?_
 rintro k ⟨hk,he⟩
 have hlen:a.length=b.length:=by omega
 dsimp only
 repeat' first|apply step|(apply gO;·repeat first|exact eZ|(apply eS;exact rfl))|(refine Br.mk (fun _=>?_) (fun _=>?_)<;>try (exfalso;omega))|(refine Sd.mk ?_ ?_;·exact qD)|(refine Sx.mk ?_ ?_;·omega)|refine Im.mk fun _=>?_|refine g_cond ?_|refine g_keep ?_|refine g_fin ?_
 ·refine fin (hR.2 (fun h=>?_))
  subst h
  simp at *
 ·refine lp_next (k + 1) ⟨by omega,?_⟩ (by omega)
  have:a[k]'(by omega)=b[k]'(by omega):=by simpa using ‹¬ _≠_›
  rw [List.take_succ_eq_append_getElem (by omega),List.take_succ_eq_append_getElem (by omega),he,this]
 ·refine fin (hR.1 ?_)
  rw [List.take_of_length_le (by omega),List.take_of_length_le (by omega)] at he
  exact he
theorem ze2 {p:Option Addr} {c:Nat} {l:List Int} {x:Int} (hl:l.length≤1000000000000):Spec prog1 zY [.slice p l.length c,.int .i64 x] [rdl (kInt .i64) p l] (fun R=>(x ∈ l→R (.bool true) [])∧(x ∉ l→R (.bool false) [])):=by
 refine spec_code zlb rfl ?_;intro n F R hR;unfold zdi
 repeat' first|apply step|(apply gO;·repeat first|exact eZ|(apply eS;exact rfl))|refine g_keep ?_
 refine at_loopS (ι:=Nat) (E:=fun k=>[(0,.slice p l.length c),(1,.int .i64 x),(5,.int .i64 (k:Int))]) (Δ:=fun _=>rdl (kInt .i64) p l::F) (P:=fun k=>k≤l.length∧x ∉ l.take k) (μ:=fun k=>l.length - k) 0 ⟨Nat.zero_le _,by simp⟩ ?_
 rintro k ⟨hk,hI⟩
 dsimp only
 repeat' first|apply step|(apply gO;·repeat first|exact eZ|(apply eS;exact rfl))|(refine Br.mk (fun _=>?_) (fun _=>?_)<;>try (exfalso;omega))|(refine Sd.mk ?_ ?_;·exact qD)|(refine Sx.mk ?_ ?_;·omega)|refine Im.mk fun _=>?_|refine g_cond ?_|refine g_keep ?_|refine g_fin ?_
 ·exact fin (hR.1 (by rw [← ‹l[k]=x›];exact List.getElem_mem _))
 ·refine lp_next (k + 1) ⟨by omega,?_⟩ (by omega)
  rw [List.take_succ_eq_append_getElem (by omega)]
  intro hm
  rcases List.mem_append.1 hm with hm|hm
  ·exact hI hm
  ·simp at hm;exact absurd hm.symm (by assumption)
 ·refine fin (hR.2 ?_)
  rwa [List.take_of_length_le (by omega)] at hI

theorem zeP {l:List Int} {i j:Nat} (hij:i < j) (hj:j < (setL l).length):(setL l)[i]'(by omega) < (setL l)[j] :=
 List.pairwise_iff_getElem.1 (setL_lt l) i j (by omega) hj hij
theorem zfz {l:List Int} {n:Nat} (hn:n < (setL l).length):(setL l)[n] ∉ (setL l).take n:=by
 intro h
 obtain ⟨i,hi,e⟩:=List.getElem_of_mem h
 rw [List.getElem_take] at e
 simp at hi
 have:=zeP (l:=l) (i:=i) (j:=n) (by omega) hn
 omega
theorem zgW {l:List Int} {n:Nat} (h:∀ x ∈ l,x ∈ (setL l).take n):(setL l).take n=setL l:=by
 refine List.take_of_length_le ?_
 rcases Nat.lt_or_ge n (setL l).length with hn|hn
 ·exact absurd (h _ (mem_setL.1 (List.getElem_mem hn))) (zfz hn)
 ·exact hn
theorem zit {l:List Int} {n:Nat} {best:Int} (h1:best ∈ l) (h2:best ∉ (setL l).take n) (h3:∀ x ∈ l,x ∉ (setL l).take n→best≤x):n < (setL l).length∧(setL l).take (n + 1)=(setL l).take n++[best]:=by
 obtain ⟨i,hi,e⟩:=List.getElem_of_mem (mem_setL.2 h1)
 have hin:n≤i:=by
  rcases Nat.lt_or_ge i n with q|q
  ·exfalso;apply h2
   rw [List.mem_take_iff_getElem]
   exact ⟨i,by omega,e⟩
  ·exact q
 have hn:n < (setL l).length:=by omega
 refine ⟨hn,?_⟩
 rw [List.take_succ_eq_append_getElem hn]
 congr 2
 have h4:=h3 _ (mem_setL.1 (List.getElem_mem hn)) (zfz hn)
 rcases Nat.lt_or_eq_of_le hin with q|q
 ·have:=zeP (l:=l) q hi;omega
 ·subst q;exact e
theorem zjC {p:Option Addr} {c:Nat} {l:List Int} (hl:l.length≤1000000000):Spec prog1 zbh [.slice p l.length c] [rdl (kInt .i64) p l] (fun R=>∀ p' c',R (.slice p' (setL l).length c') [own (kInt .i64) p' c' (setL l)]):=by
 refine spec_code zlu rfl ?_;intro n F R hR;unfold zdp
 have hsl:=setL_le l
 iterate 2 apply step
 refine at_bnd (p:=p) (l:=l) (fun hb=>?_)
 repeat' first|apply step|(apply gO;·repeat first|exact eZ|(apply eS;exact rfl))|refine g_keep ?_
 refine at_loopS (ι:=Option Addr × Nat × List Int × Nat) (E:=fun w=>[(0,.slice p l.length c),(3,.slice w.1 w.2.2.1.length w.2.1),(4,.int .i64 (w.2.2.2:Int))]) (Δ:=fun w=>own (kInt .i64) w.1 w.2.1 w.2.2.1::rdl (kInt .i64) p l::F) (P:=fun w=>w.2.2.2≤l.length∧w.2.2.1.length=w.2.2.2∧w.2.2.1=(setL l).take w.2.2.2) (μ:=fun w=>l.length + 1 - w.2.2.2) (none,0,[],0) ⟨Nat.zero_le _,rfl,by simp⟩ ?_
 rintro ⟨po,co,out,j⟩ ⟨hle,hj,ho⟩
 dsimp only at hle hj ho ⊢
 repeat' first|apply step|(apply gO;·repeat first|exact eZ|(apply eS;exact rfl))|(refine Br.mk (fun _=>?_) (fun _=>?_)<;>try (exfalso;omega))|refine g_cond ?_|refine g_keep ?_
 refine at_loopS (ι:=Int × Bool × Nat) (E:=fun w=>[(0,.slice p l.length c),(3,.slice po out.length co),(4,.int .i64 (j:Int)),(5,.int .i64 w.1),(6,.bool w.2.1),(7,.int .i64 (w.2.2:Int))]) (Δ:=fun w=>own (kInt .i64) po co out::rdl (kInt .i64) p l::F)
  (P:=fun w=>w.2.2≤l.length∧(w.2.1=false→∀ x ∈ l.take w.2.2,x ∈ out)∧(w.2.1=true→w.1 ∈ l∧w.1 ∉ out∧∀ x ∈ l.take w.2.2,x ∉ out→w.1≤x)) (μ:=fun w=>l.length - w.2.2) (0,false,0) ⟨Nat.zero_le _,by simp,by simp⟩ ?_
 rintro ⟨best,found,k⟩ ⟨hk,hf,ht⟩
 dsimp only at hk hf ht ⊢
 repeat' first|apply step|(apply gO;·repeat first|exact eZ|(apply eS;exact rfl))|(refine Br.mk (fun _=>?_) (fun _=>?_)<;>try (exfalso;omega))|(refine Sd.mk ?_ ?_;·exact qD)|(refine Sx.mk ?_ ?_;·omega)|refine Fa.mk fun _=>?_|refine Im.mk fun _=>?_|refine g_cond ?_|refine g_keep ?_|refine g_fin ?_
 ·have hkl:k < l.length:=by omega
  have stp:∀ x ∈ l.take (k + 1),x ∈ l.take k∨x=l[k]:=by
   intro x hx
   rw [List.take_succ_eq_append_getElem hkl] at hx
   rcases List.mem_append.1 hx with h|h
   ·exact .inl h
   ·simp at h;exact .inr h
  refine at_callR (ze2 (l:=out) (x:=l[k]) (by omega)) ?_
  refine ⟨fun hin=>?_,fun hin=>?_⟩
  ·repeat' first|apply step|(apply gO;·repeat first|exact eZ|(apply eS;exact rfl))|(refine Sd.mk ?_ ?_;·exact qD)|apply Lw.go|refine g_cond ?_|refine g_guard ?_|refine g_keep ?_
   refine lp_next (best,found,k + 1) ⟨by dsimp only;omega,fun h x hx=>?_,fun h=>?_⟩ (by dsimp only;omega)
   ·rcases stp x hx with h1|rfl
    ·exact hf h x h1
    ·exact hin
   ·refine ⟨(ht h).1,(ht h).2.1,fun x hx hx2=>?_⟩
    rcases stp x hx with h1|rfl
    ·exact (ht h).2.2 x h1 hx2
    ·exact absurd hin hx2
  ·cases found
   all_goals
    repeat' first|apply step|(apply gO;·repeat first|exact eZ|(apply eS;exact rfl))|(refine Br.mk (fun _=>?_) (fun _=>?_)<;>try (exfalso;omega))|(refine Sd.mk ?_ ?_;·exact qD)|(refine Sx.mk ?_ ?_;·omega)|refine Im.mk fun _=>?_|apply Lw.go|refine g_cond ?_|refine g_guard ?_|refine g_keep ?_
   ·refine lp_next (l[k],true,k + 1) ⟨by dsimp only;omega,by simp,fun _=>⟨List.getElem_mem hkl,hin,fun x hx hx2=>?_⟩⟩ (by dsimp only;omega)
    rcases stp x hx with h|rfl
    ·exact absurd (hf rfl x h) hx2
    ·exact Int.le_refl _
   ·refine lp_next (l[k],true,k + 1) ⟨by dsimp only;omega,by simp,fun _=>⟨List.getElem_mem hkl,hin,fun x hx hx2=>?_⟩⟩ (by dsimp only;omega)
    rcases stp x hx with h|rfl
    ·have:=(ht rfl).2.2 x h hx2;omega
    ·exact Int.le_refl _
   ·refine lp_next (best,true,k + 1) ⟨by dsimp only;omega,by simp,fun _=>⟨(ht rfl).1,(ht rfl).2.1,fun x hx hx2=>?_⟩⟩ (by dsimp only;omega)
    rcases stp x hx with h|rfl
    ·exact (ht rfl).2.2 x h hx2
    ·omega
 ·-- one more
  have hkl:l.take k=l:=List.take_of_length_le (by omega)
  rw [hkl] at ht
  obtain ⟨h1,h2,h3⟩:=ht (by assumption)
  rw [ho] at h2 h3
  obtain ⟨q1,q2⟩:=zit h1 h2 h3
  have:=hb best h1
  repeat' first|apply step|(apply gO;·repeat first|exact eZ|(apply eS;exact rfl))|(refine Sd.mk ?_ ?_;·exact qD)|refine Fa.mk fun _=>?_|refine g_keep ?_
  refine lp_next (_,_,out++[best],j + 1) ⟨by dsimp only;omega,?_,?_⟩ (by dsimp only;omega)
  ·simp;omega
  ·show out++[best]=_
   rw [q2,← ho]
 ·have hkl:l.take k=l:=List.take_of_length_le (by omega)
  rw [hkl] at hf
  have hall:=hf (by simpa using ‹¬ found=true›)
  rw [ho] at hall
  have:=zgW hall
  rw [← ho] at this
  subst this
  exact fin (hR po co)
end
end Go.AMS

namespace Go.AMS
open Go.AM hiding Kt At WP WL Runs RunsY
open Go.AM.G
set_option linter.unusedVariables false
set_option linter.unusedSimpArgs false
set_option linter.unusedSectionVars false
set_option maxRecDepth 100000
set_option maxHeartbeats 1000000
attribute [local irreducible] AtS AtV AtC AtG FinA Spec Post LP G.At G.WP G.WL pt own fro rdl ro hx mp lrec elt sub

structure HOp where
 read:Bool
 key:Int
 value:Int
 list:List Int
def kHOp:Kind HOp:=⟨4,by decide,fun m cs a=>∃ v0 v1 v2 v3,cs=[v0,v1,v2,v3]∧kBool.rd m [v0] a.read∧(kInt .i64).rd m [v1] a.key∧(kInt .i64).rd m [v2] a.value∧(kSl (kInt .i64)).rd m [v3] a.list,
 fun s ⟨v0,v1,v2,v3,hc,h0,h1,h2,h3⟩=>⟨v0,v1,v2,v3,hc,kBool.mono s h0,(kInt .i64).mono s h1,(kInt .i64).mono s h2,(kSl (kInt .i64)).mono s h3⟩,fun ⟨v0,v1,v2,v3,hc,h0,h1,h2,h3⟩=>by rw [hc];rfl,
 fun ⟨v0,v1,v2,v3,hc,h0,h1,h2,h3⟩=>by
  have e0:=kBool.ok h0
  have e1:=(kInt .i64).ok h1
  have e2:=(kInt .i64).ok h2
  have e3:=(kSl (kInt .i64)).ok h3
  simp only [List.all_cons,List.all_nil,Bool.and_true] at e0 e1 e2 e3
  rw [hc];simp only [List.all_cons,List.all_nil,Bool.and_true,e0,e1,e2,e3]⟩
instance esz_HOp:Esz kHOp 4:=⟨rfl⟩
instance cel_HOp:Cel kHOp ((Option Addr × Nat)) (fun a x=>[.bool a.read,.int .i64 a.key,.int .i64 a.value,.slice x.1 a.list.length x.2]) (fun a x=>[fro (kInt .i64) x.1 x.2 a.list]) (fun a=>(-9223372036854775808≤a.key∧a.key≤9223372036854775807)∧(-9223372036854775808≤a.value∧a.value≤9223372036854775807)∧a.list.length≤140737488351232∧True):=⟨fun ⟨v0,v1,v2,v3,hc,h0,h1,h2,h3⟩=>by
 cases h0
 obtain ⟨q1,b1⟩:=h1;cases q1
 obtain ⟨q2,b2⟩:=h2;cases q2
 obtain ⟨w3,q3,s3,b3⟩:=h3;cases q3;obtain ⟨p3,c3,rfl⟩:=s3.form
 exact ⟨(p3,c3),hc,⟨b1,b2,b3,trivial⟩,sat_fro0 s3 (sat_nil0)⟩⟩
instance ofc_HOp {Γ:List HP} {v0 v1 v2 v3:Value} {a0:Bool} {φ0:Prop} {a1:Int} {φ1:Prop} {a2:Int} {φ2:Prop} {a3:List Int} {φ3:Prop} [o0:OfC Γ kBool [v0] a0 φ0] [o1:OfC Γ (kInt .i64) [v1] a1 φ1] [o2:OfC Γ (kInt .i64) [v2] a2 φ2] [o3:OfC Γ (kSl (kInt .i64)) [v3] a3 φ3]:OfC Γ kHOp [v0,v1,v2,v3] ⟨a0,a1,a2,a3⟩ (φ0∧φ1∧φ2∧φ3):=⟨fun h _ _ hs=>⟨v0,v1,v2,v3,rfl,o0.rd h.1 hs,o1.rd h.2.1 hs,o2.rd h.2.2.1 hs,o3.rd h.2.2.2 hs⟩⟩
instance fld_HOp_read:Fld kHOp 0 kBool (fun a=>a.read):=⟨fun ⟨v0,v1,v2,v3,hc,h0,h1,h2,h3⟩=>by subst hc;exact h0,by decide⟩
instance fld_HOp_key:Fld kHOp 1 (kInt .i64) (fun a=>a.key):=⟨fun ⟨v0,v1,v2,v3,hc,h0,h1,h2,h3⟩=>by subst hc;exact h1,by decide⟩
instance fld_HOp_value:Fld kHOp 2 (kInt .i64) (fun a=>a.value):=⟨fun ⟨v0,v1,v2,v3,hc,h0,h1,h2,h3⟩=>by subst hc;exact h2,by decide⟩
instance fld_HOp_list:Fld kHOp 3 (kSl (kInt .i64)) (fun a=>a.list):=⟨fun ⟨v0,v1,v2,v3,hc,h0,h1,h2,h3⟩=>by subst hc;exact h3,by decide⟩
instance ktz_HOp:KTz kHOp:=⟨fun hf ⟨v0,v1,v2,v3,hc,h0,h1,h2,h3⟩=>⟨v0,v1,v2,v3,hc,(inferInstance:KTz kBool).tz hf h0,(inferInstance:KTz (kInt .i64)).tz hf h1,(inferInstance:KTz (kInt .i64)).tz hf h2,(inferInstance:KTz (kSl (kInt .i64))).tz hf h3⟩⟩
structure HTx where
 id:Int
 ab:Bool
 ops:List HOp
def kHTx:Kind HTx:=⟨3,by decide,fun m cs a=>∃ v0 v1 v2,cs=[v0,v1,v2]∧(kInt .i64).rd m [v0] a.id∧kBool.rd m [v1] a.ab∧(kSl kHOp).rd m [v2] a.ops,
 fun s ⟨v0,v1,v2,hc,h0,h1,h2⟩=>⟨v0,v1,v2,hc,(kInt .i64).mono s h0,kBool.mono s h1,(kSl kHOp).mono s h2⟩,fun ⟨v0,v1,v2,hc,h0,h1,h2⟩=>by rw [hc];rfl,
 fun ⟨v0,v1,v2,hc,h0,h1,h2⟩=>by
  have e0:=(kInt .i64).ok h0
  have e1:=kBool.ok h1
  have e2:=(kSl kHOp).ok h2
  simp only [List.all_cons,List.all_nil,Bool.and_true] at e0 e1 e2
  rw [hc];simp only [List.all_cons,List.all_nil,Bool.and_true,e0,e1,e2]⟩
instance esz_HTx:Esz kHTx 3:=⟨rfl⟩
instance cel_HTx:Cel kHTx ((Option Addr × Nat)) (fun a x=>[.int .i64 a.id,.bool a.ab,.slice x.1 a.ops.length x.2]) (fun a x=>[fro kHOp x.1 x.2 a.ops]) (fun a=>(-9223372036854775808≤a.id∧a.id≤9223372036854775807)∧a.ops.length≤140737488351232∧True):=⟨fun ⟨v0,v1,v2,hc,h0,h1,h2⟩=>by
 obtain ⟨q0,b0⟩:=h0;cases q0
 cases h1
 obtain ⟨w2,q2,s2,b2⟩:=h2;cases q2;obtain ⟨p2,c2,rfl⟩:=s2.form
 exact ⟨(p2,c2),hc,⟨b0,b2,trivial⟩,sat_fro0 s2 (sat_nil0)⟩⟩
instance ofc_HTx {Γ:List HP} {v0 v1 v2:Value} {a0:Int} {φ0:Prop} {a1:Bool} {φ1:Prop} {a2:List HOp} {φ2:Prop} [o0:OfC Γ (kInt .i64) [v0] a0 φ0] [o1:OfC Γ kBool [v1] a1 φ1] [o2:OfC Γ (kSl kHOp) [v2] a2 φ2]:OfC Γ kHTx [v0,v1,v2] ⟨a0,a1,a2⟩ (φ0∧φ1∧φ2):=⟨fun h _ _ hs=>⟨v0,v1,v2,rfl,o0.rd h.1 hs,o1.rd h.2.1 hs,o2.rd h.2.2 hs⟩⟩
instance fld_HTx_id:Fld kHTx 0 (kInt .i64) (fun a=>a.id):=⟨fun ⟨v0,v1,v2,hc,h0,h1,h2⟩=>by subst hc;exact h0,by decide⟩
instance fld_HTx_ab:Fld kHTx 1 kBool (fun a=>a.ab):=⟨fun ⟨v0,v1,v2,hc,h0,h1,h2⟩=>by subst hc;exact h1,by decide⟩
instance fld_HTx_ops:Fld kHTx 2 (kSl kHOp) (fun a=>a.ops):=⟨fun ⟨v0,v1,v2,hc,h0,h1,h2⟩=>by subst hc;exact h2,by decide⟩
instance ktz_HTx:KTz kHTx:=⟨fun hf ⟨v0,v1,v2,hc,h0,h1,h2⟩=>⟨v0,v1,v2,hc,(inferInstance:KTz (kInt .i64)).tz hf h0,(inferInstance:KTz kBool).tz hf h1,(inferInstance:KTz (kSl kHOp)).tz hf h2⟩⟩
def opsN (h:List HTx):Nat:=(h.map fun t=>t.ops.length).sum
theorem zm {h:List HTx} {j:Nat} (hj:j < h.length):opsN (h.take (j + 1))=opsN (h.take j) + h[j].ops.length:=by
 rw [List.take_succ_eq_append_getElem hj]
 unfold opsN
 rw [List.map_append,List.sum_append]
 simp only [List.map_cons,List.map_nil,List.sum_cons,List.sum_nil,Nat.add_zero]
theorem zv (h:List HTx) (j:Nat):opsN (h.take j)≤opsN h:=by
 conv=>rhs;rw [← List.take_append_drop j h]
 unfold opsN
 rw [List.map_append,List.sum_append]
 omega
def mayN (n:Int):Prop:=0≤n∧n≤2147483647
instance (n:Int):Decidable (mayN n):=by unfold mayN;infer_instance
def mayO (o:HOp):Prop:=if o.read=true then mayN o.key∧o.value=0∧∀ x ∈ o.list,mayN x else mayN o.key∧mayN o.value∧o.list=[]
instance (o:HOp):Decidable (mayO o):=by unfold mayO;infer_instance
/-- Few transactions, operations, and values. -/
structure FewH (h:List HTx) (a b:Nat):Prop where
 t:h.length≤a
 o:opsN h≤b
 l:∀ t ∈ h,∀ o ∈ t.ops,o.list.length≤100
section
variable {p:Option Addr} {c:Nat} {h:List HTx}
theorem zhW {a b:Nat} (ha:a≤1000) (hb:b≤1000):Spec prog1 zaR [.agg #[.slice p h.length c],.int .i64 (a:Int),.int .i64 (b:Int)] [fro kHTx p c h] (fun R=>(FewH h a b→R (.bool true) [])∧R (.bool false) []):=by
 refine spec_code zgt rfl ?_;intro n F R hR;unfold zbI
 repeat' first|apply step|(apply gO;·repeat first|exact eZ|(apply eS;exact rfl))|(refine Br.mk (fun _=>?_) (fun _=>?_)<;>try (exfalso;omega))|refine Fa.mk fun _=>?_|refine g_cond ?_|refine g_keep ?_|refine g_fin ?_
 ·exact fin hR.2
 rename_i tb hab
 refine at_loopS (ι:=Nat) (E:=fun j=>[(2,.int .i64 (b:Int)),(3,.pointer (some ⟨tb,0,none⟩)),(7,.int .i64 (opsN (h.take j):Int)),(8,.int .i64 (j:Int))]) (Δ:=fun j=>pt tb [.slice p h.length c] 0::fro kHTx p c h::F) (P:=fun j=>(j≤h.length∧opsN (h.take j)≤b)∧∀ t ∈ h.take j,∀ o ∈ t.ops,o.list.length≤100) (μ:=fun j=>h.length - j) 0 ⟨⟨Nat.zero_le _,by simp [opsN]⟩,by simp⟩ ?_
 rintro j ⟨⟨hj,hb1⟩,hl⟩
 dsimp only
 rcases Nat.lt_or_ge j h.length with hlt|hge
 ·have h1:=zm hlt
  repeat' first|apply step|(apply gO;·repeat first|exact eZ|(apply eS;exact rfl))|(refine Br.mk (fun _=>?_) (fun _=>?_)<;>try (exfalso;omega))|(refine Sd.mk ?_ ?_;·exact qD)|(refine Sx.mk ?_ ?_;·omega)|refine Fa.mk fun _=>?_|refine Im.mk fun _=>?_|refine g_cond ?_|refine g_keep ?_|refine g_fin ?_
  ·exact fin hR.2
  rw [show ((opsN (h.take j) + h[j].ops.length:Nat):Int)=(opsN (h.take (j + 1)):Int) by omega]
  refine at_loopS (ι:=Nat) (E:=fun i=>[(2,.int .i64 (b:Int)),(3,.pointer (some ⟨tb,0,none⟩)),(7,.int .i64 (opsN (h.take (j + 1)):Int)),(8,.int .i64 (j:Int)),(9,.int .i64 (i:Int))]) (Δ:=fun i=>pt tb [.slice p h.length c] 0::fro kHTx p c h::F) (P:=fun i=>i≤h[j].ops.length∧∀ o ∈ h[j].ops.take i,o.list.length≤100) (μ:=fun i=>h[j].ops.length - i) 0 ⟨Nat.zero_le _,by simp⟩ ?_
  rintro i ⟨hi,hl2⟩
  try dsimp only
  repeat' first|apply step|(apply gO;·repeat first|exact eZ|(apply eS;exact rfl))|(refine Br.mk (fun _=>?_) (fun _=>?_)<;>try (exfalso;omega))|(refine Sd.mk ?_ ?_;·exact qD)|(refine Sx.mk ?_ ?_;·omega)|refine Fa.mk fun _=>?_|refine Im.mk fun _=>?_|refine g_cond ?_|refine g_keep ?_|refine g_fin ?_
  ·exact fin hR.2
  ·refine lp_next (i + 1) ⟨by omega,?_⟩ (by omega)
   intro o ho
   rw [List.take_succ_eq_append_getElem (by omega)] at ho
   rcases List.mem_append.1 ho with ho|ho
   ·exact hl2 o ho
   ·rw [List.mem_singleton.1 ho];omega
  ·have hi2:h[j].ops.take i=h[j].ops:=List.take_of_length_le (by omega)
   rw [hi2] at hl2
   refine lp_next (j + 1) ⟨⟨by omega,by omega⟩,?_⟩ (by omega)
   intro t ht
   rw [List.take_succ_eq_append_getElem hlt] at ht
   rcases List.mem_append.1 ht with ht|ht
   ·exact hl t ht
   ·rw [List.mem_singleton.1 ht];exact hl2
 ·have e:h.take j=h:=List.take_of_length_le hge
  rw [e] at hl hb1 ⊢
  repeat' first|apply step|(apply gO;·repeat first|exact eZ|(apply eS;exact rfl))|(refine Br.mk (fun _=>?_) (fun _=>?_)<;>try (exfalso;omega))|refine g_cond ?_|refine g_keep ?_|refine g_fin ?_
  exact fin (hR.1 ⟨by omega,hb1,hl⟩)
theorem zk6 (hh:h.length≤1000) (ho:opsN h≤1000000):Spec prog1 zbB [.agg #[.slice p h.length c]] [fro kHTx p c h] (fun R=>R (.int .i64 (opsN h:Int)) []):=by
 refine spec_code zhV rfl ?_;intro n F R hR;unfold zb6
 repeat' first|apply step|(apply gO;·repeat first|exact eZ|(apply eS;exact rfl))|refine Fa.mk fun _=>?_|refine g_keep ?_
 rename_i tb
 refine at_loopS (ι:=Nat) (E:=fun j=>[(1,.pointer (some ⟨tb,0,none⟩)),(3,.int .i64 (opsN (h.take j):Int)),(4,.int .i64 (j:Int))]) (Δ:=fun j=>pt tb [.slice p h.length c] 0::fro kHTx p c h::F) (P:=fun j=>j≤h.length) (μ:=fun j=>h.length - j) 0 (Nat.zero_le _) ?_
 rintro j hj
 dsimp only
 rcases Nat.lt_or_ge j h.length with hlt|hge
 ·have h1:=zm hlt
  have h2:=zv h (j + 1)
  repeat' first|apply step|(apply gO;·repeat first|exact eZ|(apply eS;exact rfl))|(refine Br.mk (fun _=>?_) (fun _=>?_)<;>try (exfalso;omega))|(refine Sd.mk ?_ ?_;·exact qD)|(refine Sx.mk ?_ ?_;·omega)|refine Fa.mk fun _=>?_|refine Im.mk fun _=>?_|refine g_cond ?_|refine g_keep ?_
  exact lp_next (j + 1) (by omega) (by omega) (by rw [h1])
 ·have:h.take j=h:=List.take_of_length_le hge
  rw [this]
  repeat' first|apply step|(apply gO;·repeat first|exact eZ|(apply eS;exact rfl))|(refine Br.mk (fun _=>?_) (fun _=>?_)<;>try (exfalso;omega))|refine g_cond ?_|refine g_keep ?_|refine g_fin ?_
  exact fin hR
theorem zgZ (hh:h.length≤1000) (ho:opsN h≤1000000):Spec prog1 zaN [.agg #[.slice p h.length c]] [fro kHTx p c h] (fun R=>R (.int .i64 (opsN h:Int)) []):=by
 refine spec_code zjo rfl ?_;intro n F R hR;unfold zck
 repeat' first|apply step|(apply gO;·repeat first|exact eZ|(apply eS;exact rfl))|refine Fa.mk fun _=>?_|refine g_keep ?_
 refine at_loopS (ι:=Nat) (E:=fun j=>[(3,.int .i64 (opsN (h.take j):Int)),(7,.slice p h.length c),(8,.int .i64 (h.length:Int)),(9,.int .i64 (j:Int))]) (Δ:=fun j=>fro kHTx p c h::F) (P:=fun j=>j≤h.length) (μ:=fun j=>h.length - j) 0 (Nat.zero_le _) ?_
 rintro j hj
 dsimp only
 rcases Nat.lt_or_ge j h.length with hlt|hge
 ·have h1:=zm hlt
  have h2:=zv h (j + 1)
  repeat' first|apply step|(apply gO;·repeat first|exact eZ|(apply eS;exact rfl))|(refine Br.mk (fun _=>?_) (fun _=>?_)<;>try (exfalso;omega))|(refine Sd.mk ?_ ?_;·exact qD)|(refine Sx.mk ?_ ?_;·omega)|refine Fa.mk fun _=>?_|refine Im.mk fun _=>?_|refine g_cond ?_|refine g_keep ?_
  exact lp_next (j + 1) (by omega) (by omega) (by rw [h1])
 ·have:h.take j=h:=List.take_of_length_le hge
  rw [this]
  repeat' first|apply step|(apply gO;·repeat first|exact eZ|(apply eS;exact rfl))|(refine Br.mk (fun _=>?_) (fun _=>?_)<;>try (exfalso;omega))|refine g_cond ?_|refine g_keep ?_|refine g_fin ?_
  exact fin hR
theorem zcz {x:Int}:Spec prog1 zB [.int .i64 x] [] (fun R=>R (.bool (decide (mayN x))) []):=by
 refine spec_code zgQ rfl ?_;intro n F R hR;unfold zcs
 by_cases hm:mayN x
 ·rw [decide_eq_true hm] at hR
  obtain ⟨h1,h2⟩:=hm
  repeat' first|apply step|(apply gO;·repeat first|exact eZ|(apply eS;exact rfl))|(refine Br.mk (fun _=>?_) (fun _=>?_)<;>try (exfalso;omega))|refine g_guard ?_|refine g_keep ?_|refine g_fin ?_
  exact fin hR
 ·rw [decide_eq_false hm] at hR
  unfold mayN at hm
  repeat' first|apply step|(apply gO;·repeat first|exact eZ|(apply eS;exact rfl))|(refine Br.mk (fun _=>?_) (fun _=>?_)<;>try (exfalso;omega))|refine g_guard ?_|refine g_keep ?_|refine g_fin ?_
  ·exact fin hR
  ·exact fin hR
theorem zjj {x:Int}:Spec prog1 zw [.int .i64 x] [] (fun R=>R (.bool (!decide (mayN x))) []):=by
 refine spec_code zgw rfl ?_;intro n F R hR;unfold zcI
 by_cases hm:mayN x
 ·rw [decide_eq_true hm] at hR
  obtain ⟨h1,h2⟩:=hm
  repeat' first|apply step|(apply gO;·repeat first|exact eZ|(apply eS;exact rfl))|(refine Br.mk (fun _=>?_) (fun _=>?_)<;>try (exfalso;omega))|refine g_guard ?_|refine g_keep ?_|refine g_fin ?_
  exact fin hR
 ·rw [decide_eq_false hm] at hR
  unfold mayN at hm
  repeat' first|apply step|(apply gO;·repeat first|exact eZ|(apply eS;exact rfl))|(refine Br.mk (fun _=>?_) (fun _=>?_)<;>try (exfalso;omega))|refine g_guard ?_|refine g_keep ?_|refine g_fin ?_
  all_goals exact fin hR
theorem zlt {l:List Int} (hl:l.length≤1000000000):Spec prog1 zF [.slice p l.length c,.func (.func zw) #[] #[]] [rdl (kInt .i64) p l] (fun R=>((∀ x ∈ l,mayN x)→R (.int .i64 (-1)) [])∧∀ i:Nat,¬ (∀ x ∈ l,mayN x)→R (.int .i64 (i:Int)) []):=by
 refine spec_code zeB rfl ?_;intro n F R hR;unfold zaZ
 repeat' first|apply step|(apply gO;·repeat first|exact eZ|(apply eS;exact rfl))|refine g_keep ?_
 refine at_loopS (ι:=Nat) (E:=fun j=>[(0,.slice p l.length c),(1,.func (.func zw) #[] #[]),(7,.int .i64 (l.length:Int)),(8,.int .i64 (j:Int))]) (Δ:=fun j=>rdl (kInt .i64) p l::F) (P:=fun j=>j≤l.length∧∀ x ∈ l.take j,mayN x) (μ:=fun j=>l.length - j) 0 ⟨Nat.zero_le _,by simp⟩ ?_
 rintro j ⟨hj,hl⟩
 try dsimp only
 repeat' first|apply step|(apply gO;·repeat first|exact eZ|(apply eS;exact rfl))|(refine Br.mk (fun _=>?_) (fun _=>?_)<;>try (exfalso;omega))|(refine Sd.mk ?_ ?_;·exact qD)|(refine Sx.mk ?_ ?_;·omega)|refine Im.mk fun _=>?_|refine g_cond ?_|refine g_keep ?_|refine g_fin ?_
 ·refine at_callS (zjj) ?_
  by_cases hm:mayN l[j]
  ·rw [decide_eq_true hm]
   repeat' first|apply step|(apply gO;·repeat first|exact eZ|(apply eS;exact rfl))|(refine Sd.mk ?_ ?_;·exact qD)|refine g_cond ?_|refine g_keep ?_
   refine lp_next (j + 1) ⟨by omega,?_⟩ (by omega)
   intro x hx
   rw [List.take_succ_eq_append_getElem (by omega)] at hx
   rcases List.mem_append.1 hx with hx|hx
   ·exact hl x hx
   ·rw [List.mem_singleton.1 hx];exact hm
  ·rw [decide_eq_false hm]
   repeat' first|apply step|(apply gO;·repeat first|exact eZ|(apply eS;exact rfl))|refine g_cond ?_|refine g_fin ?_
   exact fin (hR.2 j (fun h=>hm (h _ (List.getElem_mem _))))
 ·have e:l.take j=l:=List.take_of_length_le (by omega)
  rw [e] at hl
  exact fin (hR.1 hl)
theorem zie {l:List Int} (hl:l.length≤1000000000):Spec prog1 za6 [.slice p l.length c,.func (.func zw) #[] #[]] [rdl (kInt .i64) p l] (fun R=>R (.bool (!decide (∀ x ∈ l,mayN x))) []):=by
 refine spec_code zgO rfl ?_;intro n F R hR;unfold zdA
 repeat' first|apply step|(apply gO;·repeat first|exact eZ|(apply eS;exact rfl))
 refine at_callS (zlt (l:=l) hl) ?_
 refine ⟨fun h=>?_,fun i h=>?_⟩
 ·rw [decide_eq_true h] at hR
  repeat' first|apply step|(apply gO;·repeat first|exact eZ|(apply eS;exact rfl))|(refine Br.mk (fun _=>?_) (fun _=>?_)<;>try (exfalso;omega))|refine g_fin ?_
  exact fin hR
 ·rw [decide_eq_false h] at hR
  repeat' first|apply step|(apply gO;·repeat first|exact eZ|(apply eS;exact rfl))|(refine Br.mk (fun _=>?_) (fun _=>?_)<;>try (exfalso;omega))|refine g_fin ?_
  exact fin hR
theorem zdb {l:List Int} (hl:l.length≤1000000000):Spec prog1 zx [.slice p l.length c] [rdl (kInt .i64) p l] (fun R=>R (.bool (decide (∀ x ∈ l,mayN x))) []):=by
 refine spec_code zjm rfl ?_;intro n F R hR;unfold zcc
 repeat' first|apply step|(apply gO;·repeat first|exact eZ|(apply eS;exact rfl))
 refine at_callS (zie (l:=l) hl) ?_
 repeat' first|apply step|(apply gO;·repeat first|exact eZ|(apply eS;exact rfl))|refine g_fin ?_
 rw [Bool.not_not]
 repeat' first|apply step
 exact fin hR
theorem zhe {o:HOp} (hl:o.list.length≤1000000000) (hk:-9223372036854775808≤o.key∧o.key≤9223372036854775807) (hv:-9223372036854775808≤o.value∧o.value≤9223372036854775807):Spec prog1 zbj [.agg #[.bool o.read,.int .i64 o.key,.int .i64 o.value,.slice p o.list.length c]] [fro (kInt .i64) p c o.list] (fun R=>R (.bool (decide (mayO o))) []):=by
 refine spec_code ziZ rfl ?_;intro n F R hR;unfold zcR
 obtain ⟨rd,ky,vl,ls⟩:=o
 dsimp only at hl hk hv hR ⊢
 have e1:(∀ x ∈ [ky],mayN x) ↔ mayN ky:=by simp
 have e2:(∀ x ∈ [ky,vl],mayN x) ↔ mayN ky∧mayN vl:=by simp
 cases rd
 ·repeat' first|apply step|(apply gO;·repeat first|exact eZ|(apply eS;exact rfl))|refine Fa.mk fun _=>?_|refine g_cond ?_|refine g_keep ?_
  rename_i xb
  refine av_lits xb 2 (K:=kInt .i64) (l:=[ky,vl]) (φ:=_∧_) inferInstance (by exact ⟨hk,hv⟩) rfl ?_
  refine at_callS (zdb (l:=[ky,vl]) (by simp)) ?_
  by_cases h:mayN ky∧mayN vl
  ·rw [decide_eq_true (e2.2 h)]
   cases ls with
   | nil =>
    rw [decide_eq_true (show mayO ⟨false,ky,vl,[]⟩ by unfold mayO;simp [h])] at hR
    rw [List.length_nil]
    repeat' first|apply step|(apply gO;·repeat first|exact eZ|(apply eS;exact rfl))|(refine Br.mk (fun _=>?_) (fun _=>?_)<;>try (exfalso;omega))|refine g_guard ?_|refine g_keep ?_|refine g_fin ?_
    exact fin hR
   | cons x r =>
    rw [decide_eq_false (show ¬ mayO ⟨false,ky,vl,x::r⟩ by unfold mayO;simp)] at hR
    rw [List.length_cons]
    repeat' first|apply step|(apply gO;·repeat first|exact eZ|(apply eS;exact rfl))|(refine Br.mk (fun _=>?_) (fun _=>?_)<;>try (exfalso;omega))|refine g_guard ?_|refine g_keep ?_|refine g_fin ?_
    exact fin hR
  ·rw [decide_eq_false (fun q=>h (e2.1 q))]
   rw [decide_eq_false (show ¬ mayO ⟨false,ky,vl,ls⟩ by unfold mayO;simp;intro h1 h2;exact absurd ⟨h1,h2⟩ h)] at hR
   repeat' first|apply step|(apply gO;·repeat first|exact eZ|(apply eS;exact rfl))|refine g_guard ?_|refine g_keep ?_|refine g_fin ?_
   exact fin hR
 ·repeat' first|apply step|(apply gO;·repeat first|exact eZ|(apply eS;exact rfl))|refine Fa.mk fun _=>?_|refine g_cond ?_
  rename_i xb
  refine av_lits xb 1 (K:=kInt .i64) (l:=[ky]) inferInstance (by exact hk) rfl ?_
  refine at_callS (zdb (l:=[ky]) (by simp)) ?_
  by_cases h:mayN ky
  ·rw [decide_eq_true (e1.2 h)]
   by_cases h2:vl=0
   ·subst h2
    repeat' first|apply step|(apply gO;·repeat first|exact eZ|(apply eS;exact rfl))|(refine Br.mk (fun _=>?_) (fun _=>?_)<;>try (exfalso;omega))|refine g_guard ?_
    refine at_callS (zdb (l:=ls) hl) ?_
    have e3:(∀ x ∈ ls,mayN x) ↔ mayO ⟨true,ky,0,ls⟩:=by unfold mayO;simp [h]
    rw [show decide (∀ x ∈ ls,mayN x)=decide (mayO ⟨true,ky,0,ls⟩) from decide_eq_decide.2 e3]
    repeat' first|apply step|(apply gO;·repeat first|exact eZ|(apply eS;exact rfl))|refine g_keep ?_|refine g_fin ?_
    exact fin hR
   ·rw [decide_eq_false (show ¬ mayO ⟨true,ky,vl,ls⟩ by unfold mayO;simp [h2])] at hR
    repeat' first|apply step|(apply gO;·repeat first|exact eZ|(apply eS;exact rfl))|(refine Br.mk (fun _=>?_) (fun _=>?_)<;>try (exfalso;omega))|refine g_guard ?_|refine g_keep ?_|refine g_fin ?_
    exact fin hR
  ·rw [decide_eq_false (fun q=>h (e1.1 q))]
   rw [decide_eq_false (show ¬ mayO ⟨true,ky,vl,ls⟩ by unfold mayO;simp [h])] at hR
   repeat' first|apply step|(apply gO;·repeat first|exact eZ|(apply eS;exact rfl))|refine g_guard ?_|refine g_keep ?_|refine g_fin ?_
   exact fin hR
theorem zj2 {o:HOp} (hl:o.list.length≤1000000000):Spec prog1 zaV [.agg #[.bool o.read,.int .i64 o.key,.int .i64 o.value,.slice p o.list.length c]] [fro (kInt .i64) p c o.list] (fun R=>R (.bool (decide (mayO o))) []):=by
 refine spec_code zkj rfl ?_;intro n F R hR;unfold zcm
 obtain ⟨rd,ky,vl,ls⟩:=o
 dsimp only at hl hR ⊢
 repeat' first|apply step|(apply gO;·repeat first|exact eZ|(apply eS;exact rfl))|refine Fa.mk fun _=>?_
 refine at_callS (zcz (x:=ky)) ?_
 by_cases h:mayN ky
 ·rw [decide_eq_true h]
  cases rd
  ·repeat' first|apply step|(apply gO;·repeat first|exact eZ|(apply eS;exact rfl))|refine g_cond ?_
   refine at_callS (zcz (x:=vl)) ?_
   by_cases h2:mayN vl
   ·rw [decide_eq_true h2]
    cases ls with
    | nil =>
     rw [decide_eq_true (show mayO ⟨false,ky,vl,[]⟩ by unfold mayO;simp [h,h2])] at hR
     rw [List.length_nil]
     repeat' first|apply step|(apply gO;·repeat first|exact eZ|(apply eS;exact rfl))|(refine Br.mk (fun _=>?_) (fun _=>?_)<;>try (exfalso;omega))|refine g_guard ?_|refine g_keep ?_|refine g_fin ?_
     exact fin hR
    | cons x r =>
     rw [decide_eq_false (show ¬ mayO ⟨false,ky,vl,x::r⟩ by unfold mayO;simp)] at hR
     rw [List.length_cons]
     repeat' first|apply step|(apply gO;·repeat first|exact eZ|(apply eS;exact rfl))|(refine Br.mk (fun _=>?_) (fun _=>?_)<;>try (exfalso;omega))|refine g_guard ?_|refine g_keep ?_|refine g_fin ?_
     exact fin hR
   ·rw [decide_eq_false h2]
    rw [decide_eq_false (show ¬ mayO ⟨false,ky,vl,ls⟩ by unfold mayO;simp [h2])] at hR
    repeat' first|apply step|(apply gO;·repeat first|exact eZ|(apply eS;exact rfl))|refine g_guard ?_|refine g_keep ?_|refine g_fin ?_
    exact fin hR
  ·repeat' first|apply step|(apply gO;·repeat first|exact eZ|(apply eS;exact rfl))|refine g_cond ?_|refine g_keep ?_
   rename_i tb
   refine at_loopS (ι:=Nat) (E:=fun j=>[(1,.pointer (some ⟨tb,0,none⟩)),(3,.int .i64 (j:Int))]) (Δ:=fun j=>pt tb [.bool true,.int .i64 ky,.int .i64 vl,.slice p ls.length c] 0::fro (kInt .i64) p c ls::F) (P:=fun j=>j≤ls.length∧∀ x ∈ ls.take j,mayN x) (μ:=fun j=>ls.length - j) 0 ⟨Nat.zero_le _,by simp⟩ ?_
   rintro j ⟨hj,hm⟩
   try dsimp only
   repeat' first|apply step|(apply gO;·repeat first|exact eZ|(apply eS;exact rfl))|(refine Br.mk (fun _=>?_) (fun _=>?_)<;>try (exfalso;omega))|(refine Sd.mk ?_ ?_;·exact qD)|(refine Sx.mk ?_ ?_;·omega)|refine Im.mk fun _=>?_|refine g_cond ?_|refine g_keep ?_|refine g_fin ?_
   ·refine at_callS (zcz (x:=ls[j])) ?_
    by_cases h2:mayN ls[j]
    ·rw [decide_eq_true h2]
     repeat' first|apply step|(apply gO;·repeat first|exact eZ|(apply eS;exact rfl))|(refine Sd.mk ?_ ?_;·exact qD)|refine g_cond ?_|refine g_keep ?_
     refine lp_next (j + 1) ⟨by omega,?_⟩ (by omega)
     intro x hx
     rw [List.take_succ_eq_append_getElem (by omega)] at hx
     rcases List.mem_append.1 hx with hx|hx
     ·exact hm x hx
     ·rw [List.mem_singleton.1 hx];exact h2
    ·rw [decide_eq_false h2]
     rw [decide_eq_false (show ¬ mayO ⟨true,ky,vl,ls⟩ by unfold mayO;simp;intro _ _;exact ⟨_,List.getElem_mem _,h2⟩)] at hR
     repeat' first|apply step|(apply gO;·repeat first|exact eZ|(apply eS;exact rfl))|refine g_cond ?_|refine g_keep ?_|refine g_fin ?_
     exact fin hR
   ·have e:ls.take j=ls:=List.take_of_length_le (by omega)
    rw [e] at hm
    rw [decide_eq_true (show mayO ⟨true,ky,vl,ls⟩ by unfold mayO;simp [h,‹vl=0›];exact hm)] at hR
    exact fin hR
   ·rw [decide_eq_false (show ¬ mayO ⟨true,ky,vl,ls⟩ by unfold mayO;simp [‹¬ vl=0›])] at hR
    exact fin hR
 ·rw [decide_eq_false h]
  rw [decide_eq_false (show ¬ mayO ⟨rd,ky,vl,ls⟩ by unfold mayO;cases rd <;> simp [h])] at hR
  repeat' first|apply step|(apply gO;·repeat first|exact eZ|(apply eS;exact rfl))|refine g_cond ?_|refine g_fin ?_
  exact fin hR
end
end Go.AMS

namespace Go.AMS
open Go.AM hiding Kt At WP WL Runs RunsY
open Go.AM.G
set_option linter.unusedVariables false
set_option linter.unusedSimpArgs false
set_option linter.unusedSectionVars false
set_option maxRecDepth 100000
set_option maxHeartbeats 1000000
attribute [local irreducible] AtS AtV AtC AtG FinA Spec Post LP G.At G.WP G.WL pt own fro rdl ro hx mp lrec elt sub

section
variable {p:Option Addr} {c:Nat} {h:List HTx}
theorem zl8 {k m:Nat} (h:0 < m) (h2:m < 10 ^ k):0 < k:=by
 rcases Nat.eq_zero_or_pos k with q|q
 ·subst q;simp at h2;omega
 ·exact q
theorem zd4 {k m:Nat} (hk:0 < k) (h2:m < 10 ^ k):m / 10 < 10 ^ (k - 1):=by
 obtain ⟨j,rfl⟩:∃ j,k=j + 1:=⟨k - 1,by omega⟩
 rw [Nat.pow_succ] at h2
 rw [Nat.add_sub_cancel]
 omega
theorem zlq {x:Int} (hm:mayN x):Spec prog1 zau [.int .i64 x] [] (fun R=>R (.bool true) []):=by
 refine spec_code zlT rfl ?_;intro n F R hR;unfold zcH
 obtain ⟨h1,h2⟩:=hm
 repeat' first|apply step|(apply gO;·repeat first|exact eZ|(apply eS;exact rfl))|(refine Br.mk (fun _=>?_) (fun _=>?_)<;>try (exfalso;omega))|refine g_guard ?_|refine g_keep ?_|refine g_fin ?_
 exact fin hR
theorem zh8 {x:Int} (hm:mayN x):Spec prog1 zaG [.int .i64 x] [] (fun R=>∀ (d0 d1 d2 d3 d4 d5 d6 d7 d8 d9:Int) (k:Nat),1≤k→k≤10→R (.tuple #[.agg #[.int .u8 d0,.int .u8 d1,.int .u8 d2,.int .u8 d3,.int .u8 d4,.int .u8 d5,.int .u8 d6,.int .u8 d7,.int .u8 d8,.int .u8 d9],.int .i64 (k:Int)]) []):=by
 refine spec_code zhH rfl ?_;intro n F R hR;unfold zcw
 obtain ⟨m,rfl⟩:∃ m:Nat,x=m:=⟨x.toNat,by have:=hm.1;omega⟩
 have hm2:m < 10 ^ 10:=by have:=hm.2;show m < 10000000000;omega
 repeat' first|apply step|(apply gO;·repeat first|exact eZ|(apply eS;exact rfl))|refine Fa.mk fun _=>?_|refine g_keep ?_
 rename_i rb tb
 refine at_loopS (ι:=Nat × Nat × List Int) (E:=fun w=>[(0,.int .i64 (w.1:Int)),(2,.pointer (some ⟨rb,0,none⟩)),(4,.pointer (some ⟨tb,0,none⟩)),(5,.int .i64 (w.2.1:Int))]) (Δ:=fun w=>pt tb (w.2.2.map (.int .u8)) 0::pt rb [.int .u8 0,.int .u8 0,.int .u8 0,.int .u8 0,.int .u8 0,.int .u8 0,.int .u8 0,.int .u8 0,.int .u8 0,.int .u8 0] 0::F) (P:=fun w=>w.1 < 10 ^ (10 - w.2.1)∧w.2.1≤10∧w.2.2.length=10) (μ:=fun w=>10 - w.2.1) (m,0,List.replicate 10 0) ⟨hm2,by simp,by simp⟩ ?_
 rintro ⟨q,k,ds⟩ ⟨hq,hk,hl⟩
 dsimp only at hq hk hl ⊢
 have hk2:0 < q→k < 10:=fun h=>by have:=zl8 h hq;omega
 have hqb:q < 10000000000:=Nat.lt_of_lt_of_le hq (Nat.pow_le_pow_right (n:=10) (by omega) (show 10 - k≤10 by omega))
 repeat' first|apply step|(apply gO;·repeat first|exact eZ|(apply eS;exact rfl))|(refine Br.mk (fun _=>?_) (fun _=>?_)<;>try (exfalso;omega))|(refine Sd.mk ?_ ?_;·exact qD)|refine g_cond ?_|refine g_guard ?_|refine g_keep ?_
 ·have hk3:k < 10:=by omega
  rw [show 0 + (10 - ((k + 1:Nat):Int)).toNat * 1=9 - k by omega]
  refine av_storeU rfl inferInstance (by omega) ?_
  repeat' first|apply step|(apply gO;·repeat first|exact eZ|(apply eS;exact rfl))|(refine Sd.mk ?_ ?_;·exact qD)|refine g_keep ?_
  refine lp_next (q / 10,k + 1,ds.set (9 - k) (48 + ((q % Int.toNat 10:Nat):Int))) ⟨?_,by dsimp only;omega,by simp [hl]⟩ (by dsimp only;omega)
  dsimp only
  have:=zd4 (k:=10 - k) (by omega) hq
  rwa [show 10 - k - 1=10 - (k + 1) by omega] at this
 ·have hk3:k < 10:=by omega
  rw [show 0 + (10 - ((k + 1:Nat):Int)).toNat * 1=9 - k by omega]
  refine av_storeU rfl inferInstance (by omega) ?_
  repeat' first|apply step|(apply gO;·repeat first|exact eZ|(apply eS;exact rfl))|(refine Sd.mk ?_ ?_;·exact qD)|refine g_keep ?_
  refine lp_next (q / 10,k + 1,ds.set (9 - k) (48 + ((q % Int.toNat 10:Nat):Int))) ⟨?_,by dsimp only;omega,by simp [hl]⟩ (by dsimp only;omega)
  dsimp only
  have:=zd4 (k:=10 - k) (by omega) hq
  rwa [show 10 - k - 1=10 - (k + 1) by omega] at this
 ·obtain ⟨d0,d1,d2,d3,d4,d5,d6,d7,d8,d9,rfl⟩:∃ d0 d1 d2 d3 d4 d5 d6 d7 d8 d9:Int,ds=[d0,d1,d2,d3,d4,d5,d6,d7,d8,d9]:=by
   match ds,hl with
   | [d0,d1,d2,d3,d4,d5,d6,d7,d8,d9],_=>exact ⟨d0,d1,d2,d3,d4,d5,d6,d7,d8,d9,rfl⟩
  simp only [List.map_cons,List.map_nil]
  repeat' first|apply step|(apply gO;·repeat first|exact eZ|(apply eS;exact rfl))|refine g_fin ?_
  exact fin (hR _ _ _ _ _ _ _ _ _ _ k (by omega) hk)
theorem zhq {x:Int} (hm:mayN x):Spec prog1 zbs [.int .i64 x] [] (fun R=>∀ u:ByteArray,u.size≤10→R (.tuple #[.string u,.int .i64 0]) []):=by
 refine spec_code zh7 rfl ?_;intro n F R hR;unfold zbQ
 repeat' first|apply step|(apply gO;·repeat first|exact eZ|(apply eS;exact rfl))
 refine at_callS (zlq hm) ?_
 repeat' first|apply step|(apply gO;·repeat first|exact eZ|(apply eS;exact rfl))|refine g_cond ?_
 refine at_callS (zh8 hm) ?_
 intro d0 d1 d2 d3 d4 d5 d6 d7 d8 d9 k h1 h2
 repeat' first|apply step|(apply gO;·repeat first|exact eZ|(apply eS;exact rfl))|(refine Sd.mk ?_ ?_;·exact qD)|refine Fa.mk fun _=>?_|refine g_keep ?_
 refine av_slcV (i:=10 - k) (j:=10) inferInstance (by show some (10 - (k:Int))=some ((10 - k:Nat):Int);congr 1;omega) rfl ⟨by omega,by omega,by simp,by omega⟩ ?_
 repeat' first|apply step|(apply gO;·repeat first|exact eZ|(apply eS;exact rfl))
 rename_i tb
 refine av_convBSp (b:=tb) (l:=(([d0,d1,d2,d3,d4,d5,d6,d7,d8,d9].drop (0 + (10 - k) * 1)).take (10 - (10 - k)))) inferInstance ?_ (by simp) ?_
 ·rw [List.map_take,List.map_drop];rfl
 repeat' first|apply step|(apply gO;·repeat first|exact eZ|(apply eS;exact rfl))|refine g_fin ?_
 exact fin (hR _ (by rw [textOf_size,List.length_take];omega))
theorem zht {x:Int} (hm:mayN x):Spec prog1 zbc [.int .i64 x] [] (fun R=>∀ u:ByteArray,u.size≤10→R (.tuple #[.string u,.int .i64 0]) []):=by
 refine spec_code zhb rfl ?_;intro n F R hR;unfold zcD
 obtain ⟨m,rfl⟩:∃ m:Nat,x=m:=⟨x.toNat,by have:=hm.1;omega⟩
 have hm2:m < 10 ^ 10:=by have:=hm.2;show m < 10000000000;omega
 have hm3:=hm.2
 repeat' first|apply step|(apply gO;·repeat first|exact eZ|(apply eS;exact rfl))|(refine Br.mk (fun _=>?_) (fun _=>?_)<;>try (exfalso;omega))|refine g_cond ?_|refine g_guard ?_|refine g_keep ?_
 refine at_loopS (ι:=Nat × Nat × ByteArray) (E:=fun w=>[(0,.int .i64 (w.1:Int)),(4,.string w.2.2)]) (Δ:=fun w=>F) (P:=fun w=>w.1 < 10 ^ (10 - w.2.1)∧w.2.1≤9∧w.2.2.size≤w.2.1) (μ:=fun w=>10 - w.2.1) (m,0,⟨#[]⟩) ⟨hm2,by simp,Nat.le_refl _⟩ ?_
 rintro ⟨q,k,u⟩ ⟨hq,hk,hl⟩
 dsimp only at hq hk hl ⊢
 have hqb:q < 10000000000:=Nat.lt_of_lt_of_le hq (Nat.pow_le_pow_right (n:=10) (by omega) (show 10 - k≤10 by omega))
 have hk2:9 < q→k < 9:=fun h=>by
  rcases Nat.lt_or_ge k 9 with h2|h2
  ·exact h2
  ·exfalso
   have:10 - k=1:=by omega
   rw [this] at hq
   omega
 have hz:(⟨#[48,49,50,51,52,53,54,55,56,57]⟩:ByteArray).size=10:=rfl
 repeat' first|apply step|(apply gO;·repeat first|exact eZ|(apply eS;exact rfl))|(refine Br.mk (fun _=>?_) (fun _=>?_)<;>try (exfalso;omega))|(refine Sd.mk ?_ ?_;·exact qD)|refine g_cond ?_|refine g_keep ?_|refine g_fin ?_
 ·have hs:=extract_size_le (⟨#[48,49,50,51,52,53,54,55,56,57]⟩:ByteArray) (q % Int.toNat 10) (q % Int.toNat 10 + 1)
  refine lp_next (q / 10,k + 1,_) ⟨?_,by dsimp only;omega,?_⟩ (by dsimp only;omega)
  ·dsimp only
   have:=zd4 (k:=10 - k) (by omega) hq
   rwa [show 10 - k - 1=10 - (k + 1) by omega] at this
  ·dsimp only
   rw [ByteArray.size_append];omega
 ·have hs:=extract_size_le (⟨#[48,49,50,51,52,53,54,55,56,57]⟩:ByteArray) q (q + 1)
  exact fin (hR _ (by rw [ByteArray.size_append];omega))
theorem zaH {x:Int} (hm:mayN x):Spec prog1 zq [.int .i64 x] [] (fun R=>∀ u:ByteArray,u.size≤10→R (.string u) []):=by
 refine spec_code zj8 rfl ?_;intro n F R hR;unfold zcj
 repeat' first|apply step|(apply gO;·repeat first|exact eZ|(apply eS;exact rfl))
 refine at_callS (zht hm) ?_
 intro u hu
 repeat' first|apply step|(apply gO;·repeat first|exact eZ|(apply eS;exact rfl))|refine g_keep ?_|refine g_fin ?_
 exact fin (hR u hu)
theorem zds {a z:ByteArray} {l:List Int} (ha:a.size≤1) (hz:z.size≤3) (hl:l.length≤200) (hm:∀ x ∈ l,mayN x):Spec prog1 zH [.string a,.string z,.slice p l.length c] [rdl (kInt .i64) p l] (fun R=>∀ p' c' (u:List Int),u.length≤4 + 11 * l.length→R (.slice p' u.length c') [own (kInt .u8) p' c' u]):=by
 refine spec_code zh4 rfl ?_;intro n F R hR;unfold zc6
 have hbl:=bytesI_len a
 repeat' first|apply step|(apply gO;·repeat first|exact eZ|(apply eS;exact rfl))|refine Fa.mk fun _=>?_|refine g_keep ?_
 rename_i b
 refine at_loopS (ι:=Nat × Option Addr × Nat × List Int) (E:=fun w=>[(1,.string z),(7,.slice w.2.1 w.2.2.2.length w.2.2.1),(14,.slice p l.length c),(15,.int .i64 (l.length:Int)),(16,.int .i64 (w.1:Int))]) (Δ:=fun w=>own (kInt .u8) w.2.1 w.2.2.1 w.2.2.2::rdl (kInt .i64) p l::F) (P:=fun w=>w.1≤l.length∧w.2.2.2.length≤1 + 11 * w.1) (μ:=fun w=>l.length - w.1) (0,some ⟨b,0,none⟩,(bytesI a).length,bytesI a) ⟨Nat.zero_le _,by dsimp only;omega⟩ ?_
 rintro ⟨j,q,d,u⟩ ⟨hj,hu⟩
 dsimp only at hj hu ⊢
 have hzl:=bytesI_len z
 rcases Nat.lt_or_ge j l.length with hlt|hge
 ·repeat' first|apply step|(apply gO;·repeat first|exact eZ|(apply eS;exact rfl))|(refine Br.mk (fun _=>?_) (fun _=>?_)<;>try (exfalso;omega))|(refine Sd.mk ?_ ?_;·exact qD)|(refine Sx.mk ?_ ?_;·omega)|refine Im.mk fun _=>?_|refine g_cond ?_
  refine at_callS (zhq (hm l[j] (List.getElem_mem _))) ?_
  intro v hv
  have hs:(⟨#[32]⟩:ByteArray).size=1:=rfl
  have hs2:((⟨#[32]⟩:ByteArray)++v).size≤11:=by rw [ByteArray.size_append];omega
  have hbv:=bytesI_len ((⟨#[32]⟩:ByteArray)++v)
  repeat' first|apply step|(apply gO;·repeat first|exact eZ|(apply eS;exact rfl))|(refine Sd.mk ?_ ?_;·exact qD)|refine Fa.mk fun _=>?_|refine g_keep ?_
  refine lp_next (j + 1,_,_,u++bytesI ((⟨#[32]⟩:ByteArray)++v)) ⟨by dsimp only;omega,by dsimp only;rw [List.length_append];omega⟩ (by dsimp only;omega)
 ·repeat' first|apply step|(apply gO;·repeat first|exact eZ|(apply eS;exact rfl))|(refine Br.mk (fun _=>?_) (fun _=>?_)<;>try (exfalso;omega))|(refine Sd.mk ?_ ?_;·exact qD)|refine Fa.mk fun _=>?_|refine g_cond ?_|refine g_keep ?_|refine g_fin ?_
  exact fin (hR _ _ (u++bytesI z) (by rw [List.length_append];omega))
theorem zkL {t:HTx} (hid:mayN t.id) (ho:∀ o ∈ t.ops,mayO o∧o.list.length≤100) (hn:t.ops.length≤1000):Spec prog1 zbl [.agg #[.int .i64 t.id,.bool t.ab,.slice p t.ops.length c]] [fro kHOp p c t.ops] (fun R=>∀ p' c' (u:List Int),u.length≤15 + 1120 * t.ops.length→R (.slice p' u.length c') [own (kInt .u8) p' c' u]):=by
 refine spec_code ziq rfl ?_;intro n F R hR;unfold zdh
 obtain ⟨id,ab,ops⟩:=t
 dsimp only at hid ho hn hR ⊢
 have hb:-9223372036854775808≤id∧id≤9223372036854775807:=by have:=hid.1;have:=hid.2;omega
 repeat' first|apply step|(apply gO;·repeat first|exact eZ|(apply eS;exact rfl))|(refine Br.mk (fun _=>?_) (fun _=>?_)<;>try (exfalso;omega))|refine Fa.mk fun _=>?_|refine g_cond ?_
 all_goals
  rename_i xb
  refine av_lits xb 1 (K:=kInt .i64) (l:=[id]) inferInstance (by exact hb) rfl ?_
  first|refine at_callR (zds (a:=⟨#[116]⟩) (z:=⟨#[32,97,10]⟩) (l:=[id]) (by decide) (by decide) (by simp) (by simpa using hid)) ?_|refine at_callR (zds (a:=⟨#[116]⟩) (z:=⟨#[32,99,10]⟩) (l:=[id]) (by decide) (by decide) (by simp) (by simpa using hid)) ?_
  intro q d u hu
  rw [List.length_singleton] at hu
  repeat' first|apply step|(apply gO;·repeat first|exact eZ|(apply eS;exact rfl))|apply Lw.go|refine g_keep ?_
  refine at_loopS (ι:=Nat × Option Addr × Nat × List Int) (E:=fun w=>[(4,.slice w.2.1 w.2.2.2.length w.2.2.1),(15,.slice p ops.length c),(16,.int .i64 (ops.length:Int)),(17,.int .i64 (w.1:Int))]) (Δ:=fun w=>own (kInt .u8) w.2.1 w.2.2.1 w.2.2.2::fro kHOp p c ops::F) (P:=fun w=>w.1≤ops.length∧w.2.2.2.length≤15 + 1120 * w.1) (μ:=fun w=>ops.length - w.1) (0,q,d,u) ⟨Nat.zero_le _,by dsimp only;omega⟩ ?_
  rintro ⟨j,q1,d1,u1⟩ ⟨hj,hu1⟩
  dsimp only at hj hu1 ⊢
  rcases Nat.lt_or_ge j ops.length with hlt|hge
  ·obtain ⟨hm,hll⟩:=ho ops[j] (List.getElem_mem _)
   unfold mayO at hm
   repeat' first|apply step|(apply gO;·repeat first|exact eZ|(apply eS;exact rfl))|(refine Br.mk (fun _=>?_) (fun _=>?_)<;>try (exfalso;omega))|(refine Sd.mk ?_ ?_;·exact qD)|(refine Sx.mk ?_ ?_;·omega)|refine Fa.mk fun _=>?_|refine Im.mk fun _=>?_|refine g_cond ?_
   ·rw [if_pos ‹ops[j].read=true›] at hm
    obtain ⟨h1,h2,h3⟩:=hm
    have hall:∀ x ∈ [ops[j].key]++ops[j].list,mayN x:=by
     intro x hx
     rcases List.mem_append.1 hx with hx|hx
     ·rw [List.mem_singleton.1 hx];exact h1
     ·exact h3 x hx
    refine at_callR (zds (a:=⟨#[114]⟩) (z:=⟨#[10]⟩) (l:=[ops[j].key]++ops[j].list) (by decide) (by decide) (by simp;omega) hall) ?_
    intro q2 d2 u2 hu2
    rw [List.length_append,List.length_singleton] at hu2
    repeat' first|apply step|(apply gO;·repeat first|exact eZ|(apply eS;exact rfl))|(refine Sd.mk ?_ ?_;·exact qD)|refine Fa.mk fun _=>?_|apply Lw.go|refine g_keep ?_
    refine lp_next (j + 1,_,_,u1++u2) ⟨by dsimp only;omega,by dsimp only;rw [List.length_append];omega⟩ (by dsimp only;omega)
   ·rename_i xb
    rw [if_neg ‹¬ ops[j].read=true›] at hm
    obtain ⟨h1,h2,h3⟩:=hm
    have hall:∀ x ∈ [ops[j].key,ops[j].value],mayN x:=by
     intro x hx
     rcases List.mem_cons.1 hx with rfl|hx
     ·exact h1
     ·rw [List.mem_singleton.1 hx];exact h2
    have:=h1.1;have:=h1.2;have:=h2.1;have:=h2.2
    refine av_lits xb 2 (φ:=(-9223372036854775808≤ops[j].key∧ops[j].key≤9223372036854775807)∧(-9223372036854775808≤ops[j].value∧ops[j].value≤9223372036854775807)) (K:=kInt .i64) (l:=[ops[j].key,ops[j].value]) inferInstance ⟨by omega,by omega⟩ rfl ?_
    refine at_callR (zds (a:=⟨#[97]⟩) (z:=⟨#[10]⟩) (l:=[ops[j].key,ops[j].value]) (by decide) (by decide) (by simp) hall) ?_
    intro q2 d2 u2 hu2
    simp only [List.length_cons,List.length_nil] at hu2
    repeat' first|apply step|(apply gO;·repeat first|exact eZ|(apply eS;exact rfl))|(refine Sd.mk ?_ ?_;·exact qD)|refine Fa.mk fun _=>?_|apply Lw.go|refine g_keep ?_
    refine lp_next (j + 1,_,_,u1++u2) ⟨by dsimp only;omega,by dsimp only;rw [List.length_append];omega⟩ (by dsimp only;omega)
  ·repeat' first|apply step|(apply gO;·repeat first|exact eZ|(apply eS;exact rfl))|(refine Br.mk (fun _=>?_) (fun _=>?_)<;>try (exfalso;omega))|refine g_cond ?_|refine g_keep ?_|refine g_fin ?_
   exact fin (hR _ _ u1 (by omega))
theorem zjf (hh:∀ t ∈ h,mayN t.id∧∀ o ∈ t.ops,mayO o∧o.list.length≤100) (hf:h.length≤20) (hn:opsN h≤60):Spec prog1 zaM [.agg #[.slice p h.length c]] [fro kHTx p c h] (fun R=>∀ p' c' (u:List Int),u.length≤15 * h.length + 1120 * opsN h→R (.slice p' u.length c') [own (kInt .u8) p' c' u]):=by
 refine spec_code zgX rfl ?_;intro n F R hR;unfold zdt
 repeat' first|apply step|(apply gO;·repeat first|exact eZ|(apply eS;exact rfl))|refine Fa.mk fun _=>?_|refine g_keep ?_
 refine at_loopS (ι:=Nat × Option Addr × Nat × List Int) (E:=fun w=>[(3,.slice w.2.1 w.2.2.2.length w.2.2.1),(7,.slice p h.length c),(8,.int .i64 (h.length:Int)),(9,.int .i64 (w.1:Int))]) (Δ:=fun w=>own (kInt .u8) w.2.1 w.2.2.1 w.2.2.2::fro kHTx p c h::F) (P:=fun w=>w.1≤h.length∧w.2.2.2.length≤15 * w.1 + 1120 * opsN (h.take w.1)) (μ:=fun w=>h.length - w.1) (0,none,0,[]) ⟨Nat.zero_le _,by simp⟩ ?_
 rintro ⟨j,q1,d1,u1⟩ ⟨hj,hu1⟩
 dsimp only at hj hu1 ⊢
 rcases Nat.lt_or_ge j h.length with hlt|hge
 ·obtain ⟨hid,ho⟩:=hh h[j] (List.getElem_mem _)
  have e1:=zm hlt
  have e2:=zv h (j + 1)
  repeat' first|apply step|(apply gO;·repeat first|exact eZ|(apply eS;exact rfl))|(refine Br.mk (fun _=>?_) (fun _=>?_)<;>try (exfalso;omega))|(refine Sd.mk ?_ ?_;·exact qD)|(refine Sx.mk ?_ ?_;·omega)|refine Fa.mk fun _=>?_|refine Im.mk fun _=>?_|refine g_cond ?_
  refine at_callR (zkL (t:=h[j]) hid ho (by omega)) ?_
  intro q2 d2 u2 hu2
  repeat' first|apply step|(apply gO;·repeat first|exact eZ|(apply eS;exact rfl))|(refine Sd.mk ?_ ?_;·exact qD)|refine Fa.mk fun _=>?_|apply Lw.go|refine g_keep ?_
  refine lp_next (j + 1,_,_,u1++u2) ⟨by dsimp only;omega,by dsimp only;rw [List.length_append];omega⟩ (by dsimp only;omega)
 ·have e:h.take j=h:=List.take_of_length_le hge
  rw [e] at hu1
  repeat' first|apply step|(apply gO;·repeat first|exact eZ|(apply eS;exact rfl))|(refine Br.mk (fun _=>?_) (fun _=>?_)<;>try (exfalso;omega))|refine g_cond ?_|refine g_keep ?_|refine g_fin ?_
  exact fin (hR _ _ u1 (by omega))
end
end Go.AMS

namespace Go.AMS
open Go.AM hiding Kt At WP WL Runs RunsY
open Go.AM.G
set_option linter.unusedVariables false
set_option linter.unusedSimpArgs false
set_option linter.unusedSectionVars false
set_option maxRecDepth 100000
set_option maxHeartbeats 1000000
attribute [local irreducible] AtS AtV AtC AtG FinA Spec Post LP G.At G.WP G.WL pt own fro rdl ro hx mp lrec elt sub

def prs (l:List HOp):List (Int × Int):=(l.filter fun o=>!o.read).map fun o=>(o.key,o.value)
def idsH (h:List HTx):List Int:=h.map HTx.id
def prsH (h:List HTx):List (Int × Int):=h.flatMap fun t=>prs t.ops
def scanO (met:List (Int × Int)):List HOp→Int
 | []=>0
 | o::r=>if ¬ mayO o then 2 else if o.read=true then scanO met r else if (o.key,o.value) ∈ met then 6 else scanO (met++[(o.key,o.value)]) r
def scanH (ids:List Int) (met:List (Int × Int)):List HTx→Int
 | []=>0
 | t::r=>if ¬ mayN t.id then 2 else if t.id ∈ ids then 5 else if scanO met t.ops≠0 then scanO met t.ops else scanH (ids++[t.id]) (met++prs t.ops) r
/-- Whether a history may be: 0, or an error's number. -/
def chkH (h:List HTx):Int:=scanH [] [] h
theorem zdJ (l:List HOp) (o:HOp):prs (l++[o])=prs l++if o.read=true then [] else [(o.key,o.value)]:=by
 unfold prs
 rw [List.filter_append,List.map_append]
 congr 1
 cases h:o.read <;> simp [h]
theorem zeV (h:List HTx) (t:HTx):idsH (h++[t])=idsH h++[t.id]:=by unfold idsH;simp
theorem zeb (h:List HTx) (t:HTx):prsH (h++[t])=prsH h++prs t.ops:=by unfold prsH;simp
/-- So it is known when all that is to be known of the first ones is known. -/
structure PreO (met:List (Int × Int)) (l:List HOp) (i:Nat):Prop where
 go:scanO met l=scanO (met++prs (l.take i)) (l.drop i)
 ok:∀ o ∈ l.take i,mayO o
theorem PreO.zero (met:List (Int × Int)) (l:List HOp):PreO met l 0:=⟨by simp [prs],by simp⟩
section
variable {met:List (Int × Int)} {l:List HOp} {i:Nat} (hp:PreO met l i) (hi:i < l.length)
include hp hi
theorem PreO.bad (h:¬ mayO l[i]):scanO met l=2:=by
 rw [hp.go,List.drop_eq_getElem_cons hi,scanO,if_pos h]
theorem PreO.old (h:mayO l[i]) (h2:¬ l[i].read=true) (h3:(l[i].key,l[i].value) ∈ met++prs (l.take i)):scanO met l=6:=by
 rw [hp.go,List.drop_eq_getElem_cons hi,scanO,if_neg (by simpa using h),if_neg h2,if_pos h3]
theorem PreO.read (h:mayO l[i]) (h2:l[i].read=true):PreO met l (i + 1)∧prs (l.take (i + 1))=prs (l.take i):=by
 have e:prs (l.take (i + 1))=prs (l.take i):=by rw [List.take_succ_eq_append_getElem hi,zdJ,if_pos h2,List.append_nil]
 refine ⟨⟨?_,?_⟩,e⟩
 ·rw [hp.go,List.drop_eq_getElem_cons hi,scanO,if_neg (by simpa using h),if_pos h2,e]
 ·intro o ho
  rw [List.take_succ_eq_append_getElem hi] at ho
  rcases List.mem_append.1 ho with ho|ho
  ·exact hp.ok o ho
  ·rw [List.mem_singleton.1 ho];exact h
theorem PreO.new (h:mayO l[i]) (h2:¬ l[i].read=true) (h3:(l[i].key,l[i].value) ∉ met++prs (l.take i)):PreO met l (i + 1)∧prs (l.take (i + 1))=prs (l.take i)++[(l[i].key,l[i].value)]:=by
 have e:prs (l.take (i + 1))=prs (l.take i)++[(l[i].key,l[i].value)]:=by rw [List.take_succ_eq_append_getElem hi,zdJ,if_neg h2]
 refine ⟨⟨?_,?_⟩,e⟩
 ·rw [hp.go,List.drop_eq_getElem_cons hi,scanO,if_neg (by simpa using h),if_neg h2,if_neg h3,e,List.append_assoc]
 ·intro o ho
  rw [List.take_succ_eq_append_getElem hi] at ho
  rcases List.mem_append.1 ho with ho|ho
  ·exact hp.ok o ho
  ·rw [List.mem_singleton.1 ho];exact h
end
theorem PreO.all {met:List (Int × Int)} {l:List HOp} (hp:PreO met l l.length):scanO met l=0:=by
 rw [hp.go,List.drop_length];rfl
structure PreH (h:List HTx) (j:Nat):Prop where
 go:chkH h=scanH (idsH (h.take j)) (prsH (h.take j)) (h.drop j)
 ok:∀ t ∈ h.take j,mayN t.id∧∀ o ∈ t.ops,mayO o
theorem PreH.zero (h:List HTx):PreH h 0:=⟨by simp [chkH,idsH,prsH],by simp⟩
section
variable {h:List HTx} {j:Nat} (hp:PreH h j) (hj:j < h.length)
include hp hj
theorem PreH.bad (h1:¬ mayN h[j].id):chkH h=2:=by
 rw [hp.go,List.drop_eq_getElem_cons hj,scanH,if_pos h1]
theorem PreH.twin (h1:mayN h[j].id) (h2:h[j].id ∈ idsH (h.take j)):chkH h=5:=by
 rw [hp.go,List.drop_eq_getElem_cons hj,scanH,if_neg (by simpa using h1),if_pos h2]
theorem PreH.op (h1:mayN h[j].id) (h2:h[j].id ∉ idsH (h.take j)) {e:Int} (h3:scanO (prsH (h.take j)) h[j].ops=e) (he:e≠0):chkH h=e:=by
 rw [hp.go,List.drop_eq_getElem_cons hj,scanH,if_neg (by simpa using h1),if_neg h2,h3,if_pos he]
theorem PreH.next (h1:mayN h[j].id) (h2:h[j].id ∉ idsH (h.take j)) (h3:PreO (prsH (h.take j)) h[j].ops h[j].ops.length):PreH h (j + 1)∧idsH (h.take (j + 1))=idsH (h.take j)++[h[j].id]∧prsH (h.take (j + 1))=prsH (h.take j)++prs h[j].ops:=by
 have e1:idsH (h.take (j + 1))=idsH (h.take j)++[h[j].id]:=by rw [List.take_succ_eq_append_getElem hj,zeV]
 have e2:prsH (h.take (j + 1))=prsH (h.take j)++prs h[j].ops:=by rw [List.take_succ_eq_append_getElem hj,zeb]
 refine ⟨⟨?_,?_⟩,e1,e2⟩
 ·rw [hp.go,List.drop_eq_getElem_cons hj,scanH,if_neg (by simpa using h1),if_neg h2,h3.all,if_neg (by simp),e1,e2]
 ·intro t ht
  rw [List.take_succ_eq_append_getElem hj] at ht
  rcases List.mem_append.1 ht with ht|ht
  ·exact hp.ok t ht
  ·rw [List.mem_singleton.1 ht]
   refine ⟨h1,?_⟩
   have:=h3.ok
   rwa [List.take_length] at this
end
theorem PreH.all {h:List HTx} (hp:PreH h h.length):chkH h=0:=by
 rw [hp.go,List.drop_length];rfl
theorem zeG {α:Type} {l:List α} {x:α} (h:l.Nodup) (hx:x ∉ l):(l++[x]).Nodup:=by
 rw [List.nodup_append]
 exact ⟨h,by simp,fun a ha b hb=>by rw [List.mem_singleton.1 hb];rintro rfl;exact hx ha⟩
theorem zd7:∀ {l:List HOp} {met:List (Int × Int)},met.Nodup→scanO met l=0→(∀ o ∈ l,mayO o)∧(met++prs l).Nodup
 | [],met,hm,_=>⟨by simp,by simpa [prs] using hm⟩
 | o::r,met,hm,h=>by
  unfold scanO at h
  by_cases h1:mayO o
  ·rw [if_neg (by simpa using h1)] at h
   by_cases h2:o.read=true
   ·rw [if_pos h2] at h
    obtain ⟨k1,k2⟩:=zd7 hm h
    refine ⟨fun x hx=>?_,?_⟩
    ·rcases List.mem_cons.1 hx with rfl|hx
     ·exact h1
     ·exact k1 x hx
    ·have:prs (o::r)=prs r:=by unfold prs;simp [h2]
     rw [this];exact k2
   ·rw [if_neg h2] at h
    by_cases h3:(o.key,o.value) ∈ met
    ·rw [if_pos h3] at h;cases h
    ·rw [if_neg h3] at h
     obtain ⟨k1,k2⟩:=zd7 (zeG hm h3) h
     refine ⟨fun x hx=>?_,?_⟩
     ·rcases List.mem_cons.1 hx with rfl|hx
      ·exact h1
      ·exact k1 x hx
     ·have:prs (o::r)=[(o.key,o.value)]++prs r:=by unfold prs;simp [h2]
      rw [this,← List.append_assoc];exact k2
  ·rw [if_pos h1] at h;cases h
theorem zeE:∀ {h:List HTx} {ids:List Int} {met:List (Int × Int)},ids.Nodup→met.Nodup→scanH ids met h=0→(∀ t ∈ h,mayN t.id∧∀ o ∈ t.ops,mayO o)∧(ids++idsH h).Nodup∧(met++prsH h).Nodup
 | [],ids,met,hi,hm,_=>⟨by simp,by simpa [idsH] using hi,by simpa [prsH] using hm⟩
 | t::r,ids,met,hi,hm,h=>by
  unfold scanH at h
  by_cases h1:mayN t.id
  ·rw [if_neg (by simpa using h1)] at h
   by_cases h2:t.id ∈ ids
   ·rw [if_pos h2] at h;cases h
   ·rw [if_neg h2] at h
    by_cases h3:scanO met t.ops=0
    ·rw [if_neg (by simpa using h3)] at h
     obtain ⟨q1,q2⟩:=zd7 hm h3
     obtain ⟨k1,k2,k3⟩:=zeE (zeG hi h2) q2 h
     refine ⟨fun x hx=>?_,?_,?_⟩
     ·rcases List.mem_cons.1 hx with rfl|hx
      ·exact ⟨h1,q1⟩
      ·exact k1 x hx
     ·have:idsH (t::r)=[t.id]++idsH r:=rfl
      rw [this,← List.append_assoc];exact k2
     ·have:prsH (t::r)=prs t.ops++prsH r:=rfl
      rw [this,← List.append_assoc];exact k3
    ·rw [if_pos h3] at h;exact absurd h h3
  ·rw [if_pos h1] at h;cases h
/-- A history that may be. -/
structure OkH (h:List HTx):Prop where
 m:∀ t ∈ h,mayN t.id∧∀ o ∈ t.ops,mayO o
 i:(idsH h).Nodup
 p:(prsH h).Nodup
theorem zbN {h:List HTx} (e:chkH h=0):OkH h:=by
 obtain ⟨h1,h2,h3⟩:=zeE (ids:=[]) (met:=[]) List.nodup_nil List.nodup_nil e
 exact ⟨h1,h2,h3⟩
section
variable {κ β:Type} [DecidableEq κ]
theorem zJ {k:κ}:∀ {l:List (κ × β)},aget k l=none ↔ k ∉ l.map (·.1)
 | []=>by simp [aget]
 | (k',v)::r=>by
  simp only [aget,List.map_cons,List.mem_cons,not_or]
  by_cases h:k=k'
  ·simp [h]
  ·rw [if_neg h,zJ];simp [h]
theorem zdC {k:κ} {v:β}:∀ {l:List (κ × β)},k ∉ l.map (·.1)→aset k v l=l++[(k,v)]
 | [],_=>rfl
 | (k',v')::r,h=>by
  simp only [List.map_cons,List.mem_cons,not_or] at h
  simp only [aset]
  rw [if_neg h.1,zdC h.2];rfl
end
section
variable {p:Option Addr} {c:Nat} {h:List HTx}
theorem zhI (hf:FewH h 20 60):Spec prog1 za9 [.agg #[.slice p h.length c]] [fro kHTx p c h] (fun R=>R (.int .i64 (chkH h)) []):=by
 refine spec_code zke rfl ?_;intro n F R hR;unfold zb0
 have hh:=hf.t
 repeat' first|apply step|(apply gO;·repeat first|exact eZ|(apply eS;exact rfl))|refine Fa.mk fun _=>?_|refine g_keep ?_
 rename_i hb ma mb
 refine at_loopS (ι:=Nat × List (Int × Int) × List ((Int × Int) × Int)) (E:=fun w=>[(3,.map (some ma)),(4,.map (some mb)),(17,.slice p h.length c),(18,.int .i64 (h.length:Int)),(19,.int .i64 (w.1:Int))]) (Δ:=fun w=>mp mb (amap kII kI w.2.2)::mp ma (amap kI kI w.2.1)::fro kHTx p c h::F) (P:=fun w=>(PreH h w.1∧w.1≤h.length)∧w.2.1.map (·.1)=idsH (h.take w.1)∧w.2.2.map (·.1)=prsH (h.take w.1)) (μ:=fun w=>h.length - w.1) (0,[],[]) ⟨⟨PreH.zero h,Nat.zero_le _⟩,rfl,rfl⟩ ?_
 rintro ⟨j,A,B⟩ ⟨⟨hp,hj⟩,hA,hB⟩
 dsimp only at hp hj hA hB ⊢
 rcases Nat.lt_or_ge j h.length with hlt|hge
 ·have e1:=zm hlt
  have e2:=zv h (j + 1)
  have e3:=hf.o
  repeat' first|apply step|(apply gO;·repeat first|exact eZ|(apply eS;exact rfl))|(refine Br.mk (fun _=>?_) (fun _=>?_)<;>try (exfalso;omega))|(refine Sd.mk ?_ ?_;·exact qD)|(refine Sx.mk ?_ ?_;·omega)|refine Fa.mk fun _=>?_|refine Im.mk fun _=>?_|refine g_cond ?_
  rename_i _ px hbid sb xb
  refine av_lits xb 1 (K:=kInt .i64) (l:=[h[j].id]) inferInstance (by exact hbid.1) rfl ?_
  refine at_callR (zdb (l:=[h[j].id]) (by simp)) ?_
  have e4:(∀ x ∈ [h[j].id],mayN x) ↔ mayN h[j].id:=by simp
  by_cases h1:mayN h[j].id
  ·rw [decide_eq_true (e4.2 h1)]
   repeat' first|apply step|(apply gO;·repeat first|exact eZ|(apply eS;exact rfl))|apply Lw.go|refine g_cond ?_
   cases hq:aget h[j].id A with
   | some v =>
    have h2:h[j].id ∈ idsH (h.take j):=by
     rw [← hA]
     exact Classical.byContradiction fun hn=>by rw [zJ.2 hn] at hq;cases hq
    rw [hp.twin hlt h1 h2] at hR
    refine av_look1 (enc:=kI) (vv:=kI) (key:=h[j].id) inferInstance hq ?_
    repeat' first|apply step|(apply gO;·repeat first|exact eZ|(apply eS;exact rfl))|refine g_cond ?_|refine g_keep ?_|refine g_fin ?_
    exact fin hR
   | none =>
    have h2:h[j].id ∉ idsH (h.take j):=by rw [← hA];exact zJ.1 hq
    have hA2:(aset h[j].id (j:Int) A).map (·.1)=idsH (h.take j)++[h[j].id]:=by
     rw [zdC (zJ.1 hq),List.map_append,hA];rfl
    refine av_look0 (enc:=kI) (vv:=kI) (key:=h[j].id) inferInstance hq ?_
    repeat' first|apply step|(apply gO;·repeat first|exact eZ|(apply eS;exact rfl))|refine g_cond ?_|refine g_keep ?_
    refine av_put (enc:=kI) (vv:=kI) (key:=h[j].id) (val:=(j:Int)) rfl inferInstance ?_
    repeat' first|apply step|(apply gO;·repeat first|exact eZ|(apply eS;exact rfl))|refine g_keep ?_
    refine at_loopS (ι:=Nat × List ((Int × Int) × Int)) (E:=fun w=>[(3,.map (some ma)),(4,.map (some mb)),(5,.int .i64 (j:Int)),(17,.slice p h.length c),(18,.int .i64 (h.length:Int)),(19,.int .i64 (j:Int)),(42,.slice px.1 h[j].ops.length px.2),(43,.int .i64 (h[j].ops.length:Int)),(44,.int .i64 (w.1:Int))]) (Δ:=fun w=>mp mb (amap kII kI w.2)::mp ma (amap kI kI (aset h[j].id (j:Int) A))::fro kHOp px.1 px.2 h[j].ops::fro kHTx p c h::F) (P:=fun w=>(PreO (prsH (h.take j)) h[j].ops w.1∧w.1≤h[j].ops.length)∧w.2.map (·.1)=prsH (h.take j)++prs (h[j].ops.take w.1)) (μ:=fun w=>h[j].ops.length - w.1) (0,B) ⟨⟨PreO.zero _ _,Nat.zero_le _⟩,by simp [hB,prs]⟩ ?_
    rintro ⟨i,B1⟩ ⟨⟨ho,hi⟩,hB1⟩
    dsimp only at ho hi hB1 ⊢
    rcases Nat.lt_or_ge i h[j].ops.length with hlt2|hge2
    ·have hll:=hf.l h[j] (List.getElem_mem _) h[j].ops[i] (List.getElem_mem _)
     repeat' first|apply step|(apply gO;·repeat first|exact eZ|(apply eS;exact rfl))|(refine Br.mk (fun _=>?_) (fun _=>?_)<;>try (exfalso;omega))|(refine Sd.mk ?_ ?_;·exact qD)|(refine Sx.mk ?_ ?_;·omega)|refine Fa.mk fun _=>?_|refine Im.mk fun _=>?_|refine g_cond ?_
     rename_i _ py hbo tb
     refine at_callR (zhe (o:=h[j].ops[i]) (by omega) hbo.1 hbo.2.1) ?_
     by_cases hm:mayO h[j].ops[i]
     ·rw [decide_eq_true hm]
      repeat' first|apply step|(apply gO;·repeat first|exact eZ|(apply eS;exact rfl))|(refine Br.mk (fun _=>?_) (fun _=>?_)<;>try (exfalso;omega))|(refine Sd.mk ?_ ?_;·exact qD)|refine Fa.mk fun _=>?_|apply Lw.go|refine g_cond ?_|refine g_keep ?_
      ·obtain ⟨q1,q2⟩:=ho.read hlt2 hm ‹h[j].ops[i].read=true›
       refine lp_next (i + 1,B1) ⟨⟨q1,by dsimp only;omega⟩,by dsimp only;rw [q2,hB1]⟩ (by dsimp only;omega)
      ·rename_i hr kb
       cases hq2:aget (h[j].ops[i].key,h[j].ops[i].value) B1 with
       | some v =>
        have h3:(h[j].ops[i].key,h[j].ops[i].value) ∈ prsH (h.take j)++prs (h[j].ops.take i):=by
         rw [← hB1]
         exact Classical.byContradiction fun hn=>by rw [zJ.2 hn] at hq2;cases hq2
        rw [hp.op hlt h1 h2 (ho.old hlt2 hm hr h3) (by decide)] at hR
        refine av_look1 (enc:=kII) (vv:=kI) (key:=(h[j].ops[i].key,h[j].ops[i].value)) inferInstance hq2 ?_
        repeat' first|apply step|(apply gO;·repeat first|exact eZ|(apply eS;exact rfl))|refine g_cond ?_|refine g_keep ?_|refine g_fin ?_
        exact fin hR
       | none =>
        have h3:(h[j].ops[i].key,h[j].ops[i].value) ∉ prsH (h.take j)++prs (h[j].ops.take i):=by rw [← hB1];exact zJ.1 hq2
        obtain ⟨q1,q2⟩:=ho.new hlt2 hm hr h3
        refine av_look0 (enc:=kII) (vv:=kI) (key:=(h[j].ops[i].key,h[j].ops[i].value)) inferInstance hq2 ?_
        repeat' first|apply step|(apply gO;·repeat first|exact eZ|(apply eS;exact rfl))|refine g_cond ?_|refine g_keep ?_
        refine av_put (enc:=kII) (vv:=kI) (key:=(h[j].ops[i].key,h[j].ops[i].value)) (val:=(j:Int)) rfl inferInstance ?_
        repeat' first|apply step|(apply gO;·repeat first|exact eZ|(apply eS;exact rfl))|(refine Sd.mk ?_ ?_;·exact qD)|refine g_keep ?_
        refine lp_next (i + 1,aset (h[j].ops[i].key,h[j].ops[i].value) (j:Int) B1) ⟨⟨q1,by dsimp only;omega⟩,?_⟩ (by dsimp only;omega)
        dsimp only
        rw [zdC (zJ.1 hq2),List.map_append,hB1,q2,List.append_assoc];rfl
     ·rw [decide_eq_false hm]
      rw [hp.op hlt h1 h2 (ho.bad hlt2 hm) (by decide)] at hR
      repeat' first|apply step|(apply gO;·repeat first|exact eZ|(apply eS;exact rfl))|apply Lw.go|refine g_cond ?_|refine g_fin ?_
      exact fin hR
    ·have:i=h[j].ops.length:=by omega
     subst this
     obtain ⟨k1,k2,k3⟩:=hp.next hlt h1 h2 ho
     rw [List.take_length] at hB1
     repeat' first|apply step|(apply gO;·repeat first|exact eZ|(apply eS;exact rfl))|(refine Br.mk (fun _=>?_) (fun _=>?_)<;>try (exfalso;omega))|(refine Sd.mk ?_ ?_;·exact qD)|refine g_cond ?_|refine g_keep ?_
     refine lp_next (j + 1,aset h[j].id (j:Int) A,B1) ⟨⟨k1,by dsimp only;omega⟩,by dsimp only;rw [hA2,k2],by dsimp only;rw [hB1,k3]⟩ (by dsimp only;omega)
  ·rw [decide_eq_false (fun q=>h1 (e4.1 q))]
   rw [hp.bad hlt h1] at hR
   repeat' first|apply step|(apply gO;·repeat first|exact eZ|(apply eS;exact rfl))|apply Lw.go|refine g_cond ?_|refine g_fin ?_
   exact fin hR
 ·have:j=h.length:=by omega
  subst this
  rw [hp.all] at hR
  repeat' first|apply step|(apply gO;·repeat first|exact eZ|(apply eS;exact rfl))|(refine Br.mk (fun _=>?_) (fun _=>?_)<;>try (exfalso;omega))|refine g_cond ?_|refine g_keep ?_|refine g_fin ?_
  exact fin hR
theorem zj9 (hf:FewH h 20 60):Spec prog1 zbd [.agg #[.slice p h.length c]] [fro kHTx p c h] (fun R=>R (.int .i64 (chkH h)) []):=by
 refine spec_code ziR rfl ?_;intro n F R hR;unfold zch
 have hh:=hf.t
 have ho:=hf.o
 repeat' first|apply step|(apply gO;·repeat first|exact eZ|(apply eS;exact rfl))|(refine Br.mk (fun _=>?_) (fun _=>?_)<;>try (exfalso;omega))|refine Fa.mk fun _=>?_|refine g_guard ?_
 refine at_callS (zgZ (h:=h) (by omega) (by omega)) ?_
 repeat' first|apply step|(apply gO;·repeat first|exact eZ|(apply eS;exact rfl))|(refine Br.mk (fun _=>?_) (fun _=>?_)<;>try (exfalso;omega))|refine g_cond ?_|refine g_guard ?_|refine g_keep ?_
 refine at_callS (zhI (h:=h) hf) ?_
 by_cases hc:chkH h=0
 ·rw [hc] at hR ⊢
  have hk:=zbN hc
  repeat' first|apply step|(apply gO;·repeat first|exact eZ|(apply eS;exact rfl))|(refine Br.mk (fun _=>?_) (fun _=>?_)<;>try (exfalso;omega))|refine g_cond ?_|refine g_keep ?_
  refine at_callS (zjf (h:=h) (fun t ht=>⟨(hk.m t ht).1,fun o ho=>⟨(hk.m t ht).2 o ho,hf.l t ht o ho⟩⟩) hh ho) ?_
  intro p' c' u hu
  repeat' first|apply step|(apply gO;·repeat first|exact eZ|(apply eS;exact rfl))|(refine Br.mk (fun _=>?_) (fun _=>?_)<;>try (exfalso;omega))|refine g_cond ?_|refine g_fin ?_
  exact fin hR
 ·repeat' first|apply step|(apply gO;·repeat first|exact eZ|(apply eS;exact rfl))|(refine Br.mk (fun _=>?_) (fun _=>?_)<;>try (exfalso;omega))|refine g_cond ?_|refine g_fin ?_
  exact fin hR
end
end Go.AMS

namespace Go.AMS
open Go.AM hiding Kt At WP WL Runs RunsY
open Go.AM.G
set_option linter.unusedVariables false
set_option linter.unusedSimpArgs false
set_option linter.unusedSectionVars false
set_option maxRecDepth 100000
set_option maxHeartbeats 1000000
attribute [local irreducible] AtS AtV AtC AtG FinA Spec Post LP G.At G.WP G.WL pt own fro rdl ro hx mp lrec elt sub

section
variable {p:Option Addr} {c:Nat} {h:List HTx}
theorem zjq {l:List HOp} {i:Nat} (hi:i < l.length) (x:Int × Int):x ∈ prs (l.take (i + 1)) ↔ x ∈ prs (l.take i)∨(¬ l[i].read=true∧x=(l[i].key,l[i].value)):=by
 rw [List.take_succ_eq_append_getElem hi,zdJ,List.mem_append]
 cases h:l[i].read <;> simp
theorem zhR {h:List HTx} {j:Nat} (hj:j < h.length) (x:Int × Int):x ∈ prsH (h.take (j + 1)) ↔ x ∈ prsH (h.take j)∨x ∈ prs h[j].ops:=by
 rw [List.take_succ_eq_append_getElem hj,zeb,List.mem_append]
theorem zg7 {k v:Int} (hh:h.length≤1000) (ho:∀ t ∈ h,t.ops.length≤1000):Spec prog1 zay [.agg #[.slice p h.length c],.int .i64 k,.int .i64 v] [rdl kHTx p h] (fun R=>((k,v) ∈ prsH h→R (.bool true) [])∧((k,v) ∉ prsH h→R (.bool false) [])):=by
 refine spec_code zlc rfl ?_;intro n F R hR;unfold zcq
 repeat' first|apply step|(apply gO;·repeat first|exact eZ|(apply eS;exact rfl))|refine Fa.mk fun _=>?_|refine g_keep ?_
 rename_i tb
 refine at_loopS (ι:=Nat) (E:=fun j=>[(1,.int .i64 k),(2,.int .i64 v),(3,.pointer (some ⟨tb,0,none⟩)),(7,.int .i64 (j:Int))]) (Δ:=fun j=>pt tb [.slice p h.length c] 0::rdl kHTx p h::F) (P:=fun j=>j≤h.length∧(k,v) ∉ prsH (h.take j)) (μ:=fun j=>h.length - j) 0 ⟨Nat.zero_le _,by simp [prsH]⟩ ?_
 rintro j ⟨hj,hn⟩
 try dsimp only
 rcases Nat.lt_or_ge j h.length with hlt|hge
 ·have hol:=ho h[j] (List.getElem_mem _)
  have hall:(k,v) ∈ prs h[j].ops→(k,v) ∈ prsH h:=fun q=>List.mem_flatMap.2 ⟨h[j],List.getElem_mem _,q⟩
  repeat' first|apply step|(apply gO;·repeat first|exact eZ|(apply eS;exact rfl))|(refine Br.mk (fun _=>?_) (fun _=>?_)<;>try (exfalso;omega))|refine g_cond ?_|refine g_keep ?_
  refine at_loopS (ι:=Nat) (E:=fun i=>[(1,.int .i64 k),(2,.int .i64 v),(3,.pointer (some ⟨tb,0,none⟩)),(7,.int .i64 (j:Int)),(8,.int .i64 (i:Int))]) (Δ:=fun i=>pt tb [.slice p h.length c] 0::rdl kHTx p h::F) (P:=fun i=>i≤h[j].ops.length∧(k,v) ∉ prs (h[j].ops.take i)) (μ:=fun i=>h[j].ops.length - i) 0 ⟨Nat.zero_le _,by simp [prs]⟩ ?_
  rintro i ⟨hi,hn2⟩
  try dsimp only
  rcases Nat.lt_or_ge i h[j].ops.length with hlt2|hge2
  ·have hmt:=zjq hlt2 (k,v)
   cases hr:h[j].ops[i].read
   ·rw [hr] at hmt
    by_cases hk:h[j].ops[i].key=k
    ·by_cases hv:h[j].ops[i].value=v
     ·repeat' first|rw [hr]|apply step|(apply gO;·repeat first|exact eZ|(apply eS;exact rfl))|(refine Br.mk (fun _=>?_) (fun _=>?_)<;>try (exfalso;omega))|(refine Sd.mk ?_ ?_;·exact qD)|(refine Sx.mk ?_ ?_;·omega)|refine Fa.mk fun _=>?_|refine Im.mk fun _=>?_|refine g_cond ?_|refine g_guard ?_|refine g_keep ?_|refine g_fin ?_
      exact fin (hR.1 (hall (by
       have:(k,v) ∈ prs (h[j].ops.take (i + 1)):=hmt.2 (.inr ⟨by simp,by rw [hk,hv]⟩)
       unfold prs at this ⊢
       obtain ⟨o,h1,h2⟩:=List.mem_map.1 this
       rw [List.mem_filter] at h1
       exact List.mem_map.2 ⟨o,List.mem_filter.2 ⟨List.mem_of_mem_take h1.1,h1.2⟩,h2⟩)))
     ·repeat' first|rw [hr]|apply step|(apply gO;·repeat first|exact eZ|(apply eS;exact rfl))|(refine Br.mk (fun _=>?_) (fun _=>?_)<;>try (exfalso;omega))|(refine Sd.mk ?_ ?_;·exact qD)|(refine Sx.mk ?_ ?_;·omega)|refine Fa.mk fun _=>?_|refine Im.mk fun _=>?_|refine g_cond ?_|refine g_guard ?_|refine g_keep ?_
      refine lp_next (i + 1) ⟨by omega,fun q=>?_⟩ (by omega)
      rcases hmt.1 q with q|q
      ·exact hn2 q
      ·exact hv (by have:=q.2;simp at this;exact this.2.symm)
    ·repeat' first|rw [hr]|apply step|(apply gO;·repeat first|exact eZ|(apply eS;exact rfl))|(refine Br.mk (fun _=>?_) (fun _=>?_)<;>try (exfalso;omega))|(refine Sd.mk ?_ ?_;·exact qD)|(refine Sx.mk ?_ ?_;·omega)|refine Fa.mk fun _=>?_|refine Im.mk fun _=>?_|refine g_cond ?_|refine g_guard ?_|refine g_keep ?_
     refine lp_next (i + 1) ⟨by omega,fun q=>?_⟩ (by omega)
     rcases hmt.1 q with q|q
     ·exact hn2 q
     ·exact hk (by have:=q.2;simp at this;exact this.1.symm)
   ·rw [hr] at hmt
    repeat' first|rw [hr]|apply step|(apply gO;·repeat first|exact eZ|(apply eS;exact rfl))|(refine Br.mk (fun _=>?_) (fun _=>?_)<;>try (exfalso;omega))|(refine Sd.mk ?_ ?_;·exact qD)|(refine Sx.mk ?_ ?_;·omega)|refine Fa.mk fun _=>?_|refine Im.mk fun _=>?_|refine g_cond ?_|refine g_guard ?_|refine g_keep ?_
    refine lp_next (i + 1) ⟨by omega,fun q=>?_⟩ (by omega)
    rcases hmt.1 q with q|q
    ·exact hn2 q
    ·exact q.1 rfl
  ·have e:h[j].ops.take i=h[j].ops:=List.take_of_length_le hge2
   rw [e] at hn2
   repeat' first|apply step|(apply gO;·repeat first|exact eZ|(apply eS;exact rfl))|(refine Br.mk (fun _=>?_) (fun _=>?_)<;>try (exfalso;omega))|(refine Sd.mk ?_ ?_;·exact qD)|(refine Sx.mk ?_ ?_;·omega)|refine Fa.mk fun _=>?_|refine Im.mk fun _=>?_|refine g_cond ?_|refine g_keep ?_
   refine lp_next (j + 1) ⟨by omega,fun q=>?_⟩ (by omega)
   rcases (zhR hlt _).1 q with q|q
   ·exact hn q
   ·exact hn2 q
 ·have e:h.take j=h:=List.take_of_length_le hge
  rw [e] at hn
  repeat' first|apply step|(apply gO;·repeat first|exact eZ|(apply eS;exact rfl))|(refine Br.mk (fun _=>?_) (fun _=>?_)<;>try (exfalso;omega))|refine g_cond ?_|refine g_keep ?_|refine g_fin ?_
  exact fin (hR.2 hn)
theorem zkb {k i:Nat} (hk:k < h.length) (hh:h.length≤1000) (hi:i≤h[k].ops.length) (ho:h[k].ops.length≤1000):Spec prog1 zaX [.agg #[.slice p h.length c],.int .i64 (k:Int),.int .i64 (i:Int)] [fro kHTx p c h] (fun R=>∀ p' c' L,L=h.take k++[⟨h[k].id,h[k].ab,h[k].ops.take i⟩]→R (.agg #[.slice p' L.length c']) [own kHTx p' c' L]):=by
 refine spec_code zhs rfl ?_;intro n F R hR;unfold zcr
 repeat' first|apply step|(apply gO;·repeat first|exact eZ|(apply eS;exact rfl))|(refine Sd.mk ?_ ?_;·exact qD)|(refine Sx.mk ?_ ?_;·omega)|refine Fa.mk fun _=>?_|refine Im.mk fun _=>?_|refine g_keep ?_|refine g_fin ?_
 exact fin (hR _ _ _ rfl)
theorem ziO (hh:∀ t ∈ h,mayN t.id∧∀ o ∈ t.ops,mayO o∧o.list.length≤100) (hf:h.length≤20) (hn:opsN h≤60):Spec prog1 zbx [.agg #[.slice p h.length c]] [fro kHTx p c h] (fun R=>∀ u:ByteArray,u.size≤15 * h.length + 1120 * opsN h→R (.string u) []):=by
 refine spec_code zku rfl ?_;intro n F R hR;unfold zc8
 have z1:(⟨#[116,32]⟩:ByteArray).size=2:=rfl
 have z2:(⟨#[32,97,10]⟩:ByteArray).size=3:=rfl
 have z3:(⟨#[32,99,10]⟩:ByteArray).size=3:=rfl
 have z4:(⟨#[114,32]⟩:ByteArray).size=2:=rfl
 have z5:(⟨#[97,32]⟩:ByteArray).size=2:=rfl
 have z6:(⟨#[32]⟩:ByteArray).size=1:=rfl
 have z7:(⟨#[10]⟩:ByteArray).size=1:=rfl
 have za:=fun a b:ByteArray=>ByteArray.size_append (a:=a) (b:=b)
 repeat' first|apply step|(apply gO;·repeat first|exact eZ|(apply eS;exact rfl))|refine Fa.mk fun _=>?_|refine g_keep ?_
 rename_i hb
 refine at_loopS (ι:=Nat × ByteArray) (E:=fun w=>[(1,.pointer (some ⟨hb,0,none⟩)),(3,.string w.2),(4,.int .i64 (w.1:Int))]) (Δ:=fun w=>pt hb [.slice p h.length c] 0::fro kHTx p c h::F) (P:=fun w=>w.1≤h.length∧w.2.size≤15 * w.1 + 1120 * opsN (h.take w.1)) (μ:=fun w=>h.length - w.1) (0,⟨#[]⟩) ⟨Nat.zero_le _,Nat.zero_le _⟩ ?_
 rintro ⟨j,u⟩ ⟨hj,hu⟩
 dsimp only at hj hu ⊢
 rcases Nat.lt_or_ge j h.length with hlt|hge
 ·obtain ⟨hid,ho⟩:=hh h[j] (List.getElem_mem _)
  have e1:=zm hlt
  have e2:=zv h (j + 1)
  repeat' first|apply step|(apply gO;·repeat first|exact eZ|(apply eS;exact rfl))|(refine Br.mk (fun _=>?_) (fun _=>?_)<;>try (exfalso;omega))|(refine Sd.mk ?_ ?_;·exact qD)|(refine Sx.mk ?_ ?_;·omega)|refine Fa.mk fun _=>?_|refine Im.mk fun _=>?_|refine g_cond ?_|refine g_keep ?_
  rename_i _ px hbid tb
  refine at_callS (zaH hid) ?_
  intro v hv
  have y1:=za ⟨#[116,32]⟩ v
  have y2:=za (⟨#[116,32]⟩++v) ⟨#[32,97,10]⟩
  have y3:=za (⟨#[116,32]⟩++v) ⟨#[32,99,10]⟩
  repeat' first|apply step|(apply gO;·repeat first|exact eZ|(apply eS;exact rfl))|(refine Br.mk (fun _=>?_) (fun _=>?_)<;>try (exfalso;omega))|(refine Sd.mk ?_ ?_;·exact qD)|refine g_cond ?_|refine g_keep ?_
  all_goals
   first
    | refine at_loopS (ι:=Nat × ByteArray) (E:=fun w=>[(1,.pointer (some ⟨hb,0,none⟩)),(3,.string u),(4,.int .i64 (j:Int)),(5,.pointer (some ⟨tb,0,none⟩)),(6,.string w.2),(7,.int .i64 (w.1:Int))]) (Δ:=fun w=>pt tb [.int .i64 h[j].id,.bool h[j].ab,.slice px.1 h[j].ops.length px.2] 0::fro kHOp px.1 px.2 h[j].ops::pt hb [.slice p h.length c] 0::fro kHTx p c h::F) (P:=fun w=>w.1≤h[j].ops.length∧w.2.size≤15 + 1120 * w.1) (μ:=fun w=>h[j].ops.length - w.1) (0,⟨#[116,32]⟩++v++⟨#[32,97,10]⟩) ⟨Nat.zero_le _,by dsimp only;omega⟩ ?_
    | refine at_loopS (ι:=Nat × ByteArray) (E:=fun w=>[(1,.pointer (some ⟨hb,0,none⟩)),(3,.string u),(4,.int .i64 (j:Int)),(5,.pointer (some ⟨tb,0,none⟩)),(6,.string w.2),(7,.int .i64 (w.1:Int))]) (Δ:=fun w=>pt tb [.int .i64 h[j].id,.bool h[j].ab,.slice px.1 h[j].ops.length px.2] 0::fro kHOp px.1 px.2 h[j].ops::pt hb [.slice p h.length c] 0::fro kHTx p c h::F) (P:=fun w=>w.1≤h[j].ops.length∧w.2.size≤15 + 1120 * w.1) (μ:=fun w=>h[j].ops.length - w.1) (0,⟨#[116,32]⟩++v++⟨#[32,99,10]⟩) ⟨Nat.zero_le _,by dsimp only;omega⟩ ?_
   rintro ⟨i,s⟩ ⟨hi,hs⟩
   dsimp only at hi hs ⊢
   rcases Nat.lt_or_ge i h[j].ops.length with hlt2|hge2
   ·obtain ⟨hm,hll⟩:=ho h[j].ops[i] (List.getElem_mem _)
    unfold mayO at hm
    have y4:=za s ⟨#[114,32]⟩
    have y5:=za s ⟨#[97,32]⟩
    cases hr:h[j].ops[i].read
    ·rw [hr,if_neg (by simp)] at hm
     obtain ⟨hm1,hm2,hm3⟩:=hm
     repeat' first|rw [hr]|apply step|(apply gO;·repeat first|exact eZ|(apply eS;exact rfl))|(refine Br.mk (fun _=>?_) (fun _=>?_)<;>try (exfalso;omega))|(refine Sd.mk ?_ ?_;·exact qD)|(refine Sx.mk ?_ ?_;·omega)|refine Fa.mk fun _=>?_|refine Im.mk fun _=>?_|refine g_cond ?_|refine g_keep ?_
     refine at_callR (zaH hm1) ?_
     intro k1 hk1
     have y6:=za (s++⟨#[97,32]⟩) k1
     have y7:=za (s++⟨#[97,32]⟩++k1) ⟨#[32]⟩
     repeat' first|apply step|(apply gO;·repeat first|exact eZ|(apply eS;exact rfl))|(refine Sd.mk ?_ ?_;·exact qD)|apply Lw.go
     refine at_callR (zaH hm2) ?_
     intro k2 hk2
     have y8:=za (s++⟨#[97,32]⟩++k1++⟨#[32]⟩) k2
     have y9:=za (s++⟨#[97,32]⟩++k1++⟨#[32]⟩++k2) ⟨#[10]⟩
     repeat' first|apply step|(apply gO;·repeat first|exact eZ|(apply eS;exact rfl))|(refine Sd.mk ?_ ?_;·exact qD)|apply Lw.go|refine g_keep ?_
     refine lp_next (i + 1,s++⟨#[97,32]⟩++k1++⟨#[32]⟩++k2++⟨#[10]⟩) ⟨by dsimp only;omega,by dsimp only;omega⟩ (by dsimp only;omega)
    ·rw [hr,if_pos rfl] at hm
     obtain ⟨hm1,hm2,hm3⟩:=hm
     repeat' first|rw [hr]|apply step|(apply gO;·repeat first|exact eZ|(apply eS;exact rfl))|(refine Br.mk (fun _=>?_) (fun _=>?_)<;>try (exfalso;omega))|(refine Sd.mk ?_ ?_;·exact qD)|(refine Sx.mk ?_ ?_;·omega)|refine Fa.mk fun _=>?_|refine Im.mk fun _=>?_|refine g_cond ?_|refine g_keep ?_
     rename_i py _ ob
     refine at_callS (zaH hm1) ?_
     intro k1 hk1
     have y6:=za (s++⟨#[114,32]⟩) k1
     repeat' first|apply step|(apply gO;·repeat first|exact eZ|(apply eS;exact rfl))|(refine Sd.mk ?_ ?_;·exact qD)|refine g_keep ?_
     refine at_loopS (ι:=Nat × ByteArray) (E:=fun w=>[(1,.pointer (some ⟨hb,0,none⟩)),(3,.string u),(4,.int .i64 (j:Int)),(5,.pointer (some ⟨tb,0,none⟩)),(6,.string w.2),(7,.int .i64 (i:Int)),(8,.pointer (some ⟨ob,0,none⟩)),(9,.int .i64 (w.1:Int))]) (Δ:=fun w=>pt ob [.bool true,.int .i64 h[j].ops[i].key,.int .i64 h[j].ops[i].value,.slice py.1 h[j].ops[i].list.length py.2] 0::fro (kInt .i64) py.1 py.2 h[j].ops[i].list::pt tb [.int .i64 h[j].id,.bool h[j].ab,.slice px.1 h[j].ops.length px.2] 0::fro kHOp px.1 px.2 h[j].ops::pt hb [.slice p h.length c] 0::fro kHTx p c h::F) (P:=fun w=>w.1≤h[j].ops[i].list.length∧w.2.size≤27 + 1120 * i + 11 * w.1) (μ:=fun w=>h[j].ops[i].list.length - w.1) (0,s++⟨#[114,32]⟩++k1) ⟨Nat.zero_le _,by dsimp only;omega⟩ ?_
     rintro ⟨m,s3⟩ ⟨hm4,hs3⟩
     dsimp only at hm4 hs3 ⊢
     have y7:=za s3 ⟨#[32]⟩
     have y8:=za s3 ⟨#[10]⟩
     rcases Nat.lt_or_ge m h[j].ops[i].list.length with hlt3|hge3
     ·repeat' first|apply step|(apply gO;·repeat first|exact eZ|(apply eS;exact rfl))|(refine Br.mk (fun _=>?_) (fun _=>?_)<;>try (exfalso;omega))|(refine Sd.mk ?_ ?_;·exact qD)|(refine Sx.mk ?_ ?_;·omega)|refine Im.mk fun _=>?_|refine g_cond ?_
      refine at_callS (zaH (hm3 h[j].ops[i].list[m] (List.getElem_mem _))) ?_
      intro k3 hk3
      have y9:=za (s3++⟨#[32]⟩) k3
      repeat' first|apply step|(apply gO;·repeat first|exact eZ|(apply eS;exact rfl))|(refine Sd.mk ?_ ?_;·exact qD)|refine g_keep ?_
      refine lp_next (m + 1,s3++⟨#[32]⟩++k3) ⟨by dsimp only;omega,by dsimp only;omega⟩ (by dsimp only;omega)
     ·repeat' first|apply step|(apply gO;·repeat first|exact eZ|(apply eS;exact rfl))|(refine Br.mk (fun _=>?_) (fun _=>?_)<;>try (exfalso;omega))|(refine Sd.mk ?_ ?_;·exact qD)|refine g_cond ?_|refine g_keep ?_
      refine lp_next (i + 1,s3++⟨#[10]⟩) ⟨by dsimp only;omega,by dsimp only;omega⟩ (by dsimp only;omega)
   ·have y4:=za u s
    repeat' first|apply step|(apply gO;·repeat first|exact eZ|(apply eS;exact rfl))|(refine Br.mk (fun _=>?_) (fun _=>?_)<;>try (exfalso;omega))|(refine Sd.mk ?_ ?_;·exact qD)|refine g_cond ?_|refine g_keep ?_
    refine lp_next (j + 1,u++s) ⟨by dsimp only;omega,by dsimp only;omega⟩ (by dsimp only;omega)
 ·have e:h.take j=h:=List.take_of_length_le hge
  rw [e] at hu
  repeat' first|apply step|(apply gO;·repeat first|exact eZ|(apply eS;exact rfl))|(refine Br.mk (fun _=>?_) (fun _=>?_)<;>try (exfalso;omega))|refine g_cond ?_|refine g_keep ?_|refine g_fin ?_
  exact fin (hR _ (by omega))
theorem zhg {j:Nat} (hj:j < h.length):idsH (h.take (j + 1))=idsH (h.take j)++[h[j].id]:=by rw [List.take_succ_eq_append_getElem hj,zeV]
theorem zgs (hf:FewH h 20 60):Spec prog1 zbf [.agg #[.slice p h.length c]] [fro kHTx p c h] (fun R=>R (.int .i64 (chkH h)) []):=by
 refine spec_code zjF rfl ?_;intro n F R hR;unfold zcu
 have hh:=hf.t
 have ho:=hf.o
 repeat' first|apply step|(apply gO;·repeat first|exact eZ|(apply eS;exact rfl))|(refine Br.mk (fun _=>?_) (fun _=>?_)<;>try (exfalso;omega))|refine Fa.mk fun _=>?_|refine g_guard ?_
 refine at_callS (zk6 (h:=h) (by omega) (by omega)) ?_
 repeat' first|apply step|(apply gO;·repeat first|exact eZ|(apply eS;exact rfl))|(refine Br.mk (fun _=>?_) (fun _=>?_)<;>try (exfalso;omega))|refine g_cond ?_|refine g_guard ?_|refine g_keep ?_
 rename_i hb _ _
 refine at_loopS (ι:=Nat) (E:=fun j=>[(1,.pointer (some ⟨hb,0,none⟩)),(3,.int .i64 (j:Int))]) (Δ:=fun j=>pt hb [.slice p h.length c] 0::fro kHTx p c h::F) (P:=fun j=>PreH h j∧j≤h.length) (μ:=fun j=>h.length - j) 0 ⟨PreH.zero h,Nat.zero_le _⟩ ?_
 rintro j ⟨hp,hj⟩
 try dsimp only
 rcases Nat.lt_or_ge j h.length with hlt|hge
 ·have e1:=zm hlt
  have e2:=zv h (j + 1)
  repeat' first|apply step|(apply gO;·repeat first|exact eZ|(apply eS;exact rfl))|(refine Br.mk (fun _=>?_) (fun _=>?_)<;>try (exfalso;omega))|(refine Sd.mk ?_ ?_;·exact qD)|(refine Sx.mk ?_ ?_;·omega)|refine Fa.mk fun _=>?_|refine Im.mk fun _=>?_|refine g_cond ?_|refine g_keep ?_
  rename_i _ px hbid tb
  refine at_callS (zcz (x:=h[j].id)) ?_
  by_cases h1:mayN h[j].id
  ·rw [decide_eq_true h1]
   repeat' first|apply step|(apply gO;·repeat first|exact eZ|(apply eS;exact rfl))|refine g_cond ?_|refine g_keep ?_
   refine at_loopS (ι:=Nat) (E:=fun i=>[(1,.pointer (some ⟨hb,0,none⟩)),(3,.int .i64 (j:Int)),(4,.pointer (some ⟨tb,0,none⟩)),(5,.int .i64 (i:Int))]) (Δ:=fun i=>pt tb [.int .i64 h[j].id,.bool h[j].ab,.slice px.1 h[j].ops.length px.2] 0::fro kHOp px.1 px.2 h[j].ops::pt hb [.slice p h.length c] 0::fro kHTx p c h::F) (P:=fun i=>i≤j∧h[j].id ∉ idsH (h.take i)) (μ:=fun i=>j - i) 0 ⟨Nat.zero_le _,by simp [idsH]⟩ ?_
   rintro i ⟨hi,hn⟩
   try dsimp only
   rcases Nat.lt_or_ge i j with hlt2|hge2
   ·have e3:=zhg (h:=h) (j:=i) (by omega)
    repeat' first|apply step|(apply gO;·repeat first|exact eZ|(apply eS;exact rfl))|(refine Br.mk (fun _=>?_) (fun _=>?_)<;>try (exfalso;omega))|(refine Sd.mk ?_ ?_;·exact qD)|(refine Sx.mk ?_ ?_;·omega)|refine Im.mk fun _=>?_|refine g_cond ?_|refine g_keep ?_|refine g_fin ?_
    ·have hin:h[j].id ∈ idsH (h.take j):=by
      have:h[j].id=h[i].id:=by first|exact ‹h[i].id=h[j].id›.symm|assumption
      rw [this]
      exact List.mem_map.2 ⟨h[i],List.mem_take_iff_getElem.2 ⟨i,by omega,rfl⟩,rfl⟩
     rw [hp.twin hlt h1 hin] at hR
     exact fin hR
    ·refine lp_next (i + 1) ⟨by omega,?_⟩ (by omega)
     rw [e3,List.mem_append]
     rintro (q|q)
     ·exact hn q
     ·have:=List.mem_singleton.1 q
      exact absurd this.symm (by assumption)
   ·have:i=j:=by omega
    subst this
    repeat' first|apply step|(apply gO;·repeat first|exact eZ|(apply eS;exact rfl))|(refine Br.mk (fun _=>?_) (fun _=>?_)<;>try (exfalso;omega))|refine g_cond ?_|refine g_keep ?_
    refine at_loopS (ι:=Nat) (E:=fun m=>[(1,.pointer (some ⟨hb,0,none⟩)),(3,.int .i64 (i:Int)),(4,.pointer (some ⟨tb,0,none⟩)),(6,.int .i64 (m:Int))]) (Δ:=fun m=>pt tb [.int .i64 h[i].id,.bool h[i].ab,.slice px.1 h[i].ops.length px.2] 0::fro kHOp px.1 px.2 h[i].ops::pt hb [.slice p h.length c] 0::fro kHTx p c h::F) (P:=fun m=>PreO (prsH (h.take i)) h[i].ops m∧m≤h[i].ops.length) (μ:=fun m=>h[i].ops.length - m) 0 ⟨PreO.zero _ _,Nat.zero_le _⟩ ?_
    rintro m ⟨hpo,hm⟩
    try dsimp only
    rcases Nat.lt_or_ge m h[i].ops.length with hlt3|hge3
    ·have hll:=hf.l h[i] (List.getElem_mem _) h[i].ops[m] (List.getElem_mem _)
     repeat' first|apply step|(apply gO;·repeat first|exact eZ|(apply eS;exact rfl))|(refine Br.mk (fun _=>?_) (fun _=>?_)<;>try (exfalso;omega))|(refine Sd.mk ?_ ?_;·exact qD)|(refine Sx.mk ?_ ?_;·omega)|refine Fa.mk fun _=>?_|refine Im.mk fun _=>?_|refine g_cond ?_
     refine at_callS (zj2 (o:=h[i].ops[m]) (by omega)) ?_
     by_cases h2:mayO h[i].ops[m]
     ·rw [decide_eq_true h2]
      cases hr:h[i].ops[m].read
      ·have hr':¬ h[i].ops[m].read=true:=by rw [hr];simp
       repeat' first|rw [hr]|apply step|(apply gO;·repeat first|exact eZ|(apply eS;exact rfl))|(refine Sd.mk ?_ ?_;·exact qD)|(refine Sx.mk ?_ ?_;·omega)|refine g_cond ?_|refine g_guard ?_|refine g_keep ?_
       refine at_callR (zkb (h:=h) (k:=i) (i:=m) hlt (by omega) (by omega) (by omega)) ?_
       intro p2 c2 L hL
       have hpL:prsH L=prsH (h.take i)++prs (h[i].ops.take m):=by rw [hL,zeb]
       have hLl:L.length≤1000:=by rw [hL,List.length_append,List.length_take,List.length_singleton];omega
       have hLo:∀ t ∈ L,t.ops.length≤1000:=by
        intro t ht
        rw [hL] at ht
        rcases List.mem_append.1 ht with ht|ht
        ·have:t.ops.length≤opsN h:=by
          obtain ⟨q,hq,rfl⟩:=List.getElem_of_mem (List.mem_of_mem_take ht)
          have:=zm hq
          have:=zv h (q + 1)
          omega
         omega
        ·rw [List.mem_singleton.1 ht];dsimp only;rw [List.length_take];omega
       repeat' first|apply step|(apply gO;·repeat first|exact eZ|(apply eS;exact rfl))|(refine Sd.mk ?_ ?_;·exact qD)|(refine Sx.mk ?_ ?_;·omega)|refine Im.mk fun _=>?_|apply Lw.go|refine g_guard ?_
       refine at_callR (zg7 (h:=L) (k:=h[i].ops[m].key) (v:=h[i].ops[m].value) hLl hLo) ?_
       refine ⟨fun hin=>?_,fun hin=>?_⟩
       ·rw [hpL] at hin
        rw [hp.op hlt h1 hn (hpo.old hlt3 h2 hr' hin) (by decide)] at hR
        repeat' first|apply step|(apply gO;·repeat first|exact eZ|(apply eS;exact rfl))|apply Lw.go|refine g_cond ?_|refine g_keep ?_|refine g_fin ?_
        exact fin hR
       ·rw [hpL] at hin
        obtain ⟨q1,q2⟩:=hpo.new hlt3 h2 hr' hin
        repeat' first|apply step|(apply gO;·repeat first|exact eZ|(apply eS;exact rfl))|(refine Sd.mk ?_ ?_;·exact qD)|apply Lw.go|refine g_cond ?_|refine g_keep ?_
        exact lp_next (m + 1) ⟨q1,by omega⟩ (by omega)
      ·obtain ⟨q1,q2⟩:=hpo.read hlt3 h2 hr
       repeat' first|rw [hr]|apply step|(apply gO;·repeat first|exact eZ|(apply eS;exact rfl))|(refine Sd.mk ?_ ?_;·exact qD)|(refine Sx.mk ?_ ?_;·omega)|refine g_cond ?_|refine g_guard ?_|refine g_keep ?_
       exact lp_next (m + 1) ⟨q1,by omega⟩ (by omega)
     ·rw [decide_eq_false h2]
      rw [hp.op hlt h1 hn (hpo.bad hlt3 h2) (by decide)] at hR
      repeat' first|apply step|(apply gO;·repeat first|exact eZ|(apply eS;exact rfl))|refine g_cond ?_|refine g_keep ?_|refine g_fin ?_
      exact fin hR
    ·have:m=h[i].ops.length:=by omega
     subst this
     obtain ⟨k1,k2,k3⟩:=hp.next hlt h1 hn hpo
     repeat' first|apply step|(apply gO;·repeat first|exact eZ|(apply eS;exact rfl))|(refine Br.mk (fun _=>?_) (fun _=>?_)<;>try (exfalso;omega))|(refine Sd.mk ?_ ?_;·exact qD)|refine g_cond ?_|refine g_keep ?_
     exact lp_next (i + 1) ⟨k1,by omega⟩ (by omega)
  ·rw [decide_eq_false h1]
   rw [hp.bad hlt h1] at hR
   repeat' first|apply step|(apply gO;·repeat first|exact eZ|(apply eS;exact rfl))|refine g_cond ?_|refine g_fin ?_
   exact fin hR
 ·have:j=h.length:=by omega
  subst this
  have hc:=hp.all
  rw [hc] at hR
  have hk:=zbN hc
  repeat' first|apply step|(apply gO;·repeat first|exact eZ|(apply eS;exact rfl))|(refine Br.mk (fun _=>?_) (fun _=>?_)<;>try (exfalso;omega))|refine g_cond ?_|refine g_keep ?_
  refine at_callS (ziO (h:=h) (fun t ht=>⟨(hk.m t ht).1,fun o ho=>⟨(hk.m t ht).2 o ho,hf.l t ht o ho⟩⟩) hh ho) ?_
  intro u hu
  repeat' first|apply step|(apply gO;·repeat first|exact eZ|(apply eS;exact rfl))|(refine Br.mk (fun _=>?_) (fun _=>?_)<;>try (exfalso;omega))|refine g_cond ?_|refine g_fin ?_
  exact fin hR
end
end Go.AMS

namespace Go.AMS
open Go.AM hiding Kt At WP WL Runs RunsY
open Go.AM.G
set_option linter.unusedVariables false
set_option linter.unusedSimpArgs false
set_option linter.unusedSectionVars false
set_option maxRecDepth 100000
set_option maxHeartbeats 1000000
attribute [local irreducible] AtS AtV AtC AtG FinA Spec Post LP G.At G.WP G.WL pt own fro rdl ro hx mp lrec elt sub

open Go.AM.G.Set
structure HRd where
 txn:Int
 op:Int
 key:Int
 list:List Int
 own:List Int
def kHRd:Kind HRd:=⟨5,by decide,fun m cs a=>∃ v0 v1 v2 v3 v4,cs=[v0,v1,v2,v3,v4]∧(kInt .i64).rd m [v0] a.txn∧(kInt .i64).rd m [v1] a.op∧(kInt .i64).rd m [v2] a.key∧(kSl (kInt .i64)).rd m [v3] a.list∧(kSl (kInt .i64)).rd m [v4] a.own,
 fun s ⟨v0,v1,v2,v3,v4,hc,h0,h1,h2,h3,h4⟩=>⟨v0,v1,v2,v3,v4,hc,(kInt .i64).mono s h0,(kInt .i64).mono s h1,(kInt .i64).mono s h2,(kSl (kInt .i64)).mono s h3,(kSl (kInt .i64)).mono s h4⟩,fun ⟨v0,v1,v2,v3,v4,hc,h0,h1,h2,h3,h4⟩=>by rw [hc];rfl,
 fun ⟨v0,v1,v2,v3,v4,hc,h0,h1,h2,h3,h4⟩=>by
  have e0:=(kInt .i64).ok h0
  have e1:=(kInt .i64).ok h1
  have e2:=(kInt .i64).ok h2
  have e3:=(kSl (kInt .i64)).ok h3
  have e4:=(kSl (kInt .i64)).ok h4
  simp only [List.all_cons,List.all_nil,Bool.and_true] at e0 e1 e2 e3 e4
  rw [hc];simp only [List.all_cons,List.all_nil,Bool.and_true,e0,e1,e2,e3,e4]⟩
instance esz_HRd:Esz kHRd 5:=⟨rfl⟩
instance cel_HRd:Cel kHRd ((Option Addr × Nat) × (Option Addr × Nat)) (fun a x=>[.int .i64 a.txn,.int .i64 a.op,.int .i64 a.key,.slice x.1.1 a.list.length x.1.2,.slice x.2.1 a.own.length x.2.2]) (fun a x=>[fro (kInt .i64) x.1.1 x.1.2 a.list,fro (kInt .i64) x.2.1 x.2.2 a.own]) (fun a=>(-9223372036854775808≤a.txn∧a.txn≤9223372036854775807)∧(-9223372036854775808≤a.op∧a.op≤9223372036854775807)∧(-9223372036854775808≤a.key∧a.key≤9223372036854775807)∧a.list.length≤140737488351232∧a.own.length≤140737488351232∧True):=⟨fun ⟨v0,v1,v2,v3,v4,hc,h0,h1,h2,h3,h4⟩=>by
 obtain ⟨q0,b0⟩:=h0;cases q0
 obtain ⟨q1,b1⟩:=h1;cases q1
 obtain ⟨q2,b2⟩:=h2;cases q2
 obtain ⟨w3,q3,s3,b3⟩:=h3;cases q3;obtain ⟨p3,c3,rfl⟩:=s3.form
 obtain ⟨w4,q4,s4,b4⟩:=h4;cases q4;obtain ⟨p4,c4,rfl⟩:=s4.form
 exact ⟨((p3,c3),(p4,c4)),hc,⟨b0,b1,b2,b3,b4,trivial⟩,sat_fro0 s3 (sat_fro0 s4 (sat_nil0))⟩⟩
instance ofc_HRd {Γ:List HP} {v0 v1 v2 v3 v4:Value} {a0:Int} {φ0:Prop} {a1:Int} {φ1:Prop} {a2:Int} {φ2:Prop} {a3:List Int} {φ3:Prop} {a4:List Int} {φ4:Prop} [o0:OfC Γ (kInt .i64) [v0] a0 φ0] [o1:OfC Γ (kInt .i64) [v1] a1 φ1] [o2:OfC Γ (kInt .i64) [v2] a2 φ2] [o3:OfC Γ (kSl (kInt .i64)) [v3] a3 φ3] [o4:OfC Γ (kSl (kInt .i64)) [v4] a4 φ4]:OfC Γ kHRd [v0,v1,v2,v3,v4] ⟨a0,a1,a2,a3,a4⟩ (φ0∧φ1∧φ2∧φ3∧φ4):=⟨fun h _ _ hs=>⟨v0,v1,v2,v3,v4,rfl,o0.rd h.1 hs,o1.rd h.2.1 hs,o2.rd h.2.2.1 hs,o3.rd h.2.2.2.1 hs,o4.rd h.2.2.2.2 hs⟩⟩
instance fld_HRd_txn:Fld kHRd 0 (kInt .i64) (fun a=>a.txn):=⟨fun ⟨v0,v1,v2,v3,v4,hc,h0,h1,h2,h3,h4⟩=>by subst hc;exact h0,by decide⟩
instance fld_HRd_op:Fld kHRd 1 (kInt .i64) (fun a=>a.op):=⟨fun ⟨v0,v1,v2,v3,v4,hc,h0,h1,h2,h3,h4⟩=>by subst hc;exact h1,by decide⟩
instance fld_HRd_key:Fld kHRd 2 (kInt .i64) (fun a=>a.key):=⟨fun ⟨v0,v1,v2,v3,v4,hc,h0,h1,h2,h3,h4⟩=>by subst hc;exact h2,by decide⟩
instance fld_HRd_list:Fld kHRd 3 (kSl (kInt .i64)) (fun a=>a.list):=⟨fun ⟨v0,v1,v2,v3,v4,hc,h0,h1,h2,h3,h4⟩=>by subst hc;exact h3,by decide⟩
instance fld_HRd_own:Fld kHRd 4 (kSl (kInt .i64)) (fun a=>a.own):=⟨fun ⟨v0,v1,v2,v3,v4,hc,h0,h1,h2,h3,h4⟩=>by subst hc;exact h4,by decide⟩
instance ktz_HRd:KTz kHRd:=⟨fun hf ⟨v0,v1,v2,v3,v4,hc,h0,h1,h2,h3,h4⟩=>⟨v0,v1,v2,v3,v4,hc,(inferInstance:KTz (kInt .i64)).tz hf h0,(inferInstance:KTz (kInt .i64)).tz hf h1,(inferInstance:KTz (kInt .i64)).tz hf h2,(inferInstance:KTz (kSl (kInt .i64))).tz hf h3,(inferInstance:KTz (kSl (kInt .i64))).tz hf h4⟩⟩
structure HWr where
 txn:Int
 op:Int
 key:Int
 value:Int
 ab:Bool
def kHWr:Kind HWr:=⟨5,by decide,fun m cs a=>∃ v0 v1 v2 v3 v4,cs=[v0,v1,v2,v3,v4]∧(kInt .i64).rd m [v0] a.txn∧(kInt .i64).rd m [v1] a.op∧(kInt .i64).rd m [v2] a.key∧(kInt .i64).rd m [v3] a.value∧kBool.rd m [v4] a.ab,
 fun s ⟨v0,v1,v2,v3,v4,hc,h0,h1,h2,h3,h4⟩=>⟨v0,v1,v2,v3,v4,hc,(kInt .i64).mono s h0,(kInt .i64).mono s h1,(kInt .i64).mono s h2,(kInt .i64).mono s h3,kBool.mono s h4⟩,fun ⟨v0,v1,v2,v3,v4,hc,h0,h1,h2,h3,h4⟩=>by rw [hc];rfl,
 fun ⟨v0,v1,v2,v3,v4,hc,h0,h1,h2,h3,h4⟩=>by
  have e0:=(kInt .i64).ok h0
  have e1:=(kInt .i64).ok h1
  have e2:=(kInt .i64).ok h2
  have e3:=(kInt .i64).ok h3
  have e4:=kBool.ok h4
  simp only [List.all_cons,List.all_nil,Bool.and_true] at e0 e1 e2 e3 e4
  rw [hc];simp only [List.all_cons,List.all_nil,Bool.and_true,e0,e1,e2,e3,e4]⟩
instance esz_HWr:Esz kHWr 5:=⟨rfl⟩
instance cel_HWr:Cel kHWr (Unit) (fun a x=>[.int .i64 a.txn,.int .i64 a.op,.int .i64 a.key,.int .i64 a.value,.bool a.ab]) (fun a x=>[]) (fun a=>(-9223372036854775808≤a.txn∧a.txn≤9223372036854775807)∧(-9223372036854775808≤a.op∧a.op≤9223372036854775807)∧(-9223372036854775808≤a.key∧a.key≤9223372036854775807)∧(-9223372036854775808≤a.value∧a.value≤9223372036854775807)∧True):=⟨fun ⟨v0,v1,v2,v3,v4,hc,h0,h1,h2,h3,h4⟩=>by
 obtain ⟨q0,b0⟩:=h0;cases q0
 obtain ⟨q1,b1⟩:=h1;cases q1
 obtain ⟨q2,b2⟩:=h2;cases q2
 obtain ⟨q3,b3⟩:=h3;cases q3
 cases h4
 exact ⟨(),hc,⟨b0,b1,b2,b3,trivial⟩,sat_nil0⟩⟩
instance ofc_HWr {Γ:List HP} {v0 v1 v2 v3 v4:Value} {a0:Int} {φ0:Prop} {a1:Int} {φ1:Prop} {a2:Int} {φ2:Prop} {a3:Int} {φ3:Prop} {a4:Bool} {φ4:Prop} [o0:OfC Γ (kInt .i64) [v0] a0 φ0] [o1:OfC Γ (kInt .i64) [v1] a1 φ1] [o2:OfC Γ (kInt .i64) [v2] a2 φ2] [o3:OfC Γ (kInt .i64) [v3] a3 φ3] [o4:OfC Γ kBool [v4] a4 φ4]:OfC Γ kHWr [v0,v1,v2,v3,v4] ⟨a0,a1,a2,a3,a4⟩ (φ0∧φ1∧φ2∧φ3∧φ4):=⟨fun h _ _ hs=>⟨v0,v1,v2,v3,v4,rfl,o0.rd h.1 hs,o1.rd h.2.1 hs,o2.rd h.2.2.1 hs,o3.rd h.2.2.2.1 hs,o4.rd h.2.2.2.2 hs⟩⟩
instance fld_HWr_txn:Fld kHWr 0 (kInt .i64) (fun a=>a.txn):=⟨fun ⟨v0,v1,v2,v3,v4,hc,h0,h1,h2,h3,h4⟩=>by subst hc;exact h0,by decide⟩
instance fld_HWr_op:Fld kHWr 1 (kInt .i64) (fun a=>a.op):=⟨fun ⟨v0,v1,v2,v3,v4,hc,h0,h1,h2,h3,h4⟩=>by subst hc;exact h1,by decide⟩
instance fld_HWr_key:Fld kHWr 2 (kInt .i64) (fun a=>a.key):=⟨fun ⟨v0,v1,v2,v3,v4,hc,h0,h1,h2,h3,h4⟩=>by subst hc;exact h2,by decide⟩
instance fld_HWr_value:Fld kHWr 3 (kInt .i64) (fun a=>a.value):=⟨fun ⟨v0,v1,v2,v3,v4,hc,h0,h1,h2,h3,h4⟩=>by subst hc;exact h3,by decide⟩
instance fld_HWr_ab:Fld kHWr 4 kBool (fun a=>a.ab):=⟨fun ⟨v0,v1,v2,v3,v4,hc,h0,h1,h2,h3,h4⟩=>by subst hc;exact h4,by decide⟩
instance ktz_HWr:KTz kHWr:=⟨fun hf ⟨v0,v1,v2,v3,v4,hc,h0,h1,h2,h3,h4⟩=>⟨v0,v1,v2,v3,v4,hc,(inferInstance:KTz (kInt .i64)).tz hf h0,(inferInstance:KTz (kInt .i64)).tz hf h1,(inferInstance:KTz (kInt .i64)).tz hf h2,(inferInstance:KTz (kInt .i64)).tz hf h3,(inferInstance:KTz kBool).tz hf h4⟩⟩
instance:Inhabited HOp:=⟨⟨false,0,0,[]⟩⟩
/-- A table. -/
structure Tb where
 ids:List Int
 keys:List Int
 wr:List ((Int × Int) × HWr)
 ap:List ((Int × Int) × List Int)
 rd:List (Int × List HRd)
 wt:List (Int × List HWr)
def agl {κ α:Type} [DecidableEq κ] (k:κ) (f:List (κ × List α)):List α:=(aget k f).getD []
def adl {κ α:Type} [DecidableEq κ] (k:κ) (a:α) (f:List (κ × List α)):List (κ × List α):=aset k (agl k f++[a]) f
def Tb.put (T:Tb) (t:HTx) (i:Nat) (o:HOp):Tb :=
 if o.read=true then
  if t.ab=true then T else { T with rd:=adl o.key ⟨t.id,i,o.key,o.list,agl (t.id,o.key) T.ap⟩ T.rd }
 else { T with wr:=aset (o.key,o.value) ⟨t.id,i,o.key,o.value,t.ab⟩ T.wr,ap:=adl (t.id,o.key) o.value T.ap,wt:=if t.ab=true then T.wt else adl o.key ⟨t.id,i,o.key,o.value,t.ab⟩ T.wt }
def stepsL (s:List HTx):List (HTx × Nat):=s.flatMap fun t=>(List.range t.ops.length).map fun i=>(t,i)
def Tb.one (T:Tb) (x:HTx × Nat):Tb:={ T with keys:=T.keys++[(x.1.ops.getD x.2 default).key] }.put x.1 x.2 (x.1.ops.getD x.2 default)
def T0 (ids:List Int):Tb:=⟨ids,[],[],[],[],[]⟩
def comm (s:List HTx):List Int:=(s.filter fun t=>!t.ab).map HTx.id
/-- The table of transactions that are in order. -/
def tabS (s:List HTx):Tb:=(stepsL s).foldl Tb.one (T0 (comm s))
def Tb.fin (T:Tb):Tb:={ T with keys:=setL T.keys }
theorem zdF (s:List HTx):(stepsL s).length=opsN s:=by
 unfold stepsL opsN
 rw [List.length_flatMap]
 simp
theorem zbH {κ α:Type} [DecidableEq κ] (k j:κ) (a:α) (f:List (κ × List α)):agl j (adl k a f)=agl j f++if j=k then [a] else []:=by
 unfold agl adl
 rw [aget_aset]
 by_cases h:j=k
 ·rw [if_pos h,if_pos h,h];rfl
 ·rw [if_neg h,if_neg h,List.append_nil]
theorem zi3 (T:Tb) (t:HTx) (i:Nat) (o:HOp):(T.put t i o).wr=if o.read=true then T.wr else aset (o.key,o.value) ⟨t.id,i,o.key,o.value,t.ab⟩ T.wr:=by
 unfold Tb.put;split
 ·split <;> rfl
 ·rfl
theorem zfu (T:Tb) (t:HTx) (i:Nat) (o:HOp):(T.put t i o).ap=if o.read=true then T.ap else adl (t.id,o.key) o.value T.ap:=by
 unfold Tb.put;split
 ·split <;> rfl
 ·rfl
theorem zfs (T:Tb) (t:HTx) (i:Nat) (o:HOp):(T.put t i o).rd=if o.read=true∧¬ t.ab=true then adl o.key ⟨t.id,i,o.key,o.list,agl (t.id,o.key) T.ap⟩ T.rd else T.rd:=by
 unfold Tb.put
 by_cases h:o.read=true
 ·by_cases h2:t.ab=true <;> simp [h,h2]
 ·simp [h]
theorem zf5 (T:Tb) (t:HTx) (i:Nat) (o:HOp):(T.put t i o).wt=if ¬ o.read=true∧¬ t.ab=true then adl o.key ⟨t.id,i,o.key,o.value,t.ab⟩ T.wt else T.wt:=by
 unfold Tb.put
 by_cases h:o.read=true
 ·by_cases h2:t.ab=true <;> simp [h,h2]
 ·by_cases h2:t.ab=true <;> simp [h,h2]
theorem zhF (T:Tb) (t:HTx) (i:Nat) (o:HOp):(T.put t i o).ids=T.ids:=by
 unfold Tb.put;split
 ·split <;> rfl
 ·rfl
theorem zfH (T:Tb) (t:HTx) (i:Nat) (o:HOp):(T.put t i o).keys=T.keys:=by
 unfold Tb.put;split
 ·split <;> rfl
 ·rfl
end Go.AMS

namespace Go.AMS
open Go.AM hiding Kt At WP WL Runs RunsY
open Go.AM.G
set_option linter.unusedVariables false
set_option linter.unusedSimpArgs false
set_option linter.unusedSectionVars false
set_option maxRecDepth 100000
set_option maxHeartbeats 1000000
attribute [local irreducible] AtS AtV AtC AtG FinA Spec Post LP G.At G.WP G.WL pt own fro rdl ro hx mp lrec elt sub

open Go.AM.G.Set
abbrev wrV (w:HWr):Value:=.agg (List.toArray [.int .i64 w.txn,.int .i64 w.op,.int .i64 w.key,.int .i64 w.value,.bool w.ab])
abbrev TA:=((Option Addr × Nat) × (Option Addr × Nat)) × (Nat × Nat × Nat × Nat)
/-- A table in a heap. -/
def tab (b:Nat) (T:Tb):HP:=hx fun (x:TA)=>(True,[pt b [.bool true,.slice x.1.1.1 T.ids.length x.1.1.2,.slice x.1.2.1 T.keys.length x.1.2.2,.map (some x.2.1),.map (some x.2.2.1),.map (some x.2.2.2.1),.map (some x.2.2.2.2)] 0,own (kInt .i64) x.1.1.1 x.1.1.2 T.ids,own (kInt .i64) x.1.2.1 x.1.2.2 T.keys,mp x.2.1 (amap kII wrV T.wr),mapL x.2.2.1 kII (kInt .i64) T.ap,mapL x.2.2.2.1 kI kHRd T.rd,mapL x.2.2.2.2 kI kHWr T.wt])
instance low_tab {b:Nat} {T:Tb}:Low (tab b T):=low_hx fun _=>inferInstance
/-- None of its lists is long. -/
structure Tb.sm (T:Tb) (n:Nat):Prop where
 a:∀ k,(agl k T.ap).length≤n
 r:∀ k,(agl k T.rd).length≤n
 w:∀ k,(agl k T.wt).length≤n
 k:T.keys.length≤n
theorem agl_Z {κ α:Type} [DecidableEq κ] {k:κ} {Z:List (LE κ α)} {f:List (κ × List α)} (h:fst2 Z=f):agl k f=((aget k Z).map (·.1)).getD []:=by
 unfold agl;rw [← h,aget_fst2]
theorem zjY {κ β:Type} [DecidableEq κ] {k:κ} {v:β} {Z:List (κ × β)} (h:aget k Z=some v):aset k v Z=Z:=by
 obtain ⟨h1,h2,h3⟩:=aset_some (v:=v) h
 rw [h3,← h2];exact List.set_getElem_self h1
section
variable {α κ:Type} [DecidableEq κ] {K:Kind α} {k:κ} {Z:List (LE κ α)} {Γ:List HP}
/-- What stands at a key, or nothing. -/
def atE (k:κ) (Z:List (LE κ α)):List α × (Option Addr × Nat):=(aget k Z).getD ([],(none,0))
def restE (K:Kind α) (k:κ) (Z:List (LE κ α)):HP:=match aget k Z with
 | some _=>alls (ownE K) (Z.eraseIdx (apos k Z))
 | none=>alls (ownE K) Z
theorem takeE:Ent (alls (ownE K) Z::Γ) (own K (atE k Z).2.1 (atE k Z).2.2 (atE k Z).1::restE K k Z::Γ):=by
 unfold atE restE
 cases h:aget k Z with
 | none=>exact ent_nil
 | some lx=>exact ownE_take h
theorem putE {l':List α} {p':Option Addr} {c':Nat}:Ent (own K p' c' l'::restE K k Z::Γ) (alls (ownE K) (aset k (l',(p',c')) Z)::Γ):=by
 unfold restE
 cases h:aget k Z with
 | none=>exact ownE_new (x':=(p',c')) h
 | some lx=>exact ownE_put (x':=(p',c')) h
theorem backE:Ent (own K (atE k Z).2.1 (atE k Z).2.2 (atE k Z).1::restE K k Z::Γ) (alls (ownE K) Z::Γ):=by
 unfold atE restE
 cases h:aget k Z with
 | none=>exact .drop (.refl _)
 | some lx =>
  have:=ownE_put (K:=K) (Γ:=Γ) (l':=lx.1) (x':=lx.2) h
  rwa [zjY (v:=(lx.1,lx.2)) h] at this
theorem zah {f:List (κ × List α)} (h:fst2 Z=f):(atE k Z).1=agl k f:=by
 rw [agl_Z h];unfold atE
 cases aget k Z <;> rfl
variable {prog:AProg} {rr:Option Nat} {e:Env} {Q:Pst} {kk:List Kt} {x y:Operand} {n t:Nat} {d bar:Bool} {r:List AI} {m:Nat} {s:KS} {enc:κ→Value} [ke:KeyE s enc]
theorem zbt (a:LkM Γ m (amap enc slV Z)) (g:AtS n prog rr (.o d r::kk) .norm ((t,.slice (atE k Z).2.1 (atE k Z).1.length (atE k Z).2.2)::e) Γ Q):AtV n prog rr d bar (some t) (.lookup s (.slice none 0 0) false x y) [.map (some m),enc k] r kk e Γ Q:=by
 unfold atE at g
 cases h:aget k Z with
 | none=>rw [h] at g;exact av_at0 a h g
 | some lx=>rw [h] at g;exact av_at1 (vv:=slV) a h g
end
section
variable {b:Nat} {T:Tb} {t:HTx} {i:Nat} {o:HOp} {p q:Option Addr} {c d:Nat}
theorem zld {n0:Nat} (hs:T.sm n0) (hn:n0≤1000) (hi:i≤1000) (hid:mayN t.id) (ho:mayO o) (hl:o.list.length≤100):Spec prog1 zbi [.pointer (some ⟨b,0,none⟩),.agg #[.int .i64 t.id,.bool t.ab,.slice p t.ops.length c],.int .i64 (i:Int),.agg #[.bool o.read,.int .i64 o.key,.int .i64 o.value,.slice q o.list.length d]] [tab b T,fro (kInt .i64) q d o.list] (fun R=>R (.tuple #[]) [tab b (T.put t i o)]):=by
 refine spec_code ziX rfl ?_;intro n F R hR;unfold zb2
 have hk:-9223372036854775808≤o.key∧o.key≤9223372036854775807:=by unfold mayO mayN at ho;split at ho <;> omega
 have hv:-9223372036854775808≤o.value∧o.value≤9223372036854775807:=by unfold mayO mayN at ho;split at ho <;> omega
 have hid1:=hid.1
 have hid2:=hid.2
 cases hr:o.read
 ·repeat' first|rw [hr]|apply step|(apply gO;·repeat first|exact eZ|(apply eS;exact rfl))|refine Fa.mk fun _=>?_|refine g_cond ?_|refine g_keep ?_
  rename_i tb ob pb wb
  have hput:T.put t i o={ T with wr:=aset (o.key,o.value) ⟨t.id,i,o.key,o.value,t.ab⟩ T.wr,ap:=adl (t.id,o.key) o.value T.ap,wt:=if t.ab=true then T.wt else adl o.key ⟨t.id,i,o.key,o.value,t.ab⟩ T.wt }:=by unfold Tb.put;simp [hr]
  refine av_openP (tab b T) rfl ?_
  rintro ⟨⟨⟨pi,ci⟩,⟨pk,ck⟩⟩,⟨mw,ma,mr,mt⟩⟩ -
  dsimp only [List.cons_append,List.nil_append]
  refine av_openP (mapL mt kI kHWr T.wt) rfl ?_
  rintro Z hZ
  dsimp only [List.cons_append,List.nil_append]
  refine av_openP (mapL ma kII (kInt .i64) T.ap) rfl ?_
  rintro Za hZa
  dsimp only [List.cons_append,List.nil_append]
  have hwl:=zah (k:=o.key) hZ
  have hal:=zah (k:=(t.id,o.key)) hZa
  have hw1:=hs.w o.key
  have ha1:=hs.a (t.id,o.key)
  repeat' first|apply step|(apply gO;·repeat first|exact eZ|(apply eS;exact rfl))
  refine av_put (d:=true) (bar:=true) (s:=.many [1,1]) (m:=mw) (l:=T.wr) (enc:=kII) (vv:=wrV) (key:=(o.key,o.value)) (val:=(⟨t.id,i,o.key,o.value,t.ab⟩:HWr)) rfl inferInstance ?_
  repeat' first|apply step|(apply gO;·repeat first|exact eZ|(apply eS;exact rfl))|refine Fa.mk fun _=>?_|refine g_keep ?_
  refine av_ent1 (s:=.many [1,1]) (z:=.slice none 0 0) (d:=true) (bar:=true) (m:=ma) (l:=Za) (enc:=kII) (vv:=slV) (key:=(t.id,o.key)) (z0:=([],(none,0))) rfl inferInstance rfl ?_
  rw [show (aget (t.id,o.key) Za).getD ([],(none,0))=atE (t.id,o.key) Za from rfl]
  rw [show slV (atE (t.id,o.key) Za)=.slice (atE (t.id,o.key) Za).2.1 (agl (t.id,o.key) T.ap).length (atE (t.id,o.key) Za).2.2 by rw [← hal]]
  refine at_via (takeE (K:=kInt .i64) (k:=(t.id,o.key)) (Z:=Za)) ?_
  rw [hal]
  repeat' first|apply step|(apply gO;·repeat first|exact eZ|(apply eS;exact rfl))|(refine Sd.mk ?_ ?_;·exact qD)|refine Fa.mk fun _=>?_
  rename_i p2 c2
  refine av_ent2 (z0:=([],(none,0))) (d:=true) (bar:=true) (m:=ma) (l:=Za) (enc:=kII) (vv:=slV) (key:=(t.id,o.key)) (val:=(agl (t.id,o.key) T.ap++[o.value],(p2,c2))) rfl inferInstance ?_
  refine at_via2 (putE (K:=kInt .i64) (k:=(t.id,o.key)) (Z:=Za)) ?_
  refine at_foldP (mapL ma kII (kInt .i64) (T.put t i o).ap) rfl (aset (t.id,o.key) (agl (t.id,o.key) T.ap++[o.value],(p2,c2)) Za) (by rw [aset_fst2,hZa,hput];rfl) ?_
  cases hab:t.ab
  ·repeat' first|rw [hab]|apply step|(apply gO;·repeat first|exact eZ|(apply eS;exact rfl))|refine g_cond ?_|refine g_keep ?_
   refine at_opsKS2 b ob 15 (fun sz hs1 hs2=>?_)
   repeat' first|apply step|(apply gO;·repeat first|exact eZ|(apply eS;exact rfl))
   refine zbt (enc:=kI) (k:=o.key) inferInstance ?_
   refine at_via (takeE (K:=kHWr) (k:=o.key) (Z:=Z)) ?_
   rw [hwl]
   repeat' first|apply step|(apply gO;·repeat first|exact eZ|(apply eS;exact rfl))|refine Fa.mk fun _=>?_
   refine kq1 b ob ?_ hs1 hs2
   repeat' first|apply step|(apply gO;·repeat first|exact eZ|(apply eS;exact rfl))|(refine Sd.mk ?_ ?_;·exact qD)|refine Fa.mk fun _=>?_
   refine kq2 ?_
   rename_i p3 c3
   repeat' first|apply step|(apply gO;·repeat first|exact eZ|(apply eS;exact rfl))
   refine av_put (d:=true) (bar:=true) (s:=.one 1) (m:=mt) (l:=Z) (enc:=kI) (vv:=slV) (key:=o.key) (val:=(agl o.key T.wt++[(⟨t.id,i,o.key,o.value,false⟩:HWr)],(p3,c3))) rfl inferInstance ?_
   refine at_via2 (putE (K:=kHWr) (k:=o.key) (Z:=Z)) ?_
   refine at_foldP (mapL mt kI kHWr (T.put t i o).wt) rfl (aset o.key (agl o.key T.wt++[(⟨t.id,i,o.key,o.value,false⟩:HWr)],(p3,c3)) Z) (by rw [aset_fst2,hZ,hput,hab];rfl) ?_
   rw [show aset (o.key,o.value) ⟨t.id,i,o.key,o.value,false⟩ T.wr=(T.put t i o).wr by rw [hput,hab],show T.rd=(T.put t i o).rd by rw [hput],show T.ids=(T.put t i o).ids by rw [hput],show T.keys=(T.put t i o).keys by rw [hput]]
   refine at_foldP (tab b (T.put t i o)) rfl (((pi,ci),(pk,ck)),(mw,ma,mr,mt)) trivial ?_
   repeat' first|apply step|refine g_fin ?_
   exact fin hR
  ·repeat' first|rw [hab]|apply step|(apply gO;·repeat first|exact eZ|(apply eS;exact rfl))|refine g_cond ?_|refine g_keep ?_|refine g_fin ?_
   refine fin_foldP (mapL mt kI kHWr (T.put t i o).wt) rfl Z (by rw [hZ,hput,hab];rfl) ?_
   rw [show aset (o.key,o.value) ⟨t.id,i,o.key,o.value,true⟩ T.wr=(T.put t i o).wr by rw [hput,hab],show T.rd=(T.put t i o).rd by rw [hput],show T.ids=(T.put t i o).ids by rw [hput],show T.keys=(T.put t i o).keys by rw [hput]]
   refine fin_foldP (tab b (T.put t i o)) rfl (((pi,ci),(pk,ck)),(mw,ma,mr,mt)) trivial ?_
   exact fin hR
 ·cases hab:t.ab
  ·repeat' first|rw [hr]|rw [hab]|apply step|(apply gO;·repeat first|exact eZ|(apply eS;exact rfl))|refine Fa.mk fun _=>?_|refine g_cond ?_|refine g_keep ?_
   rename_i tb ob pb
   refine at_openP (tab b T) rfl ?_
   rintro ⟨⟨⟨pi,ci⟩,⟨pk,ck⟩⟩,⟨mw,ma,mr,mt⟩⟩ -
   dsimp only
   apply step
   refine at_openP (mapL mr kI kHRd T.rd) rfl ?_
   rintro Z hZ
   apply step
   refine at_openP (mapL ma kII (kInt .i64) T.ap) rfl ?_
   rintro Za hZa
   apply step
   refine at_opsKS2 b ob 29 (fun sz hs1 hs2=>?_)
   repeat' first|apply step|(apply gO;·repeat first|exact eZ|(apply eS;exact rfl))
   have hrl:=zah (k:=o.key) hZ
   have hal:=zah (k:=(t.id,o.key)) hZa
   have hr1:=hs.r o.key
   have ha1:=hs.a (t.id,o.key)
   have ha2:(atE (t.id,o.key) Za).1.length≤n0:=by rw [hal];exact ha1
   have hput:T.put t i o={ T with rd:=aset o.key (agl o.key T.rd++[⟨t.id,i,o.key,o.list,agl (t.id,o.key) T.ap⟩]) T.rd }:=by unfold Tb.put adl;simp [hr,hab]
   refine zbt (enc:=kI) (k:=o.key) inferInstance ?_
   repeat' first|apply step|(apply gO;·repeat first|exact eZ|(apply eS;exact rfl))
   refine zbt (enc:=kII) (k:=(t.id,o.key)) inferInstance ?_
   refine at_via (takeE (K:=kHRd) (k:=o.key) (Z:=Z)) ?_
   refine at_via (takeE (K:=kInt .i64) (k:=(t.id,o.key)) (Z:=Za)) ?_
   rw [hrl,hal]
   repeat' first|apply step|(apply gO;·repeat first|exact eZ|(apply eS;exact rfl))
   refine at_callR (zr (l:=agl (t.id,o.key) T.ap) (by omega)) ?_
   intro p1 c1
   refine Lw.go ?_
   iterate 2 apply step
   rw [← hal]
   refine at_via2 (backE (K:=kInt .i64) (k:=(t.id,o.key)) (Z:=Za)) ?_
   refine at_freezeO ?_
   repeat' first|apply step|(apply gO;·repeat first|exact eZ|(apply eS;exact rfl))|refine Fa.mk fun _=>?_
   refine kq1 b ob ?_ hs1 hs2
   repeat' first|apply step|(apply gO;·repeat first|exact eZ|(apply eS;exact rfl))|(refine Sd.mk ?_ ?_;·exact qD)|refine Fa.mk fun _=>?_
   refine kq2 ?_
   rename_i p2 c2
   repeat' first|apply step|(apply gO;·repeat first|exact eZ|(apply eS;exact rfl))
   refine av_put (d:=true) (bar:=true) (s:=.one 1) (m:=mr) (l:=Z) (enc:=kI) (vv:=slV) (key:=o.key) (val:=(agl o.key T.rd++[(⟨t.id,i,o.key,o.list,(atE (t.id,o.key) Za).1⟩:HRd)],(p2,c2))) rfl inferInstance ?_
   refine at_via2 (putE (K:=kHRd) (k:=o.key) (Z:=Z)) ?_
   refine at_foldP (mapL mr kI kHRd (T.put t i o).rd) rfl (aset o.key (agl o.key T.rd++[(⟨t.id,i,o.key,o.list,(atE (t.id,o.key) Za).1⟩:HRd)],(p2,c2)) Z) (by rw [aset_fst2,hZ,hal,hput]) ?_
   refine at_foldP (mapL ma kII (kInt .i64) T.ap) rfl Za hZa ?_
   rw [show T.ap=(T.put t i o).ap by rw [hput],show T.wr=(T.put t i o).wr by rw [hput],show T.wt=(T.put t i o).wt by rw [hput],show T.ids=(T.put t i o).ids by rw [hput],show T.keys=(T.put t i o).keys by rw [hput]]
   refine at_foldP (tab b (T.put t i o)) rfl (((pi,ci),(pk,ck)),(mw,ma,mr,mt)) trivial ?_
   repeat' first|apply step|refine g_keep ?_|refine g_fin ?_
   exact fin hR
  ·rw [show T.put t i o=T by unfold Tb.put;simp [hr,hab]] at hR
   repeat' first|rw [hr]|rw [hab]|apply step|(apply gO;·repeat first|exact eZ|(apply eS;exact rfl))|refine Fa.mk fun _=>?_|refine g_cond ?_|refine g_keep ?_|refine g_fin ?_
   exact fin hR
end
end Go.AMS

namespace Go.AMS
open Go.AM hiding Kt At WP WL Runs RunsY
open Go.AM.G
set_option linter.unusedVariables false
set_option linter.unusedSimpArgs false
abbrev X4:=Value × Value × HTx
def x4c (z:X4):X3:=(z.2.2.id,z.1,z.2.1)
theorem ze9 {m:M}:∀ {l:List HTx} {cs:List Value},Cells kHTx m cs l→∃ zs:List X4,l=zs.map (·.2.2)∧cs=zs.flatMap (fun z=>x3c (x4c z))∧(∀ z ∈ zs,kHTx.rd m (x3c (x4c z)) z.2.2∧cell1 z.1=true∧cell1 z.2.1=true)
 | [],cs,h=>⟨[],rfl,h,by simp⟩
 | t::l,cs,⟨c,r,e,h1,h2⟩=>by
  obtain ⟨zs,e1,e2,e3⟩:=ze9 h2
  obtain ⟨v0,v1,v2,hc,q0,q1,q2⟩:=id h1
  have k0:v0=.int .i64 t.id:=(List.cons.inj q0.1).1
  have k1:cell1 v1=true:=by cases q1;rfl
  have k2:cell1 v2=true:=by
   obtain ⟨w2,q,s2,b2⟩:=q2
   cases q
   obtain ⟨p2,c2,rfl⟩:=s2.form
   rfl
  subst k0
  refine ⟨(v1,v2,t)::zs,by rw [e1];rfl,by rw [e,hc,e2];rfl,fun z hz=>?_⟩
  rcases List.mem_cons.1 hz with rfl|hz
  ·exact ⟨by rw [hc] at h1;exact h1,k1,k2⟩
  ·exact e3 z hz
theorem zfZ {m:M}:∀ {zs:List X4},(∀ z ∈ zs,kHTx.rd m (x3c (x4c z)) z.2.2)→Cells kHTx m (zs.flatMap (fun z=>x3c (x4c z))) (zs.map (·.2.2))
 | [],_=>rfl
 | z::zs,h=>⟨_,_,by rw [List.flatMap_cons],h z (by simp),zfZ fun y hy=>h y (by simp [hy])⟩
theorem zfN:∀ {zs:List X4},(∀ z ∈ zs,cell1 z.1=true∧cell1 z.2.1=true)→x3s (zs.flatMap (fun z=>x3c (x4c z)))=some (zs.map x4c)
 | [],_=>rfl
 | z::zs,h=>by
  obtain ⟨h1,h2⟩:=h z (by simp)
  rw [List.flatMap_cons]
  show (bif cell1 z.1 && cell1 z.2.1 then (x3s (zs.flatMap (fun z=>x3c (x4c z)))).map (x4c z::·) else none)=_
  rw [zfN fun y hy=>h y (by simp [hy]),h1,h2]
  rfl
theorem zdG:∀ {zs:List X4},(zs.flatMap (fun z=>x3c (x4c z))).length=zs.length * 3
 | []=>rfl
 | z::zs=>by rw [List.flatMap_cons,List.length_append,zdG,List.length_cons];simp only [x3c,List.length_cons,List.length_nil];omega
theorem zd2 {β:Type} (key:β→Int) (l:List β):(sortK key l).length=l.length:=(sortK_perm key l).length_eq
theorem zjy {p:Option Addr} {c:Nat} {l:List HTx} (hl:l.length≤1000000000) (hnd:(l.map HTx.id).Nodup):Spec prog1 zav [.slice p l.length c,.func (.func zN) #[] #[]] [own kHTx p c l] (fun R=>R (.tuple #[]) [own kHTx p c (sortK HTx.id l)]):=by
 intro n F h R hs hw H hH
 obtain ⟨⟨S,⟨t1,t2,k1,k3,k4,k5⟩,k6⟩,hp,hn⟩:=id hs
 by_cases h0:l=[]
 ·subst h0
  have e:sortK HTx.id []=[]:=rfl
  rw [e] at hw
  refine ⟨1,.tuple #[],H,h,?_,rfl,hH,.refl h,rfl,_,hw,hs⟩
  simp only [callV,zex,sortXO,Nat.beq_refl,Bool.true_and,cond_true,List.isEmpty_nil,Bool.and_self]
  rfl
 ·rcases k1 with ⟨_,_,h1,_⟩|⟨b,cs,rfl,h2,h3,h4,rfl⟩
  ·exact absurd h1 h0
  obtain ⟨zs,hz1,hz2,hz3⟩:=ze9 h4
  have hzl:l.length=zs.length:=by rw [hz1];simp
  have hcl:cs.length=zs.length * 3:=by rw [hz2,zdG]
  have hn0:¬ l.length=0:=by simpa using h0
  have hb:n≤b:=k6 b ((k5 b).2 (.inl rfl))
  obtain ⟨own',e1,e2⟩:=hH.cells h3
  have e3:H.get b=some (.cells cs (some 3)):=by
   rcases e2 with rfl|e2
   ·exact e1
   ·cases e2
  have hso:sortK (·.1) (zs.map x4c)=(sortK (fun z:X4=>z.2.2.id) zs).map x4c:=(sortK_map (fun z:X4=>z.2.2.id) x4c (fun x:X3=>x.1) (fun _=>rfl) zs).symm
  have hsl:sortK HTx.id l=(sortK (fun z:X4=>z.2.2.id) zs).map (·.2.2):=by
   rw [hz1];exact (sortK_map (fun z:X4=>z.2.2.id) (·.2.2) HTx.id (fun _=>rfl) zs).symm
  have hfl:∀ ys:List X4,(ys.map x4c).flatMap x3c=ys.flatMap (fun z=>x3c (x4c z)):=fun ys=>by rw [List.flatMap_map]
  have hsp:splice cs 0 ((sortK (fun z:X4=>z.2.2.id) zs).flatMap (fun z=>x3c (x4c z)))=(sortK (fun z:X4=>z.2.2.id) zs).flatMap (fun z=>x3c (x4c z)):=by
   unfold splice
   simp only [List.take_zero,List.nil_append,Nat.zero_add]
   rw [zdG,zd2,List.drop_eq_nil_of_le (by omega),List.append_nil]
  have hst:St h (h.set b (.cells ((sortK (fun z:X4=>z.2.2.id) zs).flatMap (fun z=>x3c (x4c z))) (some 3))):=.set _ (by rw [hp];exact hb) (fun x hx=>by rw [h3] at hx;cases hx)
  refine ⟨1,.tuple #[],H.set b (.cells ((sortK (fun z:X4=>z.2.2.id) zs).flatMap (fun z=>x3c (x4c z))) (some 3)),h.set b (.cells ((sortK (fun z:X4=>z.2.2.id) zs).flatMap (fun z=>x3c (x4c z))) (some 3)),?_,rfl,hH.set _ _,hst,rfl,_,hw,⟨S,⟨(·=b),t2,.inr ⟨b,_,rfl,h2,by rw [Heap.get_set,if_pos rfl];rfl,?_,rfl⟩,k3.loc hst (fun x hx=>by rw [Heap.get_set,if_neg (fun e=>k4 x e hx)]),k4,k5⟩,k6⟩,hp,hn⟩
  ·simp only [callV,zex,sortXO]
   rw [show (Nat.beq zN zN && (#[]:Array Value).toList.isEmpty && (#[]:Array Value).toList.isEmpty)=true by simp,cond_true,if_neg hn0]
   simp only [e3]
   rw [if_pos ⟨trivial,by have:=hH.prot;omega,by omega,by omega⟩]
   rw [List.drop_zero,show l.length * 3=cs.length by omega,List.take_length,hz2,zfN fun z hz=>(hz3 z hz).2]
   simp only []
   rw [show (zs.map x4c).map (fun x:X3=>x.1)=l.map HTx.id by rw [hz1];simp [x4c],ndB_of hnd,cond_true,hso,hfl,← hz2,hsp]
  ·rw [hsl]
   exact Cells.mono (St_tz hst) (zfZ fun z hz=>(hz3 z ((sortK_perm _ zs).mem_iff.1 hz)).1)
end Go.AMS

