/- A part of the abstract machine, or of what is proved of the program by it. -/
import Derived.Test.YtenihfdlckgmmaaGreatAmSepC
import Derived.Test.YtenihfdlckgmmaaGreatAmOpenG
namespace Go.AMS
open Go.AM hiding Kt At WP WL Runs RunsY
open Go.AM.G
set_option linter.unusedVariables false
set_option linter.unusedSectionVars false

/-- All that is there is frozen for ever. -/
def AllFr (h:Heap):Prop:=∀ b,b < h.size→(∃ c,h.get b=some (.cells c none))∨h.get b=some .dead
theorem start_fr (W:World):AllFr (AM.start W):=fun b hb=>by
  rw [start_get]
  have hb':b < W.heap.size:=hb
  rw [if_pos hb']
  rcases abs0_cases W b with ⟨c,h⟩|h
  · exact .inl ⟨c,by rw [h]⟩
  · exact .inr (by rw [h])
class KTz {α:Type} (K:Kind α):Prop where
  tz:∀ {h:Heap} {cs:List Value} {a:α},AllFr h→K.rd (mem h) cs a→K.rd (tz h) cs a
instance ktz_int {k:IntKind}:KTz (kInt k):=⟨fun _ h=>h⟩
instance ktz_bool:KTz kBool:=⟨fun _ h=>h⟩
instance ktz_str {n:Nat}:KTz (kStrB n):=⟨fun _ h=>h⟩
theorem rdm_tz {h:Heap} (hf:AllFr h) {b o n:Nat} {cs:List Value} (e:rdm (mem h) b o n=some cs):rdm (tz h) b o n=some cs:=by
  have hb:=(rdm_rd e).2
  rcases hf b hb with ⟨c,hc⟩|hc
  · have h1:mem h b=some (.cells c none):=by unfold mem;rw [if_pos hb,hc];rfl
    unfold rdm at e ⊢
    rw [h1] at e
    rw [tz_of hb hc];exact e
  · unfold rdm mem at e
    rw [if_pos hb,hc] at e;cases e
theorem sl_tz {α:Type} {K:Kind α} [k:KTz K] {h:Heap} (hf:AllFr h) {v:Value} {l:List α} (s:Sl K (mem h) v l):Sl K (tz h) v l:=by
  obtain ⟨p,c,h1,h2,h3,h4⟩:=s
  refine ⟨p,c,h1,h2,h3,fun hl=>?_⟩
  obtain ⟨b,o,cs,k1,k2,k3⟩:=h4 hl
  refine ⟨b,o,cs,k1,rdm_tz hf k2,?_⟩
  clear k1 k2 h4 h3 h2 h1 hl
  induction l generalizing cs with
  | nil=>exact k3
  | cons a l ih =>
    obtain ⟨c,r,e,q1,q2⟩:=k3
    exact ⟨c,r,e,k.tz hf q1,ih r q2⟩
instance ktz_sl {α:Type} {K:Kind α} [k:KTz K]:KTz (kSl K):=⟨fun hf ⟨v,h1,h2,h3⟩=>⟨v,h1,sl_tz hf h2,h3⟩⟩
theorem sat0 (W:World):Sat 0 [] (AM.start W):=⟨⟨fun _=>False,fun b q=>q,fun b q=>q.elim⟩,rfl,Nat.zero_le _⟩
theorem sat_arg {α:Type} {K:Kind α} [k:KTz K] {W:World} {Γ:List HP} {p:Option Addr} {c:Nat} {l:List α} (hs:Sat 0 Γ (AM.start W)) (h:Sl K (mem (AM.start W)) (.slice p l.length c) l):Sat 0 (fro K p c l::Γ) (AM.start W) :=
  sat_fro hs (sl_tz (start_fr W) h)
theorem Spec.law {prog:AProg} {fn:FuncId} {args:List Value} {Γ:List HP} {W:World} (hs:Spec prog fn args Γ (fun R=>R (.bool true) [])) (h:Sat 0 Γ (AM.start W)):Runs prog fn args (AM.start W) (fun v _=>v=.bool true) :=
  (hs 0 [] (AM.start W) (fun v _=>v=.bool true) (by rw [List.append_nil];exact h) rfl).mono fun v _ _ _ ⟨_,h,_⟩=>h

/-- A table of functions. -/
def tabP (l:List (Nat × ADef)):AProg:=fun k=>(l.find? (fun p=>Nat.beq p.1 k)).map (·.2)
theorem tab_ok {P:Program} {l:List (Nat × ADef)} (h:∀ p ∈ l,match p.2 with
    | .code f=>Is P p.1 f
    | .oracle o=>OracleOk P p.1 o):ProgOk P (tabP l):=by
  have key:∀ k d,tabP l k=some d→(k,d) ∈ l:=by
    intro k d hk
    unfold tabP at hk
    obtain ⟨⟨k',d'⟩,h1,h2⟩:=Option.map_eq_some_iff.1 hk
    have h3:=List.find?_some h1
    have h4:=List.mem_of_find?_eq_some h1
    simp only at h2 h3
    have h5:=Nat.eq_of_beq_eq_true h3
    subst h2;subst h5;exact h4
  exact ⟨fun k f hk=>h _ (key k _ hk),fun k o hk=>h _ (key k _ hk)⟩
end Go.AMS

