/- What the functions do, part 2. -/
import Derived.Test.YtdkgalkdcmajjaaPart1
import Derived.Test.YtdkgalkdcmajjaaSetLaw
namespace Go.AMS
open Go.AM hiding Kt At WP WL Runs RunsY
open Go.AM.G
set_option linter.unusedVariables false
set_option linter.unusedSimpArgs false
set_option linter.unusedSectionVars false
set_option maxRecDepth 100000
set_option maxHeartbeats 1000000
attribute [local irreducible] AtS AtV AtC AtG FinA Spec Post LP G.At G.WP G.WL pt own fro rdl ro hx mp lrec elt sub

open Go.AM.G.Set
section
variable {b : Nat} {T : Tb} {s h : List HTx} {p q : Option Addr} {c d : Nat}
theorem slices_Clone_Txn_spec {l : List HTx} (hl : l.length ≤ 1000000000) : Spec prog1 n_slices_Clone_api_Txn_api_Txn [.slice p l.length c] [fro kHTx p c l] (fun R => ∀ p' c', R (.slice p' l.length c') [own kHTx p' c' l]) := by
  refine spec_code c_slices_Clone_api_Txn_api_Txn rfl ?_; intro n F R hR; unfold F_slices_Clone_api_Txn_api_Txn
  repeat' first | apply step | (apply g_op; · repeat first | exact Evs.nil | (apply Evs.cons; exact rfl)) | (refine Br.mk (fun _ => ?_) (fun _ => ?_) <;> try (exfalso; omega)) | (refine Sd.mk ?_ ?_; · ((repeat' apply And.intro) <;> first | omega | trivial | assumption | (simp; done) | (simp; omega))) | (refine Sx.mk ?_ ?_; · omega) | refine Fa.mk (fun _ => ?_) | refine Im.mk (fun _ => ?_) | apply Lw.go | refine g_cond ?_ | refine g_guard ?_ | refine g_keep ?_ | refine g_pass ?_ | refine g_fin ?_ | (apply g_ap; exact rfl; exact rfl; assumption)
  · subst_vars
    exact fin (hR none 0)
  · exact fin (hR _ _)
theorem stepsL_at {a j : Nat} (ha : a < s.length) (hj : j < s[a].ops.length) : (stepsL s)[opsN (s.take a) + j]? = some (s[a], j) := by
  have e : stepsL s = stepsL (s.take a) ++ ((List.range s[a].ops.length).map fun i => (s[a], i)) ++ stepsL (s.drop (a + 1)) := by
    conv => lhs; rw [← List.take_append_drop a s, List.drop_eq_getElem_cons ha]
    unfold stepsL
    rw [List.flatMap_append, List.flatMap_cons, List.append_assoc]
  rw [e, List.append_assoc, ← stepsL_len, List.getElem?_append_right (by omega), Nat.add_sub_cancel_left, List.getElem?_append_left (by simp; exact hj)]
  simp [hj]
def vaT (x : Option Addr × Nat) : Option (HTx × Nat) → List Value
  | some (t, j) => [.agg #[.int .i64 t.id, .bool t.ab, .slice x.1 t.ops.length x.2], .int .i64 (j : Int)]
  | none => [.bool true, .bool true]
def paT (x : Option Addr × Nat) : Option (HTx × Nat) → List HP
  | some (t, j) => [fro kHOp x.1 x.2 t.ops]
  | none => []
theorem table_steps_spec : Spec prog1 n_table_steps [.slice p s.length c] [] (fun R => ∀ x, R (.func (.func n_table_steps_c1) #[] #[.pointer (some ⟨x, 0, none⟩)]) [pt x [.slice p s.length c] 0]) := by
  refine spec_code c_table_steps rfl ?_; intro n F R hR; unfold F_table_steps
  repeat' first | apply step | (apply g_op; · repeat first | exact Evs.nil | (apply Evs.cons; exact rfl)) | (refine Br.mk (fun _ => ?_) (fun _ => ?_) <;> try (exfalso; omega)) | (refine Sd.mk ?_ ?_; · ((repeat' apply And.intro) <;> first | omega | trivial | assumption | (simp; done) | (simp; omega))) | (refine Sx.mk ?_ ?_; · omega) | refine Fa.mk (fun _ => ?_) | refine Im.mk (fun _ => ?_) | apply Lw.go | refine g_cond ?_ | refine g_guard ?_ | refine g_keep ?_ | refine g_pass ?_ | refine g_fin ?_ | (apply g_ap; exact rfl; exact rfl; assumption)
  exact fin (hR _)
theorem table_steps_c1_spec {x ly : Nat} {A : Nat → HP} {B : AX → HP} (hs : s.length ≤ 1000) (hN : opsN s ≤ 1000) (hy : ∀ i, i < opsN s → ∀ w, YSpec prog1 ly (vaT w (stepsL s)[i]?) (A i :: paT w (stepsL s)[i]?) (fun R => R (.bool true) [A (i + 1)] ∧ ∀ x, x ≠ .norm → R (.bool false) [B x])) :
    Spec prog1 n_table_steps_c1 [.func (.yield ly) #[] #[], .pointer (some ⟨x, 0, none⟩)] [A 0, pt x [.slice p s.length c] 0, fro kHTx p c s] (fun R => (∀ v, R v [A (opsN s)]) ∧ ∀ x v, x ≠ .norm → R v [B x]) := by
  refine spec_code c_table_steps_c1 rfl ?_; intro n F R hR; unfold F_table_steps_c1
  repeat' first | apply step | (apply g_op; · repeat first | exact Evs.nil | (apply Evs.cons; exact rfl)) | (refine Br.mk (fun _ => ?_) (fun _ => ?_) <;> try (exfalso; omega)) | (refine Sd.mk ?_ ?_; · ((repeat' apply And.intro) <;> first | omega | trivial | assumption | (simp; done) | (simp; omega))) | (refine Sx.mk ?_ ?_; · omega) | refine Fa.mk (fun _ => ?_) | refine Im.mk (fun _ => ?_) | apply Lw.go | refine g_cond ?_ | refine g_guard ?_ | refine g_keep ?_ | refine g_pass ?_ | refine g_fin ?_ | (apply g_ap; exact rfl; exact rfl; assumption)
  refine at_loopS (ι := Nat) (E := fun j => [(0, .func (.yield ly) #[] #[]), (6, .slice p s.length c), (7, .int .i64 (s.length : Int)), (8, .int .i64 (j : Int))]) (Δ := fun j => A (opsN (s.take j)) :: fro kHTx p c s :: F) (P := fun j => j ≤ s.length) (μ := fun j => s.length - j) 0 (Nat.zero_le _) ?_
  rintro j hj
  dsimp only
  rcases Nat.lt_or_ge j s.length with hlt | hge
  · have h1 := opsN_take hlt
    have h2 := opsN_take_le s (j + 1)
    have hyi : ∀ k, k < s[j].ops.length → ∀ w : Option Addr × Nat, YSpec prog1 ly [.agg #[.int .i64 s[j].id, .bool s[j].ab, .slice w.1 s[j].ops.length w.2], .int .i64 (k : Int)] [A (opsN (s.take j) + k), fro kHOp w.1 w.2 s[j].ops] (fun R => R (.bool true) [A (opsN (s.take j) + (k + 1))] ∧ ∀ x, x ≠ .norm → R (.bool false) [B x]) := fun k hk w => by
      have := hy (opsN (s.take j) + k) (by omega) w
      rw [stepsL_at hlt hk] at this
      exact this
    repeat' first | apply step | (apply g_op; · repeat first | exact Evs.nil | (apply Evs.cons; exact rfl)) | (refine Br.mk (fun _ => ?_) (fun _ => ?_) <;> try (exfalso; omega)) | (refine Sd.mk ?_ ?_; · ((repeat' apply And.intro) <;> first | omega | trivial | assumption | (simp; done) | (simp; omega))) | (refine Sx.mk ?_ ?_; · omega) | refine Fa.mk (fun _ => ?_) | refine Im.mk (fun _ => ?_) | apply Lw.go | refine g_cond ?_ | refine g_guard ?_ | refine g_keep ?_ | refine g_pass ?_ | refine g_fin ?_ | (apply g_ap; exact rfl; exact rfl; assumption)
    rename_i _ px _ tb
    refine at_loopS (ι := Nat) (E := fun k => [(0, .func (.yield ly) #[] #[]), (4, .pointer (some ⟨tb, 0, none⟩)), (6, .slice p s.length c), (7, .int .i64 (s.length : Int)), (8, .int .i64 (j : Int)), (14, .int .i64 (s[j].ops.length : Int)), (15, .int .i64 (k : Int))]) (Δ := fun k => A (opsN (s.take j) + k) :: pt tb [.int .i64 s[j].id, .bool s[j].ab, .slice px.1 s[j].ops.length px.2] 0 :: fro kHOp px.1 px.2 s[j].ops :: fro kHTx p c s :: F) (P := fun k => k ≤ s[j].ops.length) (μ := fun k => s[j].ops.length - k) 0 (Nat.zero_le _) ?_
    rintro k hk
    try dsimp only
    repeat' first | apply step | (apply g_op; · repeat first | exact Evs.nil | (apply Evs.cons; exact rfl)) | (refine Br.mk (fun _ => ?_) (fun _ => ?_) <;> try (exfalso; omega)) | (refine Sd.mk ?_ ?_; · ((repeat' apply And.intro) <;> first | omega | trivial | assumption | (simp; done) | (simp; omega))) | (refine Sx.mk ?_ ?_; · omega) | refine Fa.mk (fun _ => ?_) | refine Im.mk (fun _ => ?_) | apply Lw.go | refine g_cond ?_ | refine g_guard ?_ | refine g_keep ?_ | refine g_pass ?_ | refine g_fin ?_ | (apply g_ap; exact rfl; exact rfl; assumption)
    · refine at_callY (hyi k (by omega) px) ⟨?_, fun x hx => ?_⟩
      · repeat' first | apply step | (apply g_op; · repeat first | exact Evs.nil | (apply Evs.cons; exact rfl)) | (refine Br.mk (fun _ => ?_) (fun _ => ?_) <;> try (exfalso; omega)) | (refine Sd.mk ?_ ?_; · ((repeat' apply And.intro) <;> first | omega | trivial | assumption | (simp; done) | (simp; omega))) | (refine Sx.mk ?_ ?_; · omega) | refine Fa.mk (fun _ => ?_) | refine Im.mk (fun _ => ?_) | apply Lw.go | refine g_cond ?_ | refine g_guard ?_ | refine g_keep ?_ | refine g_pass ?_ | refine g_fin ?_ | (apply g_ap; exact rfl; exact rfl; assumption)
        exact lp_next (k + 1) (by omega) (by omega)
      · repeat' first | apply step | (apply g_op; · repeat first | exact Evs.nil | (apply Evs.cons; exact rfl)) | (refine Br.mk (fun _ => ?_) (fun _ => ?_) <;> try (exfalso; omega)) | (refine Sd.mk ?_ ?_; · ((repeat' apply And.intro) <;> first | omega | trivial | assumption | (simp; done) | (simp; omega))) | (refine Sx.mk ?_ ?_; · omega) | refine Fa.mk (fun _ => ?_) | refine Im.mk (fun _ => ?_) | apply Lw.go | refine g_cond ?_ | refine g_guard ?_ | refine g_keep ?_ | refine g_pass ?_ | refine g_fin ?_ | (apply g_ap; exact rfl; exact rfl; assumption)
        exact fin (hR.2 x _ hx)
    · have : k = s[j].ops.length := by omega
      subst this
      rw [← h1]
      repeat' first | apply step | (apply g_op; · repeat first | exact Evs.nil | (apply Evs.cons; exact rfl)) | (refine Br.mk (fun _ => ?_) (fun _ => ?_) <;> try (exfalso; omega)) | (refine Sd.mk ?_ ?_; · ((repeat' apply And.intro) <;> first | omega | trivial | assumption | (simp; done) | (simp; omega))) | (refine Sx.mk ?_ ?_; · omega) | refine Fa.mk (fun _ => ?_) | refine Im.mk (fun _ => ?_) | apply Lw.go | refine g_cond ?_ | refine g_guard ?_ | refine g_keep ?_ | refine g_pass ?_ | refine g_fin ?_ | (apply g_ap; exact rfl; exact rfl; assumption)
      exact lp_next (j + 1) (by omega) (by omega)
  · have : s.take j = s := List.take_of_length_le hge
    rw [this]
    repeat' first | apply step | (apply g_op; · repeat first | exact Evs.nil | (apply Evs.cons; exact rfl)) | (refine Br.mk (fun _ => ?_) (fun _ => ?_) <;> try (exfalso; omega)) | (refine Sd.mk ?_ ?_; · ((repeat' apply And.intro) <;> first | omega | trivial | assumption | (simp; done) | (simp; omega))) | (refine Sx.mk ?_ ?_; · omega) | refine Fa.mk (fun _ => ?_) | refine Im.mk (fun _ => ?_) | apply Lw.go | refine g_cond ?_ | refine g_guard ?_ | refine g_keep ?_ | refine g_pass ?_ | refine g_fin ?_ | (apply g_ap; exact rfl; exact rfl; assumption)
    exact fin (hR.1 _)
theorem comm_take {s : List HTx} {j : Nat} (hj : j < s.length) : comm (s.take (j + 1)) = comm (s.take j) ++ if s[j].ab = true then [] else [s[j].id] := by
  unfold comm
  rw [List.take_succ_eq_append_getElem hj, List.filter_append, List.map_append]
  cases h : s[j].ab <;> simp [h]
theorem comm_le (s : List HTx) : (comm s).length ≤ s.length := by
  unfold comm; rw [List.length_map]; exact List.length_filter_le _ _
theorem mapL_new {κ α : Type} {r : Nat} {enc : κ → Value} {K : Kind α} {Γ : List HP} : Ent (mp r [] :: Γ) (mapL r enc K [] :: Γ) :=
  .fold (f := fun (Z : List (LE κ α)) => (fst2 Z = [], [mp r (amap enc slV Z), alls (ownE K) Z])) [] rfl (.more .here alls_nil)
theorem stepsL_mem {s : List HTx} {i : Nat} (hi : i < opsN s) : ∃ t j, ∃ hj : j < t.ops.length, (stepsL s)[i]? = some (t, j) ∧ t ∈ s := by
  have h1 : i < (stepsL s).length := by rw [stepsL_len]; exact hi
  have h2 : (stepsL s)[i] ∈ stepsL s := List.getElem_mem h1
  generalize hx : (stepsL s)[i] = x at h2
  obtain ⟨t, ht, h3⟩ := List.mem_flatMap.1 h2
  obtain ⟨j, hj, rfl⟩ := List.mem_map.1 h3
  exact ⟨t, j, List.mem_range.1 hj, by rw [List.getElem?_eq_getElem h1, hx], ht⟩
theorem opsN_mem {s : List HTx} {t : HTx} (ht : t ∈ s) : t.ops.length ≤ opsN s := by
  obtain ⟨a, b, rfl⟩ := List.append_of_mem ht
  unfold opsN
  rw [List.map_append, List.sum_append, List.map_cons, List.sum_cons]; omega
theorem Tb.sm.one {T : Tb} {n : Nat} (hT : T.sm n) (x : HTx × Nat) : (T.one x).sm (n + 1) := by
  have g : ∀ {κ α : Type} [DecidableEq κ] (k j : κ) (a : α) (f : List (κ × List α)), (agl j (adl k a f)).length ≤ (agl j f).length + 1 := by
    intro κ α _ k j a f
    rw [agl_adl, List.length_append]
    split <;> simp
  refine ⟨fun k => ?_, fun k => ?_, fun k => ?_, ?_⟩
  · have := hT.a k
    unfold Tb.one; rw [put_ap]; split
    · exact Nat.le_succ_of_le this
    · exact Nat.le_trans (g _ _ _ _) (Nat.succ_le_succ this)
  · have := hT.r k
    unfold Tb.one; rw [put_rd]; split
    · exact Nat.le_trans (g _ _ _ _) (Nat.succ_le_succ this)
    · exact Nat.le_succ_of_le this
  · have := hT.w k
    unfold Tb.one; rw [put_wt]; split
    · exact Nat.le_trans (g _ _ _ _) (Nat.succ_le_succ this)
    · exact Nat.le_succ_of_le this
  · have := hT.k
    unfold Tb.one; rw [put_keys]; simp; exact this
/-- The tables on the way. -/
def tabI (s : List HTx) (i : Nat) : Tb := ((stepsL s).take i).foldl Tb.one (T0 (comm s))
def Tb.ak (T : Tb) (k : Int) : Tb := { T with keys := T.keys ++ [k] }
theorem tabI_next {s : List HTx} {i : Nat} {x : HTx × Nat} (h : (stepsL s)[i]? = some x) : tabI s (i + 1) = (tabI s i).one x := by
  obtain ⟨h1, h2⟩ := List.getElem?_eq_some_iff.1 h
  unfold tabI
  rw [List.take_succ_eq_append_getElem h1, List.foldl_append, h2]; rfl
theorem tabI_sm (s : List HTx) : ∀ i, i ≤ opsN s → (tabI s i).sm i
  | 0, _ => ⟨fun k => Nat.le_refl _, fun k => Nat.le_refl _, fun k => Nat.le_refl _, Nat.le_refl _⟩
  | i + 1, h => by
    obtain ⟨t, j, hj, h1, h2⟩ := stepsL_mem (s := s) (i := i) (by omega)
    rw [tabI_next h1]
    exact (tabI_sm s i (by omega)).one _
theorem tabI_all (s : List HTx) : tabI s (opsN s) = tabS s := by
  unfold tabI tabS
  rw [← stepsL_len, List.take_length]
theorem table_New_spec (hf : FewH h 20 60) : Spec prog1 n_table_New [.agg #[.slice p h.length c]] [fro kHTx p c h] (fun R => (chkH h ≠ 0 → R (.tuple #[.pointer none, .int .i64 (chkH h)]) []) ∧ (chkH h = 0 → ∀ b, R (.tuple #[.pointer (some ⟨b, 0, none⟩), .int .i64 0]) [tab b (tabS (sortK HTx.id h)).fin])) := by
  refine spec_code c_table_New rfl ?_; intro n F R hR; unfold F_table_New
  have hh := hf.t
  have ho := hf.o
  repeat' first | apply step | (apply g_op; · repeat first | exact Evs.nil | (apply Evs.cons; exact rfl)) | (refine Br.mk (fun _ => ?_) (fun _ => ?_) <;> try (exfalso; omega)) | (refine Sd.mk ?_ ?_; · ((repeat' apply And.intro) <;> first | omega | trivial | assumption | (simp; done) | (simp; omega))) | (refine Sx.mk ?_ ?_; · omega) | refine Fa.mk (fun _ => ?_) | refine Im.mk (fun _ => ?_) | apply Lw.go | refine g_cond ?_ | refine g_guard ?_ | refine g_keep ?_ | refine g_pass ?_ | refine g_fin ?_ | (apply g_ap; exact rfl; exact rfl; assumption)
  first | refine at_callS (encode_Check_spec hf) ?_ | refine at_callR (encode_Check_spec hf) ?_
  by_cases hc : chkH h = 0
  · rw [hc]
    have hk := chkH_ok hc
    repeat' first | apply step | (apply g_op; · repeat first | exact Evs.nil | (apply Evs.cons; exact rfl)) | (refine Br.mk (fun _ => ?_) (fun _ => ?_) <;> try (exfalso; omega)) | (refine Sd.mk ?_ ?_; · ((repeat' apply And.intro) <;> first | omega | trivial | assumption | (simp; done) | (simp; omega))) | (refine Sx.mk ?_ ?_; · omega) | refine Fa.mk (fun _ => ?_) | refine Im.mk (fun _ => ?_) | apply Lw.go | refine g_cond ?_ | refine g_guard ?_ | refine g_keep ?_ | refine g_pass ?_ | refine g_fin ?_ | (apply g_ap; exact rfl; exact rfl; assumption)
    first | refine at_callS (slices_Clone_Txn_spec (l := h) (by omega)) ?_ | refine at_callR (slices_Clone_Txn_spec (l := h) (by omega)) ?_
    intro p1 c1
    repeat' first | apply step | (apply g_op; · repeat first | exact Evs.nil | (apply Evs.cons; exact rfl)) | (refine Br.mk (fun _ => ?_) (fun _ => ?_) <;> try (exfalso; omega)) | (refine Sd.mk ?_ ?_; · ((repeat' apply And.intro) <;> first | omega | trivial | assumption | (simp; done) | (simp; omega))) | (refine Sx.mk ?_ ?_; · omega) | refine Fa.mk (fun _ => ?_) | refine Im.mk (fun _ => ?_) | apply Lw.go | refine g_cond ?_ | refine g_guard ?_ | refine g_keep ?_ | refine g_pass ?_ | refine g_fin ?_ | (apply g_ap; exact rfl; exact rfl; assumption)
    first | refine at_callS (slices_SortFunc_Txn_spec (l := h) (by omega) hk.i) ?_ | refine at_callR (slices_SortFunc_Txn_spec (l := h) (by omega) hk.i) ?_
    have hR2 := hR.2 hc
    have hsl : h.length = (sortK HTx.id h).length := (sortK_len _ h).symm
    have hsp : (sortK HTx.id h).Perm h := sortK_perm _ h
    rw [hsl]
    generalize sortK HTx.id h = s at hR2 hsl hsp ⊢
    have hso : opsN s = opsN h := by unfold opsN; exact (hsp.map _).sum_nat
    repeat' first | apply step | (apply g_op; · repeat first | exact Evs.nil | (apply Evs.cons; exact rfl)) | (refine Br.mk (fun _ => ?_) (fun _ => ?_) <;> try (exfalso; omega)) | (refine Sd.mk ?_ ?_; · ((repeat' apply And.intro) <;> first | omega | trivial | assumption | (simp; done) | (simp; omega))) | (refine Sx.mk ?_ ?_; · omega) | refine Fa.mk (fun _ => ?_) | refine Im.mk (fun _ => ?_) | apply Lw.go | refine g_cond ?_ | refine g_guard ?_ | refine g_keep ?_ | refine g_pass ?_ | refine g_fin ?_ | (apply g_ap; exact rfl; exact rfl; assumption)
    refine at_freezeC ?_
    rename_i ha _ mw ma mr mt tb tc
    obtain ⟨I, hI⟩ : ∃ I : Nat → HP, ∀ j, I j = hx fun (w : Option Addr × Nat × List Int) => (w.2.2 = comm (s.take j), [pt tb [.bool true, .slice w.1 w.2.2.length w.2.1, .slice none 0 0, .map (some mw), .map (some ma), .map (some mr), .map (some mt)] 0, own (kInt .i64) w.1 w.2.1 w.2.2]) := ⟨_, fun _ => rfl⟩
    refine at_foldP (I 0) (hI 0) (none, 0, []) rfl ?_
    refine at_loopS (ι := Nat) (E := fun j => [(2, .pointer none), (3, .int .i64 0), (5, .pointer (some ⟨tc, 0, none⟩)), (6, .slice p1 s.length c1), (27, .slice p1 s.length c1), (28, .int .i64 (s.length : Int)), (29, .int .i64 (j : Int))]) (Δ := fun j => I j :: pt tc [.pointer (some ⟨tb, 0, none⟩)] 0 :: fro kHTx p1 c1 s :: mp mw [] :: mp ma [] :: mp mr [] :: mp mt [] :: F) (P := fun j => j ≤ s.length) (μ := fun j => s.length - j) 0 (Nat.zero_le _) ?_
    rintro j hj
    try dsimp only
    rcases Nat.lt_or_ge j s.length with hlt | hge
    · have hm := hk.m s[j] (hsp.mem_iff.1 (List.getElem_mem hlt))
      have hid1 := hm.1.1
      have hid2 := hm.1.2
      have hct := comm_take hlt
      have hcl := comm_le (s.take j)
      have hst : (s.take j).length ≤ j := List.length_take_le _ _
      cases hab : s[j].ab
      · rw [hab] at hct
        repeat' first | rw [hab] | apply step | (apply g_op; · repeat first | exact Evs.nil | (apply Evs.cons; exact rfl)) | (refine Br.mk (fun _ => ?_) (fun _ => ?_) <;> try (exfalso; omega)) | (refine Sd.mk ?_ ?_; · ((repeat' apply And.intro) <;> first | omega | trivial | assumption | (simp; done) | (simp; omega))) | (refine Sx.mk ?_ ?_; · omega) | refine Fa.mk (fun _ => ?_) | refine Im.mk (fun _ => ?_) | apply Lw.go | refine g_cond ?_ | refine g_guard ?_ | refine g_keep ?_ | refine g_pass ?_ | refine g_fin ?_ | (apply g_ap; exact rfl; exact rfl; assumption)
        refine at_openP (I j) (hI j) ?_
        rintro ⟨pi, ci, l'⟩ h'
        dsimp only [List.cons_append, List.nil_append] at h' ⊢
        subst h'
        refine at_opsKS tc 8 (fun sz hsz => ?_)
        repeat' first | apply step | (apply g_op; · repeat first | exact Evs.nil | (apply Evs.cons; exact rfl)) | (refine Br.mk (fun _ => ?_) (fun _ => ?_) <;> try (exfalso; omega)) | (refine Sd.mk ?_ ?_; · ((repeat' apply And.intro) <;> first | omega | trivial | assumption | (simp; done) | (simp; omega))) | (refine Sx.mk ?_ ?_; · omega) | refine Fa.mk (fun _ => ?_) | refine Im.mk (fun _ => ?_) | apply Lw.go | refine g_cond ?_ | refine g_guard ?_ | refine g_keep ?_ | refine g_pass ?_ | refine g_fin ?_ | (apply g_ap; exact rfl; exact rfl; assumption)
        refine kp1 tc ?_ hsz
        repeat' first | apply step | (apply g_op; · repeat first | exact Evs.nil | (apply Evs.cons; exact rfl)) | (refine Br.mk (fun _ => ?_) (fun _ => ?_) <;> try (exfalso; omega)) | (refine Sd.mk ?_ ?_; · ((repeat' apply And.intro) <;> first | omega | trivial | assumption | (simp; done) | (simp; omega))) | (refine Sx.mk ?_ ?_; · omega) | refine Fa.mk (fun _ => ?_) | refine Im.mk (fun _ => ?_) | apply Lw.go | refine g_cond ?_ | refine g_guard ?_ | refine g_keep ?_ | refine g_pass ?_ | refine g_fin ?_ | (apply g_ap; exact rfl; exact rfl; assumption)
        refine kp2 ?_
        repeat' first | apply step | (apply g_op; · repeat first | exact Evs.nil | (apply Evs.cons; exact rfl)) | (refine Br.mk (fun _ => ?_) (fun _ => ?_) <;> try (exfalso; omega)) | (refine Sd.mk ?_ ?_; · ((repeat' apply And.intro) <;> first | omega | trivial | assumption | (simp; done) | (simp; omega))) | (refine Sx.mk ?_ ?_; · omega) | refine Fa.mk (fun _ => ?_) | refine Im.mk (fun _ => ?_) | apply Lw.go | refine g_cond ?_ | refine g_guard ?_ | refine g_keep ?_ | refine g_pass ?_ | refine g_fin ?_ | (apply g_ap; exact rfl; exact rfl; assumption)
        refine at_foldP (I (j + 1)) (hI _) (_, _, comm (s.take j) ++ [s[j].id]) hct.symm ?_
        exact lp_next (j + 1) (by omega) (by omega)
      · rw [hab] at hct
        have hct2 : comm (s.take j) = comm (s.take (j + 1)) := by rw [hct]; simp
        repeat' first | rw [hab] | apply step | (apply g_op; · repeat first | exact Evs.nil | (apply Evs.cons; exact rfl)) | (refine Br.mk (fun _ => ?_) (fun _ => ?_) <;> try (exfalso; omega)) | (refine Sd.mk ?_ ?_; · ((repeat' apply And.intro) <;> first | omega | trivial | assumption | (simp; done) | (simp; omega))) | (refine Sx.mk ?_ ?_; · omega) | refine Fa.mk (fun _ => ?_) | refine Im.mk (fun _ => ?_) | apply Lw.go | refine g_cond ?_ | refine g_guard ?_ | refine g_keep ?_ | refine g_pass ?_ | refine g_fin ?_ | (apply g_ap; exact rfl; exact rfl; assumption)
        refine at_openP (I j) (hI j) ?_
        rintro ⟨pi, ci, l'⟩ h'
        dsimp only [List.cons_append, List.nil_append] at h' ⊢
        refine at_foldP (I (j + 1)) (hI _) (_, _, l') (h'.trans hct2) ?_
        exact lp_next (j + 1) (by omega) (by omega)
    · have e : s.take j = s := List.take_of_length_le hge
      refine at_openP (I j) (hI j) ?_
      rintro ⟨pi, ci, l'⟩ h'
      rw [e] at h'
      dsimp only [List.cons_append, List.nil_append] at h' ⊢
      subst h'
      refine at_via (mapL_new (enc := kII) (K := kInt .i64) (r := ma)) ?_
      refine at_via (mapL_new (enc := kI) (K := kHRd) (r := mr)) ?_
      refine at_via (mapL_new (enc := kI) (K := kHWr) (r := mt)) ?_
      refine at_foldP (tab tb (tabI s 0)) rfl (((pi, ci), (none, 0)), (mw, ma, mr, mt)) trivial ?_
      repeat' first | apply step | (apply g_op; · repeat first | exact Evs.nil | (apply Evs.cons; exact rfl)) | (refine Br.mk (fun _ => ?_) (fun _ => ?_) <;> try (exfalso; omega)) | (refine Sd.mk ?_ ?_; · ((repeat' apply And.intro) <;> first | omega | trivial | assumption | (simp; done) | (simp; omega))) | (refine Sx.mk ?_ ?_; · omega) | refine Fa.mk (fun _ => ?_) | refine Im.mk (fun _ => ?_) | apply Lw.go | refine g_cond ?_ | refine g_guard ?_ | refine g_keep ?_ | refine g_pass ?_ | refine g_fin ?_ | (apply g_ap; exact rfl; exact rfl; assumption)
      first | refine at_callS (table_steps_spec (p := p1) (c := c1) (s := s)) ?_ | refine at_callR (table_steps_spec (p := p1) (c := c1) (s := s)) ?_
      intro xs
      repeat' first | apply step | (apply g_op; · repeat first | exact Evs.nil | (apply Evs.cons; exact rfl)) | (refine Br.mk (fun _ => ?_) (fun _ => ?_) <;> try (exfalso; omega)) | (refine Sd.mk ?_ ?_; · ((repeat' apply And.intro) <;> first | omega | trivial | assumption | (simp; done) | (simp; omega))) | (refine Sx.mk ?_ ?_; · omega) | refine Fa.mk (fun _ => ?_) | refine Im.mk (fun _ => ?_) | apply Lw.go | refine g_cond ?_ | refine g_guard ?_ | refine g_keep ?_ | refine g_pass ?_ | refine g_fin ?_ | (apply g_ap; exact rfl; exact rfl; assumption)
      obtain ⟨J, hJ⟩ : ∃ J : Nat → HP, ∀ i, J i = hx fun (_ : Unit) => (True, [pt tc [.pointer (some ⟨tb, 0, none⟩)] 0, tab tb (tabI s i)]) := ⟨_, fun _ => rfl⟩
      refine at_foldP (J 0) (hJ 0) () trivial ?_
      refine at_rfunSD (I := J) (J := fun _ => noP) (Po := []) (opsN s) (fun i d => vaT d (stepsL s)[i]?) (fun i d => paT d (stepsL s)[i]?)
        (fun ly A B h => table_steps_c1_spec (by omega) (by omega) h) (fun i hi d => by obtain ⟨t, j, hj, e1, ht⟩ := stepsL_mem hi; rw [e1]; rfl) ?_ ?_ (fun _ _ => at_no)
      · intro i hi d ly m F'
        obtain ⟨t, j, hj, e1, ht⟩ := stepsL_mem hi
        rw [e1]
        have hm := hk.m t (hsp.mem_iff.1 ht)
        have hmo := hm.2 t.ops[j] (List.getElem_mem hj)
        have hlo := hf.l t (hsp.mem_iff.1 ht) t.ops[j] (List.getElem_mem hj)
        have hjs : j ≤ 60 := by have := opsN_mem ht; omega
        have hts := tabI_sm s i (by omega)
        have hnx := tabI_next e1
        dsimp only [vaT, paT]
        refine at_openP (J i) (hJ i) ?_
        rintro - -
        repeat' first | apply step | (apply g_op; · repeat first | exact Evs.nil | (apply Evs.cons; exact rfl)) | (refine Br.mk (fun _ => ?_) (fun _ => ?_) <;> try (exfalso; omega)) | (refine Sd.mk ?_ ?_; · ((repeat' apply And.intro) <;> first | omega | trivial | assumption | (simp; done) | (simp; omega))) | (refine Sx.mk ?_ ?_; · omega) | refine Fa.mk (fun _ => ?_) | refine Im.mk (fun _ => ?_) | apply Lw.go | refine g_cond ?_ | refine g_guard ?_ | refine g_keep ?_ | refine g_pass ?_ | refine g_fin ?_ | (apply g_ap; exact rfl; exact rfl; assumption)
        have hkb : -9223372036854775808 ≤ t.ops[j].key ∧ t.ops[j].key ≤ 9223372036854775807 := by unfold mayO mayN at hmo; split at hmo <;> omega
        have hkl := hts.k
        refine at_openP (tab tb (tabI s i)) rfl ?_
        rintro ⟨⟨⟨pi, ci⟩, ⟨pk, ck⟩⟩, ⟨mw', ma', mr', mt'⟩⟩ -
        dsimp only [List.cons_append, List.nil_append]
        refine at_opsKS tc 12 (fun sz hsz => ?_)
        repeat' first | apply step | (apply g_op; · repeat first | exact Evs.nil | (apply Evs.cons; exact rfl)) | (refine Br.mk (fun _ => ?_) (fun _ => ?_) <;> try (exfalso; omega)) | (refine Sd.mk ?_ ?_; · ((repeat' apply And.intro) <;> first | omega | trivial | assumption | (simp; done) | (simp; omega))) | (refine Sx.mk ?_ ?_; · omega) | refine Fa.mk (fun _ => ?_) | refine Im.mk (fun _ => ?_) | apply Lw.go | refine g_cond ?_ | refine g_guard ?_ | refine g_keep ?_ | refine g_pass ?_ | refine g_fin ?_ | (apply g_ap; exact rfl; exact rfl; assumption)
        refine kp1 tc ?_ hsz
        repeat' first | apply step | (apply g_op; · repeat first | exact Evs.nil | (apply Evs.cons; exact rfl)) | (refine Br.mk (fun _ => ?_) (fun _ => ?_) <;> try (exfalso; omega)) | (refine Sd.mk ?_ ?_; · ((repeat' apply And.intro) <;> first | omega | trivial | assumption | (simp; done) | (simp; omega))) | (refine Sx.mk ?_ ?_; · omega) | refine Fa.mk (fun _ => ?_) | refine Im.mk (fun _ => ?_) | apply Lw.go | refine g_cond ?_ | refine g_guard ?_ | refine g_keep ?_ | refine g_pass ?_ | refine g_fin ?_ | (apply g_ap; exact rfl; exact rfl; assumption)
        refine kp2 ?_
        rename_i pk2 ck2
        repeat' first | apply step | (apply g_op; · repeat first | exact Evs.nil | (apply Evs.cons; exact rfl)) | (refine Br.mk (fun _ => ?_) (fun _ => ?_) <;> try (exfalso; omega)) | (refine Sd.mk ?_ ?_; · ((repeat' apply And.intro) <;> first | omega | trivial | assumption | (simp; done) | (simp; omega))) | (refine Sx.mk ?_ ?_; · omega) | refine Fa.mk (fun _ => ?_) | refine Im.mk (fun _ => ?_) | apply Lw.go | refine g_cond ?_ | refine g_guard ?_ | refine g_keep ?_ | refine g_pass ?_ | refine g_fin ?_ | (apply g_ap; exact rfl; exact rfl; assumption)
        refine av_foldP (tab tb ((tabI s i).ak t.ops[j].key)) rfl (((pi, ci), (pk2, ck2)), (mw', ma', mr', mt')) trivial ?_
        first | refine at_callS (table_Table_put_spec (T := (tabI s i).ak t.ops[j].key) (t := t) (i := j) (o := t.ops[j]) (n0 := 100) ⟨fun k => Nat.le_trans (hts.a k) (by omega), fun k => Nat.le_trans (hts.r k) (by omega), fun k => Nat.le_trans (hts.w k) (by omega), by unfold Tb.ak; simp; omega⟩ (by omega) (by omega) hm.1 hmo hlo) ?_ | refine at_callR (table_Table_put_spec (T := (tabI s i).ak t.ops[j].key) (t := t) (i := j) (o := t.ops[j]) (n0 := 100) ⟨fun k => Nat.le_trans (hts.a k) (by omega), fun k => Nat.le_trans (hts.r k) (by omega), fun k => Nat.le_trans (hts.w k) (by omega), by unfold Tb.ak; simp; omega⟩ (by omega) (by omega) hm.1 hmo hlo) ?_
        repeat' first | apply step | (apply g_op; · repeat first | exact Evs.nil | (apply Evs.cons; exact rfl)) | (refine Br.mk (fun _ => ?_) (fun _ => ?_) <;> try (exfalso; omega)) | (refine Sd.mk ?_ ?_; · ((repeat' apply And.intro) <;> first | omega | trivial | assumption | (simp; done) | (simp; omega))) | (refine Sx.mk ?_ ?_; · omega) | refine Fa.mk (fun _ => ?_) | refine Im.mk (fun _ => ?_) | apply Lw.go | refine g_cond ?_ | refine g_guard ?_ | refine g_keep ?_ | refine g_pass ?_ | refine g_fin ?_ | (apply g_ap; exact rfl; exact rfl; assumption)
        rw [show ((tabI s i).ak t.ops[j].key).put t j t.ops[j] = tabI s (i + 1) by rw [hnx]; unfold Tb.one Tb.ak; rw [getD_lt hj]]
        refine at_foldP (J (i + 1)) (hJ _) () trivial ?_
        exact y_next
      · refine at_openP (J _) (hJ _) ?_
        rintro - -
        rw [tabI_all]
        repeat' first | apply step | (apply g_op; · repeat first | exact Evs.nil | (apply Evs.cons; exact rfl)) | (refine Br.mk (fun _ => ?_) (fun _ => ?_) <;> try (exfalso; omega)) | (refine Sd.mk ?_ ?_; · ((repeat' apply And.intro) <;> first | omega | trivial | assumption | (simp; done) | (simp; omega))) | (refine Sx.mk ?_ ?_; · omega) | refine Fa.mk (fun _ => ?_) | refine Im.mk (fun _ => ?_) | apply Lw.go | refine g_cond ?_ | refine g_guard ?_ | refine g_keep ?_ | refine g_pass ?_ | refine g_fin ?_ | (apply g_ap; exact rfl; exact rfl; assumption)
        first | refine at_openP (tab tb (tabS s)) rfl ?_ | refine av_openP (tab tb (tabS s)) rfl ?_
        rintro ⟨⟨⟨pi, ci⟩, ⟨pk, ck⟩⟩, ⟨mw', ma', mr', mt'⟩⟩ -
        dsimp only [List.cons_append, List.nil_append]
        have hts := tabI_sm s _ (Nat.le_refl _)
        rw [tabI_all] at hts
        have hts2 := hts.k
        have hsl2 := setL_le (tabS s).keys
        repeat' first | apply step | (apply g_op; · repeat first | exact Evs.nil | (apply Evs.cons; exact rfl)) | (refine Br.mk (fun _ => ?_) (fun _ => ?_) <;> try (exfalso; omega)) | (refine Sd.mk ?_ ?_; · ((repeat' apply And.intro) <;> first | omega | trivial | assumption | (simp; done) | (simp; omega))) | (refine Sx.mk ?_ ?_; · omega) | refine Fa.mk (fun _ => ?_) | refine Im.mk (fun _ => ?_) | apply Lw.go | refine g_cond ?_ | refine g_guard ?_ | refine g_keep ?_ | refine g_pass ?_ | refine g_fin ?_ | (apply g_ap; exact rfl; exact rfl; assumption)
        refine at_callR (sorted_Of_int_spec (l := (tabS s).keys) (by omega)) ?_
        intro p2 c2
        repeat' first | apply step | (apply g_op; · repeat first | exact Evs.nil | (apply Evs.cons; exact rfl)) | (refine Br.mk (fun _ => ?_) (fun _ => ?_) <;> try (exfalso; omega)) | (refine Sd.mk ?_ ?_; · ((repeat' apply And.intro) <;> first | omega | trivial | assumption | (simp; done) | (simp; omega))) | (refine Sx.mk ?_ ?_; · omega) | refine Fa.mk (fun _ => ?_) | refine Im.mk (fun _ => ?_) | apply Lw.go | refine g_cond ?_ | refine g_guard ?_ | refine g_keep ?_ | refine g_pass ?_ | refine g_fin ?_ | (apply g_ap; exact rfl; exact rfl; assumption)
        refine at_callR (sorted_Set_int_List_spec (l := setL (tabS s).keys) (by omega)) ?_
        intro p3 c3
        repeat' first | apply step | (apply g_op; · repeat first | exact Evs.nil | (apply Evs.cons; exact rfl)) | (refine Br.mk (fun _ => ?_) (fun _ => ?_) <;> try (exfalso; omega)) | (refine Sd.mk ?_ ?_; · ((repeat' apply And.intro) <;> first | omega | trivial | assumption | (simp; done) | (simp; omega))) | (refine Sx.mk ?_ ?_; · omega) | refine Fa.mk (fun _ => ?_) | refine Im.mk (fun _ => ?_) | apply Lw.go | refine g_cond ?_ | refine g_guard ?_ | refine g_keep ?_ | refine g_pass ?_ | refine g_fin ?_ | (apply g_ap; exact rfl; exact rfl; assumption)
        refine fin_foldP (tab tb (tabS s).fin) rfl (((pi, ci), (p3, c3)), (mw', ma', mr', mt')) trivial ?_
        exact fin (hR2 tb)
  · repeat' first | apply step | (apply g_op; · repeat first | exact Evs.nil | (apply Evs.cons; exact rfl)) | (refine Br.mk (fun _ => ?_) (fun _ => ?_) <;> try (exfalso; omega)) | (refine Sd.mk ?_ ?_; · ((repeat' apply And.intro) <;> first | omega | trivial | assumption | (simp; done) | (simp; omega))) | (refine Sx.mk ?_ ?_; · omega) | refine Fa.mk (fun _ => ?_) | refine Im.mk (fun _ => ?_) | apply Lw.go | refine g_cond ?_ | refine g_guard ?_ | refine g_keep ?_ | refine g_pass ?_ | refine g_fin ?_ | (apply g_ap; exact rfl; exact rfl; assumption)
    exact fin (hR.1 hc)
end
end Go.AMS

namespace Go.AMS
open Go.AM hiding Kt At WP WL Runs RunsY
open Go.AM.G
set_option linter.unusedVariables false
set_option linter.unusedSimpArgs false
set_option linter.unusedSectionVars false
set_option maxRecDepth 100000
set_option maxHeartbeats 1000000
attribute [local irreducible] AtS AtV AtC AtG FinA Spec Post LP G.At G.WP G.WL pt own fro rdl ro hx mp lrec elt sub

open Go.AM.G.Set
section
variable {b : Nat} {T : Tb} {p q : Option Addr} {c d : Nat}
theorem table_Table_is_spec {m : Bool} {a1 a2 a3 a4 a5 a6 : Value} : Spec prog1 n_table_Table_is [.pointer (some ⟨b, 0, none⟩)] [ro (pt b [.bool m, a1, a2, a3, a4, a5, a6] 0)] (fun R => R (.bool m) []) := by
  refine spec_code c_table_Table_is rfl ?_; intro n F R hR; unfold F_table_Table_is
  repeat' first | apply step | (apply g_op; · repeat first | exact Evs.nil | (apply Evs.cons; exact rfl)) | (refine Br.mk (fun _ => ?_) (fun _ => ?_) <;> try (exfalso; omega)) | (refine Sd.mk ?_ ?_; · ((repeat' apply And.intro) <;> first | omega | trivial | assumption | (simp; done) | (simp; omega))) | (refine Sx.mk ?_ ?_; · omega) | refine Fa.mk (fun _ => ?_) | refine Im.mk (fun _ => ?_) | apply Lw.go | refine g_cond ?_ | refine g_guard ?_ | refine g_keep ?_ | refine g_pass ?_ | refine g_fin ?_ | (apply g_ap; exact rfl; exact rfl; assumption)
  all_goals exact fin hR
end
end Go.AMS

namespace Go.AMS
open Go.AM hiding Kt At WP WL Runs RunsY
open Go.AM.G
set_option linter.unusedVariables false
set_option linter.unusedSectionVars false
set_option linter.unusedSimpArgs false
section
variable {prog : AProg} {rr : Option Nat} {e : Env} {Q : Pst} {k : List Kt} {x y : Operand} {n : Nat} {Γ : List HP} {d bar : Bool} {r : List AI} {t : Nat} {p q : Int}
theorem wrapU64 (h : 0 ≤ p ∧ p ≤ 18446744073709551615) : IntKind.u64.wrap p = p := by
  unfold IntKind.wrap
  simp only [IntKind.signed, IntKind.bits, Bool.false_eq_true, if_false]
  show p % 18446744073709551616 = p
  omega
instance v_convU64 {ki : IntKind} : Step (AtV n prog rr d bar (some t) (.conv .u64 x) [.int ki p] r k e Γ Q) (Sd (0 ≤ p ∧ p ≤ 18446744073709551615) (AtS n prog rr (.o d r :: k) .norm ((t, .int .u64 p) :: e) Γ Q)) := ⟨fun w hE => go1 (fun h _ m => by simp only [aop, hE.a, wrapU64 w.c]) w.a⟩
theorem b_shr1 {i : Nat} : binV .shr (.int .u64 (i : Int)) (.int .u64 1) = some (.int .u64 ((i / 2 : Nat) : Int)) := by
  rw [b_shr, if_neg (by omega)]
  simp only [IntKind.bits]
  rw [show Nat.min (1 : Int).toNat 64 = 1 from rfl, show (2 : Int) ^ 1 = ((2 : Nat) : Int) by decide, Int.fdiv_eq_ediv_of_nonneg _ (Int.natCast_nonneg _), ← Int.natCast_ediv]
instance v_shr1 {i : Nat} : Step (AtV n prog rr d bar (some t) (.bin .shr x y) [.int .u64 (i : Int), .int .u64 1] r k e Γ Q) (AtS n prog rr (.o d r :: k) .norm ((t, .int .u64 ((i / 2 : Nat) : Int)) :: e) Γ Q) := ⟨fun w hE => bin1 hE b_shr1 w⟩
end
end Go.AMS

namespace Go.AMS
open Go.AM hiding Kt At WP WL Runs RunsY
open Go.AM.G
set_option linter.unusedVariables false
set_option linter.unusedSimpArgs false
set_option linter.unusedSectionVars false
set_option maxRecDepth 100000
set_option maxHeartbeats 1000000
attribute [local irreducible] AtS AtV AtC AtG FinA Spec Post LP G.At G.WP G.WL pt own fro rdl ro hx mp lrec elt sub

open Go.AM.G.Set
section
variable {b : Nat} {T : Tb} {p q : Option Addr} {c d : Nat}
theorem cmp_isNaN_int_spec {x : Int} : Spec prog1 n_cmp_isNaN_int [.int .i64 x] [] (fun R => R (.bool false) []) := by
  refine spec_code c_cmp_isNaN_int rfl ?_; intro n F R hR; unfold F_cmp_isNaN_int
  repeat' first | apply step | (apply g_op; · repeat first | exact Evs.nil | (apply Evs.cons; exact rfl)) | (refine Br.mk (fun _ => ?_) (fun _ => ?_) <;> try (exfalso; omega)) | (refine Sd.mk ?_ ?_; · ((repeat' apply And.intro) <;> first | omega | trivial | assumption | (simp; done) | (simp; omega))) | (refine Sx.mk ?_ ?_; · omega) | refine Fa.mk (fun _ => ?_) | refine Im.mk (fun _ => ?_) | apply Lw.go | refine g_cond ?_ | refine g_guard ?_ | refine g_keep ?_ | refine g_pass ?_ | refine g_fin ?_ | (apply g_ap; exact rfl; exact rfl; assumption)
  all_goals first | exact fin hR | (exfalso; omega)
theorem slices_isNaN_int_spec {x : Int} : Spec prog1 n_slices_isNaN_int [.int .i64 x] [] (fun R => R (.bool false) []) := by
  refine spec_code c_slices_isNaN_int rfl ?_; intro n F R hR; unfold F_slices_isNaN_int
  repeat' first | apply step | (apply g_op; · repeat first | exact Evs.nil | (apply Evs.cons; exact rfl)) | (refine Br.mk (fun _ => ?_) (fun _ => ?_) <;> try (exfalso; omega)) | (refine Sd.mk ?_ ?_; · ((repeat' apply And.intro) <;> first | omega | trivial | assumption | (simp; done) | (simp; omega))) | (refine Sx.mk ?_ ?_; · omega) | refine Fa.mk (fun _ => ?_) | refine Im.mk (fun _ => ?_) | apply Lw.go | refine g_cond ?_ | refine g_guard ?_ | refine g_keep ?_ | refine g_pass ?_ | refine g_fin ?_ | (apply g_ap; exact rfl; exact rfl; assumption)
  all_goals first | exact fin hR | (exfalso; omega)
theorem cmp_Less_int_spec {x y : Int} : Spec prog1 n_cmp_Less_int [.int .i64 x, .int .i64 y] [] (fun R => (x < y → R (.bool true) []) ∧ (¬ x < y → R (.bool false) [])) := by
  refine spec_code c_cmp_Less_int rfl ?_; intro n F R hR; unfold F_cmp_Less_int
  repeat' first | apply step | (apply g_op; · repeat first | exact Evs.nil | (apply Evs.cons; exact rfl)) | (refine Br.mk (fun _ => ?_) (fun _ => ?_) <;> try (exfalso; omega)) | (refine Sd.mk ?_ ?_; · ((repeat' apply And.intro) <;> first | omega | trivial | assumption | (simp; done) | (simp; omega))) | (refine Sx.mk ?_ ?_; · omega) | refine Fa.mk (fun _ => ?_) | refine Im.mk (fun _ => ?_) | apply Lw.go | refine g_cond ?_ | refine g_guard ?_ | refine g_keep ?_ | refine g_pass ?_ | refine g_fin ?_ | (apply g_ap; exact rfl; exact rfl; assumption)
  first | refine at_callS (cmp_isNaN_int_spec) ?_ | refine at_callR (cmp_isNaN_int_spec) ?_
  repeat' first | apply step | (apply g_op; · repeat first | exact Evs.nil | (apply Evs.cons; exact rfl)) | (refine Br.mk (fun _ => ?_) (fun _ => ?_) <;> try (exfalso; omega)) | (refine Sd.mk ?_ ?_; · ((repeat' apply And.intro) <;> first | omega | trivial | assumption | (simp; done) | (simp; omega))) | (refine Sx.mk ?_ ?_; · omega) | refine Fa.mk (fun _ => ?_) | refine Im.mk (fun _ => ?_) | apply Lw.go | refine g_cond ?_ | refine g_guard ?_ | refine g_keep ?_ | refine g_pass ?_ | refine g_fin ?_ | (apply g_ap; exact rfl; exact rfl; assumption)
  · exact fin (hR.1 ‹_›)
  · exact fin (hR.2 ‹_›)
theorem slices_BinarySearch_int_int_spec {l : List Int} {x : Int} (hl : l.length ≤ 1000000000) (hs : l.Pairwise (fun a b => a < b)) : Spec prog1 n_slices_BinarySearch_int_int [.slice p l.length c, .int .i64 x] [rdl (kInt .i64) p l] (fun R => (∀ k (hk : k < l.length), l[k] = x → R (.tuple #[.int .i64 (k : Int), .bool true]) []) ∧ (x ∉ l → ∀ k : Int, R (.tuple #[.int .i64 k, .bool false]) [])) := by
  refine spec_code c_slices_BinarySearch_int_int rfl ?_; intro n F R hR; unfold F_slices_BinarySearch_int_int
  repeat' first | apply step | (apply g_op; · repeat first | exact Evs.nil | (apply Evs.cons; exact rfl)) | (refine Br.mk (fun _ => ?_) (fun _ => ?_) <;> try (exfalso; omega)) | (refine Sd.mk ?_ ?_; · ((repeat' apply And.intro) <;> first | omega | trivial | assumption | (simp; done) | (simp; omega))) | (refine Sx.mk ?_ ?_; · omega) | refine Fa.mk (fun _ => ?_) | refine Im.mk (fun _ => ?_) | apply Lw.go | refine g_cond ?_ | refine g_guard ?_ | refine g_keep ?_ | refine g_pass ?_ | refine g_fin ?_ | (apply g_ap; exact rfl; exact rfl; assumption)
  refine at_loopS (ι := Nat × Nat) (E := fun j => [(0, .slice p l.length c), (1, .int .i64 x), (6, .int .i64 (l.length : Int)), (7, .int .i64 (j.1 : Int)), (8, .int .i64 (j.2 : Int))]) (Δ := fun j => rdl (kInt .i64) p l :: F) (P := fun j => (j.1 ≤ j.2 ∧ j.2 ≤ l.length) ∧ (∀ i (h : i < l.length), i < j.1 → l[i] < x) ∧ (∀ i (h : i < l.length), j.2 ≤ i → x ≤ l[i])) (μ := fun j => j.2 - j.1) (0, l.length) ⟨⟨Nat.zero_le _, Nat.le_refl _⟩, fun i h q => by omega, fun i h q => by omega⟩ ?_
  rintro ⟨i, j⟩ ⟨⟨h1, h2⟩, h3, h4⟩
  try dsimp only at h1 h2 h3 h4 ⊢
  rcases Nat.lt_or_ge i j with hlt | hge
  · have hm : (i + j) / 2 < l.length := by omega
    have mono : ∀ (a b : Nat) (ha : a < l.length) (hb : b < l.length), a ≤ b → l[a] ≤ l[b] := fun a b ha hb hab => by
      rcases Nat.lt_or_ge a b with q | q
      · exact Int.le_of_lt (List.pairwise_iff_getElem.1 hs a b ha hb q)
      · have : a = b := by omega
        subst this; exact Int.le_refl _
    repeat' first | apply step | (apply g_op; · repeat first | exact Evs.nil | (apply Evs.cons; exact rfl)) | (refine Br.mk (fun _ => ?_) (fun _ => ?_) <;> try (exfalso; omega)) | (refine Sd.mk ?_ ?_; · ((repeat' apply And.intro) <;> first | omega | trivial | assumption | (simp; done) | (simp; omega))) | (refine Sx.mk ?_ ?_; · omega) | refine Fa.mk (fun _ => ?_) | refine Im.mk (fun _ => ?_) | apply Lw.go | refine g_cond ?_ | refine g_guard ?_ | refine g_keep ?_ | refine g_pass ?_ | refine g_fin ?_ | (apply g_ap; exact rfl; exact rfl; assumption)
    first | refine at_callS (cmp_Less_int_spec) ?_ | refine at_callR (cmp_Less_int_spec) ?_
    refine ⟨fun hq => ?_, fun hq => ?_⟩
    · repeat' first | apply step | (apply g_op; · repeat first | exact Evs.nil | (apply Evs.cons; exact rfl)) | (refine Br.mk (fun _ => ?_) (fun _ => ?_) <;> try (exfalso; omega)) | (refine Sd.mk ?_ ?_; · ((repeat' apply And.intro) <;> first | omega | trivial | assumption | (simp; done) | (simp; omega))) | (refine Sx.mk ?_ ?_; · omega) | refine Fa.mk (fun _ => ?_) | refine Im.mk (fun _ => ?_) | apply Lw.go | refine g_cond ?_ | refine g_guard ?_ | refine g_keep ?_ | refine g_pass ?_ | refine g_fin ?_ | (apply g_ap; exact rfl; exact rfl; assumption)
      refine lp_next ((i + j) / 2 + 1, j) ⟨⟨by dsimp only; omega, h2⟩, fun a ha q => ?_, h4⟩ (by dsimp only; omega)
      dsimp only at q
      have := mono a ((i + j) / 2) ha hm (by omega)
      omega
    · repeat' first | apply step | (apply g_op; · repeat first | exact Evs.nil | (apply Evs.cons; exact rfl)) | (refine Br.mk (fun _ => ?_) (fun _ => ?_) <;> try (exfalso; omega)) | (refine Sd.mk ?_ ?_; · ((repeat' apply And.intro) <;> first | omega | trivial | assumption | (simp; done) | (simp; omega))) | (refine Sx.mk ?_ ?_; · omega) | refine Fa.mk (fun _ => ?_) | refine Im.mk (fun _ => ?_) | apply Lw.go | refine g_cond ?_ | refine g_guard ?_ | refine g_keep ?_ | refine g_pass ?_ | refine g_fin ?_ | (apply g_ap; exact rfl; exact rfl; assumption)
      refine lp_next (i, (i + j) / 2) ⟨⟨by dsimp only; omega, by dsimp only; omega⟩, h3, fun a ha q => ?_⟩ (by dsimp only; omega)
      dsimp only at q
      have := mono ((i + j) / 2) a hm ha (by omega)
      omega
  · have : i = j := by omega
    subst this
    have hno : (∀ h : i < l.length, l[i] ≠ x) → x ∉ l := fun h hx => by
      obtain ⟨a, ha, e⟩ := List.mem_iff_getElem.1 hx
      rcases Nat.lt_trichotomy a i with q | q | q
      · have := h3 a ha q; omega
      · subst q; exact h ha e
      · have hi : i < l.length := by omega
        have h5 := h4 i hi (Nat.le_refl _)
        have h6 := List.pairwise_iff_getElem.1 hs i a hi ha q
        exact h hi (by omega)
    repeat' first | apply step | (apply g_op; · repeat first | exact Evs.nil | (apply Evs.cons; exact rfl)) | (refine Br.mk (fun _ => ?_) (fun _ => ?_) <;> try (exfalso; omega)) | (refine Sd.mk ?_ ?_; · ((repeat' apply And.intro) <;> first | omega | trivial | assumption | (simp; done) | (simp; omega))) | (refine Sx.mk ?_ ?_; · omega) | refine Fa.mk (fun _ => ?_) | refine Im.mk (fun _ => ?_) | apply Lw.go | refine g_cond ?_ | refine g_guard ?_ | refine g_keep ?_ | refine g_pass ?_ | refine g_fin ?_ | (apply g_ap; exact rfl; exact rfl; assumption)
    · exact fin (hR.1 _ _ ‹_›)
    · first | refine at_callS (slices_isNaN_int_spec) ?_ | refine at_callR (slices_isNaN_int_spec) ?_
      repeat' first | apply step | (apply g_op; · repeat first | exact Evs.nil | (apply Evs.cons; exact rfl)) | (refine Br.mk (fun _ => ?_) (fun _ => ?_) <;> try (exfalso; omega)) | (refine Sd.mk ?_ ?_; · ((repeat' apply And.intro) <;> first | omega | trivial | assumption | (simp; done) | (simp; omega))) | (refine Sx.mk ?_ ?_; · omega) | refine Fa.mk (fun _ => ?_) | refine Im.mk (fun _ => ?_) | apply Lw.go | refine g_cond ?_ | refine g_guard ?_ | refine g_keep ?_ | refine g_pass ?_ | refine g_fin ?_ | (apply g_ap; exact rfl; exact rfl; assumption)
      exact fin (hR.2 (hno fun _ => ‹_›) _)
    · exact fin (hR.2 (hno fun h => by omega) _)
theorem table_Table_Rank_spec {x : Int} (hl : T.ids.length ≤ 1000000) (hs : T.ids.Pairwise (fun a b => a < b)) : Spec prog1 n_table_Table_Rank [.pointer (some ⟨b, 0, none⟩), .int .i64 x] [tab b T] (fun R => (∀ k (hk : k < T.ids.length), T.ids[k] = x → R (.tuple #[.int .i64 (k : Int), .bool true]) [tab b T]) ∧ (x ∉ T.ids → R (.tuple #[.int .i64 0, .bool false]) [tab b T])) := by
  refine spec_code c_table_Table_Rank rfl ?_; intro n F R hR; unfold F_table_Table_Rank
  first | refine at_openP (tab b T) rfl ?_ | refine av_openP (tab b T) rfl ?_
  rintro ⟨⟨⟨pi, ci⟩, ⟨pk, ck⟩⟩, ⟨mw, ma, mr, mt⟩⟩ -
  dsimp only [List.cons_append, List.nil_append]
  repeat' first | apply step | (apply g_op; · repeat first | exact Evs.nil | (apply Evs.cons; exact rfl)) | (refine Br.mk (fun _ => ?_) (fun _ => ?_) <;> try (exfalso; omega)) | (refine Sd.mk ?_ ?_; · ((repeat' apply And.intro) <;> first | omega | trivial | assumption | (simp; done) | (simp; omega))) | (refine Sx.mk ?_ ?_; · omega) | refine Fa.mk (fun _ => ?_) | refine Im.mk (fun _ => ?_) | apply Lw.go | refine g_cond ?_ | refine g_guard ?_ | refine g_keep ?_ | refine g_pass ?_ | refine g_fin ?_ | (apply g_ap; exact rfl; exact rfl; assumption)
  first | refine at_callS (table_Table_is_spec) ?_ | refine at_callR (table_Table_is_spec) ?_
  repeat' first | apply step | (apply g_op; · repeat first | exact Evs.nil | (apply Evs.cons; exact rfl)) | (refine Br.mk (fun _ => ?_) (fun _ => ?_) <;> try (exfalso; omega)) | (refine Sd.mk ?_ ?_; · ((repeat' apply And.intro) <;> first | omega | trivial | assumption | (simp; done) | (simp; omega))) | (refine Sx.mk ?_ ?_; · omega) | refine Fa.mk (fun _ => ?_) | refine Im.mk (fun _ => ?_) | apply Lw.go | refine g_cond ?_ | refine g_guard ?_ | refine g_keep ?_ | refine g_pass ?_ | refine g_fin ?_ | (apply g_ap; exact rfl; exact rfl; assumption)
  refine at_callR (slices_BinarySearch_int_int_spec (l := T.ids) (by omega) hs) ?_
  refine ⟨fun k hk e => ?_, fun hn k => ?_⟩
  · repeat' first | apply step | (apply g_op; · repeat first | exact Evs.nil | (apply Evs.cons; exact rfl)) | (refine Br.mk (fun _ => ?_) (fun _ => ?_) <;> try (exfalso; omega)) | (refine Sd.mk ?_ ?_; · ((repeat' apply And.intro) <;> first | omega | trivial | assumption | (simp; done) | (simp; omega))) | (refine Sx.mk ?_ ?_; · omega) | refine Fa.mk (fun _ => ?_) | refine Im.mk (fun _ => ?_) | apply Lw.go | refine g_cond ?_ | refine g_guard ?_ | refine g_keep ?_ | refine g_pass ?_ | refine g_fin ?_ | (apply g_ap; exact rfl; exact rfl; assumption)
    refine fin_foldP (tab b T) rfl (((pi, ci), (pk, ck)), (mw, ma, mr, mt)) trivial ?_
    exact fin (hR.1 k hk e)
  · repeat' first | apply step | (apply g_op; · repeat first | exact Evs.nil | (apply Evs.cons; exact rfl)) | (refine Br.mk (fun _ => ?_) (fun _ => ?_) <;> try (exfalso; omega)) | (refine Sd.mk ?_ ?_; · ((repeat' apply And.intro) <;> first | omega | trivial | assumption | (simp; done) | (simp; omega))) | (refine Sx.mk ?_ ?_; · omega) | refine Fa.mk (fun _ => ?_) | refine Im.mk (fun _ => ?_) | apply Lw.go | refine g_cond ?_ | refine g_guard ?_ | refine g_keep ?_ | refine g_pass ?_ | refine g_fin ?_ | (apply g_ap; exact rfl; exact rfl; assumption)
    refine fin_foldP (tab b T) rfl (((pi, ci), (pk, ck)), (mw, ma, mr, mt)) trivial ?_
    exact fin (hR.2 hn)
theorem table_Table_IDs_spec (hl : T.ids.length ≤ 1000000) : Spec prog1 n_table_Table_IDs [.pointer (some ⟨b, 0, none⟩)] [ro (tab b T)] (fun R => ∀ p' c', R (.slice p' T.ids.length c') [own (kInt .i64) p' c' T.ids]) := by
  refine spec_code c_table_Table_IDs rfl ?_; intro n F R hR; unfold F_table_Table_IDs
  first | refine at_openRP (tab b T) rfl ?_ | refine av_openRP (tab b T) rfl ?_
  rintro ⟨⟨⟨pi, ci⟩, ⟨pk, ck⟩⟩, ⟨mw, ma, mr, mt⟩⟩ -
  dsimp only
  repeat' first | apply step | (apply g_op; · repeat first | exact Evs.nil | (apply Evs.cons; exact rfl)) | (refine Br.mk (fun _ => ?_) (fun _ => ?_) <;> try (exfalso; omega)) | (refine Sd.mk ?_ ?_; · ((repeat' apply And.intro) <;> first | omega | trivial | assumption | (simp; done) | (simp; omega))) | (refine Sx.mk ?_ ?_; · omega) | refine Fa.mk (fun _ => ?_) | refine Im.mk (fun _ => ?_) | apply Lw.go | refine g_cond ?_ | refine g_guard ?_ | refine g_keep ?_ | refine g_pass ?_ | refine g_fin ?_ | (apply g_ap; exact rfl; exact rfl; assumption)
  refine at_callR (table_Table_is_spec) ?_
  repeat' first | apply step | (apply g_op; · repeat first | exact Evs.nil | (apply Evs.cons; exact rfl)) | (refine Br.mk (fun _ => ?_) (fun _ => ?_) <;> try (exfalso; omega)) | (refine Sd.mk ?_ ?_; · ((repeat' apply And.intro) <;> first | omega | trivial | assumption | (simp; done) | (simp; omega))) | (refine Sx.mk ?_ ?_; · omega) | refine Fa.mk (fun _ => ?_) | refine Im.mk (fun _ => ?_) | apply Lw.go | refine g_cond ?_ | refine g_guard ?_ | refine g_keep ?_ | refine g_pass ?_ | refine g_fin ?_ | (apply g_ap; exact rfl; exact rfl; assumption)
  refine at_callR (slices_Clone_int_int_spec (l := T.ids) (by omega)) ?_
  intro p1 c1
  repeat' first | apply step | (apply g_op; · repeat first | exact Evs.nil | (apply Evs.cons; exact rfl)) | (refine Br.mk (fun _ => ?_) (fun _ => ?_) <;> try (exfalso; omega)) | (refine Sd.mk ?_ ?_; · ((repeat' apply And.intro) <;> first | omega | trivial | assumption | (simp; done) | (simp; omega))) | (refine Sx.mk ?_ ?_; · omega) | refine Fa.mk (fun _ => ?_) | refine Im.mk (fun _ => ?_) | apply Lw.go | refine g_cond ?_ | refine g_guard ?_ | refine g_keep ?_ | refine g_pass ?_ | refine g_fin ?_ | (apply g_ap; exact rfl; exact rfl; assumption)
  exact fin (hR p1 c1)
theorem table_Table_Keys_spec (hl : T.keys.length ≤ 1000000) : Spec prog1 n_table_Table_Keys [.pointer (some ⟨b, 0, none⟩)] [ro (tab b T)] (fun R => ∀ p' c', R (.slice p' T.keys.length c') [own (kInt .i64) p' c' T.keys]) := by
  refine spec_code c_table_Table_Keys rfl ?_; intro n F R hR; unfold F_table_Table_Keys
  first | refine at_openRP (tab b T) rfl ?_ | refine av_openRP (tab b T) rfl ?_
  rintro ⟨⟨⟨pi, ci⟩, ⟨pk, ck⟩⟩, ⟨mw, ma, mr, mt⟩⟩ -
  dsimp only
  repeat' first | apply step | (apply g_op; · repeat first | exact Evs.nil | (apply Evs.cons; exact rfl)) | (refine Br.mk (fun _ => ?_) (fun _ => ?_) <;> try (exfalso; omega)) | (refine Sd.mk ?_ ?_; · ((repeat' apply And.intro) <;> first | omega | trivial | assumption | (simp; done) | (simp; omega))) | (refine Sx.mk ?_ ?_; · omega) | refine Fa.mk (fun _ => ?_) | refine Im.mk (fun _ => ?_) | apply Lw.go | refine g_cond ?_ | refine g_guard ?_ | refine g_keep ?_ | refine g_pass ?_ | refine g_fin ?_ | (apply g_ap; exact rfl; exact rfl; assumption)
  refine at_callR (table_Table_is_spec) ?_
  repeat' first | apply step | (apply g_op; · repeat first | exact Evs.nil | (apply Evs.cons; exact rfl)) | (refine Br.mk (fun _ => ?_) (fun _ => ?_) <;> try (exfalso; omega)) | (refine Sd.mk ?_ ?_; · ((repeat' apply And.intro) <;> first | omega | trivial | assumption | (simp; done) | (simp; omega))) | (refine Sx.mk ?_ ?_; · omega) | refine Fa.mk (fun _ => ?_) | refine Im.mk (fun _ => ?_) | apply Lw.go | refine g_cond ?_ | refine g_guard ?_ | refine g_keep ?_ | refine g_pass ?_ | refine g_fin ?_ | (apply g_ap; exact rfl; exact rfl; assumption)
  refine at_callR (slices_Clone_int_int_spec (l := T.keys) (by omega)) ?_
  intro p1 c1
  repeat' first | apply step | (apply g_op; · repeat first | exact Evs.nil | (apply Evs.cons; exact rfl)) | (refine Br.mk (fun _ => ?_) (fun _ => ?_) <;> try (exfalso; omega)) | (refine Sd.mk ?_ ?_; · ((repeat' apply And.intro) <;> first | omega | trivial | assumption | (simp; done) | (simp; omega))) | (refine Sx.mk ?_ ?_; · omega) | refine Fa.mk (fun _ => ?_) | refine Im.mk (fun _ => ?_) | apply Lw.go | refine g_cond ?_ | refine g_guard ?_ | refine g_keep ?_ | refine g_pass ?_ | refine g_fin ?_ | (apply g_ap; exact rfl; exact rfl; assumption)
  exact fin (hR p1 c1)
end
end Go.AMS

namespace Go.AMS
open Go.AM hiding Kt At WP WL Runs RunsY
open Go.AM.G
set_option linter.unusedVariables false
set_option linter.unusedSimpArgs false
set_option linter.unusedSectionVars false
set_option maxRecDepth 100000
set_option maxHeartbeats 1000000
attribute [local irreducible] AtS AtV AtC AtG FinA Spec Post LP G.At G.WP G.WL pt own fro rdl ro hx mp lrec elt sub

open Go.AM.G.Set
def keysH (h : List HTx) : List Int := h.flatMap fun t => t.ops.map HOp.key
theorem keysH_next {h : List HTx} {j : Nat} (hj : j < h.length) : keysH (h.take (j + 1)) = keysH (h.take j) ++ h[j].ops.map HOp.key := by
  unfold keysH
  rw [List.take_succ_eq_append_getElem hj, List.flatMap_append]; simp
theorem keysH_len (h : List HTx) : (keysH h).length = opsN h := by
  unfold keysH opsN; rw [List.length_flatMap]; simp
section
variable {h : List HTx} {p q : Option Addr} {c d : Nat}
theorem r12_IDs_spec (hf : FewH h 20 60) : Spec prog1 n_r12_IDs [.agg #[.slice p h.length c]] [fro kHTx p c h] (fun R => ∀ p' c', R (.slice p' (setL (comm h)).length c') [own (kInt .i64) p' c' (setL (comm h))]) := by
  refine spec_code c_r12_IDs rfl ?_; intro n F R hR; unfold F_r12_IDs
  have hh := hf.t
  repeat' first | apply step | (apply g_op; · repeat first | exact Evs.nil | (apply Evs.cons; exact rfl)) | (refine Br.mk (fun _ => ?_) (fun _ => ?_) <;> try (exfalso; omega)) | (refine Sd.mk ?_ ?_; · ((repeat' apply And.intro) <;> first | omega | trivial | assumption | (simp; done) | (simp; omega))) | (refine Sx.mk ?_ ?_; · omega) | refine Fa.mk (fun _ => ?_) | refine Im.mk (fun _ => ?_) | apply Lw.go | refine g_cond ?_ | refine g_guard ?_ | refine g_keep ?_ | refine g_pass ?_ | refine g_fin ?_ | (apply g_ap; exact rfl; exact rfl; assumption)
  rename_i tb
  refine at_loopS (ι := Nat × (Option Addr × Nat)) (E := fun w => [(1, .pointer (some ⟨tb, 0, none⟩)), (3, .slice w.2.1 (comm (h.take w.1)).length w.2.2), (4, .int .i64 (w.1 : Int))]) (Δ := fun w => own (kInt .i64) w.2.1 w.2.2 (comm (h.take w.1)) :: pt tb [.slice p h.length c] 0 :: fro kHTx p c h :: F) (P := fun w => w.1 ≤ h.length) (μ := fun w => h.length - w.1) (0, (none, 0)) (Nat.zero_le _) ?_
  rintro ⟨j, p1, c1⟩ hj
  dsimp only at hj ⊢
  have hcl := comm_le (h.take j)
  have hst : (h.take j).length ≤ j := List.length_take_le _ _
  rcases Nat.lt_or_ge j h.length with hlt | hge
  · have hct := comm_take hlt
    cases hab : h[j].ab
    · rw [hab] at hct
      repeat' first | rw [hab] | apply step | (apply g_op; · repeat first | exact Evs.nil | (apply Evs.cons; exact rfl)) | (refine Br.mk (fun _ => ?_) (fun _ => ?_) <;> try (exfalso; omega)) | (refine Sd.mk ?_ ?_; · ((repeat' apply And.intro) <;> first | omega | trivial | assumption | (simp; done) | (simp; omega))) | (refine Sx.mk ?_ ?_; · omega) | refine Fa.mk (fun _ => ?_) | refine Im.mk (fun _ => ?_) | apply Lw.go | refine g_cond ?_ | refine g_guard ?_ | refine g_keep ?_ | refine g_pass ?_ | refine g_fin ?_ | (apply g_ap; exact rfl; exact rfl; assumption)
      exact lp_next (j + 1, _, _) (by dsimp only; omega) (by dsimp only; omega) (by dsimp only; rw [hct]; rfl) (by dsimp only; rw [hct]; repeat first | exact Ent.refl _ | (apply Ent.more; · repeat first | exact Ent.keep | exact Ent.here | exact Ent.lend | exact ent_nil | apply Ent.there) | apply Ent.drop)
    · rw [hab] at hct
      have hct2 : comm (h.take (j + 1)) = comm (h.take j) := by rw [hct]; simp
      repeat' first | rw [hab] | apply step | (apply g_op; · repeat first | exact Evs.nil | (apply Evs.cons; exact rfl)) | (refine Br.mk (fun _ => ?_) (fun _ => ?_) <;> try (exfalso; omega)) | (refine Sd.mk ?_ ?_; · ((repeat' apply And.intro) <;> first | omega | trivial | assumption | (simp; done) | (simp; omega))) | (refine Sx.mk ?_ ?_; · omega) | refine Fa.mk (fun _ => ?_) | refine Im.mk (fun _ => ?_) | apply Lw.go | refine g_cond ?_ | refine g_guard ?_ | refine g_keep ?_ | refine g_pass ?_ | refine g_fin ?_ | (apply g_ap; exact rfl; exact rfl; assumption)
      exact lp_next (j + 1, _, _) (by dsimp only; omega) (by dsimp only; omega) (by dsimp only; rw [hct2]) (by dsimp only; rw [hct2]; repeat first | exact Ent.refl _ | (apply Ent.more; · repeat first | exact Ent.keep | exact Ent.here | exact Ent.lend | exact ent_nil | apply Ent.there) | apply Ent.drop)
  · have e : h.take j = h := List.take_of_length_le hge
    rw [e] at hcl ⊢
    repeat' first | apply step | (apply g_op; · repeat first | exact Evs.nil | (apply Evs.cons; exact rfl)) | (refine Br.mk (fun _ => ?_) (fun _ => ?_) <;> try (exfalso; omega)) | (refine Sd.mk ?_ ?_; · ((repeat' apply And.intro) <;> first | omega | trivial | assumption | (simp; done) | (simp; omega))) | (refine Sx.mk ?_ ?_; · omega) | refine Fa.mk (fun _ => ?_) | refine Im.mk (fun _ => ?_) | apply Lw.go | refine g_cond ?_ | refine g_guard ?_ | refine g_keep ?_ | refine g_pass ?_ | refine g_fin ?_ | (apply g_ap; exact rfl; exact rfl; assumption)
    refine at_callR (r05_Of_spec (l := comm h) (by omega)) ?_
    intro p2 c2
    repeat' first | apply step | (apply g_op; · repeat first | exact Evs.nil | (apply Evs.cons; exact rfl)) | (refine Br.mk (fun _ => ?_) (fun _ => ?_) <;> try (exfalso; omega)) | (refine Sd.mk ?_ ?_; · ((repeat' apply And.intro) <;> first | omega | trivial | assumption | (simp; done) | (simp; omega))) | (refine Sx.mk ?_ ?_; · omega) | refine Fa.mk (fun _ => ?_) | refine Im.mk (fun _ => ?_) | apply Lw.go | refine g_cond ?_ | refine g_guard ?_ | refine g_keep ?_ | refine g_pass ?_ | refine g_fin ?_ | (apply g_ap; exact rfl; exact rfl; assumption)
    exact fin (hR p2 c2)
theorem r12_Rank_spec {x : Int} (hf : FewH h 20 60) : Spec prog1 n_r12_Rank [.agg #[.slice p h.length c], .int .i64 x] [fro kHTx p c h] (fun R => (∀ k (hk : k < (setL (comm h)).length), (setL (comm h))[k] = x → R (.tuple #[.int .i64 (k : Int), .bool true]) []) ∧ (x ∉ setL (comm h) → R (.tuple #[.int .i64 0, .bool false]) [])) := by
  refine spec_code c_r12_Rank rfl ?_; intro n F R hR; unfold F_r12_Rank
  have hh := hf.t
  have hcl := comm_le h
  have hsl := setL_le (comm h)
  repeat' first | apply step | (apply g_op; · repeat first | exact Evs.nil | (apply Evs.cons; exact rfl)) | (refine Br.mk (fun _ => ?_) (fun _ => ?_) <;> try (exfalso; omega)) | (refine Sd.mk ?_ ?_; · ((repeat' apply And.intro) <;> first | omega | trivial | assumption | (simp; done) | (simp; omega))) | (refine Sx.mk ?_ ?_; · omega) | refine Fa.mk (fun _ => ?_) | refine Im.mk (fun _ => ?_) | apply Lw.go | refine g_cond ?_ | refine g_guard ?_ | refine g_keep ?_ | refine g_pass ?_ | refine g_fin ?_ | (apply g_ap; exact rfl; exact rfl; assumption)
  first | refine at_callS (r12_IDs_spec hf) ?_ | refine at_callR (r12_IDs_spec hf) ?_
  intro p1 c1
  generalize setL (comm h) = l at hR hsl ⊢
  repeat' first | apply step | (apply g_op; · repeat first | exact Evs.nil | (apply Evs.cons; exact rfl)) | (refine Br.mk (fun _ => ?_) (fun _ => ?_) <;> try (exfalso; omega)) | (refine Sd.mk ?_ ?_; · ((repeat' apply And.intro) <;> first | omega | trivial | assumption | (simp; done) | (simp; omega))) | (refine Sx.mk ?_ ?_; · omega) | refine Fa.mk (fun _ => ?_) | refine Im.mk (fun _ => ?_) | apply Lw.go | refine g_cond ?_ | refine g_guard ?_ | refine g_keep ?_ | refine g_pass ?_ | refine g_fin ?_ | (apply g_ap; exact rfl; exact rfl; assumption)
  refine at_loopS (ι := Nat) (E := fun j => [(1, .int .i64 x), (6, .slice p1 l.length c1), (7, .int .i64 (j : Int))]) (Δ := fun j => own (kInt .i64) p1 c1 l :: F) (P := fun j => j ≤ l.length ∧ ∀ i (q : i < l.length), i < j → l[i] ≠ x) (μ := fun j => l.length - j) 0 ⟨Nat.zero_le _, fun i q r => by omega⟩ ?_
  rintro j ⟨hj, hn⟩
  try dsimp only
  repeat' first | apply step | (apply g_op; · repeat first | exact Evs.nil | (apply Evs.cons; exact rfl)) | (refine Br.mk (fun _ => ?_) (fun _ => ?_) <;> try (exfalso; omega)) | (refine Sd.mk ?_ ?_; · ((repeat' apply And.intro) <;> first | omega | trivial | assumption | (simp; done) | (simp; omega))) | (refine Sx.mk ?_ ?_; · omega) | refine Fa.mk (fun _ => ?_) | refine Im.mk (fun _ => ?_) | apply Lw.go | refine g_cond ?_ | refine g_guard ?_ | refine g_keep ?_ | refine g_pass ?_ | refine g_fin ?_ | (apply g_ap; exact rfl; exact rfl; assumption)
  · exact fin (hR.1 j _ ‹_›)
  · refine lp_next (j + 1) ⟨by omega, fun i q r => ?_⟩ (by omega)
    rcases Nat.lt_or_ge i j with k | k
    · exact hn i q k
    · have : i = j := by omega
      subst this; assumption
  · refine fin (hR.2 fun hx => ?_)
    obtain ⟨i, hi, e⟩ := List.mem_iff_getElem.1 hx
    exact hn i hi (by omega) e
theorem r12_Keys_spec (hf : FewH h 20 60) (hk : ∀ t ∈ h, ∀ o ∈ t.ops, mayN o.key) : Spec prog1 n_r12_Keys [.agg #[.slice p h.length c]] [fro kHTx p c h] (fun R => ∀ p' c', R (.slice p' (setL (keysH h)).length c') [own (kInt .i64) p' c' (setL (keysH h))]) := by
  refine spec_code c_r12_Keys rfl ?_; intro n F R hR; unfold F_r12_Keys
  have hh := hf.t
  have ho := hf.o
  repeat' first | apply step | (apply g_op; · repeat first | exact Evs.nil | (apply Evs.cons; exact rfl)) | (refine Br.mk (fun _ => ?_) (fun _ => ?_) <;> try (exfalso; omega)) | (refine Sd.mk ?_ ?_; · ((repeat' apply And.intro) <;> first | omega | trivial | assumption | (simp; done) | (simp; omega))) | (refine Sx.mk ?_ ?_; · omega) | refine Fa.mk (fun _ => ?_) | refine Im.mk (fun _ => ?_) | apply Lw.go | refine g_cond ?_ | refine g_guard ?_ | refine g_keep ?_ | refine g_pass ?_ | refine g_fin ?_ | (apply g_ap; exact rfl; exact rfl; assumption)
  rename_i tb
  refine at_loopS (ι := Nat × (Option Addr × Nat)) (E := fun w => [(1, .pointer (some ⟨tb, 0, none⟩)), (3, .slice w.2.1 (keysH (h.take w.1)).length w.2.2), (4, .int .i64 (w.1 : Int))]) (Δ := fun w => own (kInt .i64) w.2.1 w.2.2 (keysH (h.take w.1)) :: pt tb [.slice p h.length c] 0 :: fro kHTx p c h :: F) (P := fun w => w.1 ≤ h.length) (μ := fun w => h.length - w.1) (0, (none, 0)) (Nat.zero_le _) ?_
  rintro ⟨j, p1, c1⟩ hj
  dsimp only at hj ⊢
  rcases Nat.lt_or_ge j h.length with hlt | hge
  · have hct := keysH_next hlt
    have h1 := opsN_take hlt
    have h2 := opsN_take_le h (j + 1)
    have h3 := keysH_len (h.take j)
    repeat' first | apply step | (apply g_op; · repeat first | exact Evs.nil | (apply Evs.cons; exact rfl)) | (refine Br.mk (fun _ => ?_) (fun _ => ?_) <;> try (exfalso; omega)) | (refine Sd.mk ?_ ?_; · ((repeat' apply And.intro) <;> first | omega | trivial | assumption | (simp; done) | (simp; omega))) | (refine Sx.mk ?_ ?_; · omega) | refine Fa.mk (fun _ => ?_) | refine Im.mk (fun _ => ?_) | apply Lw.go | refine g_cond ?_ | refine g_guard ?_ | refine g_keep ?_ | refine g_pass ?_ | refine g_fin ?_ | (apply g_ap; exact rfl; exact rfl; assumption)
    refine at_loopS (ι := Nat × (Option Addr × Nat)) (E := fun w => [(1, .pointer (some ⟨tb, 0, none⟩)), (3, .slice w.2.1 (keysH (h.take j) ++ (h[j].ops.take w.1).map HOp.key).length w.2.2), (4, .int .i64 (j : Int)), (5, .int .i64 (w.1 : Int))]) (Δ := fun w => own (kInt .i64) w.2.1 w.2.2 (keysH (h.take j) ++ (h[j].ops.take w.1).map HOp.key) :: pt tb [.slice p h.length c] 0 :: fro kHTx p c h :: F) (P := fun w => w.1 ≤ h[j].ops.length) (μ := fun w => h[j].ops.length - w.1) (0, (p1, c1)) (Nat.zero_le _) ?_ (by dsimp only; rw [List.take_zero, List.map_nil, List.append_nil]; rfl) (by dsimp only; rw [List.take_zero, List.map_nil, List.append_nil]; repeat first | exact Ent.refl _ | (apply Ent.more; · repeat first | exact Ent.keep | exact Ent.here | exact Ent.lend | exact ent_nil | apply Ent.there) | apply Ent.drop)
    rintro ⟨i, p2, c2⟩ hi
    dsimp only at hi ⊢
    rcases Nat.lt_or_ge i h[j].ops.length with hl2 | hg2
    · have hkb := hk h[j] (List.getElem_mem _) h[j].ops[i] (List.getElem_mem _)
      unfold mayN at hkb
      have e2 : keysH (h.take j) ++ (h[j].ops.take (i + 1)).map HOp.key = keysH (h.take j) ++ (h[j].ops.take i).map HOp.key ++ [h[j].ops[i].key] := by
        rw [List.take_succ_eq_append_getElem hl2, List.map_append, List.append_assoc]; rfl
      have h4 : (keysH (h.take j) ++ (h[j].ops.take i).map HOp.key).length ≤ 100 := by simp; omega
      repeat' first | apply step | (apply g_op; · repeat first | exact Evs.nil | (apply Evs.cons; exact rfl)) | (refine Br.mk (fun _ => ?_) (fun _ => ?_) <;> try (exfalso; omega)) | (refine Sd.mk ?_ ?_; · ((repeat' apply And.intro) <;> first | omega | trivial | assumption | (simp; done) | (simp; omega))) | (refine Sx.mk ?_ ?_; · omega) | refine Fa.mk (fun _ => ?_) | refine Im.mk (fun _ => ?_) | apply Lw.go | refine g_cond ?_ | refine g_guard ?_ | refine g_keep ?_ | refine g_pass ?_ | refine g_fin ?_ | (apply g_ap; exact rfl; exact rfl; assumption)
      exact lp_next (i + 1, _, _) (by dsimp only; omega) (by dsimp only; omega) (by dsimp only; rw [e2]) (by dsimp only; rw [e2]; repeat first | exact Ent.refl _ | (apply Ent.more; · repeat first | exact Ent.keep | exact Ent.here | exact Ent.lend | exact ent_nil | apply Ent.there) | apply Ent.drop)
    · have e2 : h[j].ops.take i = h[j].ops := List.take_of_length_le hg2
      rw [e2, ← hct]
      repeat' first | apply step | (apply g_op; · repeat first | exact Evs.nil | (apply Evs.cons; exact rfl)) | (refine Br.mk (fun _ => ?_) (fun _ => ?_) <;> try (exfalso; omega)) | (refine Sd.mk ?_ ?_; · ((repeat' apply And.intro) <;> first | omega | trivial | assumption | (simp; done) | (simp; omega))) | (refine Sx.mk ?_ ?_; · omega) | refine Fa.mk (fun _ => ?_) | refine Im.mk (fun _ => ?_) | apply Lw.go | refine g_cond ?_ | refine g_guard ?_ | refine g_keep ?_ | refine g_pass ?_ | refine g_fin ?_ | (apply g_ap; exact rfl; exact rfl; assumption)
      exact lp_next (j + 1, _, _) (by dsimp only; omega) (by dsimp only; omega)
  · have e : h.take j = h := List.take_of_length_le hge
    have h3 := keysH_len h
    rw [e]
    repeat' first | apply step | (apply g_op; · repeat first | exact Evs.nil | (apply Evs.cons; exact rfl)) | (refine Br.mk (fun _ => ?_) (fun _ => ?_) <;> try (exfalso; omega)) | (refine Sd.mk ?_ ?_; · ((repeat' apply And.intro) <;> first | omega | trivial | assumption | (simp; done) | (simp; omega))) | (refine Sx.mk ?_ ?_; · omega) | refine Fa.mk (fun _ => ?_) | refine Im.mk (fun _ => ?_) | apply Lw.go | refine g_cond ?_ | refine g_guard ?_ | refine g_keep ?_ | refine g_pass ?_ | refine g_fin ?_ | (apply g_ap; exact rfl; exact rfl; assumption)
    refine at_callR (r05_Of_spec (l := keysH h) (by omega)) ?_
    intro p2 c2
    repeat' first | apply step | (apply g_op; · repeat first | exact Evs.nil | (apply Evs.cons; exact rfl)) | (refine Br.mk (fun _ => ?_) (fun _ => ?_) <;> try (exfalso; omega)) | (refine Sd.mk ?_ ?_; · ((repeat' apply And.intro) <;> first | omega | trivial | assumption | (simp; done) | (simp; omega))) | (refine Sx.mk ?_ ?_; · omega) | refine Fa.mk (fun _ => ?_) | refine Im.mk (fun _ => ?_) | apply Lw.go | refine g_cond ?_ | refine g_guard ?_ | refine g_keep ?_ | refine g_pass ?_ | refine g_fin ?_ | (apply g_ap; exact rfl; exact rfl; assumption)
    exact fin (hR p2 c2)
end
end Go.AMS

namespace Go.AMS
open Go.AM hiding Kt At WP WL Runs RunsY
open Go.AM.G
open Go.AM.G.Set
set_option linter.unusedVariables false
set_option linter.unusedSimpArgs false
theorem sort_lt {h : List HTx} (hn : (idsH h).Nodup) : ((sortK HTx.id h).map HTx.id).Pairwise (fun a b => a < b) := by
  have h1 : ((sortK HTx.id h).map HTx.id).Pairwise (fun a b => a ≤ b) := List.pairwise_map.2 (sortK_sorted HTx.id h)
  have h2 : ((sortK HTx.id h).map HTx.id).Nodup := ((sortK_perm HTx.id h).map HTx.id).nodup_iff.2 hn
  exact List.Pairwise.imp₂ (fun a b q r => by omega) h1 h2
theorem mem_comm {s : List HTx} {x : Int} : x ∈ comm s ↔ ∃ t ∈ s, t.ab = false ∧ t.id = x := by
  unfold comm
  simp only [List.mem_map, List.mem_filter, Bool.not_eq_true', and_assoc]
theorem comm_sort {h : List HTx} (hn : (idsH h).Nodup) : setL (comm h) = comm (sortK HTx.id h) := by
  refine strict_unique (setL_lt _) ?_ fun x => ?_
  · unfold comm
    exact (sort_lt hn).sublist (List.filter_sublist.map _)
  · rw [mem_setL, mem_comm, mem_comm]
    simp only [(sortK_perm HTx.id h).mem_iff]
theorem fold_ids (xs : List (HTx × Nat)) (T : Tb) : (xs.foldl Tb.one T).ids = T.ids := by
  induction xs generalizing T with
  | nil => rfl
  | cons x xs ih => rw [List.foldl_cons, ih]; unfold Tb.one; rw [put_ids]
theorem tabS_ids (s : List HTx) : (tabS s).ids = comm s := by unfold tabS; rw [fold_ids]; rfl
theorem fold_keys (xs : List (HTx × Nat)) (T : Tb) : (xs.foldl Tb.one T).keys = T.keys ++ xs.map fun x => (x.1.ops.getD x.2 default).key := by
  induction xs generalizing T with
  | nil => simp
  | cons x xs ih => rw [List.foldl_cons, ih]; unfold Tb.one; rw [put_keys]; simp
theorem range_getD {α β : Type} (d : α) (f : α → β) (l : List α) : (List.range l.length).map (fun i => f (l.getD i d)) = l.map f := by
  refine List.ext_getElem (by simp) fun i h1 h2 => ?_
  have hi : i < l.length := by simpa using h1
  simp [hi]
theorem steps_keys (s : List HTx) : (stepsL s).map (fun x => (x.1.ops.getD x.2 default).key) = keysH s := by
  unfold stepsL keysH
  rw [List.map_flatMap]
  congr 1
  funext t
  rw [List.map_map]
  exact range_getD default HOp.key t.ops
theorem tabS_keys (s : List HTx) : (tabS s).keys = keysH s := by
  unfold tabS; rw [fold_keys, steps_keys]; rfl
theorem setL_congr {a b : List Int} (h : ∀ x, x ∈ a ↔ x ∈ b) : setL a = setL b :=
  strict_unique (setL_lt _) (setL_lt _) fun x => by rw [mem_setL, mem_setL, h]
theorem keys_sort (h : List HTx) : (tabS (sortK HTx.id h)).fin.keys = setL (keysH h) := by
  show setL (tabS (sortK HTx.id h)).keys = _
  rw [tabS_keys]
  refine setL_congr fun x => ?_
  unfold keysH
  simp only [List.mem_flatMap, (sortK_perm HTx.id h).mem_iff]
theorem ids_sort {h : List HTx} (hn : (idsH h).Nodup) : (tabS (sortK HTx.id h)).fin.ids = setL (comm h) := by
  show (tabS (sortK HTx.id h)).ids = _
  rw [tabS_ids, comm_sort hn]
end Go.AMS

namespace Go.AMS
open Go.AM hiding Kt At WP WL Runs RunsY
open Go.AM.G
set_option linter.unusedVariables false
set_option linter.unusedSimpArgs false
set_option linter.unusedSectionVars false
set_option maxRecDepth 100000
set_option maxHeartbeats 1000000
attribute [local irreducible] AtS AtV AtC AtG FinA Spec Post LP G.At G.WP G.WL pt own fro rdl ro hx mp lrec elt sub

section
theorem l12_works_spec : Spec prog1 n_l12_works [] [] (fun R => R (.bool true) []) := closed_spec c_l12_works
end
end Go.AMS

namespace Go.AMS
open Go.AM hiding Kt At WP WL Runs RunsY
open Go.AM.G
set_option linter.unusedVariables false
set_option linter.unusedSimpArgs false
set_option linter.unusedSectionVars false
set_option maxRecDepth 100000
set_option maxHeartbeats 1000000
attribute [local irreducible] AtS AtV AtC AtG FinA Spec Post LP G.At G.WP G.WL pt own fro rdl ro hx mp lrec elt sub

open Go.AM.G.Set
section
variable {h : List HTx} {p q : Option Addr} {c d : Nat}
theorem tabS_smK {h : List HTx} (hf : FewH h 20 60) : (tabS (sortK HTx.id h)).fin.keys.length ≤ 60 ∧ (tabS (sortK HTx.id h)).fin.ids.length ≤ 20 := by
  constructor
  · rw [keys_sort]
    exact Nat.le_trans (setL_le _) (by rw [keysH_len]; exact hf.o)
  · show (tabS (sortK HTx.id h)).ids.length ≤ 20
    rw [tabS_ids]
    exact Nat.le_trans (comm_le _) (by rw [sortK_len]; exact hf.t)
theorem l12_TableNames_spec {id : Int} : Spec prog1 n_l12_TableNames [.agg #[.slice p h.length c], .int .i64 id] [fro kHTx p c h] (fun R => R (.bool true) []) := by
  refine spec_code c_l12_TableNames rfl ?_; intro n F R hR; unfold F_l12_TableNames
  repeat' first | apply step | (apply g_op; · repeat first | exact Evs.nil | (apply Evs.cons; exact rfl)) | (refine Br.mk (fun _ => ?_) (fun _ => ?_) <;> try (exfalso; omega)) | (refine Sd.mk ?_ ?_; · ((repeat' apply And.intro) <;> first | omega | trivial | assumption | (simp; done) | (simp; omega))) | (refine Sx.mk ?_ ?_; · omega) | refine Fa.mk (fun _ => ?_) | refine Im.mk (fun _ => ?_) | apply Lw.go | refine g_cond ?_ | refine g_guard ?_ | refine g_keep ?_ | refine g_pass ?_ | refine g_fin ?_ | (apply g_ap; exact rfl; exact rfl; assumption)
  first | refine at_callS (r03_Few_spec (h := h) (a := 20) (b := 60) (by omega) (by omega)) ?_ | refine at_callR (r03_Few_spec (h := h) (a := 20) (b := 60) (by omega) (by omega)) ?_
  refine ⟨fun hf => ?_, ?_⟩
  · repeat' first | apply step | (apply g_op; · repeat first | exact Evs.nil | (apply Evs.cons; exact rfl)) | (refine Br.mk (fun _ => ?_) (fun _ => ?_) <;> try (exfalso; omega)) | (refine Sd.mk ?_ ?_; · ((repeat' apply And.intro) <;> first | omega | trivial | assumption | (simp; done) | (simp; omega))) | (refine Sx.mk ?_ ?_; · omega) | refine Fa.mk (fun _ => ?_) | refine Im.mk (fun _ => ?_) | apply Lw.go | refine g_cond ?_ | refine g_guard ?_ | refine g_keep ?_ | refine g_pass ?_ | refine g_fin ?_ | (apply g_ap; exact rfl; exact rfl; assumption)
    first | refine at_callS (table_New_spec hf) ?_ | refine at_callR (table_New_spec hf) ?_
    refine ⟨fun hc => ?_, fun hc b => ?_⟩
    · repeat' first | apply step | (apply g_op; · repeat first | exact Evs.nil | (apply Evs.cons; exact rfl)) | (refine Br.mk (fun _ => ?_) (fun _ => ?_) <;> try (exfalso; omega)) | (refine Sd.mk ?_ ?_; · ((repeat' apply And.intro) <;> first | omega | trivial | assumption | (simp; done) | (simp; omega))) | (refine Sx.mk ?_ ?_; · omega) | refine Fa.mk (fun _ => ?_) | refine Im.mk (fun _ => ?_) | apply Lw.go | refine g_cond ?_ | refine g_guard ?_ | refine g_keep ?_ | refine g_pass ?_ | refine g_fin ?_ | (apply g_ap; exact rfl; exact rfl; assumption)
      first | refine at_callS (r04_Check_spec hf) ?_ | refine at_callR (r04_Check_spec hf) ?_
      repeat' first | apply step | (apply g_op; · repeat first | exact Evs.nil | (apply Evs.cons; exact rfl)) | (refine Br.mk (fun _ => ?_) (fun _ => ?_) <;> try (exfalso; omega)) | (refine Sd.mk ?_ ?_; · ((repeat' apply And.intro) <;> first | omega | trivial | assumption | (simp; done) | (simp; omega))) | (refine Sx.mk ?_ ?_; · omega) | refine Fa.mk (fun _ => ?_) | refine Im.mk (fun _ => ?_) | apply Lw.go | refine g_cond ?_ | refine g_guard ?_ | refine g_keep ?_ | refine g_pass ?_ | refine g_fin ?_ | (apply g_ap; exact rfl; exact rfl; assumption)
      first | refine at_callS (l12_works_spec) ?_ | refine at_callR (l12_works_spec) ?_
      repeat' first | apply step | (apply g_op; · repeat first | exact Evs.nil | (apply Evs.cons; exact rfl)) | (refine Br.mk (fun _ => ?_) (fun _ => ?_) <;> try (exfalso; omega)) | (refine Sd.mk ?_ ?_; · ((repeat' apply And.intro) <;> first | omega | trivial | assumption | (simp; done) | (simp; omega))) | (refine Sx.mk ?_ ?_; · omega) | refine Fa.mk (fun _ => ?_) | refine Im.mk (fun _ => ?_) | apply Lw.go | refine g_cond ?_ | refine g_guard ?_ | refine g_keep ?_ | refine g_pass ?_ | refine g_fin ?_ | (apply g_ap; exact rfl; exact rfl; assumption)
      exact fin hR
    · have hk := chkH_ok hc
      have hids := ids_sort hk.i
      have hkeys := keys_sort h
      obtain ⟨hs1, hs2⟩ := tabS_smK hf
      have hlt : (tabS (sortK HTx.id h)).fin.ids.Pairwise (fun a b => a < b) := by rw [hids]; exact setL_lt _
      generalize (tabS (sortK HTx.id h)).fin = T at hids hkeys hs1 hs2 hlt ⊢
      repeat' first | apply step | (apply g_op; · repeat first | exact Evs.nil | (apply Evs.cons; exact rfl)) | (refine Br.mk (fun _ => ?_) (fun _ => ?_) <;> try (exfalso; omega)) | (refine Sd.mk ?_ ?_; · ((repeat' apply And.intro) <;> first | omega | trivial | assumption | (simp; done) | (simp; omega))) | (refine Sx.mk ?_ ?_; · omega) | refine Fa.mk (fun _ => ?_) | refine Im.mk (fun _ => ?_) | apply Lw.go | refine g_cond ?_ | refine g_guard ?_ | refine g_keep ?_ | refine g_pass ?_ | refine g_fin ?_ | (apply g_ap; exact rfl; exact rfl; assumption)
      first | refine at_callS (r04_Check_spec hf) ?_ | refine at_callR (r04_Check_spec hf) ?_
      rw [hc]
      repeat' first | apply step | (apply g_op; · repeat first | exact Evs.nil | (apply Evs.cons; exact rfl)) | (refine Br.mk (fun _ => ?_) (fun _ => ?_) <;> try (exfalso; omega)) | (refine Sd.mk ?_ ?_; · ((repeat' apply And.intro) <;> first | omega | trivial | assumption | (simp; done) | (simp; omega))) | (refine Sx.mk ?_ ?_; · omega) | refine Fa.mk (fun _ => ?_) | refine Im.mk (fun _ => ?_) | apply Lw.go | refine g_cond ?_ | refine g_guard ?_ | refine g_keep ?_ | refine g_pass ?_ | refine g_fin ?_ | (apply g_ap; exact rfl; exact rfl; assumption)
      have hkh : ∀ t ∈ h, ∀ o ∈ t.ops, mayN o.key := fun t ht o ho => by
        have := (hk.m t ht).2 o ho
        unfold mayO at this; split at this <;> exact this.1
      have hcl := comm_le h
      have hh := hf.t
      have hsc := setL_le (comm h)
      first | refine at_callS (table_Table_Rank_spec (T := T) (x := id) (by omega) hlt) ?_ | refine at_callR (table_Table_Rank_spec (T := T) (x := id) (by omega) hlt) ?_
      refine ⟨fun k hk1 he => ?_, fun hno => ?_⟩
      · repeat' first | apply step | (apply g_op; · repeat first | exact Evs.nil | (apply Evs.cons; exact rfl)) | (refine Br.mk (fun _ => ?_) (fun _ => ?_) <;> try (exfalso; omega)) | (refine Sd.mk ?_ ?_; · ((repeat' apply And.intro) <;> first | omega | trivial | assumption | (simp; done) | (simp; omega))) | (refine Sx.mk ?_ ?_; · omega) | refine Fa.mk (fun _ => ?_) | refine Im.mk (fun _ => ?_) | apply Lw.go | refine g_cond ?_ | refine g_guard ?_ | refine g_keep ?_ | refine g_pass ?_ | refine g_fin ?_ | (apply g_ap; exact rfl; exact rfl; assumption)
        first | refine at_callS (r12_Rank_spec (x := id) hf) ?_ | refine at_callR (r12_Rank_spec (x := id) hf) ?_
        refine ⟨fun k' hk2 he2 => ?_, fun hno => absurd (by rw [← hids, ← he]; exact List.getElem_mem _) hno⟩
        have hkk : k' = k := by
          simp only [← hids] at hk2 he2
          rcases Nat.lt_trichotomy k' k with q | q | q
          · have := List.pairwise_iff_getElem.1 hlt k' k hk2 hk1 q; omega
          · exact q
          · have := List.pairwise_iff_getElem.1 hlt k k' hk1 hk2 q; omega
        subst hkk
        repeat' first | apply step | (apply g_op; · repeat first | exact Evs.nil | (apply Evs.cons; exact rfl)) | (refine Br.mk (fun _ => ?_) (fun _ => ?_) <;> try (exfalso; omega)) | (refine Sd.mk ?_ ?_; · ((repeat' apply And.intro) <;> first | omega | trivial | assumption | (simp; done) | (simp; omega))) | (refine Sx.mk ?_ ?_; · omega) | refine Fa.mk (fun _ => ?_) | refine Im.mk (fun _ => ?_) | apply Lw.go | refine g_cond ?_ | refine g_guard ?_ | refine g_keep ?_ | refine g_pass ?_ | refine g_fin ?_ | (apply g_ap; exact rfl; exact rfl; assumption)
        refine at_callR (table_Table_IDs_spec (T := T) (by omega)) ?_
        intro p1 c1
        repeat' first | apply step | (apply g_op; · repeat first | exact Evs.nil | (apply Evs.cons; exact rfl)) | (refine Br.mk (fun _ => ?_) (fun _ => ?_) <;> try (exfalso; omega)) | (refine Sd.mk ?_ ?_; · ((repeat' apply And.intro) <;> first | omega | trivial | assumption | (simp; done) | (simp; omega))) | (refine Sx.mk ?_ ?_; · omega) | refine Fa.mk (fun _ => ?_) | refine Im.mk (fun _ => ?_) | apply Lw.go | refine g_cond ?_ | refine g_guard ?_ | refine g_keep ?_ | refine g_pass ?_ | refine g_fin ?_ | (apply g_ap; exact rfl; exact rfl; assumption)
        first | refine at_callS (r12_IDs_spec hf) ?_ | refine at_callR (r12_IDs_spec hf) ?_
        intro p2 c2
        repeat' first | apply step | (apply g_op; · repeat first | exact Evs.nil | (apply Evs.cons; exact rfl)) | (refine Br.mk (fun _ => ?_) (fun _ => ?_) <;> try (exfalso; omega)) | (refine Sd.mk ?_ ?_; · ((repeat' apply And.intro) <;> first | omega | trivial | assumption | (simp; done) | (simp; omega))) | (refine Sx.mk ?_ ?_; · omega) | refine Fa.mk (fun _ => ?_) | refine Im.mk (fun _ => ?_) | apply Lw.go | refine g_cond ?_ | refine g_guard ?_ | refine g_keep ?_ | refine g_pass ?_ | refine g_fin ?_ | (apply g_ap; exact rfl; exact rfl; assumption)
        refine at_callR (r01_Same_spec (a := T.ids) (b := setL (comm h)) (by omega)) ?_
        refine ⟨fun _ => ?_, fun q => absurd hids q⟩
        repeat' first | apply step | (apply g_op; · repeat first | exact Evs.nil | (apply Evs.cons; exact rfl)) | (refine Br.mk (fun _ => ?_) (fun _ => ?_) <;> try (exfalso; omega)) | (refine Sd.mk ?_ ?_; · ((repeat' apply And.intro) <;> first | omega | trivial | assumption | (simp; done) | (simp; omega))) | (refine Sx.mk ?_ ?_; · omega) | refine Fa.mk (fun _ => ?_) | refine Im.mk (fun _ => ?_) | apply Lw.go | refine g_cond ?_ | refine g_guard ?_ | refine g_keep ?_ | refine g_pass ?_ | refine g_fin ?_ | (apply g_ap; exact rfl; exact rfl; assumption)
        refine at_callR (table_Table_Keys_spec (T := T) (by omega)) ?_
        intro p3 c3
        repeat' first | apply step | (apply g_op; · repeat first | exact Evs.nil | (apply Evs.cons; exact rfl)) | (refine Br.mk (fun _ => ?_) (fun _ => ?_) <;> try (exfalso; omega)) | (refine Sd.mk ?_ ?_; · ((repeat' apply And.intro) <;> first | omega | trivial | assumption | (simp; done) | (simp; omega))) | (refine Sx.mk ?_ ?_; · omega) | refine Fa.mk (fun _ => ?_) | refine Im.mk (fun _ => ?_) | apply Lw.go | refine g_cond ?_ | refine g_guard ?_ | refine g_keep ?_ | refine g_pass ?_ | refine g_fin ?_ | (apply g_ap; exact rfl; exact rfl; assumption)
        first | refine at_callS (r12_Keys_spec hf hkh) ?_ | refine at_callR (r12_Keys_spec hf hkh) ?_
        intro p4 c4
        repeat' first | apply step | (apply g_op; · repeat first | exact Evs.nil | (apply Evs.cons; exact rfl)) | (refine Br.mk (fun _ => ?_) (fun _ => ?_) <;> try (exfalso; omega)) | (refine Sd.mk ?_ ?_; · ((repeat' apply And.intro) <;> first | omega | trivial | assumption | (simp; done) | (simp; omega))) | (refine Sx.mk ?_ ?_; · omega) | refine Fa.mk (fun _ => ?_) | refine Im.mk (fun _ => ?_) | apply Lw.go | refine g_cond ?_ | refine g_guard ?_ | refine g_keep ?_ | refine g_pass ?_ | refine g_fin ?_ | (apply g_ap; exact rfl; exact rfl; assumption)
        refine at_callR (r01_Same_spec (a := T.keys) (b := setL (keysH h)) (by omega)) ?_
        refine ⟨fun _ => ?_, fun q => absurd hkeys q⟩
        repeat' first | apply step | (apply g_op; · repeat first | exact Evs.nil | (apply Evs.cons; exact rfl)) | (refine Br.mk (fun _ => ?_) (fun _ => ?_) <;> try (exfalso; omega)) | (refine Sd.mk ?_ ?_; · ((repeat' apply And.intro) <;> first | omega | trivial | assumption | (simp; done) | (simp; omega))) | (refine Sx.mk ?_ ?_; · omega) | refine Fa.mk (fun _ => ?_) | refine Im.mk (fun _ => ?_) | apply Lw.go | refine g_cond ?_ | refine g_guard ?_ | refine g_keep ?_ | refine g_pass ?_ | refine g_fin ?_ | (apply g_ap; exact rfl; exact rfl; assumption)
        first | refine at_callS (l12_works_spec) ?_ | refine at_callR (l12_works_spec) ?_
        repeat' first | apply step | (apply g_op; · repeat first | exact Evs.nil | (apply Evs.cons; exact rfl)) | (refine Br.mk (fun _ => ?_) (fun _ => ?_) <;> try (exfalso; omega)) | (refine Sd.mk ?_ ?_; · ((repeat' apply And.intro) <;> first | omega | trivial | assumption | (simp; done) | (simp; omega))) | (refine Sx.mk ?_ ?_; · omega) | refine Fa.mk (fun _ => ?_) | refine Im.mk (fun _ => ?_) | apply Lw.go | refine g_cond ?_ | refine g_guard ?_ | refine g_keep ?_ | refine g_pass ?_ | refine g_fin ?_ | (apply g_ap; exact rfl; exact rfl; assumption)
        exact fin hR
        all_goals (rename_i q; exact absurd rfl q)
      · repeat' first | apply step | (apply g_op; · repeat first | exact Evs.nil | (apply Evs.cons; exact rfl)) | (refine Br.mk (fun _ => ?_) (fun _ => ?_) <;> try (exfalso; omega)) | (refine Sd.mk ?_ ?_; · ((repeat' apply And.intro) <;> first | omega | trivial | assumption | (simp; done) | (simp; omega))) | (refine Sx.mk ?_ ?_; · omega) | refine Fa.mk (fun _ => ?_) | refine Im.mk (fun _ => ?_) | apply Lw.go | refine g_cond ?_ | refine g_guard ?_ | refine g_keep ?_ | refine g_pass ?_ | refine g_fin ?_ | (apply g_ap; exact rfl; exact rfl; assumption)
        first | refine at_callS (r12_Rank_spec (x := id) hf) ?_ | refine at_callR (r12_Rank_spec (x := id) hf) ?_
        refine ⟨fun k' hk2 he2 => absurd (by rw [hids, ← he2]; exact List.getElem_mem _) hno, fun _ => ?_⟩
        repeat' first | apply step | (apply g_op; · repeat first | exact Evs.nil | (apply Evs.cons; exact rfl)) | (refine Br.mk (fun _ => ?_) (fun _ => ?_) <;> try (exfalso; omega)) | (refine Sd.mk ?_ ?_; · ((repeat' apply And.intro) <;> first | omega | trivial | assumption | (simp; done) | (simp; omega))) | (refine Sx.mk ?_ ?_; · omega) | refine Fa.mk (fun _ => ?_) | refine Im.mk (fun _ => ?_) | apply Lw.go | refine g_cond ?_ | refine g_guard ?_ | refine g_keep ?_ | refine g_pass ?_ | refine g_fin ?_ | (apply g_ap; exact rfl; exact rfl; assumption)
        refine at_callR (table_Table_IDs_spec (T := T) (by omega)) ?_
        intro p1 c1
        repeat' first | apply step | (apply g_op; · repeat first | exact Evs.nil | (apply Evs.cons; exact rfl)) | (refine Br.mk (fun _ => ?_) (fun _ => ?_) <;> try (exfalso; omega)) | (refine Sd.mk ?_ ?_; · ((repeat' apply And.intro) <;> first | omega | trivial | assumption | (simp; done) | (simp; omega))) | (refine Sx.mk ?_ ?_; · omega) | refine Fa.mk (fun _ => ?_) | refine Im.mk (fun _ => ?_) | apply Lw.go | refine g_cond ?_ | refine g_guard ?_ | refine g_keep ?_ | refine g_pass ?_ | refine g_fin ?_ | (apply g_ap; exact rfl; exact rfl; assumption)
        first | refine at_callS (r12_IDs_spec hf) ?_ | refine at_callR (r12_IDs_spec hf) ?_
        intro p2 c2
        repeat' first | apply step | (apply g_op; · repeat first | exact Evs.nil | (apply Evs.cons; exact rfl)) | (refine Br.mk (fun _ => ?_) (fun _ => ?_) <;> try (exfalso; omega)) | (refine Sd.mk ?_ ?_; · ((repeat' apply And.intro) <;> first | omega | trivial | assumption | (simp; done) | (simp; omega))) | (refine Sx.mk ?_ ?_; · omega) | refine Fa.mk (fun _ => ?_) | refine Im.mk (fun _ => ?_) | apply Lw.go | refine g_cond ?_ | refine g_guard ?_ | refine g_keep ?_ | refine g_pass ?_ | refine g_fin ?_ | (apply g_ap; exact rfl; exact rfl; assumption)
        refine at_callR (r01_Same_spec (a := T.ids) (b := setL (comm h)) (by omega)) ?_
        refine ⟨fun _ => ?_, fun q => absurd hids q⟩
        repeat' first | apply step | (apply g_op; · repeat first | exact Evs.nil | (apply Evs.cons; exact rfl)) | (refine Br.mk (fun _ => ?_) (fun _ => ?_) <;> try (exfalso; omega)) | (refine Sd.mk ?_ ?_; · ((repeat' apply And.intro) <;> first | omega | trivial | assumption | (simp; done) | (simp; omega))) | (refine Sx.mk ?_ ?_; · omega) | refine Fa.mk (fun _ => ?_) | refine Im.mk (fun _ => ?_) | apply Lw.go | refine g_cond ?_ | refine g_guard ?_ | refine g_keep ?_ | refine g_pass ?_ | refine g_fin ?_ | (apply g_ap; exact rfl; exact rfl; assumption)
        refine at_callR (table_Table_Keys_spec (T := T) (by omega)) ?_
        intro p3 c3
        repeat' first | apply step | (apply g_op; · repeat first | exact Evs.nil | (apply Evs.cons; exact rfl)) | (refine Br.mk (fun _ => ?_) (fun _ => ?_) <;> try (exfalso; omega)) | (refine Sd.mk ?_ ?_; · ((repeat' apply And.intro) <;> first | omega | trivial | assumption | (simp; done) | (simp; omega))) | (refine Sx.mk ?_ ?_; · omega) | refine Fa.mk (fun _ => ?_) | refine Im.mk (fun _ => ?_) | apply Lw.go | refine g_cond ?_ | refine g_guard ?_ | refine g_keep ?_ | refine g_pass ?_ | refine g_fin ?_ | (apply g_ap; exact rfl; exact rfl; assumption)
        first | refine at_callS (r12_Keys_spec hf hkh) ?_ | refine at_callR (r12_Keys_spec hf hkh) ?_
        intro p4 c4
        repeat' first | apply step | (apply g_op; · repeat first | exact Evs.nil | (apply Evs.cons; exact rfl)) | (refine Br.mk (fun _ => ?_) (fun _ => ?_) <;> try (exfalso; omega)) | (refine Sd.mk ?_ ?_; · ((repeat' apply And.intro) <;> first | omega | trivial | assumption | (simp; done) | (simp; omega))) | (refine Sx.mk ?_ ?_; · omega) | refine Fa.mk (fun _ => ?_) | refine Im.mk (fun _ => ?_) | apply Lw.go | refine g_cond ?_ | refine g_guard ?_ | refine g_keep ?_ | refine g_pass ?_ | refine g_fin ?_ | (apply g_ap; exact rfl; exact rfl; assumption)
        refine at_callR (r01_Same_spec (a := T.keys) (b := setL (keysH h)) (by omega)) ?_
        refine ⟨fun _ => ?_, fun q => absurd hkeys q⟩
        repeat' first | apply step | (apply g_op; · repeat first | exact Evs.nil | (apply Evs.cons; exact rfl)) | (refine Br.mk (fun _ => ?_) (fun _ => ?_) <;> try (exfalso; omega)) | (refine Sd.mk ?_ ?_; · ((repeat' apply And.intro) <;> first | omega | trivial | assumption | (simp; done) | (simp; omega))) | (refine Sx.mk ?_ ?_; · omega) | refine Fa.mk (fun _ => ?_) | refine Im.mk (fun _ => ?_) | apply Lw.go | refine g_cond ?_ | refine g_guard ?_ | refine g_keep ?_ | refine g_pass ?_ | refine g_fin ?_ | (apply g_ap; exact rfl; exact rfl; assumption)
        first | refine at_callS (l12_works_spec) ?_ | refine at_callR (l12_works_spec) ?_
        repeat' first | apply step | (apply g_op; · repeat first | exact Evs.nil | (apply Evs.cons; exact rfl)) | (refine Br.mk (fun _ => ?_) (fun _ => ?_) <;> try (exfalso; omega)) | (refine Sd.mk ?_ ?_; · ((repeat' apply And.intro) <;> first | omega | trivial | assumption | (simp; done) | (simp; omega))) | (refine Sx.mk ?_ ?_; · omega) | refine Fa.mk (fun _ => ?_) | refine Im.mk (fun _ => ?_) | apply Lw.go | refine g_cond ?_ | refine g_guard ?_ | refine g_keep ?_ | refine g_pass ?_ | refine g_fin ?_ | (apply g_ap; exact rfl; exact rfl; assumption)
        exact fin hR
        all_goals (rename_i q; exact absurd rfl q)
  · repeat' first | apply step | (apply g_op; · repeat first | exact Evs.nil | (apply Evs.cons; exact rfl)) | (refine Br.mk (fun _ => ?_) (fun _ => ?_) <;> try (exfalso; omega)) | (refine Sd.mk ?_ ?_; · ((repeat' apply And.intro) <;> first | omega | trivial | assumption | (simp; done) | (simp; omega))) | (refine Sx.mk ?_ ?_; · omega) | refine Fa.mk (fun _ => ?_) | refine Im.mk (fun _ => ?_) | apply Lw.go | refine g_cond ?_ | refine g_guard ?_ | refine g_keep ?_ | refine g_pass ?_ | refine g_fin ?_ | (apply g_ap; exact rfl; exact rfl; assumption)
    first | refine at_callS (l12_works_spec) ?_ | refine at_callR (l12_works_spec) ?_
    repeat' first | apply step | (apply g_op; · repeat first | exact Evs.nil | (apply Evs.cons; exact rfl)) | (refine Br.mk (fun _ => ?_) (fun _ => ?_) <;> try (exfalso; omega)) | (refine Sd.mk ?_ ?_; · ((repeat' apply And.intro) <;> first | omega | trivial | assumption | (simp; done) | (simp; omega))) | (refine Sx.mk ?_ ?_; · omega) | refine Fa.mk (fun _ => ?_) | refine Im.mk (fun _ => ?_) | apply Lw.go | refine g_cond ?_ | refine g_guard ?_ | refine g_keep ?_ | refine g_pass ?_ | refine g_fin ?_ | (apply g_ap; exact rfl; exact rfl; assumption)
    exact fin hR
end
end Go.AMS

