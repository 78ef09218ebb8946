/- What the functions do, part 2. -/
import Derived.Test.YtdkgalkdcmajjaaPart1
import Derived.Test.YtdkgalkdcmajjaaSetLaw
namespace Go.AMS
open Go.AM hiding Kt At WP WL Runs RunsY
open Go.AM.G
set_option linter.unusedVariables false
set_option linter.unusedSimpArgs false
set_option linter.unusedSectionVars false
set_option maxRecDepth 100000
set_option maxHeartbeats 1000000
attribute [local irreducible] AtS AtV AtC AtG FinA Spec Post LP G.At G.WP G.WL pt own fro rdl ro hx mp lrec elt sub

open Go.AM.G.Set
section
variable {b : Nat} {T : Tb} {s h : List HTx} {p q : Option Addr} {c d : Nat}
theorem slices_Clone_Txn_spec {l : List HTx} (hl : l.length ≤ 1000000000) : Spec prog1 n_slices_Clone_api_Txn_api_Txn [.slice p l.length c] [fro kHTx p c l] (fun R => ∀ p' c', R (.slice p' l.length c') [own kHTx p' c' l]) := by
  refine spec_code c_slices_Clone_api_Txn_api_Txn rfl ?_; intro n F R hR; unfold F_slices_Clone_api_Txn_api_Txn
  repeat' first | apply step | (apply g_op; · repeat first | exact Evs.nil | (apply Evs.cons; exact rfl)) | (refine Br.mk (fun _ => ?_) (fun _ => ?_) <;> try (exfalso; omega)) | (refine Sd.mk ?_ ?_; · ((repeat' apply And.intro) <;> first | omega | trivial | assumption | (simp; done) | (simp; omega))) | (refine Sx.mk ?_ ?_; · omega) | refine Fa.mk (fun _ => ?_) | refine Im.mk (fun _ => ?_) | apply Lw.go | refine g_cond ?_ | refine g_guard ?_ | refine g_keep ?_ | refine g_pass ?_ | refine g_fin ?_ | (apply g_ap; exact rfl; exact rfl; assumption)
  · subst_vars
    exact fin (hR none 0)
  · exact fin (hR _ _)
theorem stepsL_at {a j : Nat} (ha : a < s.length) (hj : j < s[a].ops.length) : (stepsL s)[opsN (s.take a) + j]? = some (s[a], j) := by
  have e : stepsL s = stepsL (s.take a) ++ ((List.range s[a].ops.length).map fun i => (s[a], i)) ++ stepsL (s.drop (a + 1)) := by
    conv => lhs; rw [← List.take_append_drop a s, List.drop_eq_getElem_cons ha]
    unfold stepsL
    rw [List.flatMap_append, List.flatMap_cons, List.append_assoc]
  rw [e, List.append_assoc, ← stepsL_len, List.getElem?_append_right (by omega), Nat.add_sub_cancel_left, List.getElem?_append_left (by simp; exact hj)]
  simp [hj]
def vaT (x : Option Addr × Nat) : Option (HTx × Nat) → List Value
  | some (t, j) => [.agg #[.int .i64 t.id, .bool t.ab, .slice x.1 t.ops.length x.2], .int .i64 (j : Int)]
  | none => [.bool true, .bool true]
def paT (x : Option Addr × Nat) : Option (HTx × Nat) → List HP
  | some (t, j) => [fro kHOp x.1 x.2 t.ops]
  | none => []
theorem table_steps_spec : Spec prog1 n_table_steps [.slice p s.length c] [] (fun R => ∀ x, R (.func (.func n_table_steps_c1) #[] #[.pointer (some ⟨x, 0, none⟩)]) [pt x [.slice p s.length c] 0]) := by
  refine spec_code c_table_steps rfl ?_; intro n F R hR; unfold F_table_steps
  repeat' first | apply step | (apply g_op; · repeat first | exact Evs.nil | (apply Evs.cons; exact rfl)) | (refine Br.mk (fun _ => ?_) (fun _ => ?_) <;> try (exfalso; omega)) | (refine Sd.mk ?_ ?_; · ((repeat' apply And.intro) <;> first | omega | trivial | assumption | (simp; done) | (simp; omega))) | (refine Sx.mk ?_ ?_; · omega) | refine Fa.mk (fun _ => ?_) | refine Im.mk (fun _ => ?_) | apply Lw.go | refine g_cond ?_ | refine g_guard ?_ | refine g_keep ?_ | refine g_pass ?_ | refine g_fin ?_ | (apply g_ap; exact rfl; exact rfl; assumption)
  exact fin (hR _)
theorem table_steps_c1_spec {x ly : Nat} {A : Nat → HP} {B : AX → HP} (hs : s.length ≤ 1000) (hN : opsN s ≤ 1000) (hy : ∀ i, i < opsN s → ∀ w, YSpec prog1 ly (vaT w (stepsL s)[i]?) (A i :: paT w (stepsL s)[i]?) (fun R => R (.bool true) [A (i + 1)] ∧ ∀ x, x ≠ .norm → R (.bool false) [B x])) :
    Spec prog1 n_table_steps_c1 [.func (.yield ly) #[] #[], .pointer (some ⟨x, 0, none⟩)] [A 0, pt x [.slice p s.length c] 0, fro kHTx p c s] (fun R => (∀ v, R v [A (opsN s)]) ∧ ∀ x v, x ≠ .norm → R v [B x]) := by
  refine spec_code c_table_steps_c1 rfl ?_; intro n F R hR; unfold F_table_steps_c1
  repeat' first | apply step | (apply g_op; · repeat first | exact Evs.nil | (apply Evs.cons; exact rfl)) | (refine Br.mk (fun _ => ?_) (fun _ => ?_) <;> try (exfalso; omega)) | (refine Sd.mk ?_ ?_; · ((repeat' apply And.intro) <;> first | omega | trivial | assumption | (simp; done) | (simp; omega))) | (refine Sx.mk ?_ ?_; · omega) | refine Fa.mk (fun _ => ?_) | refine Im.mk (fun _ => ?_) | apply Lw.go | refine g_cond ?_ | refine g_guard ?_ | refine g_keep ?_ | refine g_pass ?_ | refine g_fin ?_ | (apply g_ap; exact rfl; exact rfl; assumption)
  refine at_loopS (ι := Nat) (E := fun j => [(0, .func (.yield ly) #[] #[]), (6, .slice p s.length c), (7, .int .i64 (s.length : Int)), (8, .int .i64 (j : Int))]) (Δ := fun j => A (opsN (s.take j)) :: fro kHTx p c s :: F) (P := fun j => j ≤ s.length) (μ := fun j => s.length - j) 0 (Nat.zero_le _) ?_
  rintro j hj
  dsimp only
  rcases Nat.lt_or_ge j s.length with hlt | hge
  · have h1 := opsN_take hlt
    have h2 := opsN_take_le s (j + 1)
    have hyi : ∀ k, k < s[j].ops.length → ∀ w : Option Addr × Nat, YSpec prog1 ly [.agg #[.int .i64 s[j].id, .bool s[j].ab, .slice w.1 s[j].ops.length w.2], .int .i64 (k : Int)] [A (opsN (s.take j) + k), fro kHOp w.1 w.2 s[j].ops] (fun R => R (.bool true) [A (opsN (s.take j) + (k + 1))] ∧ ∀ x, x ≠ .norm → R (.bool false) [B x]) := fun k hk w => by
      have := hy (opsN (s.take j) + k) (by omega) w
      rw [stepsL_at hlt hk] at this
      exact this
    repeat' first | apply step | (apply g_op; · repeat first | exact Evs.nil | (apply Evs.cons; exact rfl)) | (refine Br.mk (fun _ => ?_) (fun _ => ?_) <;> try (exfalso; omega)) | (refine Sd.mk ?_ ?_; · ((repeat' apply And.intro) <;> first | omega | trivial | assumption | (simp; done) | (simp; omega))) | (refine Sx.mk ?_ ?_; · omega) | refine Fa.mk (fun _ => ?_) | refine Im.mk (fun _ => ?_) | apply Lw.go | refine g_cond ?_ | refine g_guard ?_ | refine g_keep ?_ | refine g_pass ?_ | refine g_fin ?_ | (apply g_ap; exact rfl; exact rfl; assumption)
    rename_i _ px _ tb
    refine at_loopS (ι := Nat) (E := fun k => [(0, .func (.yield ly) #[] #[]), (4, .pointer (some ⟨tb, 0, none⟩)), (6, .slice p s.length c), (7, .int .i64 (s.length : Int)), (8, .int .i64 (j : Int)), (14, .int .i64 (s[j].ops.length : Int)), (15, .int .i64 (k : Int))]) (Δ := fun k => A (opsN (s.take j) + k) :: pt tb [.int .i64 s[j].id, .bool s[j].ab, .slice px.1 s[j].ops.length px.2] 0 :: fro kHOp px.1 px.2 s[j].ops :: fro kHTx p c s :: F) (P := fun k => k ≤ s[j].ops.length) (μ := fun k => s[j].ops.length - k) 0 (Nat.zero_le _) ?_
    rintro k hk
    try dsimp only
    repeat' first | apply step | (apply g_op; · repeat first | exact Evs.nil | (apply Evs.cons; exact rfl)) | (refine Br.mk (fun _ => ?_) (fun _ => ?_) <;> try (exfalso; omega)) | (refine Sd.mk ?_ ?_; · ((repeat' apply And.intro) <;> first | omega | trivial | assumption | (simp; done) | (simp; omega))) | (refine Sx.mk ?_ ?_; · omega) | refine Fa.mk (fun _ => ?_) | refine Im.mk (fun _ => ?_) | apply Lw.go | refine g_cond ?_ | refine g_guard ?_ | refine g_keep ?_ | refine g_pass ?_ | refine g_fin ?_ | (apply g_ap; exact rfl; exact rfl; assumption)
    · refine at_callY (hyi k (by omega) px) ⟨?_, fun x hx => ?_⟩
      · repeat' first | apply step | (apply g_op; · repeat first | exact Evs.nil | (apply Evs.cons; exact rfl)) | (refine Br.mk (fun _ => ?_) (fun _ => ?_) <;> try (exfalso; omega)) | (refine Sd.mk ?_ ?_; · ((repeat' apply And.intro) <;> first | omega | trivial | assumption | (simp; done) | (simp; omega))) | (refine Sx.mk ?_ ?_; · omega) | refine Fa.mk (fun _ => ?_) | refine Im.mk (fun _ => ?_) | apply Lw.go | refine g_cond ?_ | refine g_guard ?_ | refine g_keep ?_ | refine g_pass ?_ | refine g_fin ?_ | (apply g_ap; exact rfl; exact rfl; assumption)
        exact lp_next (k + 1) (by omega) (by omega)
      · repeat' first | apply step | (apply g_op; · repeat first | exact Evs.nil | (apply Evs.cons; exact rfl)) | (refine Br.mk (fun _ => ?_) (fun _ => ?_) <;> try (exfalso; omega)) | (refine Sd.mk ?_ ?_; · ((repeat' apply And.intro) <;> first | omega | trivial | assumption | (simp; done) | (simp; omega))) | (refine Sx.mk ?_ ?_; · omega) | refine Fa.mk (fun _ => ?_) | refine Im.mk (fun _ => ?_) | apply Lw.go | refine g_cond ?_ | refine g_guard ?_ | refine g_keep ?_ | refine g_pass ?_ | refine g_fin ?_ | (apply g_ap; exact rfl; exact rfl; assumption)
        exact fin (hR.2 x _ hx)
    · have : k = s[j].ops.length := by omega
      subst this
      rw [← h1]
      repeat' first | apply step | (apply g_op; · repeat first | exact Evs.nil | (apply Evs.cons; exact rfl)) | (refine Br.mk (fun _ => ?_) (fun _ => ?_) <;> try (exfalso; omega)) | (refine Sd.mk ?_ ?_; · ((repeat' apply And.intro) <;> first | omega | trivial | assumption | (simp; done) | (simp; omega))) | (refine Sx.mk ?_ ?_; · omega) | refine Fa.mk (fun _ => ?_) | refine Im.mk (fun _ => ?_) | apply Lw.go | refine g_cond ?_ | refine g_guard ?_ | refine g_keep ?_ | refine g_pass ?_ | refine g_fin ?_ | (apply g_ap; exact rfl; exact rfl; assumption)
      exact lp_next (j + 1) (by omega) (by omega)
  · have : s.take j = s := List.take_of_length_le hge
    rw [this]
    repeat' first | apply step | (apply g_op; · repeat first | exact Evs.nil | (apply Evs.cons; exact rfl)) | (refine Br.mk (fun _ => ?_) (fun _ => ?_) <;> try (exfalso; omega)) | (refine Sd.mk ?_ ?_; · ((repeat' apply And.intro) <;> first | omega | trivial | assumption | (simp; done) | (simp; omega))) | (refine Sx.mk ?_ ?_; · omega) | refine Fa.mk (fun _ => ?_) | refine Im.mk (fun _ => ?_) | apply Lw.go | refine g_cond ?_ | refine g_guard ?_ | refine g_keep ?_ | refine g_pass ?_ | refine g_fin ?_ | (apply g_ap; exact rfl; exact rfl; assumption)
    exact fin (hR.1 _)
theorem comm_take {s : List HTx} {j : Nat} (hj : j < s.length) : comm (s.take (j + 1)) = comm (s.take j) ++ if s[j].ab = true then [] else [s[j].id] := by
  unfold comm
  rw [List.take_succ_eq_append_getElem hj, List.filter_append, List.map_append]
  cases h : s[j].ab <;> simp [h]
theorem comm_le (s : List HTx) : (comm s).length ≤ s.length := by
  unfold comm; rw [List.length_map]; exact List.length_filter_le _ _
theorem mapL_new {κ α : Type} {r : Nat} {enc : κ → Value} {K : Kind α} {Γ : List HP} : Ent (mp r [] :: Γ) (mapL r enc K [] :: Γ) :=
  .fold (f := fun (Z : List (LE κ α)) => (fst2 Z = [], [mp r (amap enc slV Z), alls (ownE K) Z])) [] rfl (.more .here alls_nil)
theorem stepsL_mem {s : List HTx} {i : Nat} (hi : i < opsN s) : ∃ t j, ∃ hj : j < t.ops.length, (stepsL s)[i]? = some (t, j) ∧ t ∈ s := by
  have h1 : i < (stepsL s).length := by rw [stepsL_len]; exact hi
  have h2 : (stepsL s)[i] ∈ stepsL s := List.getElem_mem h1
  generalize hx : (stepsL s)[i] = x at h2
  obtain ⟨t, ht, h3⟩ := List.mem_flatMap.1 h2
  obtain ⟨j, hj, rfl⟩ := List.mem_map.1 h3
  exact ⟨t, j, List.mem_range.1 hj, by rw [List.getElem?_eq_getElem h1, hx], ht⟩
theorem opsN_mem {s : List HTx} {t : HTx} (ht : t ∈ s) : t.ops.length ≤ opsN s := by
  obtain ⟨a, b, rfl⟩ := List.append_of_mem ht
  unfold opsN
  rw [List.map_append, List.sum_append, List.map_cons, List.sum_cons]; omega
theorem Tb.sm.one {T : Tb} {n : Nat} (hT : T.sm n) (x : HTx × Nat) : (T.one x).sm (n + 1) := by
  have g : ∀ {κ α : Type} [DecidableEq κ] (k j : κ) (a : α) (f : List (κ × List α)), (agl j (adl k a f)).length ≤ (agl j f).length + 1 := by
    intro κ α _ k j a f
    rw [agl_adl, List.length_append]
    split <;> simp
  refine ⟨fun k => ?_, fun k => ?_, fun k => ?_, ?_⟩
  · have := hT.a k
    unfold Tb.one; rw [put_ap]; split
    · exact Nat.le_succ_of_le this
    · exact Nat.le_trans (g _ _ _ _) (Nat.succ_le_succ this)
  · have := hT.r k
    unfold Tb.one; rw [put_rd]; split
    · exact Nat.le_trans (g _ _ _ _) (Nat.succ_le_succ this)
    · exact Nat.le_succ_of_le this
  · have := hT.w k
    unfold Tb.one; rw [put_wt]; split
    · exact Nat.le_trans (g _ _ _ _) (Nat.succ_le_succ this)
    · exact Nat.le_succ_of_le this
  · have := hT.k
    unfold Tb.one; rw [put_keys]; simp; exact this
/-- The tables on the way. -/
def tabI (s : List HTx) (i : Nat) : Tb := ((stepsL s).take i).foldl Tb.one (T0 (comm s))
def Tb.ak (T : Tb) (k : Int) : Tb := { T with keys := T.keys ++ [k] }
theorem tabI_next {s : List HTx} {i : Nat} {x : HTx × Nat} (h : (stepsL s)[i]? = some x) : tabI s (i + 1) = (tabI s i).one x := by
  obtain ⟨h1, h2⟩ := List.getElem?_eq_some_iff.1 h
  unfold tabI
  rw [List.take_succ_eq_append_getElem h1, List.foldl_append, h2]; rfl
theorem tabI_sm (s : List HTx) : ∀ i, i ≤ opsN s → (tabI s i).sm i
  | 0, _ => ⟨fun k => Nat.le_refl _, fun k => Nat.le_refl _, fun k => Nat.le_refl _, Nat.le_refl _⟩
  | i + 1, h => by
    obtain ⟨t, j, hj, h1, h2⟩ := stepsL_mem (s := s) (i := i) (by omega)
    rw [tabI_next h1]
    exact (tabI_sm s i (by omega)).one _
theorem tabI_all (s : List HTx) : tabI s (opsN s) = tabS s := by
  unfold tabI tabS
  rw [← stepsL_len, List.take_length]
theorem table_New_spec (hf : FewH h 20 60) : Spec prog1 n_table_New [.agg #[.slice p h.length c]] [fro kHTx p c h] (fun R => (chkH h ≠ 0 → R (.tuple #[.pointer none, .int .i64 (chkH h)]) []) ∧ (chkH h = 0 → ∀ b, R (.tuple #[.pointer (some ⟨b, 0, none⟩), .int .i64 0]) [tab b (tabS (sortK HTx.id h)).fin])) := by
  refine spec_code c_table_New rfl ?_; intro n F R hR; unfold F_table_New
  have hh := hf.t
  have ho := hf.o
  repeat' first | apply step | (apply g_op; · repeat first | exact Evs.nil | (apply Evs.cons; exact rfl)) | (refine Br.mk (fun _ => ?_) (fun _ => ?_) <;> try (exfalso; omega)) | (refine Sd.mk ?_ ?_; · ((repeat' apply And.intro) <;> first | omega | trivial | assumption | (simp; done) | (simp; omega))) | (refine Sx.mk ?_ ?_; · omega) | refine Fa.mk (fun _ => ?_) | refine Im.mk (fun _ => ?_) | apply Lw.go | refine g_cond ?_ | refine g_guard ?_ | refine g_keep ?_ | refine g_pass ?_ | refine g_fin ?_ | (apply g_ap; exact rfl; exact rfl; assumption)
  first | refine at_callS (encode_Check_spec hf) ?_ | refine at_callR (encode_Check_spec hf) ?_
  by_cases hc : chkH h = 0
  · rw [hc]
    have hk := chkH_ok hc
    repeat' first | apply step | (apply g_op; · repeat first | exact Evs.nil | (apply Evs.cons; exact rfl)) | (refine Br.mk (fun _ => ?_) (fun _ => ?_) <;> try (exfalso; omega)) | (refine Sd.mk ?_ ?_; · ((repeat' apply And.intro) <;> first | omega | trivial | assumption | (simp; done) | (simp; omega))) | (refine Sx.mk ?_ ?_; · omega) | refine Fa.mk (fun _ => ?_) | refine Im.mk (fun _ => ?_) | apply Lw.go | refine g_cond ?_ | refine g_guard ?_ | refine g_keep ?_ | refine g_pass ?_ | refine g_fin ?_ | (apply g_ap; exact rfl; exact rfl; assumption)
    first | refine at_callS (slices_Clone_Txn_spec (l := h) (by omega)) ?_ | refine at_callR (slices_Clone_Txn_spec (l := h) (by omega)) ?_
    intro p1 c1
    repeat' first | apply step | (apply g_op; · repeat first | exact Evs.nil | (apply Evs.cons; exact rfl)) | (refine Br.mk (fun _ => ?_) (fun _ => ?_) <;> try (exfalso; omega)) | (refine Sd.mk ?_ ?_; · ((repeat' apply And.intro) <;> first | omega | trivial | assumption | (simp; done) | (simp; omega))) | (refine Sx.mk ?_ ?_; · omega) | refine Fa.mk (fun _ => ?_) | refine Im.mk (fun _ => ?_) | apply Lw.go | refine g_cond ?_ | refine g_guard ?_ | refine g_keep ?_ | refine g_pass ?_ | refine g_fin ?_ | (apply g_ap; exact rfl; exact rfl; assumption)
    first | refine at_callS (slices_SortFunc_Txn_spec (l := h) (by omega) hk.i) ?_ | refine at_callR (slices_SortFunc_Txn_spec (l := h) (by omega) hk.i) ?_
    have hR2 := hR.2 hc
    have hsl : h.length = (sortK HTx.id h).length := (sortK_len _ h).symm
    have hsp : (sortK HTx.id h).Perm h := sortK_perm _ h
    rw [hsl]
    generalize sortK HTx.id h = s at hR2 hsl hsp ⊢
    have hso : opsN s = opsN h := by unfold opsN; exact (hsp.map _).sum_nat
    repeat' first | apply step | (apply g_op; · repeat first | exact Evs.nil | (apply Evs.cons; exact rfl)) | (refine Br.mk (fun _ => ?_) (fun _ => ?_) <;> try (exfalso; omega)) | (refine Sd.mk ?_ ?_; · ((repeat' apply And.intro) <;> first | omega | trivial | assumption | (simp; done) | (simp; omega))) | (refine Sx.mk ?_ ?_; · omega) | refine Fa.mk (fun _ => ?_) | refine Im.mk (fun _ => ?_) | apply Lw.go | refine g_cond ?_ | refine g_guard ?_ | refine g_keep ?_ | refine g_pass ?_ | refine g_fin ?_ | (apply g_ap; exact rfl; exact rfl; assumption)
    refine at_freezeC ?_
    rename_i ha _ mw ma mr mt tb tc
    obtain ⟨I, hI⟩ : ∃ I : Nat → HP, ∀ j, I j = hx fun (w : Option Addr × Nat × List Int) => (w.2.2 = comm (s.take j), [pt tb [.bool true, .slice w.1 w.2.2.length w.2.1, .slice none 0 0, .map (some mw), .map (some ma), .map (some mr), .map (some mt)] 0, own (kInt .i64) w.1 w.2.1 w.2.2]) := ⟨_, fun _ => rfl⟩
    refine at_foldP (I 0) (hI 0) (none, 0, []) rfl ?_
    refine at_loopS (ι := Nat) (E := fun j => [(2, .pointer none), (3, .int .i64 0), (5, .pointer (some ⟨tc, 0, none⟩)), (6, .slice p1 s.length c1), (27, .slice p1 s.length c1), (28, .int .i64 (s.length : Int)), (29, .int .i64 (j : Int))]) (Δ := fun j => I j :: pt tc [.pointer (some ⟨tb, 0, none⟩)] 0 :: fro kHTx p1 c1 s :: mp mw [] :: mp ma [] :: mp mr [] :: mp mt [] :: F) (P := fun j => j ≤ s.length) (μ := fun j => s.length - j) 0 (Nat.zero_le _) ?_
    rintro j hj
    try dsimp only
    rcases Nat.lt_or_ge j s.length with hlt | hge
    · have hm := hk.m s[j] (hsp.mem_iff.1 (List.getElem_mem hlt))
      have hid1 := hm.1.1
      have hid2 := hm.1.2
      have hct := comm_take hlt
      have hcl := comm_le (s.take j)
      have hst : (s.take j).length ≤ j := List.length_take_le _ _
      cases hab : s[j].ab
      · rw [hab] at hct
        repeat' first | rw [hab] | apply step | (apply g_op; · repeat first | exact Evs.nil | (apply Evs.cons; exact rfl)) | (refine Br.mk (fun _ => ?_) (fun _ => ?_) <;> try (exfalso; omega)) | (refine Sd.mk ?_ ?_; · ((repeat' apply And.intro) <;> first | omega | trivial | assumption | (simp; done) | (simp; omega))) | (refine Sx.mk ?_ ?_; · omega) | refine Fa.mk (fun _ => ?_) | refine Im.mk (fun _ => ?_) | apply Lw.go | refine g_cond ?_ | refine g_guard ?_ | refine g_keep ?_ | refine g_pass ?_ | refine g_fin ?_ | (apply g_ap; exact rfl; exact rfl; assumption)
        refine at_openP (I j) (hI j) ?_
        rintro ⟨pi, ci, l'⟩ h'
        dsimp only [List.cons_append, List.nil_append] at h' ⊢
        subst h'
        refine at_opsKS tc 8 (fun sz hsz => ?_)
        repeat' first | apply step | (apply g_op; · repeat first | exact Evs.nil | (apply Evs.cons; exact rfl)) | (refine Br.mk (fun _ => ?_) (fun _ => ?_) <;> try (exfalso; omega)) | (refine Sd.mk ?_ ?_; · ((repeat' apply And.intro) <;> first | omega | trivial | assumption | (simp; done) | (simp; omega))) | (refine Sx.mk ?_ ?_; · omega) | refine Fa.mk (fun _ => ?_) | refine Im.mk (fun _ => ?_) | apply Lw.go | refine g_cond ?_ | refine g_guard ?_ | refine g_keep ?_ | refine g_pass ?_ | refine g_fin ?_ | (apply g_ap; exact rfl; exact rfl; assumption)
        refine kp1 tc ?_ hsz
        repeat' first | apply step | (apply g_op; · repeat first | exact Evs.nil | (apply Evs.cons; exact rfl)) | (refine Br.mk (fun _ => ?_) (fun _ => ?_) <;> try (exfalso; omega)) | (refine Sd.mk ?_ ?_; · ((repeat' apply And.intro) <;> first | omega | trivial | assumption | (simp; done) | (simp; omega))) | (refine Sx.mk ?_ ?_; · omega) | refine Fa.mk (fun _ => ?_) | refine Im.mk (fun _ => ?_) | apply Lw.go | refine g_cond ?_ | refine g_guard ?_ | refine g_keep ?_ | refine g_pass ?_ | refine g_fin ?_ | (apply g_ap; exact rfl; exact rfl; assumption)
        refine kp2 ?_
        repeat' first | apply step | (apply g_op; · repeat first | exact Evs.nil | (apply Evs.cons; exact rfl)) | (refine Br.mk (fun _ => ?_) (fun _ => ?_) <;> try (exfalso; omega)) | (refine Sd.mk ?_ ?_; · ((repeat' apply And.intro) <;> first | omega | trivial | assumption | (simp; done) | (simp; omega))) | (refine Sx.mk ?_ ?_; · omega) | refine Fa.mk (fun _ => ?_) | refine Im.mk (fun _ => ?_) | apply Lw.go | refine g_cond ?_ | refine g_guard ?_ | refine g_keep ?_ | refine g_pass ?_ | refine g_fin ?_ | (apply g_ap; exact rfl; exact rfl; assumption)
        refine at_foldP (I (j + 1)) (hI _) (_, _, comm (s.take j) ++ [s[j].id]) hct.symm ?_
        exact lp_next (j + 1) (by omega) (by omega)
      · rw [hab] at hct
        have hct2 : comm (s.take j) = comm (s.take (j + 1)) := by rw [hct]; simp
        repeat' first | rw [hab] | apply step | (apply g_op; · repeat first | exact Evs.nil | (apply Evs.cons; exact rfl)) | (refine Br.mk (fun _ => ?_) (fun _ => ?_) <;> try (exfalso; omega)) | (refine Sd.mk ?_ ?_; · ((repeat' apply And.intro) <;> first | omega | trivial | assumption | (simp; done) | (simp; omega))) | (refine Sx.mk ?_ ?_; · omega) | refine Fa.mk (fun _ => ?_) | refine Im.mk (fun _ => ?_) | apply Lw.go | refine g_cond ?_ | refine g_guard ?_ | refine g_keep ?_ | refine g_pass ?_ | refine g_fin ?_ | (apply g_ap; exact rfl; exact rfl; assumption)
        refine at_openP (I j) (hI j) ?_
        rintro ⟨pi, ci, l'⟩ h'
        dsimp only [List.cons_append, List.nil_append] at h' ⊢
        refine at_foldP (I (j + 1)) (hI _) (_, _, l') (h'.trans hct2) ?_
        exact lp_next (j + 1) (by omega) (by omega)
    · have e : s.take j = s := List.take_of_length_le hge
      refine at_openP (I j) (hI j) ?_
      rintro ⟨pi, ci, l'⟩ h'
      rw [e] at h'
      dsimp only [List.cons_append, List.nil_append] at h' ⊢
      subst h'
      refine at_via (mapL_new (enc := kII) (K := kInt .i64) (r := ma)) ?_
      refine at_via (mapL_new (enc := kI) (K := kHRd) (r := mr)) ?_
      refine at_via (mapL_new (enc := kI) (K := kHWr) (r := mt)) ?_
      refine at_foldP (tab tb (tabI s 0)) rfl (((pi, ci), (none, 0)), (mw, ma, mr, mt)) trivial ?_
      repeat' first | apply step | (apply g_op; · repeat first | exact Evs.nil | (apply Evs.cons; exact rfl)) | (refine Br.mk (fun _ => ?_) (fun _ => ?_) <;> try (exfalso; omega)) | (refine Sd.mk ?_ ?_; · ((repeat' apply And.intro) <;> first | omega | trivial | assumption | (simp; done) | (simp; omega))) | (refine Sx.mk ?_ ?_; · omega) | refine Fa.mk (fun _ => ?_) | refine Im.mk (fun _ => ?_) | apply Lw.go | refine g_cond ?_ | refine g_guard ?_ | refine g_keep ?_ | refine g_pass ?_ | refine g_fin ?_ | (apply g_ap; exact rfl; exact rfl; assumption)
      first | refine at_callS (table_steps_spec (p := p1) (c := c1) (s := s)) ?_ | refine at_callR (table_steps_spec (p := p1) (c := c1) (s := s)) ?_
      intro xs
      repeat' first | apply step | (apply g_op; · repeat first | exact Evs.nil | (apply Evs.cons; exact rfl)) | (refine Br.mk (fun _ => ?_) (fun _ => ?_) <;> try (exfalso; omega)) | (refine Sd.mk ?_ ?_; · ((repeat' apply And.intro) <;> first | omega | trivial | assumption | (simp; done) | (simp; omega))) | (refine Sx.mk ?_ ?_; · omega) | refine Fa.mk (fun _ => ?_) | refine Im.mk (fun _ => ?_) | apply Lw.go | refine g_cond ?_ | refine g_guard ?_ | refine g_keep ?_ | refine g_pass ?_ | refine g_fin ?_ | (apply g_ap; exact rfl; exact rfl; assumption)
      obtain ⟨J, hJ⟩ : ∃ J : Nat → HP, ∀ i, J i = hx fun (_ : Unit) => (True, [pt tc [.pointer (some ⟨tb, 0, none⟩)] 0, tab tb (tabI s i)]) := ⟨_, fun _ => rfl⟩
      refine at_foldP (J 0) (hJ 0) () trivial ?_
      refine at_rfunSD (I := J) (J := fun _ => noP) (Po := []) (opsN s) (fun i d => vaT d (stepsL s)[i]?) (fun i d => paT d (stepsL s)[i]?)
        (fun ly A B h => table_steps_c1_spec (by omega) (by omega) h) (fun i hi d => by obtain ⟨t, j, hj, e1, ht⟩ := stepsL_mem hi; rw [e1]; rfl) ?_ ?_ (fun _ _ => at_no)
      · intro i hi d ly m F'
        obtain ⟨t, j, hj, e1, ht⟩ := stepsL_mem hi
        rw [e1]
        have hm := hk.m t (hsp.mem_iff.1 ht)
        have hmo := hm.2 t.ops[j] (List.getElem_mem hj)
        have hlo := hf.l t (hsp.mem_iff.1 ht) t.ops[j] (List.getElem_mem hj)
        have hjs : j ≤ 60 := by have := opsN_mem ht; omega
        have hts := tabI_sm s i (by omega)
        have hnx := tabI_next e1
        dsimp only [vaT, paT]
        refine at_openP (J i) (hJ i) ?_
        rintro - -
        repeat' first | apply step | (apply g_op; · repeat first | exact Evs.nil | (apply Evs.cons; exact rfl)) | (refine Br.mk (fun _ => ?_) (fun _ => ?_) <;> try (exfalso; omega)) | (refine Sd.mk ?_ ?_; · ((repeat' apply And.intro) <;> first | omega | trivial | assumption | (simp; done) | (simp; omega))) | (refine Sx.mk ?_ ?_; · omega) | refine Fa.mk (fun _ => ?_) | refine Im.mk (fun _ => ?_) | apply Lw.go | refine g_cond ?_ | refine g_guard ?_ | refine g_keep ?_ | refine g_pass ?_ | refine g_fin ?_ | (apply g_ap; exact rfl; exact rfl; assumption)
        have hkb : -9223372036854775808 ≤ t.ops[j].key ∧ t.ops[j].key ≤ 9223372036854775807 := by unfold mayO mayN at hmo; split at hmo <;> omega
        have hkl := hts.k
        refine at_openP (tab tb (tabI s i)) rfl ?_
        rintro ⟨⟨⟨pi, ci⟩, ⟨pk, ck⟩⟩, ⟨mw', ma', mr', mt'⟩⟩ -
        dsimp only [List.cons_append, List.nil_append]
        refine at_opsKS tc 12 (fun sz hsz => ?_)
        repeat' first | apply step | (apply g_op; · repeat first | exact Evs.nil | (apply Evs.cons; exact rfl)) | (refine Br.mk (fun _ => ?_) (fun _ => ?_) <;> try (exfalso; omega)) | (refine Sd.mk ?_ ?_; · ((repeat' apply And.intro) <;> first | omega | trivial | assumption | (simp; done) | (simp; omega))) | (refine Sx.mk ?_ ?_; · omega) | refine Fa.mk (fun _ => ?_) | refine Im.mk (fun _ => ?_) | apply Lw.go | refine g_cond ?_ | refine g_guard ?_ | refine g_keep ?_ | refine g_pass ?_ | refine g_fin ?_ | (apply g_ap; exact rfl; exact rfl; assumption)
        refine kp1 tc ?_ hsz
        repeat' first | apply step | (apply g_op; · repeat first | exact Evs.nil | (apply Evs.cons; exact rfl)) | (refine Br.mk (fun _ => ?_) (fun _ => ?_) <;> try (exfalso; omega)) | (refine Sd.mk ?_ ?_; · ((repeat' apply And.intro) <;> first | omega | trivial | assumption | (simp; done) | (simp; omega))) | (refine Sx.mk ?_ ?_; · omega) | refine Fa.mk (fun _ => ?_) | refine Im.mk (fun _ => ?_) | apply Lw.go | refine g_cond ?_ | refine g_guard ?_ | refine g_keep ?_ | refine g_pass ?_ | refine g_fin ?_ | (apply g_ap; exact rfl; exact rfl; assumption)
        refine kp2 ?_
        rename_i pk2 ck2
        repeat' first | apply step | (apply g_op; · repeat first | exact Evs.nil | (apply Evs.cons; exact rfl)) | (refine Br.mk (fun _ => ?_) (fun _ => ?_) <;> try (exfalso; omega)) | (refine Sd.mk ?_ ?_; · ((repeat' apply And.intro) <;> first | omega | trivial | assumption | (simp; done) | (simp; omega))) | (refine Sx.mk ?_ ?_; · omega) | refine Fa.mk (fun _ => ?_) | refine Im.mk (fun _ => ?_) | apply Lw.go | refine g_cond ?_ | refine g_guard ?_ | refine g_keep ?_ | refine g_pass ?_ | refine g_fin ?_ | (apply g_ap; exact rfl; exact rfl; assumption)
        refine av_foldP (tab tb ((tabI s i).ak t.ops[j].key)) rfl (((pi, ci), (pk2, ck2)), (mw', ma', mr', mt')) trivial ?_
        first | refine at_callS (table_Table_put_spec (T := (tabI s i).ak t.ops[j].key) (t := t) (i := j) (o := t.ops[j]) (n0 := 100) ⟨fun k => Nat.le_trans (hts.a k) (by omega), fun k => Nat.le_trans (hts.r k) (by omega), fun k => Nat.le_trans (hts.w k) (by omega), by unfold Tb.ak; simp; omega⟩ (by omega) (by omega) hm.1 hmo hlo) ?_ | refine at_callR (table_Table_put_spec (T := (tabI s i).ak t.ops[j].key) (t := t) (i := j) (o := t.ops[j]) (n0 := 100) ⟨fun k => Nat.le_trans (hts.a k) (by omega), fun k => Nat.le_trans (hts.r k) (by omega), fun k => Nat.le_trans (hts.w k) (by omega), by unfold Tb.ak; simp; omega⟩ (by omega) (by omega) hm.1 hmo hlo) ?_
        repeat' first | apply step | (apply g_op; · repeat first | exact Evs.nil | (apply Evs.cons; exact rfl)) | (refine Br.mk (fun _ => ?_) (fun _ => ?_) <;> try (exfalso; omega)) | (refine Sd.mk ?_ ?_; · ((repeat' apply And.intro) <;> first | omega | trivial | assumption | (simp; done) | (simp; omega))) | (refine Sx.mk ?_ ?_; · omega) | refine Fa.mk (fun _ => ?_) | refine Im.mk (fun _ => ?_) | apply Lw.go | refine g_cond ?_ | refine g_guard ?_ | refine g_keep ?_ | refine g_pass ?_ | refine g_fin ?_ | (apply g_ap; exact rfl; exact rfl; assumption)
        rw [show ((tabI s i).ak t.ops[j].key).put t j t.ops[j] = tabI s (i + 1) by rw [hnx]; unfold Tb.one Tb.ak; rw [getD_lt hj]]
        refine at_foldP (J (i + 1)) (hJ _) () trivial ?_
        exact y_next
      · refine at_openP (J _) (hJ _) ?_
        rintro - -
        rw [tabI_all]
        repeat' first | apply step | (apply g_op; · repeat first | exact Evs.nil | (apply Evs.cons; exact rfl)) | (refine Br.mk (fun _ => ?_) (fun _ => ?_) <;> try (exfalso; omega)) | (refine Sd.mk ?_ ?_; · ((repeat' apply And.intro) <;> first | omega | trivial | assumption | (simp; done) | (simp; omega))) | (refine Sx.mk ?_ ?_; · omega) | refine Fa.mk (fun _ => ?_) | refine Im.mk (fun _ => ?_) | apply Lw.go | refine g_cond ?_ | refine g_guard ?_ | refine g_keep ?_ | refine g_pass ?_ | refine g_fin ?_ | (apply g_ap; exact rfl; exact rfl; assumption)
        first | refine at_openP (tab tb (tabS s)) rfl ?_ | refine av_openP (tab tb (tabS s)) rfl ?_
        rintro ⟨⟨⟨pi, ci⟩, ⟨pk, ck⟩⟩, ⟨mw', ma', mr', mt'⟩⟩ -
        dsimp only [List.cons_append, List.nil_append]
        have hts := tabI_sm s _ (Nat.le_refl _)
        rw [tabI_all] at hts
        have hts2 := hts.k
        have hsl2 := setL_le (tabS s).keys
        repeat' first | apply step | (apply g_op; · repeat first | exact Evs.nil | (apply Evs.cons; exact rfl)) | (refine Br.mk (fun _ => ?_) (fun _ => ?_) <;> try (exfalso; omega)) | (refine Sd.mk ?_ ?_; · ((repeat' apply And.intro) <;> first | omega | trivial | assumption | (simp; done) | (simp; omega))) | (refine Sx.mk ?_ ?_; · omega) | refine Fa.mk (fun _ => ?_) | refine Im.mk (fun _ => ?_) | apply Lw.go | refine g_cond ?_ | refine g_guard ?_ | refine g_keep ?_ | refine g_pass ?_ | refine g_fin ?_ | (apply g_ap; exact rfl; exact rfl; assumption)
        refine at_callR (sorted_Of_int_spec (l := (tabS s).keys) (by omega)) ?_
        intro p2 c2
        repeat' first | apply step | (apply g_op; · repeat first | exact Evs.nil | (apply Evs.cons; exact rfl)) | (refine Br.mk (fun _ => ?_) (fun _ => ?_) <;> try (exfalso; omega)) | (refine Sd.mk ?_ ?_; · ((repeat' apply And.intro) <;> first | omega | trivial | assumption | (simp; done) | (simp; omega))) | (refine Sx.mk ?_ ?_; · omega) | refine Fa.mk (fun _ => ?_) | refine Im.mk (fun _ => ?_) | apply Lw.go | refine g_cond ?_ | refine g_guard ?_ | refine g_keep ?_ | refine g_pass ?_ | refine g_fin ?_ | (apply g_ap; exact rfl; exact rfl; assumption)
        refine at_callR (sorted_Set_int_List_spec (l := setL (tabS s).keys) (by omega)) ?_
        intro p3 c3
        repeat' first | apply step | (apply g_op; · repeat first | exact Evs.nil | (apply Evs.cons; exact rfl)) | (refine Br.mk (fun _ => ?_) (fun _ => ?_) <;> try (exfalso; omega)) | (refine Sd.mk ?_ ?_; · ((repeat' apply And.intro) <;> first | omega | trivial | assumption | (simp; done) | (simp; omega))) | (refine Sx.mk ?_ ?_; · omega) | refine Fa.mk (fun _ => ?_) | refine Im.mk (fun _ => ?_) | apply Lw.go | refine g_cond ?_ | refine g_guard ?_ | refine g_keep ?_ | refine g_pass ?_ | refine g_fin ?_ | (apply g_ap; exact rfl; exact rfl; assumption)
        refine fin_foldP (tab tb (tabS s).fin) rfl (((pi, ci), (p3, c3)), (mw', ma', mr', mt')) trivial ?_
        exact fin (hR2 tb)
  · repeat' first | apply step | (apply g_op; · repeat first | exact Evs.nil | (apply Evs.cons; exact rfl)) | (refine Br.mk (fun _ => ?_) (fun _ => ?_) <;> try (exfalso; omega)) | (refine Sd.mk ?_ ?_; · ((repeat' apply And.intro) <;> first | omega | trivial | assumption | (simp; done) | (simp; omega))) | (refine Sx.mk ?_ ?_; · omega) | refine Fa.mk (fun _ => ?_) | refine Im.mk (fun _ => ?_) | apply Lw.go | refine g_cond ?_ | refine g_guard ?_ | refine g_keep ?_ | refine g_pass ?_ | refine g_fin ?_ | (apply g_ap; exact rfl; exact rfl; assumption)
    exact fin (hR.1 hc)
end
end Go.AMS

namespace Go.AMS
open Go.AM hiding Kt At WP WL Runs RunsY
open Go.AM.G
set_option linter.unusedVariables false
set_option linter.unusedSimpArgs false
set_option linter.unusedSectionVars false
set_option maxRecDepth 100000
set_option maxHeartbeats 1000000
attribute [local irreducible] AtS AtV AtC AtG FinA Spec Post LP G.At G.WP G.WL pt own fro rdl ro hx mp lrec elt sub

open Go.AM.G.Set
section
variable {b : Nat} {T : Tb} {p q : Option Addr} {c d : Nat}
theorem table_Table_is_spec {m : Bool} {a1 a2 a3 a4 a5 a6 : Value} : Spec prog1 n_table_Table_is [.pointer (some ⟨b, 0, none⟩)] [ro (pt b [.bool m, a1, a2, a3, a4, a5, a6] 0)] (fun R => R (.bool m) []) := by
  refine spec_code c_table_Table_is rfl ?_; intro n F R hR; unfold F_table_Table_is
  repeat' first | apply step | (apply g_op; · repeat first | exact Evs.nil | (apply Evs.cons; exact rfl)) | (refine Br.mk (fun _ => ?_) (fun _ => ?_) <;> try (exfalso; omega)) | (refine Sd.mk ?_ ?_; · ((repeat' apply And.intro) <;> first | omega | trivial | assumption | (simp; done) | (simp; omega))) | (refine Sx.mk ?_ ?_; · omega) | refine Fa.mk (fun _ => ?_) | refine Im.mk (fun _ => ?_) | apply Lw.go | refine g_cond ?_ | refine g_guard ?_ | refine g_keep ?_ | refine g_pass ?_ | refine g_fin ?_ | (apply g_ap; exact rfl; exact rfl; assumption)
  all_goals exact fin hR
theorem table_goes_table_Write_spec {k : Nat} : Spec prog1 n_table_goes_table_Write [.slice p k c] [] (fun R => ∀ x, R (.func (.func n_table_goes_table_Write_c1) #[] #[.pointer (some ⟨x, 0, none⟩)]) [pt x [.slice p k c] 0]) := by
  refine spec_code c_table_goes_table_Write rfl ?_; intro n F R hR; unfold F_table_goes_table_Write
  repeat' first | apply step | (apply g_op; · repeat first | exact Evs.nil | (apply Evs.cons; exact rfl)) | (refine Br.mk (fun _ => ?_) (fun _ => ?_) <;> try (exfalso; omega)) | (refine Sd.mk ?_ ?_; · ((repeat' apply And.intro) <;> first | omega | trivial | assumption | (simp; done) | (simp; omega))) | (refine Sx.mk ?_ ?_; · omega) | refine Fa.mk (fun _ => ?_) | refine Im.mk (fun _ => ?_) | apply Lw.go | refine g_cond ?_ | refine g_guard ?_ | refine g_keep ?_ | refine g_pass ?_ | refine g_fin ?_ | (apply g_ap; exact rfl; exact rfl; assumption)
  exact fin (hR _)
def vaWrite (w : Unit) : Option HWr → List Value
  | some r => [.agg #[.int .i64 r.txn, .int .i64 r.op, .int .i64 r.key, .int .i64 r.value, .bool r.ab]]
  | none => [.bool true]
def paWrite (w : Unit) : Option HWr → List HP
  | some r => []
  | none => []
theorem table_goes_table_Write_c1_spec {l : List HWr} {x ly : Nat} {A : Nat → HP} {B : AX → HP} (hl : l.length ≤ 1000000000) (hy : ∀ i, i < l.length → ∀ w : Unit, YSpec prog1 ly (vaWrite w l[i]?) (A i :: paWrite w l[i]?) (fun R => R (.bool true) [A (i + 1)] ∧ ∀ x, x ≠ .norm → R (.bool false) [B x])) :
    Spec prog1 n_table_goes_table_Write_c1 [.func (.yield ly) #[] #[], .pointer (some ⟨x, 0, none⟩)] [A 0, pt x [.slice p l.length c] 0, fro kHWr p c l] (fun R => (∀ v, R v [A l.length]) ∧ ∀ x v, x ≠ .norm → R v [B x]) := by
  refine spec_code c_table_goes_table_Write_c1 rfl ?_; intro n F R hR; unfold F_table_goes_table_Write_c1
  repeat' first | apply step | (apply g_op; · repeat first | exact Evs.nil | (apply Evs.cons; exact rfl)) | (refine Br.mk (fun _ => ?_) (fun _ => ?_) <;> try (exfalso; omega)) | (refine Sd.mk ?_ ?_; · ((repeat' apply And.intro) <;> first | omega | trivial | assumption | (simp; done) | (simp; omega))) | (refine Sx.mk ?_ ?_; · omega) | refine Fa.mk (fun _ => ?_) | refine Im.mk (fun _ => ?_) | apply Lw.go | refine g_cond ?_ | refine g_guard ?_ | refine g_keep ?_ | refine g_pass ?_ | refine g_fin ?_ | (apply g_ap; exact rfl; exact rfl; assumption)
  refine at_loopS (ι := Nat) (E := fun j => [(0, .func (.yield ly) #[] #[]), (5, .slice p l.length c), (6, .int .i64 (l.length : Int)), (7, .int .i64 (j : Int))]) (Δ := fun j => A j :: fro kHWr p c l :: F) (P := fun j => j ≤ l.length) (μ := fun j => l.length - j) 0 (Nat.zero_le _) ?_
  rintro j hj
  try dsimp only
  rcases Nat.lt_or_ge j l.length with hlt | hge
  · have hyj := hy j hlt
    rw [List.getElem?_eq_getElem hlt] at hyj
    repeat' first | apply step | (apply g_op; · repeat first | exact Evs.nil | (apply Evs.cons; exact rfl)) | (refine Br.mk (fun _ => ?_) (fun _ => ?_) <;> try (exfalso; omega)) | (refine Sd.mk ?_ ?_; · ((repeat' apply And.intro) <;> first | omega | trivial | assumption | (simp; done) | (simp; omega))) | (refine Sx.mk ?_ ?_; · omega) | refine Fa.mk (fun _ => ?_) | refine Im.mk (fun _ => ?_) | apply Lw.go | refine g_cond ?_ | refine g_guard ?_ | refine g_keep ?_ | refine g_pass ?_ | refine g_fin ?_ | (apply g_ap; exact rfl; exact rfl; assumption)
    rename_i w _ _
    refine at_callY (hyj ()) ⟨?_, fun x hx => ?_⟩
    · repeat' first | apply step | (apply g_op; · repeat first | exact Evs.nil | (apply Evs.cons; exact rfl)) | (refine Br.mk (fun _ => ?_) (fun _ => ?_) <;> try (exfalso; omega)) | (refine Sd.mk ?_ ?_; · ((repeat' apply And.intro) <;> first | omega | trivial | assumption | (simp; done) | (simp; omega))) | (refine Sx.mk ?_ ?_; · omega) | refine Fa.mk (fun _ => ?_) | refine Im.mk (fun _ => ?_) | apply Lw.go | refine g_cond ?_ | refine g_guard ?_ | refine g_keep ?_ | refine g_pass ?_ | refine g_fin ?_ | (apply g_ap; exact rfl; exact rfl; assumption)
      exact lp_next (j + 1) (by omega) (by omega)
    · repeat' first | apply step | (apply g_op; · repeat first | exact Evs.nil | (apply Evs.cons; exact rfl)) | (refine Br.mk (fun _ => ?_) (fun _ => ?_) <;> try (exfalso; omega)) | (refine Sd.mk ?_ ?_; · ((repeat' apply And.intro) <;> first | omega | trivial | assumption | (simp; done) | (simp; omega))) | (refine Sx.mk ?_ ?_; · omega) | refine Fa.mk (fun _ => ?_) | refine Im.mk (fun _ => ?_) | apply Lw.go | refine g_cond ?_ | refine g_guard ?_ | refine g_keep ?_ | refine g_pass ?_ | refine g_fin ?_ | (apply g_ap; exact rfl; exact rfl; assumption)
      exact fin (hR.2 x _ hx)
  · have : j = l.length := by omega
    subst this
    repeat' first | apply step | (apply g_op; · repeat first | exact Evs.nil | (apply Evs.cons; exact rfl)) | (refine Br.mk (fun _ => ?_) (fun _ => ?_) <;> try (exfalso; omega)) | (refine Sd.mk ?_ ?_; · ((repeat' apply And.intro) <;> first | omega | trivial | assumption | (simp; done) | (simp; omega))) | (refine Sx.mk ?_ ?_; · omega) | refine Fa.mk (fun _ => ?_) | refine Im.mk (fun _ => ?_) | apply Lw.go | refine g_cond ?_ | refine g_guard ?_ | refine g_keep ?_ | refine g_pass ?_ | refine g_fin ?_ | (apply g_ap; exact rfl; exact rfl; assumption)
    exact fin (hR.1 _)
end
end Go.AMS

namespace Go.AMS
open Go.AM hiding Kt At WP WL Runs RunsY
open Go.AM.G
set_option linter.unusedVariables false
set_option linter.unusedSectionVars false
set_option linter.unusedSimpArgs false
section
variable {prog : AProg} {rr : Option Nat} {e : Env} {Q : Pst} {k : List Kt} {x y : Operand} {n : Nat} {Γ : List HP} {d bar : Bool} {r : List AI} {t : Nat} {p q : Int}
theorem wrapU64 (h : 0 ≤ p ∧ p ≤ 18446744073709551615) : IntKind.u64.wrap p = p := by
  unfold IntKind.wrap
  simp only [IntKind.signed, IntKind.bits, Bool.false_eq_true, if_false]
  show p % 18446744073709551616 = p
  omega
instance v_convU64 {ki : IntKind} : Step (AtV n prog rr d bar (some t) (.conv .u64 x) [.int ki p] r k e Γ Q) (Sd (0 ≤ p ∧ p ≤ 18446744073709551615) (AtS n prog rr (.o d r :: k) .norm ((t, .int .u64 p) :: e) Γ Q)) := ⟨fun w hE => go1 (fun h _ m => by simp only [aop, hE.a, wrapU64 w.c]) w.a⟩
theorem b_shr1 {i : Nat} : binV .shr (.int .u64 (i : Int)) (.int .u64 1) = some (.int .u64 ((i / 2 : Nat) : Int)) := by
  rw [b_shr, if_neg (by omega)]
  simp only [IntKind.bits]
  rw [show Nat.min (1 : Int).toNat 64 = 1 from rfl, show (2 : Int) ^ 1 = ((2 : Nat) : Int) by decide, Int.fdiv_eq_ediv_of_nonneg _ (Int.natCast_nonneg _), ← Int.natCast_ediv]
instance v_shr1 {i : Nat} : Step (AtV n prog rr d bar (some t) (.bin .shr x y) [.int .u64 (i : Int), .int .u64 1] r k e Γ Q) (AtS n prog rr (.o d r :: k) .norm ((t, .int .u64 ((i / 2 : Nat) : Int)) :: e) Γ Q) := ⟨fun w hE => bin1 hE b_shr1 w⟩
end
end Go.AMS

namespace Go.AMS
open Go.AM hiding Kt At WP WL Runs RunsY
open Go.AM.G
set_option linter.unusedVariables false
set_option linter.unusedSimpArgs false
set_option linter.unusedSectionVars false
set_option maxRecDepth 100000
set_option maxHeartbeats 1000000
attribute [local irreducible] AtS AtV AtC AtG FinA Spec Post LP G.At G.WP G.WL pt own fro rdl ro hx mp lrec elt sub

open Go.AM.G.Set
section
variable {b : Nat} {T : Tb} {p q : Option Addr} {c d : Nat}
theorem table_Table_Writes_spec {y : Int} : Spec prog1 n_table_Table_Writes [.pointer (some ⟨b, 0, none⟩), .int .i64 y] [tab b T] (fun R => ∀ x p' c', R (.func (.func n_table_goes_table_Write_c1) #[] #[.pointer (some ⟨x, 0, none⟩)]) [pt x [.slice p' (agl y T.wt).length c'] 0, own kHWr p' c' (agl y T.wt)]) := by
  refine spec_code c_table_Table_Writes rfl ?_; intro n F R hR; unfold F_table_Table_Writes
  first | refine at_openP (tab b T) rfl ?_ | refine av_openP (tab b T) rfl ?_
  rintro ⟨⟨⟨pi, ci⟩, ⟨pk, ck⟩⟩, ⟨mw, ma, mr, mt⟩⟩ -
  dsimp only [List.cons_append, List.nil_append]
  first | refine at_openP (mapL mt kI kHWr T.wt) rfl ?_ | refine av_openP (mapL mt kI kHWr T.wt) rfl ?_
  rintro Z hZ
  dsimp only [List.cons_append, List.nil_append]
  have hal := atE_agl (k := y) hZ
  repeat' first | apply step | (apply g_op; · repeat first | exact Evs.nil | (apply Evs.cons; exact rfl)) | (refine Br.mk (fun _ => ?_) (fun _ => ?_) <;> try (exfalso; omega)) | (refine Sd.mk ?_ ?_; · ((repeat' apply And.intro) <;> first | omega | trivial | assumption | (simp; done) | (simp; omega))) | (refine Sx.mk ?_ ?_; · omega) | refine Fa.mk (fun _ => ?_) | refine Im.mk (fun _ => ?_) | apply Lw.go | refine g_cond ?_ | refine g_guard ?_ | refine g_keep ?_ | refine g_pass ?_ | refine g_fin ?_ | (apply g_ap; exact rfl; exact rfl; assumption)
  first | refine at_callS (table_Table_is_spec) ?_ | refine at_callR (table_Table_is_spec) ?_
  repeat' first | apply step | (apply g_op; · repeat first | exact Evs.nil | (apply Evs.cons; exact rfl)) | (refine Br.mk (fun _ => ?_) (fun _ => ?_) <;> try (exfalso; omega)) | (refine Sd.mk ?_ ?_; · ((repeat' apply And.intro) <;> first | omega | trivial | assumption | (simp; done) | (simp; omega))) | (refine Sx.mk ?_ ?_; · omega) | refine Fa.mk (fun _ => ?_) | refine Im.mk (fun _ => ?_) | apply Lw.go | refine g_cond ?_ | refine g_guard ?_ | refine g_keep ?_ | refine g_pass ?_ | refine g_fin ?_ | (apply g_ap; exact rfl; exact rfl; assumption)
  refine av_atE (enc := kI) (k := y) inferInstance ?_
  refine at_via (takeE (K := kHWr) (k := y) (Z := Z)) ?_
  rw [hal]
  repeat' first | apply step | (apply g_op; · repeat first | exact Evs.nil | (apply Evs.cons; exact rfl)) | (refine Br.mk (fun _ => ?_) (fun _ => ?_) <;> try (exfalso; omega)) | (refine Sd.mk ?_ ?_; · ((repeat' apply And.intro) <;> first | omega | trivial | assumption | (simp; done) | (simp; omega))) | (refine Sx.mk ?_ ?_; · omega) | refine Fa.mk (fun _ => ?_) | refine Im.mk (fun _ => ?_) | apply Lw.go | refine g_cond ?_ | refine g_guard ?_ | refine g_keep ?_ | refine g_pass ?_ | refine g_fin ?_ | (apply g_ap; exact rfl; exact rfl; assumption)
  first | refine at_callS (table_goes_table_Write_spec) ?_ | refine at_callR (table_goes_table_Write_spec) ?_
  intro x
  repeat' first | apply step | (apply g_op; · repeat first | exact Evs.nil | (apply Evs.cons; exact rfl)) | (refine Br.mk (fun _ => ?_) (fun _ => ?_) <;> try (exfalso; omega)) | (refine Sd.mk ?_ ?_; · ((repeat' apply And.intro) <;> first | omega | trivial | assumption | (simp; done) | (simp; omega))) | (refine Sx.mk ?_ ?_; · omega) | refine Fa.mk (fun _ => ?_) | refine Im.mk (fun _ => ?_) | apply Lw.go | refine g_cond ?_ | refine g_guard ?_ | refine g_keep ?_ | refine g_pass ?_ | refine g_fin ?_ | (apply g_ap; exact rfl; exact rfl; assumption)
  exact fin (hR _ _ _)
end
end Go.AMS

namespace Go.AMS
open Go.AM hiding Kt At WP WL Runs RunsY
open Go.AM.G
set_option linter.unusedVariables false
set_option linter.unusedSimpArgs false
set_option linter.unusedSectionVars false
set_option maxRecDepth 100000
set_option maxHeartbeats 1000000
attribute [local irreducible] AtS AtV AtC AtG FinA Spec Post LP G.At G.WP G.WL pt own fro rdl ro hx mp lrec elt sub

open Go.AM.G.Set
def aheadL (ops : List HOp) (key : Int) (n : Nat) : List Int := ((ops.take n).filter fun o => !o.read && decide (o.key = key)).map HOp.value
theorem aheadL_len (ops : List HOp) (key : Int) (n : Nat) : (aheadL ops key n).length ≤ ops.length := by
  unfold aheadL
  rw [List.length_map]
  exact Nat.le_trans (List.length_filter_le _ _) (by simp; omega)
def txnOf (h : List HTx) (x : Int) : HTx := (h.find? fun t => decide (t.id = x)).getD ⟨x, false, []⟩
theorem txnOf_at {h : List HTx} {x : Int} {j : Nat} (hj : j < h.length) (h1 : ∀ i (q : i < h.length), i < j → h[i].id ≠ x) (h2 : h[j].id = x) : txnOf h x = h[j] := by
  unfold txnOf
  have : h.find? (fun t => decide (t.id = x)) = some h[j] := by
    rw [List.find?_eq_some_iff_getElem]
    exact ⟨by simpa using h2, j, hj, rfl, fun i hi => by simpa using h1 i (by omega) hi⟩
  rw [this]; rfl
theorem txnOf_no {h : List HTx} {x : Int} (h1 : ∀ i (q : i < h.length), h[i].id ≠ x) : txnOf h x = ⟨x, false, []⟩ := by
  unfold txnOf
  have : h.find? (fun t => decide (t.id = x)) = none := by
    rw [List.find?_eq_none]
    intro t ht
    obtain ⟨i, hi, e⟩ := List.mem_iff_getElem.1 ht
    rw [← e]; simpa using h1 i hi
  rw [this]; rfl
section
variable {h : List HTx} {p q : Option Addr} {c d : Nat}
theorem r12_IDs_spec (hf : FewH h 20 60) : Spec prog1 n_r12_IDs [.agg #[.slice p h.length c]] [fro kHTx p c h] (fun R => ∀ p' c', R (.slice p' (setL (comm h)).length c') [own (kInt .i64) p' c' (setL (comm h))]) := by
  refine spec_code c_r12_IDs rfl ?_; intro n F R hR; unfold F_r12_IDs
  have hh := hf.t
  repeat' first | apply step | (apply g_op; · repeat first | exact Evs.nil | (apply Evs.cons; exact rfl)) | (refine Br.mk (fun _ => ?_) (fun _ => ?_) <;> try (exfalso; omega)) | (refine Sd.mk ?_ ?_; · ((repeat' apply And.intro) <;> first | omega | trivial | assumption | (simp; done) | (simp; omega))) | (refine Sx.mk ?_ ?_; · omega) | refine Fa.mk (fun _ => ?_) | refine Im.mk (fun _ => ?_) | apply Lw.go | refine g_cond ?_ | refine g_guard ?_ | refine g_keep ?_ | refine g_pass ?_ | refine g_fin ?_ | (apply g_ap; exact rfl; exact rfl; assumption)
  rename_i tb
  refine at_loopS (ι := Nat × (Option Addr × Nat)) (E := fun w => [(1, .pointer (some ⟨tb, 0, none⟩)), (3, .slice w.2.1 (comm (h.take w.1)).length w.2.2), (4, .int .i64 (w.1 : Int))]) (Δ := fun w => own (kInt .i64) w.2.1 w.2.2 (comm (h.take w.1)) :: pt tb [.slice p h.length c] 0 :: fro kHTx p c h :: F) (P := fun w => w.1 ≤ h.length) (μ := fun w => h.length - w.1) (0, (none, 0)) (Nat.zero_le _) ?_
  rintro ⟨j, p1, c1⟩ hj
  dsimp only at hj ⊢
  have hcl := comm_le (h.take j)
  have hst : (h.take j).length ≤ j := List.length_take_le _ _
  rcases Nat.lt_or_ge j h.length with hlt | hge
  · have hct := comm_take hlt
    cases hab : h[j].ab
    · rw [hab] at hct
      repeat' first | rw [hab] | apply step | (apply g_op; · repeat first | exact Evs.nil | (apply Evs.cons; exact rfl)) | (refine Br.mk (fun _ => ?_) (fun _ => ?_) <;> try (exfalso; omega)) | (refine Sd.mk ?_ ?_; · ((repeat' apply And.intro) <;> first | omega | trivial | assumption | (simp; done) | (simp; omega))) | (refine Sx.mk ?_ ?_; · omega) | refine Fa.mk (fun _ => ?_) | refine Im.mk (fun _ => ?_) | apply Lw.go | refine g_cond ?_ | refine g_guard ?_ | refine g_keep ?_ | refine g_pass ?_ | refine g_fin ?_ | (apply g_ap; exact rfl; exact rfl; assumption)
      exact lp_next (j + 1, _, _) (by dsimp only; omega) (by dsimp only; omega) (by dsimp only; rw [hct]; rfl) (by dsimp only; rw [hct]; repeat first | exact Ent.refl _ | (apply Ent.more; · repeat first | exact Ent.keep | exact Ent.here | exact Ent.lend | exact ent_nil | apply Ent.there) | apply Ent.drop)
    · rw [hab] at hct
      have hct2 : comm (h.take (j + 1)) = comm (h.take j) := by rw [hct]; simp
      repeat' first | rw [hab] | apply step | (apply g_op; · repeat first | exact Evs.nil | (apply Evs.cons; exact rfl)) | (refine Br.mk (fun _ => ?_) (fun _ => ?_) <;> try (exfalso; omega)) | (refine Sd.mk ?_ ?_; · ((repeat' apply And.intro) <;> first | omega | trivial | assumption | (simp; done) | (simp; omega))) | (refine Sx.mk ?_ ?_; · omega) | refine Fa.mk (fun _ => ?_) | refine Im.mk (fun _ => ?_) | apply Lw.go | refine g_cond ?_ | refine g_guard ?_ | refine g_keep ?_ | refine g_pass ?_ | refine g_fin ?_ | (apply g_ap; exact rfl; exact rfl; assumption)
      exact lp_next (j + 1, _, _) (by dsimp only; omega) (by dsimp only; omega) (by dsimp only; rw [hct2]) (by dsimp only; rw [hct2]; repeat first | exact Ent.refl _ | (apply Ent.more; · repeat first | exact Ent.keep | exact Ent.here | exact Ent.lend | exact ent_nil | apply Ent.there) | apply Ent.drop)
  · have e : h.take j = h := List.take_of_length_le hge
    rw [e] at hcl ⊢
    repeat' first | apply step | (apply g_op; · repeat first | exact Evs.nil | (apply Evs.cons; exact rfl)) | (refine Br.mk (fun _ => ?_) (fun _ => ?_) <;> try (exfalso; omega)) | (refine Sd.mk ?_ ?_; · ((repeat' apply And.intro) <;> first | omega | trivial | assumption | (simp; done) | (simp; omega))) | (refine Sx.mk ?_ ?_; · omega) | refine Fa.mk (fun _ => ?_) | refine Im.mk (fun _ => ?_) | apply Lw.go | refine g_cond ?_ | refine g_guard ?_ | refine g_keep ?_ | refine g_pass ?_ | refine g_fin ?_ | (apply g_ap; exact rfl; exact rfl; assumption)
    refine at_callR (r05_Of_spec (l := comm h) (by omega)) ?_
    intro p2 c2
    repeat' first | apply step | (apply g_op; · repeat first | exact Evs.nil | (apply Evs.cons; exact rfl)) | (refine Br.mk (fun _ => ?_) (fun _ => ?_) <;> try (exfalso; omega)) | (refine Sd.mk ?_ ?_; · ((repeat' apply And.intro) <;> first | omega | trivial | assumption | (simp; done) | (simp; omega))) | (refine Sx.mk ?_ ?_; · omega) | refine Fa.mk (fun _ => ?_) | refine Im.mk (fun _ => ?_) | apply Lw.go | refine g_cond ?_ | refine g_guard ?_ | refine g_keep ?_ | refine g_pass ?_ | refine g_fin ?_ | (apply g_ap; exact rfl; exact rfl; assumption)
    exact fin (hR p2 c2)
theorem r12_txn_spec {x : Int} (hh : h.length ≤ 1000) : Spec prog1 n_r12_txn [.agg #[.slice p h.length c], .int .i64 x] [fro kHTx p c h] (fun R => ∀ w : Option Addr × Nat, R (.agg #[.int .i64 (txnOf h x).id, .bool (txnOf h x).ab, .slice w.1 (txnOf h x).ops.length w.2]) [fro kHOp w.1 w.2 (txnOf h x).ops]) := by
  refine spec_code c_r12_txn rfl ?_; intro n F R hR; unfold F_r12_txn
  repeat' first | apply step | (apply g_op; · repeat first | exact Evs.nil | (apply Evs.cons; exact rfl)) | (refine Br.mk (fun _ => ?_) (fun _ => ?_) <;> try (exfalso; omega)) | (refine Sd.mk ?_ ?_; · ((repeat' apply And.intro) <;> first | omega | trivial | assumption | (simp; done) | (simp; omega))) | (refine Sx.mk ?_ ?_; · omega) | refine Fa.mk (fun _ => ?_) | refine Im.mk (fun _ => ?_) | apply Lw.go | refine g_cond ?_ | refine g_guard ?_ | refine g_keep ?_ | refine g_pass ?_ | refine g_fin ?_ | (apply g_ap; exact rfl; exact rfl; assumption)
  rename_i rb tb
  refine at_loopS (ι := Nat) (E := fun j => [(1, .int .i64 x), (2, .pointer (some ⟨rb, 0, none⟩)), (4, .pointer (some ⟨tb, 0, none⟩)), (5, .int .i64 (j : Int))]) (Δ := fun j => pt tb [.int .i64 0, .bool false, .slice none 0 0] 0 :: pt rb [.slice p h.length c] 0 :: fro kHTx p c h :: F) (P := fun j => j ≤ h.length ∧ ∀ i (q : i < h.length), i < j → h[i].id ≠ x) (μ := fun j => h.length - j) 0 ⟨Nat.zero_le _, fun i q r => by omega⟩ ?_
  rintro j ⟨hj, hn⟩
  try dsimp only
  repeat' first | apply step | (apply g_op; · repeat first | exact Evs.nil | (apply Evs.cons; exact rfl)) | (refine Br.mk (fun _ => ?_) (fun _ => ?_) <;> try (exfalso; omega)) | (refine Sd.mk ?_ ?_; · ((repeat' apply And.intro) <;> first | omega | trivial | assumption | (simp; done) | (simp; omega))) | (refine Sx.mk ?_ ?_; · omega) | refine Fa.mk (fun _ => ?_) | refine Im.mk (fun _ => ?_) | apply Lw.go | refine g_cond ?_ | refine g_guard ?_ | refine g_keep ?_ | refine g_pass ?_ | refine g_fin ?_ | (apply g_ap; exact rfl; exact rfl; assumption)
  · rename_i he w _
    rw [txnOf_at (by omega) hn he] at hR
    exact fin (hR w)
  · refine lp_next (j + 1) ⟨by omega, fun i q r => ?_⟩ (by omega)
    rcases Nat.lt_or_ge i j with k | k
    · exact hn i q k
    · have : i = j := by omega
      subst this; assumption
  · rw [txnOf_no (fun i q => hn i q (by omega))] at hR
    refine fin_ent (ent_fnil (K := kHOp)) ?_
    exact fin (hR (none, 0))
theorem txnOf_mem (h : List HTx) (x : Int) : txnOf h x = ⟨x, false, []⟩ ∨ txnOf h x ∈ h := by
  unfold txnOf
  cases e : h.find? (fun t => decide (t.id = x)) with
  | none => exact .inl rfl
  | some t => exact .inr (List.mem_of_find?_eq_some e)
end
end Go.AMS

namespace Go.AMS
open Go.AM hiding Kt At WP WL Runs RunsY
open Go.AM.G
open Go.AM.G.Set
set_option linter.unusedVariables false
set_option linter.unusedSimpArgs false
theorem sort_lt {h : List HTx} (hn : (idsH h).Nodup) : ((sortK HTx.id h).map HTx.id).Pairwise (fun a b => a < b) := by
  have h1 : ((sortK HTx.id h).map HTx.id).Pairwise (fun a b => a ≤ b) := List.pairwise_map.2 (sortK_sorted HTx.id h)
  have h2 : ((sortK HTx.id h).map HTx.id).Nodup := ((sortK_perm HTx.id h).map HTx.id).nodup_iff.2 hn
  exact List.Pairwise.imp₂ (fun a b q r => by omega) h1 h2
theorem mem_comm {s : List HTx} {x : Int} : x ∈ comm s ↔ ∃ t ∈ s, t.ab = false ∧ t.id = x := by
  unfold comm
  simp only [List.mem_map, List.mem_filter, Bool.not_eq_true', and_assoc]
theorem comm_sort {h : List HTx} (hn : (idsH h).Nodup) : setL (comm h) = comm (sortK HTx.id h) := by
  refine strict_unique (setL_lt _) ?_ fun x => ?_
  · unfold comm
    exact (sort_lt hn).sublist (List.filter_sublist.map _)
  · rw [mem_setL, mem_comm, mem_comm]
    simp only [(sortK_perm HTx.id h).mem_iff]
def wtsN (key : Int) (t : HTx) : Nat → List HWr
  | 0 => []
  | j + 1 => wtsN key t j ++ if (t.ops.getD j default).read = false ∧ (t.ops.getD j default).key = key then [⟨t.id, (j : Nat), key, (t.ops.getD j default).value, false⟩] else []
def blockJ (T : Tb) (t : HTx) : Nat → Tb
  | 0 => T
  | j + 1 => (blockJ T t j).one (t, j)
theorem blockJ_eq (T : Tb) (t : HTx) : ∀ j, ((List.range j).map fun i => (t, i)).foldl Tb.one T = blockJ T t j
  | 0 => rfl
  | j + 1 => by rw [List.range_succ, List.map_append, List.foldl_append, blockJ_eq T t j]; rfl
theorem blockJ_wt {T : Tb} {t : HTx} : ∀ j, j ≤ t.ops.length → ∀ key, agl key (blockJ T t j).wt = agl key T.wt ++ if t.ab = true then [] else wtsN key t j
  | 0, _, key => by show agl key T.wt = _; split <;> simp [wtsN]
  | j + 1, h, key => by
    have hj : j < t.ops.length := by omega
    have ih := blockJ_wt (T := T) (t := t) j (by omega) key
    show agl key ((blockJ T t j).one (t, j)).wt = _
    unfold Tb.one
    rw [put_wt]
    simp only [wtsN]
    generalize ho : t.ops.getD j default = o
    show agl key (if ¬ o.read = true ∧ ¬ t.ab = true then adl o.key ⟨t.id, j, o.key, o.value, t.ab⟩ (blockJ T t j).wt else (blockJ T t j).wt) = _
    by_cases hab : t.ab = true
    · rw [if_neg (fun q => q.2 hab), ih, if_pos hab, if_pos hab]
    · rw [if_neg hab] at ih ⊢
      by_cases hr : o.read = true
      · rw [if_neg (fun q => q.1 hr), ih, if_neg (fun q => by rw [hr] at q; cases q.1), List.append_nil]
      · have hr2 : o.read = false := by simpa using hr
        have hab2 : t.ab = false := by simpa using hab
        rw [if_pos ⟨hr, hab⟩, agl_adl, ih, List.append_assoc, hab2]
        by_cases hk : o.key = key
        · rw [if_pos hk.symm, if_pos ⟨hr2, hk⟩, hk]
        · rw [if_neg (fun q => hk q.symm), if_neg (fun q => hk q.2)]
theorem fold_block (t : HTx) (s : List HTx) (T : Tb) : (stepsL (t :: s)).foldl Tb.one T = (stepsL s).foldl Tb.one (blockJ T t t.ops.length) := by
  show (((List.range t.ops.length).map fun i => (t, i)) ++ stepsL s).foldl Tb.one T = _
  rw [List.foldl_append, blockJ_eq]
theorem fold_wt : ∀ (s : List HTx) (T : Tb) (key : Int), agl key ((stepsL s).foldl Tb.one T).wt = agl key T.wt ++ (s.filter fun t => !t.ab).flatMap fun t => wtsN key t t.ops.length
  | [], T, key => by simp [stepsL]
  | t :: s, T, key => by
    rw [fold_block, fold_wt s _ key, blockJ_wt t.ops.length (Nat.le_refl _)]
    cases hab : t.ab <;> simp [hab]
theorem find_nodup : ∀ {h : List HTx}, (h.map HTx.id).Nodup → ∀ {t : HTx}, t ∈ h → h.find? (fun u => decide (u.id = t.id)) = some t
  | [], _, t, ht => by cases ht
  | u :: h, hn, t, ht => by
    rw [List.map_cons, List.nodup_cons] at hn
    rcases List.mem_cons.1 ht with rfl | ht
    · rw [List.find?_cons, decide_eq_true rfl]
    · rw [List.find?_cons, decide_eq_false (fun e => hn.1 (by rw [e]; exact List.mem_map_of_mem ht))]
      exact find_nodup hn.2 ht
theorem txnOf_in {h : List HTx} (hn : (idsH h).Nodup) {t : HTx} (ht : t ∈ h) : txnOf h t.id = t := by
  unfold txnOf; rw [find_nodup hn ht]; rfl
theorem comm_flat {α : Type} (h : List HTx) (hn : (idsH h).Nodup) (f : HTx → List α) : ∀ s : List HTx, (∀ t ∈ s, t ∈ h) → (s.filter fun t => !t.ab).flatMap f = (comm s).flatMap fun x => f (txnOf h x)
  | [], _ => rfl
  | t :: s, hs => by
    have ih := comm_flat h hn f s (fun u hu => hs u (List.mem_cons_of_mem _ hu))
    have ht := txnOf_in hn (hs t List.mem_cons_self)
    unfold comm at ih ⊢
    cases hab : t.ab <;> simp [hab, ih, ht]
theorem wt_sort {h : List HTx} (hn : (idsH h).Nodup) (key : Int) : agl key (tabS (sortK HTx.id h)).fin.wt = (setL (comm h)).flatMap fun x => wtsN key (txnOf h x) (txnOf h x).ops.length := by
  show agl key ((stepsL (sortK HTx.id h)).foldl Tb.one (T0 _)).wt = _
  rw [fold_wt, comm_sort hn, comm_flat h hn (fun t => wtsN key t t.ops.length) _ (fun t ht => (sortK_perm HTx.id h).mem_iff.1 ht)]
  rfl
end Go.AMS

namespace Go.AMS
open Go.AM hiding Kt At WP WL Runs RunsY
open Go.AM.G
set_option linter.unusedVariables false
set_option linter.unusedSimpArgs false
set_option linter.unusedSectionVars false
set_option maxRecDepth 100000
set_option maxHeartbeats 1000000
attribute [local irreducible] AtS AtV AtC AtG FinA Spec Post LP G.At G.WP G.WL pt own fro rdl ro hx mp lrec elt sub

section
theorem l12_works_spec : Spec prog1 n_l12_works [] [] (fun R => R (.bool true) []) := closed_spec c_l12_works
end
end Go.AMS

namespace Go.AMS
open Go.AM hiding Kt At WP WL Runs RunsY
open Go.AM.G
set_option linter.unusedVariables false
set_option linter.unusedSimpArgs false
set_option linter.unusedSectionVars false
set_option maxRecDepth 100000
set_option maxHeartbeats 1000000
attribute [local irreducible] AtS AtV AtC AtG FinA Spec Post LP G.At G.WP G.WL pt own fro rdl ro hx mp lrec elt sub

open Go.AM.G.Set
section
variable {h : List HTx} {p q : Option Addr} {c d : Nat}
def outW (h : List HTx) (key : Int) (l : List Int) : List HWr := l.flatMap fun x => wtsN key (txnOf h x) (txnOf h x).ops.length
theorem wtsN_len (key : Int) (t : HTx) : ∀ n, (wtsN key t n).length ≤ n
  | 0 => Nat.le_refl _
  | n + 1 => by
    have := wtsN_len key t n
    simp only [wtsN, List.length_append]
    split <;> simp <;> omega
theorem txnOf_ok (hf : FewH h 20 60) (hm : ∀ t ∈ h, mayN t.id ∧ ∀ o ∈ t.ops, mayO o) (x : Int) (hx : mayN x) : mayN (txnOf h x).id ∧ (txnOf h x).ops.length ≤ 60 ∧ (∀ o ∈ (txnOf h x).ops, mayO o) ∧ ∀ o ∈ (txnOf h x).ops, o.list.length ≤ 100 := by
  rcases txnOf_mem h x with e | e
  · rw [e]; exact ⟨hx, by simp, by simp, by simp⟩
  · exact ⟨(hm _ e).1, Nat.le_trans (opsN_mem e) hf.o, (hm _ e).2, hf.l _ e⟩
theorem outW_next {key : Int} {l : List Int} {k : Nat} (hk : k < l.length) : outW h key (l.take (k + 1)) = outW h key (l.take k) ++ wtsN key (txnOf h l[k]) (txnOf h l[k]).ops.length := by
  unfold outW
  rw [List.take_succ_eq_append_getElem hk, List.flatMap_append]; simp
theorem mem_ids_may (hm : ∀ t ∈ h, mayN t.id ∧ ∀ o ∈ t.ops, mayO o) {x : Int} (hx : x ∈ setL (comm h)) : mayN x := by
  rw [mem_setL, mem_comm] at hx
  obtain ⟨t, ht, _, e⟩ := hx
  rw [← e]; exact (hm t ht).1
theorem r12_Writes_spec {key : Int} (hf : FewH h 20 60) (hm : ∀ t ∈ h, mayN t.id ∧ ∀ o ∈ t.ops, mayO o) : Spec prog1 n_r12_Writes [.agg #[.slice p h.length c], .int .i64 key] [fro kHTx p c h] (fun R => ∀ p' c', R (.slice p' (outW h key (setL (comm h))).length c') [own kHWr p' c' (outW h key (setL (comm h)))]) := by
  refine spec_code c_r12_Writes rfl ?_; intro n F R hR; unfold F_r12_Writes
  have hh := hf.t
  have hcl := comm_le h
  have hsl := setL_le (comm h)
  have hmay := fun x (hx : x ∈ setL (comm h)) => mem_ids_may hm hx
  repeat' first | apply step | (apply g_op; · repeat first | exact Evs.nil | (apply Evs.cons; exact rfl)) | (refine Br.mk (fun _ => ?_) (fun _ => ?_) <;> try (exfalso; omega)) | (refine Sd.mk ?_ ?_; · ((repeat' apply And.intro) <;> first | omega | trivial | assumption | (simp; done) | (simp; omega))) | (refine Sx.mk ?_ ?_; · omega) | refine Fa.mk (fun _ => ?_) | refine Im.mk (fun _ => ?_) | apply Lw.go | refine g_cond ?_ | refine g_guard ?_ | refine g_keep ?_ | refine g_pass ?_ | refine g_fin ?_ | (apply g_ap; exact rfl; exact rfl; assumption)
  first | refine at_callS (r12_IDs_spec hf) ?_ | refine at_callR (r12_IDs_spec hf) ?_
  intro p1 c1
  generalize setL (comm h) = l at hR hsl hmay ⊢
  repeat' first | apply step | (apply g_op; · repeat first | exact Evs.nil | (apply Evs.cons; exact rfl)) | (refine Br.mk (fun _ => ?_) (fun _ => ?_) <;> try (exfalso; omega)) | (refine Sd.mk ?_ ?_; · ((repeat' apply And.intro) <;> first | omega | trivial | assumption | (simp; done) | (simp; omega))) | (refine Sx.mk ?_ ?_; · omega) | refine Fa.mk (fun _ => ?_) | refine Im.mk (fun _ => ?_) | apply Lw.go | refine g_cond ?_ | refine g_guard ?_ | refine g_keep ?_ | refine g_pass ?_ | refine g_fin ?_ | (apply g_ap; exact rfl; exact rfl; assumption)
  rename_i rb
  refine at_loopS (ι := Nat × (Option Addr × Nat)) (E := fun z => [(1, .int .i64 key), (2, .pointer (some ⟨rb, 0, none⟩)), (5, .slice z.2.1 (outW h key (l.take z.1)).length z.2.2), (6, .slice p1 l.length c1), (7, .int .i64 (z.1 : Int))]) (Δ := fun z => own kHWr z.2.1 z.2.2 (outW h key (l.take z.1)) :: own (kInt .i64) p1 c1 l :: pt rb [.slice p h.length c] 0 :: fro kHTx p c h :: F) (P := fun z => z.1 ≤ l.length ∧ (outW h key (l.take z.1)).length ≤ z.1 * 60) (μ := fun z => l.length - z.1) (0, (none, 0)) ⟨Nat.zero_le _, by simp [outW]⟩ ?_
  rintro ⟨k, p2, c2⟩ ⟨hk, hol⟩
  dsimp only at hk hol ⊢
  rcases Nat.lt_or_ge k l.length with hlt | hge
  · obtain ⟨g1, g2, g3, g4⟩ := txnOf_ok hf hm l[k] (hmay _ (List.getElem_mem _))
    have hnx := outW_next (h := h) (key := key) hlt
    have hid1 := g1.1
    have hid2 := g1.2
    repeat' first | apply step | (apply g_op; · repeat first | exact Evs.nil | (apply Evs.cons; exact rfl)) | (refine Br.mk (fun _ => ?_) (fun _ => ?_) <;> try (exfalso; omega)) | (refine Sd.mk ?_ ?_; · ((repeat' apply And.intro) <;> first | omega | trivial | assumption | (simp; done) | (simp; omega))) | (refine Sx.mk ?_ ?_; · omega) | refine Fa.mk (fun _ => ?_) | refine Im.mk (fun _ => ?_) | apply Lw.go | refine g_cond ?_ | refine g_guard ?_ | refine g_keep ?_ | refine g_pass ?_ | refine g_fin ?_ | (apply g_ap; exact rfl; exact rfl; assumption)
    refine at_callR (r12_txn_spec (h := h) (x := l[k]) (by omega)) ?_
    intro w
    generalize txnOf h l[k] = t at g1 g2 g3 g4 hnx hid1 hid2 ⊢
    repeat' first | apply step | (apply g_op; · repeat first | exact Evs.nil | (apply Evs.cons; exact rfl)) | (refine Br.mk (fun _ => ?_) (fun _ => ?_) <;> try (exfalso; omega)) | (refine Sd.mk ?_ ?_; · ((repeat' apply And.intro) <;> first | omega | trivial | assumption | (simp; done) | (simp; omega))) | (refine Sx.mk ?_ ?_; · omega) | refine Fa.mk (fun _ => ?_) | refine Im.mk (fun _ => ?_) | apply Lw.go | refine g_cond ?_ | refine g_guard ?_ | refine g_keep ?_ | refine g_pass ?_ | refine g_fin ?_ | (apply g_ap; exact rfl; exact rfl; assumption)
    rename_i tb
    generalize outW h key (l.take k) = O at hol hnx ⊢
    have hlenN := wtsN_len key t
    refine at_loopS (ι := Nat × (Option Addr × Nat)) (E := fun z => [(1, .int .i64 key), (2, .pointer (some ⟨rb, 0, none⟩)), (5, .slice z.2.1 (O ++ wtsN key t z.1).length z.2.2), (6, .slice p1 l.length c1), (7, .int .i64 (k : Int)), (8, .pointer (some ⟨tb, 0, none⟩)), (9, .int .i64 (z.1 : Int))]) (Δ := fun z => own kHWr z.2.1 z.2.2 (O ++ wtsN key t z.1) :: pt tb [.int .i64 t.id, .bool t.ab, .slice w.1 t.ops.length w.2] 0 :: fro kHOp w.1 w.2 t.ops :: own (kInt .i64) p1 c1 l :: pt rb [.slice p h.length c] 0 :: fro kHTx p c h :: F) (P := fun z => z.1 ≤ t.ops.length) (μ := fun z => t.ops.length - z.1) (0, (p2, c2)) (Nat.zero_le _) ?_ (by dsimp only [wtsN]; rw [List.append_nil]; rfl) (by dsimp only [wtsN]; rw [List.append_nil]; repeat first | exact Ent.refl _ | (apply Ent.more; · repeat first | exact Ent.keep | exact Ent.here | exact Ent.lend | exact ent_nil | apply Ent.there) | apply Ent.drop)
    rintro ⟨i, p3, c3⟩ hi
    dsimp only at hi ⊢
    have hOl : (O ++ wtsN key t i).length ≤ 2000 := by have := hlenN i; rw [List.length_append]; omega
    rcases Nat.lt_or_ge i t.ops.length with hl2 | hg2
    · have hmo := g3 t.ops[i] (List.getElem_mem _)
      have hll := g4 t.ops[i] (List.getElem_mem _)
      have hkb : -9223372036854775808 ≤ t.ops[i].key ∧ t.ops[i].key ≤ 9223372036854775807 := by unfold mayO mayN at hmo; split at hmo <;> omega
      have hsx : wtsN key t (i + 1) = wtsN key t i ++ if t.ops[i].read = false ∧ t.ops[i].key = key then [⟨t.id, (i : Nat), key, t.ops[i].value, false⟩] else [] := by
        simp only [wtsN, getD_lt hl2]
      have hal := aheadL_len t.ops key i
      cases hr : t.ops[i].read
      · rw [hr] at hsx
        have hvb : -9223372036854775808 ≤ t.ops[i].value ∧ t.ops[i].value ≤ 9223372036854775807 := by unfold mayO mayN at hmo; split at hmo <;> omega
        by_cases hke : t.ops[i].key = key
        · rw [if_pos ⟨rfl, hke⟩] at hsx
          repeat' first | rw [hr] | apply step | (apply g_op; · repeat first | exact Evs.nil | (apply Evs.cons; exact rfl)) | (refine Br.mk (fun _ => ?_) (fun _ => ?_) <;> try (exfalso; omega)) | (refine Sd.mk ?_ ?_; · ((repeat' apply And.intro) <;> first | omega | trivial | assumption | (simp; done) | (simp; omega))) | (refine Sx.mk ?_ ?_; · omega) | refine Fa.mk (fun _ => ?_) | refine Im.mk (fun _ => ?_) | apply Lw.go | refine g_cond ?_ | refine g_guard ?_ | refine g_keep ?_ | refine g_pass ?_ | refine g_fin ?_ | (apply g_ap; exact rfl; exact rfl; assumption)
          exact lp_next (i + 1, _, _) (by dsimp only; omega) (by dsimp only; omega) (by dsimp only; rw [hsx, ← List.append_assoc]) (by dsimp only; rw [hsx, ← List.append_assoc]; repeat first | exact Ent.refl _ | (apply Ent.more; · repeat first | exact Ent.keep | exact Ent.here | exact Ent.lend | exact ent_nil | apply Ent.there) | apply Ent.drop)
        · rw [if_neg (fun q => hke q.2), List.append_nil] at hsx
          repeat' first | rw [hr] | apply step | (apply g_op; · repeat first | exact Evs.nil | (apply Evs.cons; exact rfl)) | (refine Br.mk (fun _ => ?_) (fun _ => ?_) <;> try (exfalso; omega)) | (refine Sd.mk ?_ ?_; · ((repeat' apply And.intro) <;> first | omega | trivial | assumption | (simp; done) | (simp; omega))) | (refine Sx.mk ?_ ?_; · omega) | refine Fa.mk (fun _ => ?_) | refine Im.mk (fun _ => ?_) | apply Lw.go | refine g_cond ?_ | refine g_guard ?_ | refine g_keep ?_ | refine g_pass ?_ | refine g_fin ?_ | (apply g_ap; exact rfl; exact rfl; assumption)
          exact lp_next (i + 1, _, _) (by dsimp only; omega) (by dsimp only; omega) (by dsimp only; rw [hsx]) (by dsimp only; rw [hsx]; repeat first | exact Ent.refl _ | (apply Ent.more; · repeat first | exact Ent.keep | exact Ent.here | exact Ent.lend | exact ent_nil | apply Ent.there) | apply Ent.drop)
      · rw [hr, if_neg (fun q => by cases q.1), List.append_nil] at hsx
        repeat' first | rw [hr] | apply step | (apply g_op; · repeat first | exact Evs.nil | (apply Evs.cons; exact rfl)) | (refine Br.mk (fun _ => ?_) (fun _ => ?_) <;> try (exfalso; omega)) | (refine Sd.mk ?_ ?_; · ((repeat' apply And.intro) <;> first | omega | trivial | assumption | (simp; done) | (simp; omega))) | (refine Sx.mk ?_ ?_; · omega) | refine Fa.mk (fun _ => ?_) | refine Im.mk (fun _ => ?_) | apply Lw.go | refine g_cond ?_ | refine g_guard ?_ | refine g_keep ?_ | refine g_pass ?_ | refine g_fin ?_ | (apply g_ap; exact rfl; exact rfl; assumption)
        exact lp_next (i + 1, _, _) (by dsimp only; omega) (by dsimp only; omega) (by dsimp only; rw [hsx]) (by dsimp only; rw [hsx]; repeat first | exact Ent.refl _ | (apply Ent.more; · repeat first | exact Ent.keep | exact Ent.here | exact Ent.lend | exact ent_nil | apply Ent.there) | apply Ent.drop)
    · have e : i = t.ops.length := by omega
      subst e
      rw [← hnx]
      repeat' first | apply step | (apply g_op; · repeat first | exact Evs.nil | (apply Evs.cons; exact rfl)) | (refine Br.mk (fun _ => ?_) (fun _ => ?_) <;> try (exfalso; omega)) | (refine Sd.mk ?_ ?_; · ((repeat' apply And.intro) <;> first | omega | trivial | assumption | (simp; done) | (simp; omega))) | (refine Sx.mk ?_ ?_; · omega) | refine Fa.mk (fun _ => ?_) | refine Im.mk (fun _ => ?_) | apply Lw.go | refine g_cond ?_ | refine g_guard ?_ | refine g_keep ?_ | refine g_pass ?_ | refine g_fin ?_ | (apply g_ap; exact rfl; exact rfl; assumption)
      exact lp_next (k + 1, _, _) ⟨by dsimp only; omega, by dsimp only; rw [hnx, List.length_append]; have := hlenN t.ops.length; omega⟩ (by dsimp only; omega)
  · have e : l.take k = l := List.take_of_length_le hge
    rw [e]
    repeat' first | apply step | (apply g_op; · repeat first | exact Evs.nil | (apply Evs.cons; exact rfl)) | (refine Br.mk (fun _ => ?_) (fun _ => ?_) <;> try (exfalso; omega)) | (refine Sd.mk ?_ ?_; · ((repeat' apply And.intro) <;> first | omega | trivial | assumption | (simp; done) | (simp; omega))) | (refine Sx.mk ?_ ?_; · omega) | refine Fa.mk (fun _ => ?_) | refine Im.mk (fun _ => ?_) | apply Lw.go | refine g_cond ?_ | refine g_guard ?_ | refine g_keep ?_ | refine g_pass ?_ | refine g_fin ?_ | (apply g_ap; exact rfl; exact rfl; assumption)
    exact fin (hR p2 c2)
end
end Go.AMS

namespace Go.AMS
open Go.AM hiding Kt At WP WL Runs RunsY
open Go.AM.G
set_option linter.unusedVariables false
set_option linter.unusedSimpArgs false
set_option linter.unusedSectionVars false
set_option maxRecDepth 100000
set_option maxHeartbeats 1000000
attribute [local irreducible] AtS AtV AtC AtG FinA Spec Post LP G.At G.WP G.WL pt own fro rdl ro hx mp lrec elt sub

open Go.AM.G.Set
section
variable {h : List HTx} {p q p1 p2 p3 p4 : Option Addr} {c d c1 c2 c3 c4 : Nat}
theorem outW_len (hf : FewH h 20 60) (hm : ∀ t ∈ h, mayN t.id ∧ ∀ o ∈ t.ops, mayO o) (key : Int) : (outW h key (setL (comm h))).length ≤ 1200 := by
  have h1 : ∀ l : List Int, (∀ x ∈ l, mayN x) → (outW h key l).length ≤ l.length * 60 := by
    intro l
    induction l with
    | nil => simp [outW]
    | cons x l ih =>
      intro hl
      have h2 := ih fun y hy => hl y (List.mem_cons_of_mem _ hy)
      have h3 := (txnOf_ok hf hm x (hl x List.mem_cons_self)).2.1
      have h4 := wtsN_len key (txnOf h x) (txnOf h x).ops.length
      unfold outW at h2 ⊢
      rw [List.flatMap_cons, List.length_append, List.length_cons, Nat.succ_mul]; omega
  have h2 := h1 _ (fun x hx => mem_ids_may hm hx)
  have h3 := setL_le (comm h)
  have h4 := comm_le h
  have h5 := hf.t
  omega
theorem wtsN_ok {key : Int} {t : HTx} (g1 : mayN t.id) (g2 : t.ops.length ≤ 60) : ∀ n, n ≤ t.ops.length → ∀ r ∈ wtsN key t n, mayN r.txn ∧ mayN r.op ∧ r.key = key ∧ r.ab = false
  | 0, _, r, hr => by cases hr
  | n + 1, hn, r, hr => by
    simp only [wtsN] at hr
    rw [getD_lt (by omega : n < t.ops.length)] at hr
    rcases List.mem_append.1 hr with hr | hr
    · exact wtsN_ok g1 g2 n (by omega) r hr
    · split at hr
      · rw [List.mem_singleton.1 hr]
        exact ⟨g1, ⟨by dsimp only; omega, by dsimp only; omega⟩, rfl, rfl⟩
      · cases hr
theorem outW_ok (hf : FewH h 20 60) (hm : ∀ t ∈ h, mayN t.id ∧ ∀ o ∈ t.ops, mayO o) (key : Int) : ∀ r ∈ outW h key (setL (comm h)), mayN r.txn ∧ mayN r.op ∧ r.key = key ∧ r.ab = false := fun r hr => by
  obtain ⟨x, hx, h1⟩ := List.mem_flatMap.1 hr
  obtain ⟨g1, g2, _, g4⟩ := txnOf_ok hf hm x (mem_ids_may hm hx)
  exact wtsN_ok g1 g2 _ (Nat.le_refl _) r h1
theorem l12_TableWrites_spec {key m : Int} (w1 : -9223372036854775808 ≤ key ∧ key ≤ 9223372036854775807) (w2 : 0 ≤ m ∧ m ≤ 255) : Spec prog1 n_l12_TableWrites [.agg #[.slice p h.length c], .int .i64 key, .int .u8 m] [fro kHTx p c h] (fun R => R (.bool true) []) := by
  obtain ⟨w2a, w2b⟩ := w2
  obtain ⟨n0, rfl⟩ : ∃ n0 : Nat, m = (n0 : Int) := ⟨m.toNat, by omega⟩
  refine spec_code c_l12_TableWrites rfl ?_; intro n F R hR; unfold F_l12_TableWrites
  repeat' first | apply step | (apply g_op; · repeat first | exact Evs.nil | (apply Evs.cons; exact rfl)) | (refine Br.mk (fun _ => ?_) (fun _ => ?_) <;> try (exfalso; omega)) | (refine Sd.mk ?_ ?_; · ((repeat' apply And.intro) <;> first | omega | trivial | assumption | (simp; done) | (simp; omega))) | (refine Sx.mk ?_ ?_; · omega) | refine Fa.mk (fun _ => ?_) | refine Im.mk (fun _ => ?_) | apply Lw.go | refine g_cond ?_ | refine g_guard ?_ | refine g_keep ?_ | refine g_pass ?_ | refine g_fin ?_ | (apply g_ap; exact rfl; exact rfl; assumption)
  first | refine at_callS (r03_Few_spec (h := h) (a := 20) (b := 60) (by omega) (by omega)) ?_ | refine at_callR (r03_Few_spec (h := h) (a := 20) (b := 60) (by omega) (by omega)) ?_
  refine ⟨fun hf => ?_, ?_⟩
  · repeat' first | apply step | (apply g_op; · repeat first | exact Evs.nil | (apply Evs.cons; exact rfl)) | (refine Br.mk (fun _ => ?_) (fun _ => ?_) <;> try (exfalso; omega)) | (refine Sd.mk ?_ ?_; · ((repeat' apply And.intro) <;> first | omega | trivial | assumption | (simp; done) | (simp; omega))) | (refine Sx.mk ?_ ?_; · omega) | refine Fa.mk (fun _ => ?_) | refine Im.mk (fun _ => ?_) | apply Lw.go | refine g_cond ?_ | refine g_guard ?_ | refine g_keep ?_ | refine g_pass ?_ | refine g_fin ?_ | (apply g_ap; exact rfl; exact rfl; assumption)
    first | refine at_callS (r04_Check_spec hf) ?_ | refine at_callR (r04_Check_spec hf) ?_
    by_cases hc : chkH h = 0
    · rw [hc]
      repeat' first | apply step | (apply g_op; · repeat first | exact Evs.nil | (apply Evs.cons; exact rfl)) | (refine Br.mk (fun _ => ?_) (fun _ => ?_) <;> try (exfalso; omega)) | (refine Sd.mk ?_ ?_; · ((repeat' apply And.intro) <;> first | omega | trivial | assumption | (simp; done) | (simp; omega))) | (refine Sx.mk ?_ ?_; · omega) | refine Fa.mk (fun _ => ?_) | refine Im.mk (fun _ => ?_) | apply Lw.go | refine g_cond ?_ | refine g_guard ?_ | refine g_keep ?_ | refine g_pass ?_ | refine g_fin ?_ | (apply g_ap; exact rfl; exact rfl; assumption)
      first | refine at_callS (l12_works_spec) ?_ | refine at_callR (l12_works_spec) ?_
      repeat' first | apply step | (apply g_op; · repeat first | exact Evs.nil | (apply Evs.cons; exact rfl)) | (refine Br.mk (fun _ => ?_) (fun _ => ?_) <;> try (exfalso; omega)) | (refine Sd.mk ?_ ?_; · ((repeat' apply And.intro) <;> first | omega | trivial | assumption | (simp; done) | (simp; omega))) | (refine Sx.mk ?_ ?_; · omega) | refine Fa.mk (fun _ => ?_) | refine Im.mk (fun _ => ?_) | apply Lw.go | refine g_cond ?_ | refine g_guard ?_ | refine g_keep ?_ | refine g_pass ?_ | refine g_fin ?_ | (apply g_ap; exact rfl; exact rfl; assumption)
      first | refine at_callS (table_New_spec hf) ?_ | refine at_callR (table_New_spec hf) ?_
      refine ⟨fun hc2 => absurd hc hc2, fun _ b => ?_⟩
      have hk := chkH_ok hc
      have hwt := wt_sort hk.i key
      have hok := outW_ok hf hk.m key
      have hol := outW_len hf hk.m key
      change _ = outW h key (setL (comm h)) at hwt
      generalize (tabS (sortK HTx.id h)).fin = T at hwt ⊢
      repeat' first | apply step | (apply g_op; · repeat first | exact Evs.nil | (apply Evs.cons; exact rfl)) | (refine Br.mk (fun _ => ?_) (fun _ => ?_) <;> try (exfalso; omega)) | (refine Sd.mk ?_ ?_; · ((repeat' apply And.intro) <;> first | omega | trivial | assumption | (simp; done) | (simp; omega))) | (refine Sx.mk ?_ ?_; · omega) | refine Fa.mk (fun _ => ?_) | refine Im.mk (fun _ => ?_) | apply Lw.go | refine g_cond ?_ | refine g_guard ?_ | refine g_keep ?_ | refine g_pass ?_ | refine g_fin ?_ | (apply g_ap; exact rfl; exact rfl; assumption)
      first | refine at_callS (table_Table_Writes_spec (T := T) (y := key)) ?_ | refine at_callR (table_Table_Writes_spec (T := T) (y := key)) ?_
      intro xr pr cr
      rw [hwt]
      repeat' first | apply step | (apply g_op; · repeat first | exact Evs.nil | (apply Evs.cons; exact rfl)) | (refine Br.mk (fun _ => ?_) (fun _ => ?_) <;> try (exfalso; omega)) | (refine Sd.mk ?_ ?_; · ((repeat' apply And.intro) <;> first | omega | trivial | assumption | (simp; done) | (simp; omega))) | (refine Sx.mk ?_ ?_; · omega) | refine Fa.mk (fun _ => ?_) | refine Im.mk (fun _ => ?_) | apply Lw.go | refine g_cond ?_ | refine g_guard ?_ | refine g_keep ?_ | refine g_pass ?_ | refine g_fin ?_ | (apply g_ap; exact rfl; exact rfl; assumption)
      first | refine at_callS (r12_Writes_spec (h := h) (key := key) hf hk.m) ?_ | refine at_callR (r12_Writes_spec (h := h) (key := key) hf hk.m) ?_
      intro pw cw
      generalize outW h key (setL (comm h)) = L at hok hol ⊢
      repeat' first | apply step | (apply g_op; · repeat first | exact Evs.nil | (apply Evs.cons; exact rfl)) | (refine Br.mk (fun _ => ?_) (fun _ => ?_) <;> try (exfalso; omega)) | (refine Sd.mk ?_ ?_; · ((repeat' apply And.intro) <;> first | omega | trivial | assumption | (simp; done) | (simp; omega))) | (refine Sx.mk ?_ ?_; · omega) | refine Fa.mk (fun _ => ?_) | refine Im.mk (fun _ => ?_) | apply Lw.go | refine g_cond ?_ | refine g_guard ?_ | refine g_keep ?_ | refine g_pass ?_ | refine g_fin ?_ | (apply g_ap; exact rfl; exact rfl; assumption)
      refine at_freezeC ?_
      refine at_freezeC ?_
      rename_i kyb nb rb _ _ _ wb kb
      obtain ⟨I, hI⟩ : ∃ I : Nat → HP, ∀ i, I i = hx fun (_ : Unit) => (i ≤ n0, [pt kb [.int .i64 (i : Int)] 0, pt wb [.slice pw L.length cw] 0, pt nb [.int .u8 (n0 : Int)] 0, pt kyb [.int .i64 key] 0, fro kHWr pw cw L]) := ⟨_, fun _ => rfl⟩
      obtain ⟨J, hJ⟩ : ∃ J : AX → HP, ∀ x, J x = hx fun (_ : Unit) => (x = .exit 0 ∧ n0 ≤ L.length, [pt kb [.int .i64 (n0 : Int)] 0, pt wb [.slice pw L.length cw] 0, pt nb [.int .u8 (n0 : Int)] 0]) := ⟨_, fun _ => rfl⟩
      refine at_foldP (I 0) (hI 0) () (Nat.zero_le _) ?_
      refine at_rfunSD (I := I) (J := J) (Po := []) L.length (fun i (d : Unit) => vaWrite d L[i]?) (fun i d => paWrite d L[i]?) (fun ly A B h => table_goes_table_Write_c1_spec (l := L) (by omega) h) (fun i hi d => by rw [List.getElem?_eq_getElem hi]; rfl) ?_ ?_ ?_
      · intro i hi d ly m F'
        rw [List.getElem?_eq_getElem hi]
        obtain ⟨⟨k3, k4⟩, ⟨k5, k6⟩, k7, k8⟩ := hok L[i] (List.getElem_mem hi)
        obtain ⟨w1a, w1b⟩ := w1
        dsimp only [vaWrite, paWrite, List.cons_append, List.nil_append]
        refine at_openP (I i) (hI i) ?_
        intro u hin
        dsimp only at hin ⊢
        repeat' first | apply step | (apply g_op; · repeat first | exact Evs.nil | (apply Evs.cons; exact rfl)) | (refine Br.mk (fun _ => ?_) (fun _ => ?_) <;> try (exfalso; omega)) | (refine Sd.mk ?_ ?_; · ((repeat' apply And.intro) <;> first | omega | trivial | assumption | (simp; done) | (simp; omega))) | (refine Sx.mk ?_ ?_; · omega) | refine Fa.mk (fun _ => ?_) | refine Im.mk (fun _ => ?_) | apply Lw.go | refine g_cond ?_ | refine g_guard ?_ | refine g_keep ?_ | refine g_pass ?_ | refine g_fin ?_ | (apply g_ap; exact rfl; exact rfl; assumption)
        · have : i = n0 := by omega
          subst this
          refine at_foldP (J (.exit 0)) (hJ _) () ⟨rfl, by omega⟩ ?_
          exact y_exit
        · rename_i q
          rw [k8] at q
          cases q
        · refine at_foldP (I (i + 1)) (hI _) () (by dsimp only; omega) ?_
          exact y_next
      · refine at_openP (I _) (hI _) ?_
        intro u hin
        dsimp only [List.cons_append, List.nil_append] at hin ⊢
        repeat' first | apply step | (apply g_op; · repeat first | exact Evs.nil | (apply Evs.cons; exact rfl)) | (refine Br.mk (fun _ => ?_) (fun _ => ?_) <;> try (exfalso; omega)) | (refine Sd.mk ?_ ?_; · ((repeat' apply And.intro) <;> first | omega | trivial | assumption | (simp; done) | (simp; omega))) | (refine Sx.mk ?_ ?_; · omega) | refine Fa.mk (fun _ => ?_) | refine Im.mk (fun _ => ?_) | apply Lw.go | refine g_cond ?_ | refine g_guard ?_ | refine g_keep ?_ | refine g_pass ?_ | refine g_fin ?_ | (apply g_ap; exact rfl; exact rfl; assumption)
        all_goals exact fin hR
      · intro x hx
        refine at_openP (J x) (hJ x) ?_
        rintro u ⟨hx, hg⟩
        dsimp only [List.cons_append, List.nil_append] at hx hg ⊢
        subst hx
        repeat' first | apply step | (apply g_op; · repeat first | exact Evs.nil | (apply Evs.cons; exact rfl)) | (refine Br.mk (fun _ => ?_) (fun _ => ?_) <;> try (exfalso; omega)) | (refine Sd.mk ?_ ?_; · ((repeat' apply And.intro) <;> first | omega | trivial | assumption | (simp; done) | (simp; omega))) | (refine Sx.mk ?_ ?_; · omega) | refine Fa.mk (fun _ => ?_) | refine Im.mk (fun _ => ?_) | apply Lw.go | refine g_cond ?_ | refine g_guard ?_ | refine g_keep ?_ | refine g_pass ?_ | refine g_fin ?_ | (apply g_ap; exact rfl; exact rfl; assumption)
        all_goals exact fin hR
    · repeat' first | apply step | (apply g_op; · repeat first | exact Evs.nil | (apply Evs.cons; exact rfl)) | (refine Br.mk (fun _ => ?_) (fun _ => ?_) <;> try (exfalso; omega)) | (refine Sd.mk ?_ ?_; · ((repeat' apply And.intro) <;> first | omega | trivial | assumption | (simp; done) | (simp; omega))) | (refine Sx.mk ?_ ?_; · omega) | refine Fa.mk (fun _ => ?_) | refine Im.mk (fun _ => ?_) | apply Lw.go | refine g_cond ?_ | refine g_guard ?_ | refine g_keep ?_ | refine g_pass ?_ | refine g_fin ?_ | (apply g_ap; exact rfl; exact rfl; assumption)
      first | refine at_callS (l12_works_spec) ?_ | refine at_callR (l12_works_spec) ?_
      repeat' first | apply step | (apply g_op; · repeat first | exact Evs.nil | (apply Evs.cons; exact rfl)) | (refine Br.mk (fun _ => ?_) (fun _ => ?_) <;> try (exfalso; omega)) | (refine Sd.mk ?_ ?_; · ((repeat' apply And.intro) <;> first | omega | trivial | assumption | (simp; done) | (simp; omega))) | (refine Sx.mk ?_ ?_; · omega) | refine Fa.mk (fun _ => ?_) | refine Im.mk (fun _ => ?_) | apply Lw.go | refine g_cond ?_ | refine g_guard ?_ | refine g_keep ?_ | refine g_pass ?_ | refine g_fin ?_ | (apply g_ap; exact rfl; exact rfl; assumption)
      exact fin hR
  · repeat' first | apply step | (apply g_op; · repeat first | exact Evs.nil | (apply Evs.cons; exact rfl)) | (refine Br.mk (fun _ => ?_) (fun _ => ?_) <;> try (exfalso; omega)) | (refine Sd.mk ?_ ?_; · ((repeat' apply And.intro) <;> first | omega | trivial | assumption | (simp; done) | (simp; omega))) | (refine Sx.mk ?_ ?_; · omega) | refine Fa.mk (fun _ => ?_) | refine Im.mk (fun _ => ?_) | apply Lw.go | refine g_cond ?_ | refine g_guard ?_ | refine g_keep ?_ | refine g_pass ?_ | refine g_fin ?_ | (apply g_ap; exact rfl; exact rfl; assumption)
    first | refine at_callS (l12_works_spec) ?_ | refine at_callR (l12_works_spec) ?_
    repeat' first | apply step | (apply g_op; · repeat first | exact Evs.nil | (apply Evs.cons; exact rfl)) | (refine Br.mk (fun _ => ?_) (fun _ => ?_) <;> try (exfalso; omega)) | (refine Sd.mk ?_ ?_; · ((repeat' apply And.intro) <;> first | omega | trivial | assumption | (simp; done) | (simp; omega))) | (refine Sx.mk ?_ ?_; · omega) | refine Fa.mk (fun _ => ?_) | refine Im.mk (fun _ => ?_) | apply Lw.go | refine g_cond ?_ | refine g_guard ?_ | refine g_keep ?_ | refine g_pass ?_ | refine g_fin ?_ | (apply g_ap; exact rfl; exact rfl; assumption)
    exact fin hR
end
end Go.AMS

