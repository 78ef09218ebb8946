/- What the functions do, part 2. -/
import Derived.Test.YtjnipkbnmbnfpaaPart1
import Derived.Test.YtjnipkbnmbnfpaaSetLaw
namespace Go.AMS
open Go.AM hiding Kt At WP WL Runs RunsY
open Go.AM.G
set_option linter.unusedVariables false
set_option linter.unusedSimpArgs false
set_option linter.unusedSectionVars false
set_option maxRecDepth 100000
set_option maxHeartbeats 1000000
attribute [local irreducible] AtS AtV AtC AtG FinA Spec Post LP G.At G.WP G.WL pt own fro rdl ro hx mp lrec elt sub

open Go.AM.G.Set
def tw (w : Wk) : Nat := wts w.row + bif w.holds then wt w.job else 0
def tot (ws : List Wk) : Nat := (ws.map tw).sum
theorem sumset {ws : List Wk} {f : Wk → Nat} {k : Nat} (hk : k < ws.length) (w : Wk) : ((ws.set k w).map f).sum + f ws[k] = (ws.map f).sum + f w := by
  rw [List.map_set]
  have : ∀ (l : List Nat) (k : Nat) (hk : k < l.length) (x : Nat), (l.set k x).sum + l[k] = l.sum + x := by
    intro l
    induction l with
    | nil => intro k hk; simp at hk
    | cons a l ih =>
      intro k hk x
      cases k with
      | zero => simp; omega
      | succ k => have := ih k (by simpa using hk) x; simp at this ⊢; omega
  have := this (ws.map f) k (by simpa using hk) (f w)
  simpa using this
theorem step_tot {P : Po} {k : Nat} (hk : k < P.ws.length) (hr : rdy P.ws P.ws[k] = true) : tot (P.step k).ws + (P.step k).did.length = tot P.ws + P.did.length := by
  unfold Po.step
  simp only [getD_row hk]
  by_cases hh : P.ws[k].holds = true
  · rw [if_pos hh]
    have h1 := sumset (f := tw) hk ⟨P.ws[k].row ++ hv P.ws[k].job, 0, false⟩
    have h2 := wt_hv P.ws[k].job
    unfold tot
    simp only [List.length_append, List.length_singleton]
    unfold tw at h1 ⊢
    simp only [hh, wts_app, cond_true, cond_false] at h1
    omega
  · rw [if_neg hh]
    have hh' : P.ws[k].holds = false := by simpa using hh
    have hw : 0 < wait P.ws := by unfold rdy at hr; rw [hh'] at hr; simpa using hr
    unfold Po.took
    simp only [getD_row hk]
    by_cases h0 : P.ws[k].row = []
    · rw [if_neg (by simpa using h0)]
      obtain ⟨j, hj⟩ := firstJ_some hk h0 hw
      rw [hj]
      obtain ⟨j1, j2, j3⟩ := firstJ_spec hj
      have hf : (k + j) % P.ws.length < P.ws.length := Nat.mod_lt _ (by omega)
      simp only
      generalize hfe : (k + j) % P.ws.length = f at *
      rw [rowAt_lt hf] at j3
      simp only [getD_row hf]
      have hne : f ≠ k := by rintro rfl; exact j3 h0
      obtain ⟨x, l, hl⟩ := List.exists_cons_of_ne_nil j3
      have a1 := sumset (f := tw) hf ⟨P.ws[f].row.tail, P.ws[f].job, P.ws[f].holds⟩
      have a2 := sumset (f := tw) (ws := P.ws.set f ⟨P.ws[f].row.tail, P.ws[f].job, P.ws[f].holds⟩) (k := k) (by simpa using hk) ⟨[], P.ws[f].row.headD 0, true⟩
      have a3 : (P.ws.set f ⟨P.ws[f].row.tail, P.ws[f].job, P.ws[f].holds⟩)[k]'(by simpa using hk) = P.ws[k] := by rw [List.getElem_set_ne hne]
      rw [a3] at a2
      unfold tot
      unfold tw at a1 a2 ⊢
      simp only [hl, h0, hh', List.tail_cons, List.headD_cons, wts_cons, wts_nil, cond_true, cond_false] at a1 a2 ⊢
      omega
    · rw [if_pos h0]
      have h1 := sumset (f := tw) hk ⟨P.ws[k].row.dropLast, P.ws[k].row.getLastD 0, true⟩
      have h2 : P.ws[k].row = P.ws[k].row.dropLast ++ [P.ws[k].row.getLastD 0] := by
        rw [List.getLastD_eq_getLast?, List.getLast?_eq_some_getLast h0]
        exact (List.dropLast_concat_getLast h0).symm
      have h3 : wts P.ws[k].row = wts P.ws[k].row.dropLast + wt (P.ws[k].row.getLastD 0) := by
        conv => lhs; rw [h2]
        rw [wts_app, wts_cons, wts_nil]; omega
      unfold tot
      unfold tw at h1 ⊢
      simp only [hh', cond_true, cond_false] at h1 ⊢
      omega
/-- What stays in any run. -/
theorem runP_inv : ∀ (f : Nat) {P : Po} {s : Scr}, P.ok → (runP f P s).1.ok ∧ tot (runP f P s).1.ws + (runP f P s).1.did.length = tot P.ws + P.did.length ∧ (runP f P s).2.1.steps + mm (runP f P s).1.ws ≤ s.steps + mm P.ws ∧ (runP f P s).2.1.used + mm (runP f P s).1.ws ≤ s.used + mm P.ws ∧ (runP f P s).2.1.l = s.l ∧ (runP f P s).2.1.cancel = s.cancel
  | 0, P, s, ok => ⟨ok, rfl, Nat.le_refl _, Nat.le_refl _, rfl, rfl⟩
  | f + 1, P, s, ok => by
    by_cases hne : readyL P.ws = []
    · rw [runP_done hne]; exact ⟨ok, rfl, Nat.le_refl _, Nat.le_refl _, rfl, rfl⟩
    by_cases ho : s.off
    · rw [runP_off hne ho]; exact ⟨ok, rfl, Nat.le_refl _, Nat.le_refl _, rfl, rfl⟩
    obtain ⟨k, hk, _, hrn⟩ := runP_on (f := f) (s := s) hne ho
    obtain ⟨hkl, hkr⟩ := mem_readyL.1 hk
    obtain ⟨hm1, hm2⟩ := step_mm hkl hkr
    obtain ⟨e1, e2, e3, e4⟩ := one_took s
    have ht := step_tot hkl hkr
    rw [hrn]
    obtain ⟨k1, k2, k3, k4, k5, k6⟩ := runP_inv f (P := P.step k) (s := s.one.took) (step_ok ok hk)
    exact ⟨k1, by omega, by omega, by omega, by rw [k5]; assumption, by rw [k6]; assumption⟩
section
variable {pl : Option Addr} {cl : Nat} {a : RA} {P : Po} {s : Scr}
theorem r10_New_spec {w : Int} : Spec prog1 n_r10_New [.int .i64 w, .agg #[.slice pl s.l.length cl, .int .i64 s.cancel, .int .i64 (s.steps : Int), .int .i64 (s.used : Int)]] [] (fun R => (w < 1 ∨ 64 < w → R (.tuple #[.agg (List.toArray [.slice none 0 0, .int .i64 0, .int .i64 0, .int .i64 0, .slice none 0 0, .slice none 0 0, .slice none 0 0, .slice none 0 0, .int .i64 0, .int .i64 0, .slice none 0 0]), .int .i64 7]) []) ∧ ∀ n : Nat, w = n → 0 < n → n ≤ 64 → ∀ a, R (.tuple #[.agg (List.toArray (rcs pl cl a (P0 n) s)), .int .i64 0]) [own (kSl (kInt .i64)) a.pr a.cr (P0 n).rows, own (kInt .i64) a.ph a.ch (P0 n).hel, own kBool a.pb a.cb (P0 n).hol, own (kInt .i64) a.pd a.cd (P0 n).did, own (kInt .i64) a.pw a.cw (P0 n).who]) := by
  refine spec_code c_r10_New rfl ?_; intro n F R hR; unfold F_r10_New
  repeat' first | apply step | (apply g_op; · repeat first | exact Evs.nil | (apply Evs.cons; exact rfl)) | (refine Br.mk (fun _ => ?_) (fun _ => ?_) <;> try (exfalso; omega)) | (refine Sd.mk ?_ ?_; · ((repeat' apply And.intro) <;> first | omega | trivial | assumption | (simp; done) | (simp; omega))) | (refine Sx.mk ?_ ?_; · omega) | refine Fa.mk (fun _ => ?_) | refine Im.mk (fun _ => ?_) | apply Lw.go | refine g_cond ?_ | refine g_guard ?_ | refine g_keep ?_ | refine g_pass ?_ | refine g_fin ?_ | (apply g_ap; exact rfl; exact rfl; assumption)
  · exact fin (hR.1 (by omega))
  · exact fin (hR.1 (by omega))
  obtain ⟨m, rfl⟩ : ∃ m : Nat, w = m := ⟨w.toNat, by omega⟩
  have h := hR.2 m rfl (by omega) (by omega)
  have e1 : (P0 m).rows = List.replicate m [] := by simp [P0, Po.rows]
  have e2 : (P0 m).hel = List.replicate m 0 := by simp [P0, Po.hel]
  have e3 : (P0 m).hol = List.replicate m false := by simp [P0, Po.hol]
  refine at_mk (kSl (kInt .i64)) [] rfl (fun m => ⟨_, rfl, Sl.nil, Nat.zero_le _⟩) (i := m) (j := m) inferInstance inferInstance ⟨by omega, by omega, by omega, by omega⟩ ?_
  intro bb
  repeat' first | apply step | (apply g_op; · repeat first | exact Evs.nil | (apply Evs.cons; exact rfl)) | (refine Br.mk (fun _ => ?_) (fun _ => ?_) <;> try (exfalso; omega)) | (refine Sd.mk ?_ ?_; · ((repeat' apply And.intro) <;> first | omega | trivial | assumption | (simp; done) | (simp; omega))) | (refine Sx.mk ?_ ?_; · omega) | refine Fa.mk (fun _ => ?_) | refine Im.mk (fun _ => ?_) | apply Lw.go | refine g_cond ?_ | refine g_guard ?_ | refine g_keep ?_ | refine g_pass ?_ | refine g_fin ?_ | (apply g_ap; exact rfl; exact rfl; assumption)
  have h2 := fun pr cr ph ch pb cb => h ⟨pr, cr, ph, ch, pb, cb, none, 0, none, 0⟩
  dsimp only [rcs] at h2
  rw [e1, e2, e3] at h2
  simp only [List.length_replicate] at h2
  exact fin (h2 _ _ _ _ _ _)
theorem r10_Run_spec (ok : P.ok) (hm : mm P.ws ≤ 2000) (h1 : s.steps + mm P.ws < 1000000000000) (h2 : s.used + mm P.ws < 1000000000000) : Spec prog1 n_r10_Run [.agg (List.toArray (rcs pl cl a P s)), .int .i64 2000] [own (kSl (kInt .i64)) a.pr a.cr P.rows, own (kInt .i64) a.ph a.ch P.hel, own kBool a.pb a.cb P.hol, own (kInt .i64) a.pd a.cd P.did, own (kInt .i64) a.pw a.cw P.who, fro (kInt .i64) pl cl s.l] (fun R => ∀ a', R (.tuple #[.agg (List.toArray (rcs pl cl a' (runP (mm P.ws + 1) P s).1 (runP (mm P.ws + 1) P s).2.1)), .int .i64 (runP (mm P.ws + 1) P s).2.2]) [own (kSl (kInt .i64)) a'.pr a'.cr (runP (mm P.ws + 1) P s).1.rows, own (kInt .i64) a'.ph a'.ch (runP (mm P.ws + 1) P s).1.hel, own kBool a'.pb a'.cb (runP (mm P.ws + 1) P s).1.hol, own (kInt .i64) a'.pd a'.cd (runP (mm P.ws + 1) P s).1.did, own (kInt .i64) a'.pw a'.cw (runP (mm P.ws + 1) P s).1.who]) := by
  refine spec_code c_r10_Run rfl ?_; intro n F R hR; unfold F_r10_Run
  repeat' first | apply step | (apply g_op; · repeat first | exact Evs.nil | (apply Evs.cons; exact rfl)) | (refine Br.mk (fun _ => ?_) (fun _ => ?_) <;> try (exfalso; omega)) | (refine Sd.mk ?_ ?_; · ((repeat' apply And.intro) <;> first | omega | trivial | assumption | (simp; done) | (simp; omega))) | (refine Sx.mk ?_ ?_; · omega) | refine Fa.mk (fun _ => ?_) | refine Im.mk (fun _ => ?_) | apply Lw.go | refine g_cond ?_ | refine g_guard ?_ | refine g_keep ?_ | refine g_pass ?_ | refine g_fin ?_ | (apply g_ap; exact rfl; exact rfl; assumption)
  rename_i tb rb
  obtain ⟨LI, hLI⟩ : ∃ LI : Nat × Po × Scr × RA → Prop, ∀ w, LI w ↔ (w.2.1.ok ∧ w.2.2.1.steps + mm w.2.1.ws < 1000000000000 ∧ w.2.2.1.used + mm w.2.1.ws < 1000000000000 ∧ w.1 + mm w.2.1.ws = mm P.ws ∧ w.2.2.1.l = s.l ∧ runP (mm P.ws + 1) P s = runP (mm w.2.1.ws + 1) w.2.1 w.2.2.1) := ⟨_, fun _ => Iff.rfl⟩
  refine at_loopS (ι := Nat × Po × Scr × RA) (E := fun w => [(1, .int .i64 2000), (2, .pointer (some ⟨tb, 0, none⟩)), (4, .pointer (some ⟨rb, 0, none⟩)), (6, .int .i64 (w.1 : Int))]) (Δ := fun w => pt tb (rcs pl cl w.2.2.2 w.2.1 w.2.2.1) 0 :: own (kSl (kInt .i64)) w.2.2.2.pr w.2.2.2.cr w.2.1.rows :: own (kInt .i64) w.2.2.2.ph w.2.2.2.ch w.2.1.hel :: own kBool w.2.2.2.pb w.2.2.2.cb w.2.1.hol :: own (kInt .i64) w.2.2.2.pd w.2.2.2.cd w.2.1.did :: own (kInt .i64) w.2.2.2.pw w.2.2.2.cw w.2.1.who :: fro (kInt .i64) pl cl s.l :: pt rb [.slice none 0 0, .int .i64 0, .int .i64 0, .int .i64 0, .slice none 0 0, .slice none 0 0, .slice none 0 0, .slice none 0 0, .int .i64 0, .int .i64 0, .slice none 0 0] 0 :: F) (P := LI) (μ := fun w => mm w.2.1.ws) (0, P, s, a) ((hLI _).2 ⟨ok, h1, h2, by simp, rfl, rfl⟩) ?_
  rintro ⟨i, P1, s1, a1⟩ hL
  obtain ⟨ok1, hs1, hu1, hn1, hl1, hrun⟩ := (hLI _).1 hL
  dsimp only at ok1 hs1 hu1 hrun hn1 hl1 ⊢
  rw [hrun] at hR
  repeat' first | apply step | (apply g_op; · repeat first | exact Evs.nil | (apply Evs.cons; exact rfl)) | (refine Br.mk (fun _ => ?_) (fun _ => ?_) <;> try (exfalso; omega)) | (refine Sd.mk ?_ ?_; · ((repeat' apply And.intro) <;> first | omega | trivial | assumption | (simp; done) | (simp; omega))) | (refine Sx.mk ?_ ?_; · omega) | refine Fa.mk (fun _ => ?_) | refine Im.mk (fun _ => ?_) | apply Lw.go | refine g_cond ?_ | refine g_guard ?_ | refine g_keep ?_ | refine g_pass ?_ | refine g_fin ?_ | (apply g_ap; exact rfl; exact rfl; assumption)
  have hn := ok1.n
  refine at_callR (r10_ready_spec (P := P1) (a := a1) (s := s1) (pl := pl) (cl := cl) hn.2) ?_
  intro p c
  have hrl := readyL_len P1.ws
  repeat' first | apply step | (apply g_op; · repeat first | exact Evs.nil | (apply Evs.cons; exact rfl)) | (refine Br.mk (fun _ => ?_) (fun _ => ?_) <;> try (exfalso; omega)) | (refine Sd.mk ?_ ?_; · ((repeat' apply And.intro) <;> first | omega | trivial | assumption | (simp; done) | (simp; omega))) | (refine Sx.mk ?_ ?_; · omega) | refine Fa.mk (fun _ => ?_) | refine Im.mk (fun _ => ?_) | apply Lw.go | refine g_cond ?_ | refine g_guard ?_ | refine g_keep ?_ | refine g_pass ?_ | refine g_fin ?_ | (apply g_ap; exact rfl; exact rfl; assumption)
  · have hnil : readyL P1.ws = [] := List.eq_nil_of_length_eq_zero (by omega)
    rw [runP_done hnil] at hR
    exact fin (hR a1)
  · have hne : readyL P1.ws ≠ [] := by
      intro hq
      have e2 : (readyL P1.ws).length = 0 := by rw [hq]; rfl
      omega
    have hlen : (List.map Int.ofNat (readyL P1.ws)).length ≤ 1000000 := by rw [List.length_map]; omega
    rw [← List.length_map (f := Int.ofNat)]
    rw [← hl1]
    refine at_callR (r09_Step_spec (s := s1) (r := (readyL P1.ws).map Int.ofNat) hlen (by omega) (by omega)) ?_
    by_cases ho : s1.off
    · rw [stepS_off ho]
      rw [runP_off hne ho] at hR
      repeat' first | apply step | (apply g_op; · repeat first | exact Evs.nil | (apply Evs.cons; exact rfl)) | (refine Br.mk (fun _ => ?_) (fun _ => ?_) <;> try (exfalso; omega)) | (refine Sd.mk ?_ ?_; · ((repeat' apply And.intro) <;> first | omega | trivial | assumption | (simp; done) | (simp; omega))) | (refine Sx.mk ?_ ?_; · omega) | refine Fa.mk (fun _ => ?_) | refine Im.mk (fun _ => ?_) | apply Lw.go | refine g_cond ?_ | refine g_guard ?_ | refine g_keep ?_ | refine g_pass ?_ | refine g_fin ?_ | (apply g_ap; exact rfl; exact rfl; assumption)
      exact fin (hR a1)
    · obtain ⟨k, hk, hst, hrn⟩ := runP_on (f := mm P1.ws) (s := s1) hne ho
      rw [hst]
      obtain ⟨hkl, hkr⟩ := mem_readyL.1 hk
      obtain ⟨hm1, hm2⟩ := step_mm hkl hkr
      have ok2 := step_ok ok1 hk
      obtain ⟨e1, e2, e3, e4⟩ := one_took s1
      repeat' first | apply step | (apply g_op; · repeat first | exact Evs.nil | (apply Evs.cons; exact rfl)) | (refine Br.mk (fun _ => ?_) (fun _ => ?_) <;> try (exfalso; omega)) | (refine Sd.mk ?_ ?_; · ((repeat' apply And.intro) <;> first | omega | trivial | assumption | (simp; done) | (simp; omega))) | (refine Sx.mk ?_ ?_; · omega) | refine Fa.mk (fun _ => ?_) | refine Im.mk (fun _ => ?_) | apply Lw.go | refine g_cond ?_ | refine g_guard ?_ | refine g_keep ?_ | refine g_pass ?_ | refine g_fin ?_ | (apply g_ap; exact rfl; exact rfl; assumption)
      first | refine at_callS (r10_step_spec (P := P1) (a := a1) (s := s1.one.took) (pl := pl) (cl := cl) ok1 hkl hkr (by omega)) ?_ | refine at_callR (r10_step_spec (P := P1) (a := a1) (s := s1.one.took) (pl := pl) (cl := cl) ok1 hkl hkr (by omega)) ?_
      intro a2
      repeat' first | apply step | (apply g_op; · repeat first | exact Evs.nil | (apply Evs.cons; exact rfl)) | (refine Br.mk (fun _ => ?_) (fun _ => ?_) <;> try (exfalso; omega)) | (refine Sd.mk ?_ ?_; · ((repeat' apply And.intro) <;> first | omega | trivial | assumption | (simp; done) | (simp; omega))) | (refine Sx.mk ?_ ?_; · omega) | refine Fa.mk (fun _ => ?_) | refine Im.mk (fun _ => ?_) | apply Lw.go | refine g_cond ?_ | refine g_guard ?_ | refine g_keep ?_ | refine g_pass ?_ | refine g_fin ?_ | (apply g_ap; exact rfl; exact rfl; assumption)
      refine lp_next (i + 1, P1.step k, s1.one.took, a2) ((hLI _).2 ⟨ok2, by dsimp only; omega, by dsimp only; omega, by dsimp only; omega, by dsimp only; rw [e3, hl1], by dsimp only; rw [hrun, hrn, hm1]⟩) (by dsimp only; omega)
/-- How many are still to come. -/
def br (w : Wk) : Nat := (wts w.row - w.row.length) + bif w.holds then wt w.job - 1 else 0
def brs (ws : List Wk) : Nat := (ws.map br).sum
theorem brs_take {ws : List Wk} {j : Nat} (h : j < ws.length) : brs (ws.take (j + 1)) = brs (ws.take j) + br ws[j] := by
  rw [List.take_succ_eq_append_getElem h]
  unfold brs
  rw [List.map_append, List.sum_append]
  simp only [List.map_cons, List.map_nil, List.sum_cons, List.sum_nil, Nat.add_zero]
theorem brs_take_le (ws : List Wk) (j : Nat) : brs (ws.take j) ≤ brs ws := by
  conv => rhs; rw [← List.take_append_drop j ws]
  unfold brs
  rw [List.map_append, List.sum_append]
  omega
theorem tw_eq (w : Wk) : tw w = br w + w.row.length + bif w.holds then 1 else 0 := by
  unfold tw br
  have h1 := wts_len w.row
  have h2 := wt_pos w.job
  cases w.holds <;> simp only [cond_true, cond_false] <;> omega
theorem tot_eq (ws : List Wk) : tot ws = brs ws + wait ws + held ws := by
  unfold tot brs wait held
  induction ws with
  | nil => rfl
  | cons w ws ih =>
    have h := tw_eq w
    simp only [List.map_cons, List.sum_cons, List.filter_cons]
    cases hh : w.holds
    · rw [hh] at h; simp only [cond_false, Bool.false_eq_true, if_false] at h ⊢; omega
    · rw [hh] at h; simp only [cond_true, if_true, List.length_cons] at h ⊢; omega
theorem tot_le (ws : List Wk) : tot ws ≤ mm ws := by
  unfold tot mm
  induction ws with
  | nil => simp
  | cons w ws ih =>
    simp only [List.map_cons, List.sum_cons]
    have : tw w ≤ mw w := by
      unfold tw mw
      have h2 := wt_pos w.job
      cases w.holds <;> simp only [cond_true, cond_false] <;> omega
    omega
theorem l10_born_spec (ok : P.ok) : Spec prog1 n_l10_born [.agg (List.toArray (rcs pl cl a P s))] [rdl (kSl (kInt .i64)) a.pr P.rows, rdl (kInt .i64) a.ph P.hel, rdl kBool a.pb P.hol] (fun R => R (.int .i64 (brs P.ws : Int)) []) := by
  refine spec_code c_l10_born rfl ?_; intro n F R hR; unfold F_l10_born
  have hn := ok.n
  have hw := ok.w
  have l1 := rows_len (P := P)
  have l2 := hel_len (P := P)
  have l3 := hol_len (P := P)
  have ht := tot_eq P.ws
  have ht2 := tot_le P.ws
  repeat' first | apply step | (apply g_op; · repeat first | exact Evs.nil | (apply Evs.cons; exact rfl)) | (refine Br.mk (fun _ => ?_) (fun _ => ?_) <;> try (exfalso; omega)) | (refine Sd.mk ?_ ?_; · ((repeat' apply And.intro) <;> first | omega | trivial | assumption | (simp; done) | (simp; omega))) | (refine Sx.mk ?_ ?_; · omega) | refine Fa.mk (fun _ => ?_) | refine Im.mk (fun _ => ?_) | apply Lw.go | refine g_cond ?_ | refine g_guard ?_ | refine g_keep ?_ | refine g_pass ?_ | refine g_fin ?_ | (apply g_ap; exact rfl; exact rfl; assumption)
  rename_i tb
  refine at_loopS (ι := Nat) (E := fun j => [(1, .pointer (some ⟨tb, 0, none⟩)), (3, .int .i64 (brs (P.ws.take j) : Int)), (4, .int .i64 (j : Int))]) (Δ := fun j => pt tb (rcs pl cl a P s) 0 :: rdl (kSl (kInt .i64)) a.pr P.rows :: rdl (kInt .i64) a.ph P.hel :: rdl kBool a.pb P.hol :: F) (P := fun j => j ≤ P.ws.length) (μ := fun j => P.ws.length - j) 0 (Nat.zero_le _) ?_
  rintro j hj
  dsimp only
  rcases Nat.lt_or_ge j P.ws.length with hlt | hge
  · have er : ∀ h : j < P.rows.length, P.rows[j] = P.ws[j].row := fun h => List.getElem_map ..
    have eh : ∀ h : j < P.hel.length, P.hel[j] = P.ws[j].job := fun h => List.getElem_map ..
    have eb : ∀ h : j < P.hol.length, P.hol[j] = P.ws[j].holds := fun h => List.getElem_map ..
    have hb := brs_take hlt
    have hb2 := brs_take_le P.ws (j + 1)
    have hl := wts_len P.ws[j].row
    have hp := wt_pos P.ws[j].job
    have hmw := mw_le hlt
    have hw1 : wts P.ws[j].row ≤ 1000000 := by unfold mw at hmw; omega
    unfold br at hb
    cases hh : P.ws[j].holds
    all_goals
      rw [hh] at hb
      simp only [cond_true, cond_false] at hb
      repeat' first | rw [er] | rw [eh] | rw [eb] | rw [hh] | apply step | (apply g_op; · repeat first | exact Evs.nil | (apply Evs.cons; exact rfl)) | (refine Br.mk (fun _ => ?_) (fun _ => ?_) <;> try (exfalso; omega)) | (refine Sd.mk ?_ ?_; · ((repeat' apply And.intro) <;> first | omega | trivial | assumption | (simp; done) | (simp; omega))) | (refine Sx.mk ?_ ?_; · omega) | refine Fa.mk (fun _ => ?_) | refine Im.mk (fun _ => ?_) | apply Lw.go | refine g_cond ?_ | refine g_guard ?_ | refine g_keep ?_ | refine g_pass ?_ | refine g_fin ?_ | (apply g_ap; exact rfl; exact rfl; assumption)
      rename_i pj cj _
      first | refine at_callS (r10_Jobs_spec (A := fro (kInt .i64) pj cj P.ws[j].row) (l := P.ws[j].row) (by omega)) ?_ | refine at_callR (r10_Jobs_spec (A := fro (kInt .i64) pj cj P.ws[j].row) (l := P.ws[j].row) (by omega)) ?_
      repeat' first | rw [er] | rw [eh] | rw [eb] | rw [hh] | apply step | (apply g_op; · repeat first | exact Evs.nil | (apply Evs.cons; exact rfl)) | (refine Br.mk (fun _ => ?_) (fun _ => ?_) <;> try (exfalso; omega)) | (refine Sd.mk ?_ ?_; · ((repeat' apply And.intro) <;> first | omega | trivial | assumption | (simp; done) | (simp; omega))) | (refine Sx.mk ?_ ?_; · omega) | refine Fa.mk (fun _ => ?_) | refine Im.mk (fun _ => ?_) | apply Lw.go | refine g_cond ?_ | refine g_guard ?_ | refine g_keep ?_ | refine g_pass ?_ | refine g_fin ?_ | (apply g_ap; exact rfl; exact rfl; assumption)
    · exact lp_next (j + 1) (by omega) (by omega) (by rw [show ((brs (P.ws.take (j + 1)) : Nat) : Int) = (brs (P.ws.take j) + wts P.ws[j].row : Nat) - (P.ws[j].row.length : Nat) by omega])
    · rename_i jb xb
      refine av_lit xb 1 P.ws[j].job jb ?_
      first | refine at_callS (r10_Jobs_spec (A := fro (kInt .i64) (some ⟨xb, 0, none⟩) 1 [P.ws[j].job]) (l := [P.ws[j].job]) (by rw [wts_cons, wts_nil]; unfold mw at hmw; rw [hh] at hmw; simp only [cond_true] at hmw; omega)) ?_ | refine at_callR (r10_Jobs_spec (A := fro (kInt .i64) (some ⟨xb, 0, none⟩) 1 [P.ws[j].job]) (l := [P.ws[j].job]) (by rw [wts_cons, wts_nil]; unfold mw at hmw; rw [hh] at hmw; simp only [cond_true] at hmw; omega)) ?_
      rw [wts_cons, wts_nil, Nat.add_zero]
      have hw2 : wt P.ws[j].job ≤ 1000000 := by unfold mw at hmw; rw [hh] at hmw; simp only [cond_true] at hmw; omega
      repeat' first | rw [er] | rw [eh] | rw [eb] | rw [hh] | apply step | (apply g_op; · repeat first | exact Evs.nil | (apply Evs.cons; exact rfl)) | (refine Br.mk (fun _ => ?_) (fun _ => ?_) <;> try (exfalso; omega)) | (refine Sd.mk ?_ ?_; · ((repeat' apply And.intro) <;> first | omega | trivial | assumption | (simp; done) | (simp; omega))) | (refine Sx.mk ?_ ?_; · omega) | refine Fa.mk (fun _ => ?_) | refine Im.mk (fun _ => ?_) | apply Lw.go | refine g_cond ?_ | refine g_guard ?_ | refine g_keep ?_ | refine g_pass ?_ | refine g_fin ?_ | (apply g_ap; exact rfl; exact rfl; assumption)
      exact lp_next (j + 1) (by omega) (by omega) (by rw [show ((brs (P.ws.take (j + 1)) : Nat) : Int) = (brs (P.ws.take j) + wts P.ws[j].row : Nat) - (P.ws[j].row.length : Nat) + (wt P.ws[j].job : Nat) - 1 by omega])
  · have : P.ws.take j = P.ws := List.take_of_length_le hge
    rw [this]
    repeat' first | apply step | (apply g_op; · repeat first | exact Evs.nil | (apply Evs.cons; exact rfl)) | (refine Br.mk (fun _ => ?_) (fun _ => ?_) <;> try (exfalso; omega)) | (refine Sd.mk ?_ ?_; · ((repeat' apply And.intro) <;> first | omega | trivial | assumption | (simp; done) | (simp; omega))) | (refine Sx.mk ?_ ?_; · omega) | refine Fa.mk (fun _ => ?_) | refine Im.mk (fun _ => ?_) | apply Lw.go | refine g_cond ?_ | refine g_guard ?_ | refine g_keep ?_ | refine g_pass ?_ | refine g_fin ?_ | (apply g_ap; exact rfl; exact rfl; assumption)
    exact fin hR
theorem add_tot (hn : P.next < P.ws.length) (x : Int) : tot (P.add x).ws = tot P.ws + wt x ∧ (P.add x).ws.length = P.ws.length ∧ (P.add x).next < (P.add x).ws.length := by
  have h := sumset (f := tw) hn ⟨P.ws[P.next].row ++ [x], P.ws[P.next].job, P.ws[P.next].holds⟩
  have hl : (P.add x).ws.length = P.ws.length := by simp [Po.add, Po.push]
  refine ⟨?_, hl, by rw [hl]; exact Nat.mod_lt _ (by omega)⟩
  unfold Po.add Po.push tot
  simp only [getD_row hn, rowAt_lt hn]
  unfold tw at h ⊢
  simp only [wts_app, wts_cons, wts_nil] at h
  omega
theorem adds_tot : ∀ {l : List Int} {P : Po}, P.next < P.ws.length → tot (P.adds l).ws = tot P.ws + wts l
  | [], P, _ => rfl
  | x :: l, P, hn => by
    obtain ⟨h1, h2, h3⟩ := add_tot hn x
    have := adds_tot (l := l) h3
    rw [wts_cons]
    show tot ((P.add x).adds l).ws = _
    rw [this, h1]; omega
theorem tot_rep (n : Nat) : tot (P0 n).ws = 0 := by
  have h := tot_le (P0 n).ws
  have e : mm (P0 n).ws = 0 := mm_rep n
  omega
theorem l10_PoolPlays_spec {w c : Int} {p : Option Addr} {cp : Nat} {l : List Int} {q : Option Addr} {cq : Nat} {jobs : List Int} (hw : -9223372036854775808 ≤ w ∧ w ≤ 9223372036854775807) (hc : -9223372036854775808 ≤ c ∧ c ≤ 9223372036854775807) : Spec prog1 n_l10_PoolPlays [.int .i64 w, .slice p l.length cp, .int .i64 c, .slice q jobs.length cq] [fro (kInt .i64) p cp l, fro (kInt .i64) q cq jobs] (fun R => R (.bool true) []) := by
  refine spec_code c_l10_PoolPlays rfl ?_; intro n F R hR; unfold F_l10_PoolPlays
  repeat' first | apply step | (apply g_op; · repeat first | exact Evs.nil | (apply Evs.cons; exact rfl)) | (refine Br.mk (fun _ => ?_) (fun _ => ?_) <;> try (exfalso; omega)) | (refine Sd.mk ?_ ?_; · ((repeat' apply And.intro) <;> first | omega | trivial | assumption | (simp; done) | (simp; omega))) | (refine Sx.mk ?_ ?_; · omega) | refine Fa.mk (fun _ => ?_) | refine Im.mk (fun _ => ?_) | apply Lw.go | refine g_cond ?_ | refine g_guard ?_ | refine g_keep ?_ | refine g_pass ?_ | refine g_fin ?_ | (apply g_ap; exact rfl; exact rfl; assumption)
  · first | refine at_callS (l10_works_spec) ?_ | refine at_callR (l10_works_spec) ?_
    repeat' first | apply step | (apply g_op; · repeat first | exact Evs.nil | (apply Evs.cons; exact rfl)) | (refine Br.mk (fun _ => ?_) (fun _ => ?_) <;> try (exfalso; omega)) | (refine Sd.mk ?_ ?_; · ((repeat' apply And.intro) <;> first | omega | trivial | assumption | (simp; done) | (simp; omega))) | (refine Sx.mk ?_ ?_; · omega) | refine Fa.mk (fun _ => ?_) | refine Im.mk (fun _ => ?_) | apply Lw.go | refine g_cond ?_ | refine g_guard ?_ | refine g_keep ?_ | refine g_pass ?_ | refine g_fin ?_ | (apply g_ap; exact rfl; exact rfl; assumption)
    exact fin hR
  first | refine at_callS (r10_Few_spec (l := jobs)) ?_ | refine at_callR (r10_Few_spec (l := jobs)) ?_
  refine ⟨fun hj1 hj2 => ?_, ?_⟩
  rotate_left
  · repeat' first | apply step | (apply g_op; · repeat first | exact Evs.nil | (apply Evs.cons; exact rfl)) | (refine Br.mk (fun _ => ?_) (fun _ => ?_) <;> try (exfalso; omega)) | (refine Sd.mk ?_ ?_; · ((repeat' apply And.intro) <;> first | omega | trivial | assumption | (simp; done) | (simp; omega))) | (refine Sx.mk ?_ ?_; · omega) | refine Fa.mk (fun _ => ?_) | refine Im.mk (fun _ => ?_) | apply Lw.go | refine g_cond ?_ | refine g_guard ?_ | refine g_keep ?_ | refine g_pass ?_ | refine g_fin ?_ | (apply g_ap; exact rfl; exact rfl; assumption)
    first | refine at_callS (l10_works_spec) ?_ | refine at_callR (l10_works_spec) ?_
    repeat' first | apply step | (apply g_op; · repeat first | exact Evs.nil | (apply Evs.cons; exact rfl)) | (refine Br.mk (fun _ => ?_) (fun _ => ?_) <;> try (exfalso; omega)) | (refine Sd.mk ?_ ?_; · ((repeat' apply And.intro) <;> first | omega | trivial | assumption | (simp; done) | (simp; omega))) | (refine Sx.mk ?_ ?_; · omega) | refine Fa.mk (fun _ => ?_) | refine Im.mk (fun _ => ?_) | apply Lw.go | refine g_cond ?_ | refine g_guard ?_ | refine g_keep ?_ | refine g_pass ?_ | refine g_fin ?_ | (apply g_ap; exact rfl; exact rfl; assumption)
    exact fin hR
  have hwt := wts_few hj2
  repeat' first | apply step | (apply g_op; · repeat first | exact Evs.nil | (apply Evs.cons; exact rfl)) | (refine Br.mk (fun _ => ?_) (fun _ => ?_) <;> try (exfalso; omega)) | (refine Sd.mk ?_ ?_; · ((repeat' apply And.intro) <;> first | omega | trivial | assumption | (simp; done) | (simp; omega))) | (refine Sx.mk ?_ ?_; · omega) | refine Fa.mk (fun _ => ?_) | refine Im.mk (fun _ => ?_) | apply Lw.go | refine g_cond ?_ | refine g_guard ?_ | refine g_keep ?_ | refine g_pass ?_ | refine g_fin ?_ | (apply g_ap; exact rfl; exact rfl; assumption)
  first | refine at_callS (picks_New_spec (l := l) (k := c) (by omega) (by omega)) ?_ | refine at_callR (picks_New_spec (l := l) (k := c) (by omega) (by omega)) ?_
  intro sb
  repeat' first | apply step | (apply g_op; · repeat first | exact Evs.nil | (apply Evs.cons; exact rfl)) | (refine Br.mk (fun _ => ?_) (fun _ => ?_) <;> try (exfalso; omega)) | (refine Sd.mk ?_ ?_; · ((repeat' apply And.intro) <;> first | omega | trivial | assumption | (simp; done) | (simp; omega))) | (refine Sx.mk ?_ ?_; · omega) | refine Fa.mk (fun _ => ?_) | refine Im.mk (fun _ => ?_) | apply Lw.go | refine g_cond ?_ | refine g_guard ?_ | refine g_keep ?_ | refine g_pass ?_ | refine g_fin ?_ | (apply g_ap; exact rfl; exact rfl; assumption)
  first | refine at_callS (pool_New_int_spec (sb := sb) (s := ⟨l, c, 0, 0⟩) (w := w) (by simp) (by simp)) ?_ | refine at_callR (pool_New_int_spec (sb := sb) (s := ⟨l, c, 0, 0⟩) (w := w) (by simp) (by simp)) ?_
  refine ⟨fun h => ?_, fun m hm h1 h2 b => ?_⟩
  · repeat' first | apply step | (apply g_op; · repeat first | exact Evs.nil | (apply Evs.cons; exact rfl)) | (refine Br.mk (fun _ => ?_) (fun _ => ?_) <;> try (exfalso; omega)) | (refine Sd.mk ?_ ?_; · ((repeat' apply And.intro) <;> first | omega | trivial | assumption | (simp; done) | (simp; omega))) | (refine Sx.mk ?_ ?_; · omega) | refine Fa.mk (fun _ => ?_) | refine Im.mk (fun _ => ?_) | apply Lw.go | refine g_cond ?_ | refine g_guard ?_ | refine g_keep ?_ | refine g_pass ?_ | refine g_fin ?_ | (apply g_ap; exact rfl; exact rfl; assumption)
    first | refine at_callS (r10_New_spec (s := ⟨l, c, 0, 0⟩) (w := w)) ?_ | refine at_callR (r10_New_spec (s := ⟨l, c, 0, 0⟩) (w := w)) ?_
    refine ⟨fun _ => ?_, fun m hm h1 h2 => by exfalso; omega⟩
    repeat' first | apply step | (apply g_op; · repeat first | exact Evs.nil | (apply Evs.cons; exact rfl)) | (refine Br.mk (fun _ => ?_) (fun _ => ?_) <;> try (exfalso; omega)) | (refine Sd.mk ?_ ?_; · ((repeat' apply And.intro) <;> first | omega | trivial | assumption | (simp; done) | (simp; omega))) | (refine Sx.mk ?_ ?_; · omega) | refine Fa.mk (fun _ => ?_) | refine Im.mk (fun _ => ?_) | apply Lw.go | refine g_cond ?_ | refine g_guard ?_ | refine g_keep ?_ | refine g_pass ?_ | refine g_fin ?_ | (apply g_ap; exact rfl; exact rfl; assumption)
    first | refine at_callS (l10_works_spec) ?_ | refine at_callR (l10_works_spec) ?_
    repeat' first | apply step | (apply g_op; · repeat first | exact Evs.nil | (apply Evs.cons; exact rfl)) | (refine Br.mk (fun _ => ?_) (fun _ => ?_) <;> try (exfalso; omega)) | (refine Sd.mk ?_ ?_; · ((repeat' apply And.intro) <;> first | omega | trivial | assumption | (simp; done) | (simp; omega))) | (refine Sx.mk ?_ ?_; · omega) | refine Fa.mk (fun _ => ?_) | refine Im.mk (fun _ => ?_) | apply Lw.go | refine g_cond ?_ | refine g_guard ?_ | refine g_keep ?_ | refine g_pass ?_ | refine g_fin ?_ | (apply g_ap; exact rfl; exact rfl; assumption)
    exact fin hR
  have ok0 := P0_ok h1 h2
  have e0 : mm (P0 m).ws = 0 := mm_rep m
  obtain ⟨ok1, k2, k3, k4, k5, k6⟩ := adds_ok (l := jobs) ok0 (by rw [e0]; simp [P0]; omega)
  rw [e0] at k2
  have hD := l10_halves_does
  repeat' first | apply step | (apply g_op; · repeat first | exact Evs.nil | (apply Evs.cons; exact rfl)) | (refine Br.mk (fun _ => ?_) (fun _ => ?_) <;> try (exfalso; omega)) | (refine Sd.mk ?_ ?_; · ((repeat' apply And.intro) <;> first | omega | trivial | assumption | (simp; done) | (simp; omega))) | (refine Sx.mk ?_ ?_; · omega) | refine Fa.mk (fun _ => ?_) | refine Im.mk (fun _ => ?_) | apply Lw.go | refine g_cond ?_ | refine g_guard ?_ | refine g_keep ?_ | refine g_pass ?_ | refine g_fin ?_ | (apply g_ap; exact rfl; exact rfl; assumption)
  first | refine at_callS (r10_New_spec (s := ⟨l, c, 0, 0⟩) (w := w)) ?_ | refine at_callR (r10_New_spec (s := ⟨l, c, 0, 0⟩) (w := w)) ?_
  refine ⟨fun h => by exfalso; omega, fun m' hm' h1' h2' a => ?_⟩
  obtain rfl : m' = m := by omega
  repeat' first | apply step | (apply g_op; · repeat first | exact Evs.nil | (apply Evs.cons; exact rfl)) | (refine Br.mk (fun _ => ?_) (fun _ => ?_) <;> try (exfalso; omega)) | (refine Sd.mk ?_ ?_; · ((repeat' apply And.intro) <;> first | omega | trivial | assumption | (simp; done) | (simp; omega))) | (refine Sx.mk ?_ ?_; · omega) | refine Fa.mk (fun _ => ?_) | refine Im.mk (fun _ => ?_) | apply Lw.go | refine g_cond ?_ | refine g_guard ?_ | refine g_keep ?_ | refine g_pass ?_ | refine g_fin ?_ | (apply g_ap; exact rfl; exact rfl; assumption)
  first | refine at_callS (pool_Pool_int_Add_spec (b := b) (sb := sb) ok0 (l := jobs) (by omega) (by rw [e0]; simp [P0]; omega)) ?_ | refine at_callR (pool_Pool_int_Add_spec (b := b) (sb := sb) ok0 (l := jobs) (by omega) (by rw [e0]; simp [P0]; omega)) ?_
  repeat' first | apply step | (apply g_op; · repeat first | exact Evs.nil | (apply Evs.cons; exact rfl)) | (refine Br.mk (fun _ => ?_) (fun _ => ?_) <;> try (exfalso; omega)) | (refine Sd.mk ?_ ?_; · ((repeat' apply And.intro) <;> first | omega | trivial | assumption | (simp; done) | (simp; omega))) | (refine Sx.mk ?_ ?_; · omega) | refine Fa.mk (fun _ => ?_) | refine Im.mk (fun _ => ?_) | apply Lw.go | refine g_cond ?_ | refine g_guard ?_ | refine g_keep ?_ | refine g_pass ?_ | refine g_fin ?_ | (apply g_ap; exact rfl; exact rfl; assumption)
  refine av_foldP emp rfl () trivial ?_
  first | refine at_callS (pool_Pool_int_Run_spec (b := b) (sb := sb) (s := ⟨l, c, 0, 0⟩) hD ok1 (by dsimp only; omega) (by dsimp only; omega)) ?_ | refine at_callR (pool_Pool_int_Run_spec (b := b) (sb := sb) (s := ⟨l, c, 0, 0⟩) hD ok1 (by dsimp only; omega) (by dsimp only; omega)) ?_
  repeat' first | apply step | (apply g_op; · repeat first | exact Evs.nil | (apply Evs.cons; exact rfl)) | (refine Br.mk (fun _ => ?_) (fun _ => ?_) <;> try (exfalso; omega)) | (refine Sd.mk ?_ ?_; · ((repeat' apply And.intro) <;> first | omega | trivial | assumption | (simp; done) | (simp; omega))) | (refine Sx.mk ?_ ?_; · omega) | refine Fa.mk (fun _ => ?_) | refine Im.mk (fun _ => ?_) | apply Lw.go | refine g_cond ?_ | refine g_guard ?_ | refine g_keep ?_ | refine g_pass ?_ | refine g_fin ?_ | (apply g_ap; exact rfl; exact rfl; assumption)
  first | refine at_callS (r10_Add_spec (a := a) (s := ⟨l, c, 0, 0⟩) ok0 (l := jobs) (by omega) (by rw [e0]; simp [P0]; omega)) ?_ | refine at_callR (r10_Add_spec (a := a) (s := ⟨l, c, 0, 0⟩) ok0 (l := jobs) (by omega) (by rw [e0]; simp [P0]; omega)) ?_
  intro a1
  repeat' first | apply step | (apply g_op; · repeat first | exact Evs.nil | (apply Evs.cons; exact rfl)) | (refine Br.mk (fun _ => ?_) (fun _ => ?_) <;> try (exfalso; omega)) | (refine Sd.mk ?_ ?_; · ((repeat' apply And.intro) <;> first | omega | trivial | assumption | (simp; done) | (simp; omega))) | (refine Sx.mk ?_ ?_; · omega) | refine Fa.mk (fun _ => ?_) | refine Im.mk (fun _ => ?_) | apply Lw.go | refine g_cond ?_ | refine g_guard ?_ | refine g_keep ?_ | refine g_pass ?_ | refine g_fin ?_ | (apply g_ap; exact rfl; exact rfl; assumption)
  first | refine at_callS (r10_Run_spec (a := a1) (s := ⟨l, c, 0, 0⟩) ok1 (by omega) (by dsimp only; omega) (by dsimp only; omega)) ?_ | refine at_callR (r10_Run_spec (a := a1) (s := ⟨l, c, 0, 0⟩) ok1 (by omega) (by dsimp only; omega) (by dsimp only; omega)) ?_
  intro a2
  have hti := adds_tot (l := jobs) ok0.x
  rw [tot_rep] at hti
  obtain ⟨v1, v2, v3, v4, v5, v6⟩ := runP_inv (mm ((P0 m').adds jobs).ws + 1) (s := ⟨l, c, 0, 0⟩) ok1
  generalize runP (mm ((P0 m').adds jobs).ws + 1) ((P0 m').adds jobs) ⟨l, c, 0, 0⟩ = r at *
  obtain ⟨Q, s1, er⟩ := r
  dsimp only at v1 v2 v3 v4 v5 v6 ⊢
  have hdid : ((P0 m').adds jobs).did.length = 0 := by rw [k4]; rfl
  have hte := tot_eq Q.ws
  have hqw := v1.w
  repeat' first | apply step | (apply g_op; · repeat first | exact Evs.nil | (apply Evs.cons; exact rfl)) | (refine Br.mk (fun _ => ?_) (fun _ => ?_) <;> try (exfalso; omega)) | (refine Sd.mk ?_ ?_; · ((repeat' apply And.intro) <;> first | omega | trivial | assumption | (simp; done) | (simp; omega))) | (refine Sx.mk ?_ ?_; · omega) | refine Fa.mk (fun _ => ?_) | refine Im.mk (fun _ => ?_) | apply Lw.go | refine g_cond ?_ | refine g_guard ?_ | refine g_keep ?_ | refine g_pass ?_ | refine g_fin ?_ | (apply g_ap; exact rfl; exact rfl; assumption)
  first | refine at_callS (pool_Pool_int_Who_spec (b := b) (sb := sb) v1) ?_ | refine at_callR (pool_Pool_int_Who_spec (b := b) (sb := sb) v1) ?_
  intro p3 c3
  repeat' first | apply step | (apply g_op; · repeat first | exact Evs.nil | (apply Evs.cons; exact rfl)) | (refine Br.mk (fun _ => ?_) (fun _ => ?_) <;> try (exfalso; omega)) | (refine Sd.mk ?_ ?_; · ((repeat' apply And.intro) <;> first | omega | trivial | assumption | (simp; done) | (simp; omega))) | (refine Sx.mk ?_ ?_; · omega) | refine Fa.mk (fun _ => ?_) | refine Im.mk (fun _ => ?_) | apply Lw.go | refine g_cond ?_ | refine g_guard ?_ | refine g_keep ?_ | refine g_pass ?_ | refine g_fin ?_ | (apply g_ap; exact rfl; exact rfl; assumption)
  first | refine at_callS (r01_Same_spec (a := Q.who) (b := Q.who) (by omega)) ?_ | refine at_callR (r01_Same_spec (a := Q.who) (b := Q.who) (by omega)) ?_
  refine ⟨fun _ => ?_, fun h => absurd rfl h⟩
  repeat' first | apply step | (apply g_op; · repeat first | exact Evs.nil | (apply Evs.cons; exact rfl)) | (refine Br.mk (fun _ => ?_) (fun _ => ?_) <;> try (exfalso; omega)) | (refine Sd.mk ?_ ?_; · ((repeat' apply And.intro) <;> first | omega | trivial | assumption | (simp; done) | (simp; omega))) | (refine Sx.mk ?_ ?_; · omega) | refine Fa.mk (fun _ => ?_) | refine Im.mk (fun _ => ?_) | apply Lw.go | refine g_cond ?_ | refine g_guard ?_ | refine g_keep ?_ | refine g_pass ?_ | refine g_fin ?_ | (apply g_ap; exact rfl; exact rfl; assumption)
  first | refine at_callS (pool_Pool_int_Done_spec (b := b) (sb := sb) v1) ?_ | refine at_callR (pool_Pool_int_Done_spec (b := b) (sb := sb) v1) ?_
  repeat' first | apply step | (apply g_op; · repeat first | exact Evs.nil | (apply Evs.cons; exact rfl)) | (refine Br.mk (fun _ => ?_) (fun _ => ?_) <;> try (exfalso; omega)) | (refine Sd.mk ?_ ?_; · ((repeat' apply And.intro) <;> first | omega | trivial | assumption | (simp; done) | (simp; omega))) | (refine Sx.mk ?_ ?_; · omega) | refine Fa.mk (fun _ => ?_) | refine Im.mk (fun _ => ?_) | apply Lw.go | refine g_cond ?_ | refine g_guard ?_ | refine g_keep ?_ | refine g_pass ?_ | refine g_fin ?_ | (apply g_ap; exact rfl; exact rfl; assumption)
  first | refine at_callS (pool_Pool_int_Stolen_spec (b := b) (sb := sb) v1) ?_ | refine at_callR (pool_Pool_int_Stolen_spec (b := b) (sb := sb) v1) ?_
  repeat' first | apply step | (apply g_op; · repeat first | exact Evs.nil | (apply Evs.cons; exact rfl)) | (refine Br.mk (fun _ => ?_) (fun _ => ?_) <;> try (exfalso; omega)) | (refine Sd.mk ?_ ?_; · ((repeat' apply And.intro) <;> first | omega | trivial | assumption | (simp; done) | (simp; omega))) | (refine Sx.mk ?_ ?_; · omega) | refine Fa.mk (fun _ => ?_) | refine Im.mk (fun _ => ?_) | apply Lw.go | refine g_cond ?_ | refine g_guard ?_ | refine g_keep ?_ | refine g_pass ?_ | refine g_fin ?_ | (apply g_ap; exact rfl; exact rfl; assumption)
  first | refine at_callS (pool_Pool_int_Left_spec (b := b) (sb := sb) v1) ?_ | refine at_callR (pool_Pool_int_Left_spec (b := b) (sb := sb) v1) ?_
  repeat' first | apply step | (apply g_op; · repeat first | exact Evs.nil | (apply Evs.cons; exact rfl)) | (refine Br.mk (fun _ => ?_) (fun _ => ?_) <;> try (exfalso; omega)) | (refine Sd.mk ?_ ?_; · ((repeat' apply And.intro) <;> first | omega | trivial | assumption | (simp; done) | (simp; omega))) | (refine Sx.mk ?_ ?_; · omega) | refine Fa.mk (fun _ => ?_) | refine Im.mk (fun _ => ?_) | apply Lw.go | refine g_cond ?_ | refine g_guard ?_ | refine g_keep ?_ | refine g_pass ?_ | refine g_fin ?_ | (apply g_ap; exact rfl; exact rfl; assumption)
  first | refine at_callS (r10_Jobs_spec (A := fro (kInt .i64) q cq jobs) (l := jobs) (by omega)) ?_ | refine at_callR (r10_Jobs_spec (A := fro (kInt .i64) q cq jobs) (l := jobs) (by omega)) ?_
  repeat' first | apply step | (apply g_op; · repeat first | exact Evs.nil | (apply Evs.cons; exact rfl)) | (refine Br.mk (fun _ => ?_) (fun _ => ?_) <;> try (exfalso; omega)) | (refine Sd.mk ?_ ?_; · ((repeat' apply And.intro) <;> first | omega | trivial | assumption | (simp; done) | (simp; omega))) | (refine Sx.mk ?_ ?_; · omega) | refine Fa.mk (fun _ => ?_) | refine Im.mk (fun _ => ?_) | apply Lw.go | refine g_cond ?_ | refine g_guard ?_ | refine g_keep ?_ | refine g_pass ?_ | refine g_fin ?_ | (apply g_ap; exact rfl; exact rfl; assumption)
  refine av_ent (ent_fnil (K := kInt .i64)) ?_
  first | refine at_callS (r10_Jobs_spec (A := fro (kInt .i64) none 0 []) (l := []) (by simp [wts_nil])) ?_ | refine at_callR (r10_Jobs_spec (A := fro (kInt .i64) none 0 []) (l := []) (by simp [wts_nil])) ?_
  have hw0 := wts_nil
  have hdl : Q.did.length + mm Q.ws ≤ 1000000 := v1.d
  repeat' first | apply step | (apply g_op; · repeat first | exact Evs.nil | (apply Evs.cons; exact rfl)) | (refine Br.mk (fun _ => ?_) (fun _ => ?_) <;> try (exfalso; omega)) | (refine Sd.mk ?_ ?_; · ((repeat' apply And.intro) <;> first | omega | trivial | assumption | (simp; done) | (simp; omega))) | (refine Sx.mk ?_ ?_; · omega) | refine Fa.mk (fun _ => ?_) | refine Im.mk (fun _ => ?_) | apply Lw.go | refine g_cond ?_ | refine g_guard ?_ | refine g_keep ?_ | refine g_pass ?_ | refine g_fin ?_ | (apply g_ap; exact rfl; exact rfl; assumption)
  first | refine at_callS (l10_born_spec (a := a2) (P := Q) (s := s1) (pl := p) (cl := cp) v1) ?_ | refine at_callR (l10_born_spec (a := a2) (P := Q) (s := s1) (pl := p) (cl := cp) v1) ?_
  repeat' first | apply step | (apply g_op; · repeat first | exact Evs.nil | (apply Evs.cons; exact rfl)) | (refine Br.mk (fun _ => ?_) (fun _ => ?_) <;> try (exfalso; omega)) | (refine Sd.mk ?_ ?_; · ((repeat' apply And.intro) <;> first | omega | trivial | assumption | (simp; done) | (simp; omega))) | (refine Sx.mk ?_ ?_; · omega) | refine Fa.mk (fun _ => ?_) | refine Im.mk (fun _ => ?_) | apply Lw.go | refine g_cond ?_ | refine g_guard ?_ | refine g_keep ?_ | refine g_pass ?_ | refine g_fin ?_ | (apply g_ap; exact rfl; exact rfl; assumption)
  first | refine at_callS (picks_Script_Steps_spec (b := sb) (s := s1)) ?_ | refine at_callR (picks_Script_Steps_spec (b := sb) (s := s1)) ?_
  repeat' first | apply step | (apply g_op; · repeat first | exact Evs.nil | (apply Evs.cons; exact rfl)) | (refine Br.mk (fun _ => ?_) (fun _ => ?_) <;> try (exfalso; omega)) | (refine Sd.mk ?_ ?_; · ((repeat' apply And.intro) <;> first | omega | trivial | assumption | (simp; done) | (simp; omega))) | (refine Sx.mk ?_ ?_; · omega) | refine Fa.mk (fun _ => ?_) | refine Im.mk (fun _ => ?_) | apply Lw.go | refine g_cond ?_ | refine g_guard ?_ | refine g_keep ?_ | refine g_pass ?_ | refine g_fin ?_ | (apply g_ap; exact rfl; exact rfl; assumption)
  first | refine at_callS (l10_works_spec) ?_ | refine at_callR (l10_works_spec) ?_
  repeat' first | apply step | (apply g_op; · repeat first | exact Evs.nil | (apply Evs.cons; exact rfl)) | (refine Br.mk (fun _ => ?_) (fun _ => ?_) <;> try (exfalso; omega)) | (refine Sd.mk ?_ ?_; · ((repeat' apply And.intro) <;> first | omega | trivial | assumption | (simp; done) | (simp; omega))) | (refine Sx.mk ?_ ?_; · omega) | refine Fa.mk (fun _ => ?_) | refine Im.mk (fun _ => ?_) | apply Lw.go | refine g_cond ?_ | refine g_guard ?_ | refine g_keep ?_ | refine g_pass ?_ | refine g_fin ?_ | (apply g_ap; exact rfl; exact rfl; assumption)
  exact fin hR
end
end Go.AMS

