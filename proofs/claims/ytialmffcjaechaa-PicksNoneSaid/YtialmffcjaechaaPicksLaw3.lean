/- The law of the package picks on cancelled scripts. -/
import Derived.Test.YtialmffcjaechaaPicksLaw2
namespace Go.AM.G.Picks
open Go.AM hiding Kt At WP WL Runs RunsY
open Go.AM.G.Set
set_option linter.unusedVariables false
set_option linter.unusedSimpArgs false
set_option linter.unusedSectionVars false
attribute [local irreducible] At WP WL Runs

/-- coroner/coronerlaw09.PicksCancel -/
def cancelLaw (worksN : Nat) (newSN : Nat) (stepN : Nat) (stepsN : Nat) (usedN : Nat) : AFn := ⟨3, [.tmp 6],
  (.seq
    (.ops false [
      ⟨(some 6), .mv (.const (.bool false)), none, false⟩])
  (.seq
    (.seq
      (.ops false [
        ⟨(some 13), .mv (.tmp 0), none, false⟩,
        ⟨(some 14), .len 1 (.tmp 13), none, false⟩,
        ⟨(some 15), .bin .gtr (.tmp 14) (.const (.int .i64 100)), none, false⟩,
        ⟨(some 16), .mv (.tmp 15), none, false⟩,
        ⟨(some 17), .mv (.tmp 2), (some (16, false)), false⟩,
        ⟨(some 18), .bin .gtr (.tmp 17) (.const (.int .u16 300)), (some (16, false)), false⟩,
        ⟨(some 19), .pick (.tmp 16) (.const (.bool true)) (.tmp 18), none, false⟩])
    (.cond (.tmp 19)
      (.seq
        (.ops false [
          ⟨(some 20), .call (.func worksN) [], none, false⟩,
          ⟨(some 6), .mv (.tmp 20), none, false⟩])
      .ret)
      .skip))
  (.seq
    (.ops false [
      ⟨(some 21), .mv (.tmp 0), none, false⟩,
      ⟨(some 22), .mv (.tmp 1), none, false⟩,
      ⟨(some 23), .call (.func newSN) [(.tmp 21), (.tmp 22)], none, false⟩,
      ⟨(some 7), .mv (.tmp 23), none, false⟩])
  (.seq
    (.seq
      (.ops false [
        ⟨(some 8), .mv (.const (.int .i64 0)), none, false⟩])
    (.seq (.keep [0, 1, 2, 7, 8])
    (.block 0
      (.loop (.seq
        (.seq
          (.seq
            (.ops false [
              ⟨(some 24), .mv (.tmp 8), none, false⟩,
              ⟨(some 25), .mv (.tmp 2), none, false⟩,
              ⟨(some 26), .conv .i64 (.tmp 25), none, false⟩,
              ⟨(some 27), .bin .lss (.tmp 24) (.tmp 26), none, false⟩])
          (.cond (.tmp 27)
            .skip
            (.exit 0)))
        (.seq
          (.block 1
            (.seq
              (.ops false [
                ⟨(some 31), .mv (.tmp 7), none, false⟩,
                ⟨(some 32), .bslice 1 3 [(.int .i64 0), (.int .i64 0), (.int .i64 0)] [(0, (1, (.const (.int .i64 3)))), (1, (1, (.const (.int .i64 8)))), (2, (1, (.const (.int .i64 12))))], none, false⟩,
                ⟨(some 33), .call (.func stepN) [(.tmp 31), (.tmp 32)], none, false⟩,
                ⟨(some 30), .mv (.tmp 33), none, false⟩,
                ⟨(some 34), .extract 0 (.tmp 30), none, false⟩,
                ⟨(some 35), .extract 1 (.tmp 30), none, false⟩,
                ⟨(some 9), .mv (.tmp 34), none, false⟩,
                ⟨(some 10), .mv (.tmp 35), none, false⟩])
            (.seq
              (.ops false [
                ⟨(some 36), .mv (.tmp 1), none, false⟩,
                ⟨(some 37), .bin .geq (.tmp 36) (.const (.int .i64 0)), none, false⟩,
                ⟨(some 38), .mv (.tmp 37), none, false⟩,
                ⟨(some 39), .mv (.tmp 8), (some (38, true)), false⟩,
                ⟨(some 40), .mv (.tmp 1), (some (38, true)), false⟩,
                ⟨(some 41), .bin .geq (.tmp 39) (.tmp 40), (some (38, true)), false⟩,
                ⟨(some 42), .pick (.tmp 38) (.tmp 41) (.const (.bool false)), none, false⟩,
                ⟨(some 11), .mv (.tmp 42), none, false⟩])
            (.seq
              (.ops false [
                ⟨(some 43), .mv (.tmp 11), none, false⟩,
                ⟨(some 44), .mv (.tmp 43), none, false⟩,
                ⟨(some 45), .mv (.tmp 10), (some (44, true)), false⟩,
                ⟨(some 46), .bin .neq (.tmp 45) (.const (.int .i64 8)), (some (44, true)), false⟩,
                ⟨(some 47), .mv (.tmp 46), (some (44, true)), false⟩,
                ⟨(some 48), .mv (.tmp 9), (some (47, false)), false⟩,
                ⟨(some 49), .bin .neq (.tmp 48) (.const (.int .i64 0)), (some (47, false)), false⟩,
                ⟨(some 50), .pick (.tmp 47) (.const (.bool true)) (.tmp 49), (some (44, true)), false⟩,
                ⟨(some 51), .pick (.tmp 44) (.tmp 50) (.const (.bool false)), none, false⟩,
                ⟨(some 52), .mv (.tmp 51), none, false⟩,
                ⟨(some 53), .mv (.tmp 11), (some (52, false)), false⟩,
                ⟨(some 54), .un .not (.tmp 53), (some (52, false)), false⟩,
                ⟨(some 55), .mv (.tmp 54), (some (52, false)), false⟩,
                ⟨(some 56), .mv (.tmp 10), (some (55, true)), false⟩,
                ⟨(some 57), .bin .neq (.tmp 56) (.const (.int .i64 0)), (some (55, true)), false⟩,
                ⟨(some 58), .mv (.tmp 57), (some (55, true)), false⟩,
                ⟨(some 59), .mv (.tmp 9), (some (58, false)), false⟩,
                ⟨(some 60), .bin .neq (.tmp 59) (.const (.int .i64 3)), (some (58, false)), false⟩,
                ⟨(some 61), .mv (.tmp 60), (some (58, false)), false⟩,
                ⟨(some 62), .mv (.tmp 9), (some (61, true)), false⟩,
                ⟨(some 63), .bin .neq (.tmp 62) (.const (.int .i64 8)), (some (61, true)), false⟩,
                ⟨(some 64), .pick (.tmp 61) (.tmp 63) (.const (.bool false)), (some (58, false)), false⟩,
                ⟨(some 65), .mv (.tmp 64), (some (58, false)), false⟩,
                ⟨(some 66), .mv (.tmp 9), (some (65, true)), false⟩,
                ⟨(some 67), .bin .neq (.tmp 66) (.const (.int .i64 12)), (some (65, true)), false⟩,
                ⟨(some 68), .pick (.tmp 65) (.tmp 67) (.const (.bool false)), (some (58, false)), false⟩,
                ⟨(some 69), .pick (.tmp 58) (.const (.bool true)) (.tmp 68), (some (55, true)), false⟩,
                ⟨(some 70), .pick (.tmp 55) (.tmp 69) (.const (.bool false)), (some (52, false)), false⟩,
                ⟨(some 71), .pick (.tmp 52) (.const (.bool true)) (.tmp 70), none, false⟩])
            (.cond (.tmp 71)
              (.seq
                (.ops false [
                  ⟨(some 6), .mv (.const (.bool false)), none, false⟩])
              .ret)
              .skip)))))
        (.ops false [
          ⟨(some 28), .mv (.tmp 8), none, false⟩,
          ⟨(some 29), .bin .add (.tmp 28) (.const (.int .i64 1)), none, false⟩,
          ⟨(some 8), .mv (.tmp 29), none, false⟩])))
        (.keep [0, 1, 2, 7, 8]))))))
  (.seq (.keep [0, 1, 2, 7])
  (.seq
    (.ops false [
      ⟨(some 72), .mv (.tmp 2), none, false⟩,
      ⟨(some 73), .conv .i64 (.tmp 72), none, false⟩,
      ⟨(some 12), .mv (.tmp 73), none, false⟩])
  (.seq
    (.seq
      (.ops false [
        ⟨(some 74), .mv (.tmp 1), none, false⟩,
        ⟨(some 75), .bin .geq (.tmp 74) (.const (.int .i64 0)), none, false⟩])
    (.cond (.tmp 75)
      (.ops false [
        ⟨(some 76), .mv (.tmp 12), none, false⟩,
        ⟨(some 77), .mv (.tmp 1), none, false⟩,
        ⟨(some 78), .min [(.tmp 76), (.tmp 77)], none, false⟩,
        ⟨(some 12), .mv (.tmp 78), none, false⟩])
      .skip))
  (.seq
    (.ops false [
      ⟨(some 79), .mv (.tmp 7), none, false⟩,
      ⟨(some 80), .call (.func stepsN) [(.tmp 79)], none, false⟩,
      ⟨(some 81), .mv (.tmp 12), none, false⟩,
      ⟨(some 82), .bin .eql (.tmp 80) (.tmp 81), none, false⟩,
      ⟨(some 83), .mv (.tmp 82), none, false⟩,
      ⟨(some 84), .mv (.tmp 7), (some (83, true)), false⟩,
      ⟨(some 85), .call (.func usedN) [(.tmp 84)], (some (83, true)), false⟩,
      ⟨(some 86), .mv (.tmp 12), (some (83, true)), false⟩,
      ⟨(some 87), .mv (.tmp 0), (some (83, true)), false⟩,
      ⟨(some 88), .len 1 (.tmp 87), (some (83, true)), false⟩,
      ⟨(some 89), .min [(.tmp 86), (.tmp 88)], (some (83, true)), false⟩,
      ⟨(some 90), .bin .eql (.tmp 85) (.tmp 89), (some (83, true)), false⟩,
      ⟨(some 91), .pick (.tmp 83) (.tmp 90) (.const (.bool false)), none, false⟩,
      ⟨(some 92), .mv (.tmp 91), none, false⟩,
      ⟨(some 93), .call (.func worksN) [], (some (92, true)), false⟩,
      ⟨(some 94), .pick (.tmp 92) (.tmp 93) (.const (.bool false)), none, false⟩,
      ⟨(some 6), .mv (.tmp 94), none, false⟩])
  .ret))))))))⟩

theorem took_u (s : Scr) : s.took.used = min (s.used + 1) s.l.length ∨ s.l.length ≤ s.used ∧ s.took.used = s.used := by
  unfold Scr.took
  split
  · left; show s.used + 1 = _; omega
  · right; exact ⟨by omega, rfl⟩
theorem took_l (s : Scr) : s.took.l = s.l := by unfold Scr.took; split <;> rfl

section
variable {prog : AProg} {h : Heap}

/-- Where a script is after so many steps. -/
def AtStep (sc : Scr) (l : List Int) (cancel : Int) (n : Nat) : Prop := sc.l = l ∧ sc.cancel = cancel ∧ (cancel < 0 → sc.steps = n) ∧ (0 ≤ cancel → (sc.steps : Int) = min (n : Int) cancel) ∧ sc.used = min sc.steps l.length

set_option maxHeartbeats 2000000 in
theorem cancelLaw_runs {fn fw fne fst fss fus fca fo fi fle fli fch fcl fs fc : FuncId} (hp : prog fn = some (.code (cancelLaw fw fne fst fss fus))) (hw : prog fw = some (.oracle (closedO (.bool true))))
    (hne : prog fne = some (.code (newS fcl))) (hst : prog fst = some (.code (step fo fi fca fle fli fch))) (hss : prog fss = some (.code (steps fi))) (hus : prog fus = some (.code (used fi))) (hca : prog fca = some (.code (cancelled fi)))
    (ho : prog fo = some (.code (setOf fcl fs fc))) (hi : prog fi = some (.code isS)) (hle : prog fle = some (.code setLen)) (hli : prog fli = some (.code (setList fcl))) (hch : prog fch = some (.code choice)) (hcl : prog fcl = some (.code Pre.clone)) (hs : prog fs = some (.oracle sortO)) (hc : prog fc = some (.code compact))
    {va : Value} {l : List Int} {cancel cnt : Int} (ha : Sl (kInt .i64) (mem h) va l) (hcb : -9223372036854775808 ≤ cancel ∧ cancel ≤ 9223372036854775807) (hcnt : 0 ≤ cnt ∧ cnt ≤ 65535) (hprot : h.prot ≤ h.size) : Runs prog fn [va, .int .i64 cancel, .int .u16 cnt] h (fun v h' => v = .bool true) := by
  obtain ⟨pa, ca, rfl⟩ := ha.form
  refine runs_here hp rfl ?_
  unfold cancelLaw
  repeat' first | refine at_seq ?_ | refine at_ops ?_ | refine at_nil ?_ | refine at_mv rfl ?_ | refine at_lenL rfl ?_ | refine at_guard_t rfl ?_ | refine at_guard_f rfl ?_ | refine at_guard_u rfl ?_ | (refine at_lss rfl rfl (fun _ => ?_) (fun _ => ?_) <;> try (exfalso; omega)) | (refine at_leq rfl rfl (fun _ => ?_) (fun _ => ?_) <;> try (exfalso; omega)) | (refine at_gtr rfl rfl (fun _ => ?_) (fun _ => ?_) <;> try (exfalso; omega)) | (refine at_geq rfl rfl (fun _ => ?_) (fun _ => ?_) <;> try (exfalso; omega)) | (refine at_eql rfl rfl (fun _ => ?_) (fun _ => ?_) <;> try (exfalso; omega)) | (refine at_neq rfl rfl (fun _ => ?_) (fun _ => ?_) <;> try (exfalso; omega)) | refine at_skip ?_ | refine at_true rfl ?_ | refine at_false rfl ?_ | refine at_block ?_ | refine at_blk ?_ | refine at_blk_exit ?_ | refine at_blk_ret ?_ | refine at_c_ret ?_ | refine at_o_ret ?_ | refine at_c_exit ?_ | refine at_blk_pass rfl ?_ | refine at_exit ?_ | refine at_ret ?_ | refine at_kp (by simp only [keep_cons, keep_nil, keepC_some, keepC_none, get_same, get_ne, get_nil, put_s, put_n, arg_cons, arg_nil, Nat.reduceBEq, Nat.reduceAdd] <;> rfl) ?_ | refine at_inc rfl (by omega) ?_ | refine at_add rfl rfl (by omega) ?_ | refine at_sub rfl rfl (by omega) ?_ | refine at_pick_t rfl rfl ?_ | refine at_pick_f rfl rfl ?_ | refine at_not rfl ?_ | refine at_conv64 rfl (by omega) ?_ | (refine at_max2 rfl rfl (fun _ => ?_) (fun _ => ?_) <;> try (exfalso; omega)) | (refine at_min2 rfl rfl (fun _ => ?_) (fun _ => ?_) <;> try (exfalso; omega)) | refine at_remN rfl rfl (by omega) (fun _ _ _ => ?_) | (refine at_iaddr rfl rfl (by assumption) (by omega) (fun _ _ hp => ?_); cases hp) | (refine at_iaddr_int rfl rfl (by assumption) (by omega) (fun _ _ hp => ?_); cases hp) | refine at_elemI rfl (by assumption) (by first | assumption | exact Sub.refl _ | exact fz_mem _ | exact St.sub (by assumption)) (by omega) (fun _ => ?_) | refine at_elemU8 rfl (by assumption) (by first | assumption | exact Sub.refl _ | exact fz_mem _ | exact St.sub (by assumption)) (by omega) (fun _ => ?_) | refine at_elemB rfl (by assumption) (by first | assumption | exact Sub.refl _ | exact fz_mem _ | exact St.sub (by assumption)) (by omega) (fun _ => ?_) (fun _ => ?_) | refine at_elemL rfl (by assumption) (by first | assumption | exact Sub.refl _ | exact fz_mem _ | exact St.sub (by assumption)) (by omega) (fun _ _ _ _ => ?_) | refine at_elemS rfl (by assumption) (by first | assumption | exact Sub.refl _ | exact fz_mem _ | exact St.sub (by assumption)) (by omega) (fun _ => ?_) | refine at_elemV rfl (by assumption) (by infer_instance) (by first | assumption | exact Sub.refl _ | exact fz_mem _ | exact St.sub (by assumption)) (by omega) ?_ | refine at_eqlV rfl rfl (fun _ => ?_) (fun _ => ?_) | refine at_faddr rfl ?_ | refine at_nilc rfl ?_ | refine at_ld rfl (by assumption) rfl rfl ?_ | refine at_opsA ?_ | refine at_apart rfl ?_ | refine at_ap_ret ?_ | refine at_end ?_ | refine at_free rfl rfl ?_
  · refine at_cl rfl rfl rfl rfl (runs_oracle hw (fun _ => rfl) (fun _ _ => ?_))
    repeat' first | refine at_seq ?_ | refine at_ops ?_ | refine at_nil ?_ | refine at_mv rfl ?_ | refine at_lenL rfl ?_ | refine at_guard_t rfl ?_ | refine at_guard_f rfl ?_ | refine at_guard_u rfl ?_ | (refine at_lss rfl rfl (fun _ => ?_) (fun _ => ?_) <;> try (exfalso; omega)) | (refine at_leq rfl rfl (fun _ => ?_) (fun _ => ?_) <;> try (exfalso; omega)) | (refine at_gtr rfl rfl (fun _ => ?_) (fun _ => ?_) <;> try (exfalso; omega)) | (refine at_geq rfl rfl (fun _ => ?_) (fun _ => ?_) <;> try (exfalso; omega)) | (refine at_eql rfl rfl (fun _ => ?_) (fun _ => ?_) <;> try (exfalso; omega)) | (refine at_neq rfl rfl (fun _ => ?_) (fun _ => ?_) <;> try (exfalso; omega)) | refine at_skip ?_ | refine at_true rfl ?_ | refine at_false rfl ?_ | refine at_block ?_ | refine at_blk ?_ | refine at_blk_exit ?_ | refine at_blk_ret ?_ | refine at_c_ret ?_ | refine at_o_ret ?_ | refine at_c_exit ?_ | refine at_blk_pass rfl ?_ | refine at_exit ?_ | refine at_ret ?_ | refine at_kp (by simp only [keep_cons, keep_nil, keepC_some, keepC_none, get_same, get_ne, get_nil, put_s, put_n, arg_cons, arg_nil, Nat.reduceBEq, Nat.reduceAdd] <;> rfl) ?_ | refine at_inc rfl (by omega) ?_ | refine at_add rfl rfl (by omega) ?_ | refine at_sub rfl rfl (by omega) ?_ | refine at_pick_t rfl rfl ?_ | refine at_pick_f rfl rfl ?_ | refine at_not rfl ?_ | refine at_conv64 rfl (by omega) ?_ | (refine at_max2 rfl rfl (fun _ => ?_) (fun _ => ?_) <;> try (exfalso; omega)) | (refine at_min2 rfl rfl (fun _ => ?_) (fun _ => ?_) <;> try (exfalso; omega)) | refine at_remN rfl rfl (by omega) (fun _ _ _ => ?_) | (refine at_iaddr rfl rfl (by assumption) (by omega) (fun _ _ hp => ?_); cases hp) | (refine at_iaddr_int rfl rfl (by assumption) (by omega) (fun _ _ hp => ?_); cases hp) | refine at_elemI rfl (by assumption) (by first | assumption | exact Sub.refl _ | exact fz_mem _ | exact St.sub (by assumption)) (by omega) (fun _ => ?_) | refine at_elemU8 rfl (by assumption) (by first | assumption | exact Sub.refl _ | exact fz_mem _ | exact St.sub (by assumption)) (by omega) (fun _ => ?_) | refine at_elemB rfl (by assumption) (by first | assumption | exact Sub.refl _ | exact fz_mem _ | exact St.sub (by assumption)) (by omega) (fun _ => ?_) (fun _ => ?_) | refine at_elemL rfl (by assumption) (by first | assumption | exact Sub.refl _ | exact fz_mem _ | exact St.sub (by assumption)) (by omega) (fun _ _ _ _ => ?_) | refine at_elemS rfl (by assumption) (by first | assumption | exact Sub.refl _ | exact fz_mem _ | exact St.sub (by assumption)) (by omega) (fun _ => ?_) | refine at_elemV rfl (by assumption) (by infer_instance) (by first | assumption | exact Sub.refl _ | exact fz_mem _ | exact St.sub (by assumption)) (by omega) ?_ | refine at_eqlV rfl rfl (fun _ => ?_) (fun _ => ?_) | refine at_faddr rfl ?_ | refine at_nilc rfl ?_ | refine at_ld rfl (by assumption) rfl rfl ?_ | refine at_opsA ?_ | refine at_apart rfl ?_ | refine at_ap_ret ?_ | refine at_end ?_ | refine at_free rfl rfl ?_
    refine ⟨by simp, _, rfl, ?_⟩
    rfl
  · refine at_cl rfl rfl rfl rfl (runs_oracle hw (fun _ => rfl) (fun _ _ => ?_))
    repeat' first | refine at_seq ?_ | refine at_ops ?_ | refine at_nil ?_ | refine at_mv rfl ?_ | refine at_lenL rfl ?_ | refine at_guard_t rfl ?_ | refine at_guard_f rfl ?_ | refine at_guard_u rfl ?_ | (refine at_lss rfl rfl (fun _ => ?_) (fun _ => ?_) <;> try (exfalso; omega)) | (refine at_leq rfl rfl (fun _ => ?_) (fun _ => ?_) <;> try (exfalso; omega)) | (refine at_gtr rfl rfl (fun _ => ?_) (fun _ => ?_) <;> try (exfalso; omega)) | (refine at_geq rfl rfl (fun _ => ?_) (fun _ => ?_) <;> try (exfalso; omega)) | (refine at_eql rfl rfl (fun _ => ?_) (fun _ => ?_) <;> try (exfalso; omega)) | (refine at_neq rfl rfl (fun _ => ?_) (fun _ => ?_) <;> try (exfalso; omega)) | refine at_skip ?_ | refine at_true rfl ?_ | refine at_false rfl ?_ | refine at_block ?_ | refine at_blk ?_ | refine at_blk_exit ?_ | refine at_blk_ret ?_ | refine at_c_ret ?_ | refine at_o_ret ?_ | refine at_c_exit ?_ | refine at_blk_pass rfl ?_ | refine at_exit ?_ | refine at_ret ?_ | refine at_kp (by simp only [keep_cons, keep_nil, keepC_some, keepC_none, get_same, get_ne, get_nil, put_s, put_n, arg_cons, arg_nil, Nat.reduceBEq, Nat.reduceAdd] <;> rfl) ?_ | refine at_inc rfl (by omega) ?_ | refine at_add rfl rfl (by omega) ?_ | refine at_sub rfl rfl (by omega) ?_ | refine at_pick_t rfl rfl ?_ | refine at_pick_f rfl rfl ?_ | refine at_not rfl ?_ | refine at_conv64 rfl (by omega) ?_ | (refine at_max2 rfl rfl (fun _ => ?_) (fun _ => ?_) <;> try (exfalso; omega)) | (refine at_min2 rfl rfl (fun _ => ?_) (fun _ => ?_) <;> try (exfalso; omega)) | refine at_remN rfl rfl (by omega) (fun _ _ _ => ?_) | (refine at_iaddr rfl rfl (by assumption) (by omega) (fun _ _ hp => ?_); cases hp) | (refine at_iaddr_int rfl rfl (by assumption) (by omega) (fun _ _ hp => ?_); cases hp) | refine at_elemI rfl (by assumption) (by first | assumption | exact Sub.refl _ | exact fz_mem _ | exact St.sub (by assumption)) (by omega) (fun _ => ?_) | refine at_elemU8 rfl (by assumption) (by first | assumption | exact Sub.refl _ | exact fz_mem _ | exact St.sub (by assumption)) (by omega) (fun _ => ?_) | refine at_elemB rfl (by assumption) (by first | assumption | exact Sub.refl _ | exact fz_mem _ | exact St.sub (by assumption)) (by omega) (fun _ => ?_) (fun _ => ?_) | refine at_elemL rfl (by assumption) (by first | assumption | exact Sub.refl _ | exact fz_mem _ | exact St.sub (by assumption)) (by omega) (fun _ _ _ _ => ?_) | refine at_elemS rfl (by assumption) (by first | assumption | exact Sub.refl _ | exact fz_mem _ | exact St.sub (by assumption)) (by omega) (fun _ => ?_) | refine at_elemV rfl (by assumption) (by infer_instance) (by first | assumption | exact Sub.refl _ | exact fz_mem _ | exact St.sub (by assumption)) (by omega) ?_ | refine at_eqlV rfl rfl (fun _ => ?_) (fun _ => ?_) | refine at_faddr rfl ?_ | refine at_nilc rfl ?_ | refine at_ld rfl (by assumption) rfl rfl ?_ | refine at_opsA ?_ | refine at_apart rfl ?_ | refine at_ap_ret ?_ | refine at_end ?_ | refine at_free rfl rfl ?_
    refine ⟨by simp, _, rfl, ?_⟩
    rfl
  have hll : l.length ≤ 100 := by omega
  refine at_cl rfl rfl rfl rfl (newS_runs hne hcl ha (by omega) hcb hprot (fun b h1 o1 hb1 i1 => ?_))
  intro _ _
  repeat' first | refine at_seq ?_ | refine at_ops ?_ | refine at_nil ?_ | refine at_mv rfl ?_ | refine at_lenL rfl ?_ | refine at_guard_t rfl ?_ | refine at_guard_f rfl ?_ | refine at_guard_u rfl ?_ | (refine at_lss rfl rfl (fun _ => ?_) (fun _ => ?_) <;> try (exfalso; omega)) | (refine at_leq rfl rfl (fun _ => ?_) (fun _ => ?_) <;> try (exfalso; omega)) | (refine at_gtr rfl rfl (fun _ => ?_) (fun _ => ?_) <;> try (exfalso; omega)) | (refine at_geq rfl rfl (fun _ => ?_) (fun _ => ?_) <;> try (exfalso; omega)) | (refine at_eql rfl rfl (fun _ => ?_) (fun _ => ?_) <;> try (exfalso; omega)) | (refine at_neq rfl rfl (fun _ => ?_) (fun _ => ?_) <;> try (exfalso; omega)) | refine at_skip ?_ | refine at_true rfl ?_ | refine at_false rfl ?_ | refine at_block ?_ | refine at_blk ?_ | refine at_blk_exit ?_ | refine at_blk_ret ?_ | refine at_c_ret ?_ | refine at_o_ret ?_ | refine at_c_exit ?_ | refine at_blk_pass rfl ?_ | refine at_exit ?_ | refine at_ret ?_ | refine at_kp (by simp only [keep_cons, keep_nil, keepC_some, keepC_none, get_same, get_ne, get_nil, put_s, put_n, arg_cons, arg_nil, Nat.reduceBEq, Nat.reduceAdd] <;> rfl) ?_ | refine at_inc rfl (by omega) ?_ | refine at_add rfl rfl (by omega) ?_ | refine at_sub rfl rfl (by omega) ?_ | refine at_pick_t rfl rfl ?_ | refine at_pick_f rfl rfl ?_ | refine at_not rfl ?_ | refine at_conv64 rfl (by omega) ?_ | (refine at_max2 rfl rfl (fun _ => ?_) (fun _ => ?_) <;> try (exfalso; omega)) | (refine at_min2 rfl rfl (fun _ => ?_) (fun _ => ?_) <;> try (exfalso; omega)) | refine at_remN rfl rfl (by omega) (fun _ _ _ => ?_) | (refine at_iaddr rfl rfl (by assumption) (by omega) (fun _ _ hp => ?_); cases hp) | (refine at_iaddr_int rfl rfl (by assumption) (by omega) (fun _ _ hp => ?_); cases hp) | refine at_elemI rfl (by assumption) (by first | assumption | exact Sub.refl _ | exact fz_mem _ | exact St.sub (by assumption)) (by omega) (fun _ => ?_) | refine at_elemU8 rfl (by assumption) (by first | assumption | exact Sub.refl _ | exact fz_mem _ | exact St.sub (by assumption)) (by omega) (fun _ => ?_) | refine at_elemB rfl (by assumption) (by first | assumption | exact Sub.refl _ | exact fz_mem _ | exact St.sub (by assumption)) (by omega) (fun _ => ?_) (fun _ => ?_) | refine at_elemL rfl (by assumption) (by first | assumption | exact Sub.refl _ | exact fz_mem _ | exact St.sub (by assumption)) (by omega) (fun _ _ _ _ => ?_) | refine at_elemS rfl (by assumption) (by first | assumption | exact Sub.refl _ | exact fz_mem _ | exact St.sub (by assumption)) (by omega) (fun _ => ?_) | refine at_elemV rfl (by assumption) (by infer_instance) (by first | assumption | exact Sub.refl _ | exact fz_mem _ | exact St.sub (by assumption)) (by omega) ?_ | refine at_eqlV rfl rfl (fun _ => ?_) (fun _ => ?_) | refine at_faddr rfl ?_ | refine at_nilc rfl ?_ | refine at_ld rfl (by assumption) rfl rfl ?_ | refine at_opsA ?_ | refine at_apart rfl ?_ | refine at_ap_ret ?_ | refine at_end ?_ | refine at_free rfl rfl ?_
  refine at_loop2 (fun m e h' => Old h h' ∧ ∃ (n : Nat) (sc : Scr), (n : Int) ≤ cnt ∧ m = cnt.toNat - n ∧ AtStep sc l cancel n ∧ IsScr true h' b sc ∧ e = [(0, .slice pa l.length ca), (1, .int .i64 cancel), (2, .int .u16 cnt), (7, .pointer (some ⟨b, 0, none⟩)), (8, .int .i64 n)])
    (fun x e h' => Old h h' ∧ x = .exit 0 ∧ ∃ (n : Nat) (sc : Scr), (n : Int) = cnt ∧ AtStep sc l cancel n ∧ IsScr true h' b sc ∧ keepE e [0, 1, 2, 7] = [(0, .slice pa l.length ca), (1, .int .i64 cancel), (2, .int .u16 cnt), (7, .pointer (some ⟨b, 0, none⟩))])
    ⟨o1, 0, ⟨l, cancel, 0, 0⟩, by omega, rfl, ⟨rfl, rfl, fun _ => rfl, fun _ => by show (0 : Int) = _; omega, by simp⟩, i1, rfl⟩ ?_ ?_
  · rintro m e h' _ ⟨o, n, sc, hn, rfl, ⟨hl, hcc, hneg, hpos, hu⟩, i, rfl⟩
    have hop := o.prot
    have hos := o.size
    have ho1 := o1.size
    have hps : h'.prot ≤ h'.size := by omega
    repeat' first | refine at_seq ?_ | refine at_ops ?_ | refine at_nil ?_ | refine at_mv rfl ?_ | refine at_lenL rfl ?_ | refine at_guard_t rfl ?_ | refine at_guard_f rfl ?_ | refine at_guard_u rfl ?_ | (refine at_lss rfl rfl (fun _ => ?_) (fun _ => ?_) <;> try (exfalso; omega)) | (refine at_leq rfl rfl (fun _ => ?_) (fun _ => ?_) <;> try (exfalso; omega)) | (refine at_gtr rfl rfl (fun _ => ?_) (fun _ => ?_) <;> try (exfalso; omega)) | (refine at_geq rfl rfl (fun _ => ?_) (fun _ => ?_) <;> try (exfalso; omega)) | (refine at_eql rfl rfl (fun _ => ?_) (fun _ => ?_) <;> try (exfalso; omega)) | (refine at_neq rfl rfl (fun _ => ?_) (fun _ => ?_) <;> try (exfalso; omega)) | refine at_skip ?_ | refine at_true rfl ?_ | refine at_false rfl ?_ | refine at_block ?_ | refine at_blk ?_ | refine at_blk_exit ?_ | refine at_blk_ret ?_ | refine at_c_ret ?_ | refine at_o_ret ?_ | refine at_c_exit ?_ | refine at_blk_pass rfl ?_ | refine at_exit ?_ | refine at_ret ?_ | refine at_kp (by simp only [keep_cons, keep_nil, keepC_some, keepC_none, get_same, get_ne, get_nil, put_s, put_n, arg_cons, arg_nil, Nat.reduceBEq, Nat.reduceAdd] <;> rfl) ?_ | refine at_inc rfl (by omega) ?_ | refine at_add rfl rfl (by omega) ?_ | refine at_sub rfl rfl (by omega) ?_ | refine at_pick_t rfl rfl ?_ | refine at_pick_f rfl rfl ?_ | refine at_not rfl ?_ | refine at_conv64 rfl (by omega) ?_ | (refine at_max2 rfl rfl (fun _ => ?_) (fun _ => ?_) <;> try (exfalso; omega)) | (refine at_min2 rfl rfl (fun _ => ?_) (fun _ => ?_) <;> try (exfalso; omega)) | refine at_remN rfl rfl (by omega) (fun _ _ _ => ?_) | (refine at_iaddr rfl rfl (by assumption) (by omega) (fun _ _ hp => ?_); cases hp) | (refine at_iaddr_int rfl rfl (by assumption) (by omega) (fun _ _ hp => ?_); cases hp) | refine at_elemI rfl (by assumption) (by first | assumption | exact Sub.refl _ | exact fz_mem _ | exact St.sub (by assumption)) (by omega) (fun _ => ?_) | refine at_elemU8 rfl (by assumption) (by first | assumption | exact Sub.refl _ | exact fz_mem _ | exact St.sub (by assumption)) (by omega) (fun _ => ?_) | refine at_elemB rfl (by assumption) (by first | assumption | exact Sub.refl _ | exact fz_mem _ | exact St.sub (by assumption)) (by omega) (fun _ => ?_) (fun _ => ?_) | refine at_elemL rfl (by assumption) (by first | assumption | exact Sub.refl _ | exact fz_mem _ | exact St.sub (by assumption)) (by omega) (fun _ _ _ _ => ?_) | refine at_elemS rfl (by assumption) (by first | assumption | exact Sub.refl _ | exact fz_mem _ | exact St.sub (by assumption)) (by omega) (fun _ => ?_) | refine at_elemV rfl (by assumption) (by infer_instance) (by first | assumption | exact Sub.refl _ | exact fz_mem _ | exact St.sub (by assumption)) (by omega) ?_ | refine at_eqlV rfl rfl (fun _ => ?_) (fun _ => ?_) | refine at_faddr rfl ?_ | refine at_nilc rfl ?_ | refine at_ld rfl (by assumption) rfl rfl ?_ | refine at_opsA ?_ | refine at_apart rfl ?_ | refine at_ap_ret ?_ | refine at_end ?_ | refine at_free rfl rfl ?_
    · refine at_bslice (K := kInt .i64) (m := noM) (l := [3, 8, 12]) rfl rfl rfl rfl (cells_int (l := [3, 8, 12]) (by decide)) (fun h3 o3 s3 w3 p3 => ?_) hps
      have i3 := i.old o3
      refine at_cl rfl rfl rfl rfl (step_runs hst ho hi hca hle hli hch hcl hs hc i3 (w3.slF flat_int) (by simp) (by omega) (by omega) (by omega) (fun h4 B4 i4 => ?_))
      intro _ _
      have hp3 := o3.prot
      have o4 : Old h h4 := ⟨by have := B4.size; omega, by rw [B4.prot]; omega, fun x hx => by rw [B4.get x (by omega) (by omega), o3.get x (by omega), o.get x hx]⟩
      by_cases hoff : 0 ≤ cancel ∧ cancel ≤ sc.steps
      · have e : stepS sc [3, 8, 12] = (sc, 0, 8) := by
          unfold stepS Scr.off
          rw [hcc, decide_eq_true hoff.1, decide_eq_true hoff.2]; rfl
        replace i4 : IsScr true h4 b sc := by rw [e] at i4; exact i4
        rw [show (stepS sc [3, 8, 12]).2.1 = 0 from congrArg (fun q => q.2.1) e, show (stepS sc [3, 8, 12]).2.2 = 8 from congrArg (fun q => q.2.2) e]
        repeat' first | refine at_seq ?_ | refine at_ops ?_ | refine at_nil ?_ | refine at_mv rfl ?_ | refine at_lenL rfl ?_ | refine at_guard_t rfl ?_ | refine at_guard_f rfl ?_ | refine at_guard_u rfl ?_ | (refine at_lss rfl rfl (fun _ => ?_) (fun _ => ?_) <;> try (exfalso; omega)) | (refine at_leq rfl rfl (fun _ => ?_) (fun _ => ?_) <;> try (exfalso; omega)) | (refine at_gtr rfl rfl (fun _ => ?_) (fun _ => ?_) <;> try (exfalso; omega)) | (refine at_geq rfl rfl (fun _ => ?_) (fun _ => ?_) <;> try (exfalso; omega)) | (refine at_eql rfl rfl (fun _ => ?_) (fun _ => ?_) <;> try (exfalso; omega)) | (refine at_neq rfl rfl (fun _ => ?_) (fun _ => ?_) <;> try (exfalso; omega)) | refine at_skip ?_ | refine at_true rfl ?_ | refine at_false rfl ?_ | refine at_block ?_ | refine at_blk ?_ | refine at_blk_exit ?_ | refine at_blk_ret ?_ | refine at_c_ret ?_ | refine at_o_ret ?_ | refine at_c_exit ?_ | refine at_blk_pass rfl ?_ | refine at_exit ?_ | refine at_ret ?_ | refine at_kp (by simp only [keep_cons, keep_nil, keepC_some, keepC_none, get_same, get_ne, get_nil, put_s, put_n, arg_cons, arg_nil, Nat.reduceBEq, Nat.reduceAdd] <;> rfl) ?_ | refine at_inc rfl (by omega) ?_ | refine at_add rfl rfl (by omega) ?_ | refine at_sub rfl rfl (by omega) ?_ | refine at_pick_t rfl rfl ?_ | refine at_pick_f rfl rfl ?_ | refine at_not rfl ?_ | refine at_conv64 rfl (by omega) ?_ | (refine at_max2 rfl rfl (fun _ => ?_) (fun _ => ?_) <;> try (exfalso; omega)) | (refine at_min2 rfl rfl (fun _ => ?_) (fun _ => ?_) <;> try (exfalso; omega)) | refine at_remN rfl rfl (by omega) (fun _ _ _ => ?_) | (refine at_iaddr rfl rfl (by assumption) (by omega) (fun _ _ hp => ?_); cases hp) | (refine at_iaddr_int rfl rfl (by assumption) (by omega) (fun _ _ hp => ?_); cases hp) | refine at_elemI rfl (by assumption) (by first | assumption | exact Sub.refl _ | exact fz_mem _ | exact St.sub (by assumption)) (by omega) (fun _ => ?_) | refine at_elemU8 rfl (by assumption) (by first | assumption | exact Sub.refl _ | exact fz_mem _ | exact St.sub (by assumption)) (by omega) (fun _ => ?_) | refine at_elemB rfl (by assumption) (by first | assumption | exact Sub.refl _ | exact fz_mem _ | exact St.sub (by assumption)) (by omega) (fun _ => ?_) (fun _ => ?_) | refine at_elemL rfl (by assumption) (by first | assumption | exact Sub.refl _ | exact fz_mem _ | exact St.sub (by assumption)) (by omega) (fun _ _ _ _ => ?_) | refine at_elemS rfl (by assumption) (by first | assumption | exact Sub.refl _ | exact fz_mem _ | exact St.sub (by assumption)) (by omega) (fun _ => ?_) | refine at_elemV rfl (by assumption) (by infer_instance) (by first | assumption | exact Sub.refl _ | exact fz_mem _ | exact St.sub (by assumption)) (by omega) ?_ | refine at_eqlV rfl rfl (fun _ => ?_) (fun _ => ?_) | refine at_faddr rfl ?_ | refine at_nilc rfl ?_ | refine at_ld rfl (by assumption) rfl rfl ?_ | refine at_opsA ?_ | refine at_apart rfl ?_ | refine at_ap_ret ?_ | refine at_end ?_ | refine at_free rfl rfl ?_
        exact ⟨_, by omega, o4, n + 1, sc, by omega, rfl, ⟨hl, hcc, by omega, by omega, hu⟩, i4, rfl⟩
      · have ho : sc.off = false := by
          unfold Scr.off; rw [hcc]
          by_cases q : 0 ≤ cancel
          · rw [decide_eq_false (p := cancel ≤ (sc.steps : Int)) (by omega)]; simp
          · rw [decide_eq_false q]; rfl
        obtain ⟨x, hx, e⟩ := stepS_some ho (r := [3, 8, 12]) (by simp)
        replace i4 : IsScr true h4 b sc.one.took := by rw [e] at i4; exact i4
        rw [show (stepS sc [3, 8, 12]).2.1 = x from congrArg (fun q => q.2.1) e, show (stepS sc [3, 8, 12]).2.2 = 0 from congrArg (fun q => q.2.2) e]
        have f1 := took_l sc.one
        have f2 := took_c sc.one
        have f3 := took_s sc.one
        have f4 := took_u sc.one
        have g1 : sc.one.l = sc.l := rfl
        have g2 : sc.one.cancel = sc.cancel := rfl
        have g3 : sc.one.steps = sc.steps + 1 := rfl
        have g4 : sc.one.used = sc.used := rfl
        have fin : AtStep sc.one.took l cancel (n + 1) := ⟨by rw [f1, g1, hl], by rw [f2, g2, hcc], by omega, by omega, by rw [g1, hl] at f4; omega⟩
        simp only [List.mem_cons, List.not_mem_nil, or_false] at hx
        rcases hx with rfl | rfl | rfl
        all_goals
          repeat' first | refine at_seq ?_ | refine at_ops ?_ | refine at_nil ?_ | refine at_mv rfl ?_ | refine at_lenL rfl ?_ | refine at_guard_t rfl ?_ | refine at_guard_f rfl ?_ | refine at_guard_u rfl ?_ | (refine at_lss rfl rfl (fun _ => ?_) (fun _ => ?_) <;> try (exfalso; omega)) | (refine at_leq rfl rfl (fun _ => ?_) (fun _ => ?_) <;> try (exfalso; omega)) | (refine at_gtr rfl rfl (fun _ => ?_) (fun _ => ?_) <;> try (exfalso; omega)) | (refine at_geq rfl rfl (fun _ => ?_) (fun _ => ?_) <;> try (exfalso; omega)) | (refine at_eql rfl rfl (fun _ => ?_) (fun _ => ?_) <;> try (exfalso; omega)) | (refine at_neq rfl rfl (fun _ => ?_) (fun _ => ?_) <;> try (exfalso; omega)) | refine at_skip ?_ | refine at_true rfl ?_ | refine at_false rfl ?_ | refine at_block ?_ | refine at_blk ?_ | refine at_blk_exit ?_ | refine at_blk_ret ?_ | refine at_c_ret ?_ | refine at_o_ret ?_ | refine at_c_exit ?_ | refine at_blk_pass rfl ?_ | refine at_exit ?_ | refine at_ret ?_ | refine at_kp (by simp only [keep_cons, keep_nil, keepC_some, keepC_none, get_same, get_ne, get_nil, put_s, put_n, arg_cons, arg_nil, Nat.reduceBEq, Nat.reduceAdd] <;> rfl) ?_ | refine at_inc rfl (by omega) ?_ | refine at_add rfl rfl (by omega) ?_ | refine at_sub rfl rfl (by omega) ?_ | refine at_pick_t rfl rfl ?_ | refine at_pick_f rfl rfl ?_ | refine at_not rfl ?_ | refine at_conv64 rfl (by omega) ?_ | (refine at_max2 rfl rfl (fun _ => ?_) (fun _ => ?_) <;> try (exfalso; omega)) | (refine at_min2 rfl rfl (fun _ => ?_) (fun _ => ?_) <;> try (exfalso; omega)) | refine at_remN rfl rfl (by omega) (fun _ _ _ => ?_) | (refine at_iaddr rfl rfl (by assumption) (by omega) (fun _ _ hp => ?_); cases hp) | (refine at_iaddr_int rfl rfl (by assumption) (by omega) (fun _ _ hp => ?_); cases hp) | refine at_elemI rfl (by assumption) (by first | assumption | exact Sub.refl _ | exact fz_mem _ | exact St.sub (by assumption)) (by omega) (fun _ => ?_) | refine at_elemU8 rfl (by assumption) (by first | assumption | exact Sub.refl _ | exact fz_mem _ | exact St.sub (by assumption)) (by omega) (fun _ => ?_) | refine at_elemB rfl (by assumption) (by first | assumption | exact Sub.refl _ | exact fz_mem _ | exact St.sub (by assumption)) (by omega) (fun _ => ?_) (fun _ => ?_) | refine at_elemL rfl (by assumption) (by first | assumption | exact Sub.refl _ | exact fz_mem _ | exact St.sub (by assumption)) (by omega) (fun _ _ _ _ => ?_) | refine at_elemS rfl (by assumption) (by first | assumption | exact Sub.refl _ | exact fz_mem _ | exact St.sub (by assumption)) (by omega) (fun _ => ?_) | refine at_elemV rfl (by assumption) (by infer_instance) (by first | assumption | exact Sub.refl _ | exact fz_mem _ | exact St.sub (by assumption)) (by omega) ?_ | refine at_eqlV rfl rfl (fun _ => ?_) (fun _ => ?_) | refine at_faddr rfl ?_ | refine at_nilc rfl ?_ | refine at_ld rfl (by assumption) rfl rfl ?_ | refine at_opsA ?_ | refine at_apart rfl ?_ | refine at_ap_ret ?_ | refine at_end ?_ | refine at_free rfl rfl ?_
          all_goals exact ⟨_, by omega, o4, n + 1, sc.one.took, by omega, rfl, fin, i4, rfl⟩
    · exact ⟨o, rfl, n, sc, by omega, ⟨hl, hcc, hneg, hpos, hu⟩, i, (by simp only [keep_cons, keep_nil, keepC_some, keepC_none, get_same, get_ne, get_nil, put_s, put_n, arg_cons, arg_nil, Nat.reduceBEq, Nat.reduceAdd] <;> rfl)⟩
  · rintro x e h' _ ⟨o, rfl, n, sc, hn, ⟨hl, hcc, hneg, hpos, hu⟩, i, hk⟩
    refine at_blk_exit (at_seq (at_kp hk ?_))
    have hsb := i.sb
    repeat' first | refine at_seq ?_ | refine at_ops ?_ | refine at_nil ?_ | refine at_mv rfl ?_ | refine at_lenL rfl ?_ | refine at_guard_t rfl ?_ | refine at_guard_f rfl ?_ | refine at_guard_u rfl ?_ | (refine at_lss rfl rfl (fun _ => ?_) (fun _ => ?_) <;> try (exfalso; omega)) | (refine at_leq rfl rfl (fun _ => ?_) (fun _ => ?_) <;> try (exfalso; omega)) | (refine at_gtr rfl rfl (fun _ => ?_) (fun _ => ?_) <;> try (exfalso; omega)) | (refine at_geq rfl rfl (fun _ => ?_) (fun _ => ?_) <;> try (exfalso; omega)) | (refine at_eql rfl rfl (fun _ => ?_) (fun _ => ?_) <;> try (exfalso; omega)) | (refine at_neq rfl rfl (fun _ => ?_) (fun _ => ?_) <;> try (exfalso; omega)) | refine at_skip ?_ | refine at_true rfl ?_ | refine at_false rfl ?_ | refine at_block ?_ | refine at_blk ?_ | refine at_blk_exit ?_ | refine at_blk_ret ?_ | refine at_c_ret ?_ | refine at_o_ret ?_ | refine at_c_exit ?_ | refine at_blk_pass rfl ?_ | refine at_exit ?_ | refine at_ret ?_ | refine at_kp (by simp only [keep_cons, keep_nil, keepC_some, keepC_none, get_same, get_ne, get_nil, put_s, put_n, arg_cons, arg_nil, Nat.reduceBEq, Nat.reduceAdd] <;> rfl) ?_ | refine at_inc rfl (by omega) ?_ | refine at_add rfl rfl (by omega) ?_ | refine at_sub rfl rfl (by omega) ?_ | refine at_pick_t rfl rfl ?_ | refine at_pick_f rfl rfl ?_ | refine at_not rfl ?_ | refine at_conv64 rfl (by omega) ?_ | (refine at_max2 rfl rfl (fun _ => ?_) (fun _ => ?_) <;> try (exfalso; omega)) | (refine at_min2 rfl rfl (fun _ => ?_) (fun _ => ?_) <;> try (exfalso; omega)) | refine at_remN rfl rfl (by omega) (fun _ _ _ => ?_) | (refine at_iaddr rfl rfl (by assumption) (by omega) (fun _ _ hp => ?_); cases hp) | (refine at_iaddr_int rfl rfl (by assumption) (by omega) (fun _ _ hp => ?_); cases hp) | refine at_elemI rfl (by assumption) (by first | assumption | exact Sub.refl _ | exact fz_mem _ | exact St.sub (by assumption)) (by omega) (fun _ => ?_) | refine at_elemU8 rfl (by assumption) (by first | assumption | exact Sub.refl _ | exact fz_mem _ | exact St.sub (by assumption)) (by omega) (fun _ => ?_) | refine at_elemB rfl (by assumption) (by first | assumption | exact Sub.refl _ | exact fz_mem _ | exact St.sub (by assumption)) (by omega) (fun _ => ?_) (fun _ => ?_) | refine at_elemL rfl (by assumption) (by first | assumption | exact Sub.refl _ | exact fz_mem _ | exact St.sub (by assumption)) (by omega) (fun _ _ _ _ => ?_) | refine at_elemS rfl (by assumption) (by first | assumption | exact Sub.refl _ | exact fz_mem _ | exact St.sub (by assumption)) (by omega) (fun _ => ?_) | refine at_elemV rfl (by assumption) (by infer_instance) (by first | assumption | exact Sub.refl _ | exact fz_mem _ | exact St.sub (by assumption)) (by omega) ?_ | refine at_eqlV rfl rfl (fun _ => ?_) (fun _ => ?_) | refine at_faddr rfl ?_ | refine at_nilc rfl ?_ | refine at_ld rfl (by assumption) rfl rfl ?_ | refine at_opsA ?_ | refine at_apart rfl ?_ | refine at_ap_ret ?_ | refine at_end ?_ | refine at_free rfl rfl ?_
    all_goals
      refine at_cl rfl rfl rfl rfl (steps_runs hss hi i.see (fun _ _ => ?_))
      repeat' first | refine at_seq ?_ | refine at_ops ?_ | refine at_nil ?_ | refine at_mv rfl ?_ | refine at_lenL rfl ?_ | refine at_guard_t rfl ?_ | refine at_guard_f rfl ?_ | refine at_guard_u rfl ?_ | (refine at_lss rfl rfl (fun _ => ?_) (fun _ => ?_) <;> try (exfalso; omega)) | (refine at_leq rfl rfl (fun _ => ?_) (fun _ => ?_) <;> try (exfalso; omega)) | (refine at_gtr rfl rfl (fun _ => ?_) (fun _ => ?_) <;> try (exfalso; omega)) | (refine at_geq rfl rfl (fun _ => ?_) (fun _ => ?_) <;> try (exfalso; omega)) | (refine at_eql rfl rfl (fun _ => ?_) (fun _ => ?_) <;> try (exfalso; omega)) | (refine at_neq rfl rfl (fun _ => ?_) (fun _ => ?_) <;> try (exfalso; omega)) | refine at_skip ?_ | refine at_true rfl ?_ | refine at_false rfl ?_ | refine at_block ?_ | refine at_blk ?_ | refine at_blk_exit ?_ | refine at_blk_ret ?_ | refine at_c_ret ?_ | refine at_o_ret ?_ | refine at_c_exit ?_ | refine at_blk_pass rfl ?_ | refine at_exit ?_ | refine at_ret ?_ | refine at_kp (by simp only [keep_cons, keep_nil, keepC_some, keepC_none, get_same, get_ne, get_nil, put_s, put_n, arg_cons, arg_nil, Nat.reduceBEq, Nat.reduceAdd] <;> rfl) ?_ | refine at_inc rfl (by omega) ?_ | refine at_add rfl rfl (by omega) ?_ | refine at_sub rfl rfl (by omega) ?_ | refine at_pick_t rfl rfl ?_ | refine at_pick_f rfl rfl ?_ | refine at_not rfl ?_ | refine at_conv64 rfl (by omega) ?_ | (refine at_max2 rfl rfl (fun _ => ?_) (fun _ => ?_) <;> try (exfalso; omega)) | (refine at_min2 rfl rfl (fun _ => ?_) (fun _ => ?_) <;> try (exfalso; omega)) | refine at_remN rfl rfl (by omega) (fun _ _ _ => ?_) | (refine at_iaddr rfl rfl (by assumption) (by omega) (fun _ _ hp => ?_); cases hp) | (refine at_iaddr_int rfl rfl (by assumption) (by omega) (fun _ _ hp => ?_); cases hp) | refine at_elemI rfl (by assumption) (by first | assumption | exact Sub.refl _ | exact fz_mem _ | exact St.sub (by assumption)) (by omega) (fun _ => ?_) | refine at_elemU8 rfl (by assumption) (by first | assumption | exact Sub.refl _ | exact fz_mem _ | exact St.sub (by assumption)) (by omega) (fun _ => ?_) | refine at_elemB rfl (by assumption) (by first | assumption | exact Sub.refl _ | exact fz_mem _ | exact St.sub (by assumption)) (by omega) (fun _ => ?_) (fun _ => ?_) | refine at_elemL rfl (by assumption) (by first | assumption | exact Sub.refl _ | exact fz_mem _ | exact St.sub (by assumption)) (by omega) (fun _ _ _ _ => ?_) | refine at_elemS rfl (by assumption) (by first | assumption | exact Sub.refl _ | exact fz_mem _ | exact St.sub (by assumption)) (by omega) (fun _ => ?_) | refine at_elemV rfl (by assumption) (by infer_instance) (by first | assumption | exact Sub.refl _ | exact fz_mem _ | exact St.sub (by assumption)) (by omega) ?_ | refine at_eqlV rfl rfl (fun _ => ?_) (fun _ => ?_) | refine at_faddr rfl ?_ | refine at_nilc rfl ?_ | refine at_ld rfl (by assumption) rfl rfl ?_ | refine at_opsA ?_ | refine at_apart rfl ?_ | refine at_ap_ret ?_ | refine at_end ?_ | refine at_free rfl rfl ?_
      refine at_cl rfl rfl rfl rfl (used_runs hus hi i.see (fun _ _ => ?_))
      repeat' first | refine at_seq ?_ | refine at_ops ?_ | refine at_nil ?_ | refine at_mv rfl ?_ | refine at_lenL rfl ?_ | refine at_guard_t rfl ?_ | refine at_guard_f rfl ?_ | refine at_guard_u rfl ?_ | (refine at_lss rfl rfl (fun _ => ?_) (fun _ => ?_) <;> try (exfalso; omega)) | (refine at_leq rfl rfl (fun _ => ?_) (fun _ => ?_) <;> try (exfalso; omega)) | (refine at_gtr rfl rfl (fun _ => ?_) (fun _ => ?_) <;> try (exfalso; omega)) | (refine at_geq rfl rfl (fun _ => ?_) (fun _ => ?_) <;> try (exfalso; omega)) | (refine at_eql rfl rfl (fun _ => ?_) (fun _ => ?_) <;> try (exfalso; omega)) | (refine at_neq rfl rfl (fun _ => ?_) (fun _ => ?_) <;> try (exfalso; omega)) | refine at_skip ?_ | refine at_true rfl ?_ | refine at_false rfl ?_ | refine at_block ?_ | refine at_blk ?_ | refine at_blk_exit ?_ | refine at_blk_ret ?_ | refine at_c_ret ?_ | refine at_o_ret ?_ | refine at_c_exit ?_ | refine at_blk_pass rfl ?_ | refine at_exit ?_ | refine at_ret ?_ | refine at_kp (by simp only [keep_cons, keep_nil, keepC_some, keepC_none, get_same, get_ne, get_nil, put_s, put_n, arg_cons, arg_nil, Nat.reduceBEq, Nat.reduceAdd] <;> rfl) ?_ | refine at_inc rfl (by omega) ?_ | refine at_add rfl rfl (by omega) ?_ | refine at_sub rfl rfl (by omega) ?_ | refine at_pick_t rfl rfl ?_ | refine at_pick_f rfl rfl ?_ | refine at_not rfl ?_ | refine at_conv64 rfl (by omega) ?_ | (refine at_max2 rfl rfl (fun _ => ?_) (fun _ => ?_) <;> try (exfalso; omega)) | (refine at_min2 rfl rfl (fun _ => ?_) (fun _ => ?_) <;> try (exfalso; omega)) | refine at_remN rfl rfl (by omega) (fun _ _ _ => ?_) | (refine at_iaddr rfl rfl (by assumption) (by omega) (fun _ _ hp => ?_); cases hp) | (refine at_iaddr_int rfl rfl (by assumption) (by omega) (fun _ _ hp => ?_); cases hp) | refine at_elemI rfl (by assumption) (by first | assumption | exact Sub.refl _ | exact fz_mem _ | exact St.sub (by assumption)) (by omega) (fun _ => ?_) | refine at_elemU8 rfl (by assumption) (by first | assumption | exact Sub.refl _ | exact fz_mem _ | exact St.sub (by assumption)) (by omega) (fun _ => ?_) | refine at_elemB rfl (by assumption) (by first | assumption | exact Sub.refl _ | exact fz_mem _ | exact St.sub (by assumption)) (by omega) (fun _ => ?_) (fun _ => ?_) | refine at_elemL rfl (by assumption) (by first | assumption | exact Sub.refl _ | exact fz_mem _ | exact St.sub (by assumption)) (by omega) (fun _ _ _ _ => ?_) | refine at_elemS rfl (by assumption) (by first | assumption | exact Sub.refl _ | exact fz_mem _ | exact St.sub (by assumption)) (by omega) (fun _ => ?_) | refine at_elemV rfl (by assumption) (by infer_instance) (by first | assumption | exact Sub.refl _ | exact fz_mem _ | exact St.sub (by assumption)) (by omega) ?_ | refine at_eqlV rfl rfl (fun _ => ?_) (fun _ => ?_) | refine at_faddr rfl ?_ | refine at_nilc rfl ?_ | refine at_ld rfl (by assumption) rfl rfl ?_ | refine at_opsA ?_ | refine at_apart rfl ?_ | refine at_ap_ret ?_ | refine at_end ?_ | refine at_free rfl rfl ?_
      all_goals
        refine at_cl rfl rfl rfl rfl (runs_oracle hw (fun _ => rfl) (fun _ _ => ?_))
        repeat' first | refine at_seq ?_ | refine at_ops ?_ | refine at_nil ?_ | refine at_mv rfl ?_ | refine at_lenL rfl ?_ | refine at_guard_t rfl ?_ | refine at_guard_f rfl ?_ | refine at_guard_u rfl ?_ | (refine at_lss rfl rfl (fun _ => ?_) (fun _ => ?_) <;> try (exfalso; omega)) | (refine at_leq rfl rfl (fun _ => ?_) (fun _ => ?_) <;> try (exfalso; omega)) | (refine at_gtr rfl rfl (fun _ => ?_) (fun _ => ?_) <;> try (exfalso; omega)) | (refine at_geq rfl rfl (fun _ => ?_) (fun _ => ?_) <;> try (exfalso; omega)) | (refine at_eql rfl rfl (fun _ => ?_) (fun _ => ?_) <;> try (exfalso; omega)) | (refine at_neq rfl rfl (fun _ => ?_) (fun _ => ?_) <;> try (exfalso; omega)) | refine at_skip ?_ | refine at_true rfl ?_ | refine at_false rfl ?_ | refine at_block ?_ | refine at_blk ?_ | refine at_blk_exit ?_ | refine at_blk_ret ?_ | refine at_c_ret ?_ | refine at_o_ret ?_ | refine at_c_exit ?_ | refine at_blk_pass rfl ?_ | refine at_exit ?_ | refine at_ret ?_ | refine at_kp (by simp only [keep_cons, keep_nil, keepC_some, keepC_none, get_same, get_ne, get_nil, put_s, put_n, arg_cons, arg_nil, Nat.reduceBEq, Nat.reduceAdd] <;> rfl) ?_ | refine at_inc rfl (by omega) ?_ | refine at_add rfl rfl (by omega) ?_ | refine at_sub rfl rfl (by omega) ?_ | refine at_pick_t rfl rfl ?_ | refine at_pick_f rfl rfl ?_ | refine at_not rfl ?_ | refine at_conv64 rfl (by omega) ?_ | (refine at_max2 rfl rfl (fun _ => ?_) (fun _ => ?_) <;> try (exfalso; omega)) | (refine at_min2 rfl rfl (fun _ => ?_) (fun _ => ?_) <;> try (exfalso; omega)) | refine at_remN rfl rfl (by omega) (fun _ _ _ => ?_) | (refine at_iaddr rfl rfl (by assumption) (by omega) (fun _ _ hp => ?_); cases hp) | (refine at_iaddr_int rfl rfl (by assumption) (by omega) (fun _ _ hp => ?_); cases hp) | refine at_elemI rfl (by assumption) (by first | assumption | exact Sub.refl _ | exact fz_mem _ | exact St.sub (by assumption)) (by omega) (fun _ => ?_) | refine at_elemU8 rfl (by assumption) (by first | assumption | exact Sub.refl _ | exact fz_mem _ | exact St.sub (by assumption)) (by omega) (fun _ => ?_) | refine at_elemB rfl (by assumption) (by first | assumption | exact Sub.refl _ | exact fz_mem _ | exact St.sub (by assumption)) (by omega) (fun _ => ?_) (fun _ => ?_) | refine at_elemL rfl (by assumption) (by first | assumption | exact Sub.refl _ | exact fz_mem _ | exact St.sub (by assumption)) (by omega) (fun _ _ _ _ => ?_) | refine at_elemS rfl (by assumption) (by first | assumption | exact Sub.refl _ | exact fz_mem _ | exact St.sub (by assumption)) (by omega) (fun _ => ?_) | refine at_elemV rfl (by assumption) (by infer_instance) (by first | assumption | exact Sub.refl _ | exact fz_mem _ | exact St.sub (by assumption)) (by omega) ?_ | refine at_eqlV rfl rfl (fun _ => ?_) (fun _ => ?_) | refine at_faddr rfl ?_ | refine at_nilc rfl ?_ | refine at_ld rfl (by assumption) rfl rfl ?_ | refine at_opsA ?_ | refine at_apart rfl ?_ | refine at_ap_ret ?_ | refine at_end ?_ | refine at_free rfl rfl ?_
        refine ⟨by simp, _, rfl, ?_⟩
        rfl
end
end Go.AM.G.Picks
