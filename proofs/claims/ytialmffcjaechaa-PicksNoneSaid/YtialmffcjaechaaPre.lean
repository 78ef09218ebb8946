/- The package prefix, on lists of numbers or texts, and its reference. -/
import Derived.Test.YtialmffcjaechaaAmRules
import Derived.Test.YtialmffcjaechaaPreLaw
namespace Go.AM.G.Pre
open Go.AM.G
open Go.AM hiding Kt At WP WL Runs RunsY
set_option linter.unusedVariables false
set_option linter.unusedSectionVars false
set_option linter.unusedSimpArgs false
attribute [local irreducible] At WP WL Runs

/-- coroner/prefix.Common[int] -/
def common : AFn := ⟨2, [.tmp 4],
  (.seq
    (.ops false [
      ⟨(some 4), .mv (.const (.int .i64 0)), none, false⟩])
  (.seq
    (.ops false [
      ⟨(some 5), .mv (.const (.int .i64 0)), none, false⟩])
  (.seq
    (.seq (.keep [0, 1, 5])
    (.block 0
      (.loop (.seq
        (.seq
          (.seq
            (.ops true [
              ⟨(some 6), .mv (.tmp 5), none, false⟩,
              ⟨(some 7), .mv (.tmp 0), none, false⟩,
              ⟨(some 8), .len 1 (.tmp 7), none, false⟩,
              ⟨(some 9), .bin .lss (.tmp 6) (.tmp 8), none, true⟩,
              ⟨(some 10), .mv (.tmp 9), none, true⟩,
              ⟨(some 11), .mv (.tmp 5), (some (10, true)), false⟩,
              ⟨(some 12), .mv (.tmp 1), (some (10, true)), false⟩,
              ⟨(some 13), .len 1 (.tmp 12), (some (10, true)), false⟩,
              ⟨(some 14), .bin .lss (.tmp 11) (.tmp 13), (some (10, true)), true⟩,
              ⟨(some 15), .pick (.tmp 10) (.tmp 14) (.const (.bool false)), none, true⟩,
              ⟨(some 16), .mv (.tmp 15), none, true⟩,
              ⟨(some 17), .mv (.tmp 0), (some (16, true)), false⟩,
              ⟨(some 18), .mv (.tmp 5), (some (16, true)), false⟩,
              ⟨(some 19), .iaddr 1 (.tmp 17) (.tmp 18), (some (16, true)), false⟩,
              ⟨(some 20), .load1 (.tmp 19), (some (16, true)), false⟩,
              ⟨(some 21), .mv (.tmp 1), (some (16, true)), false⟩,
              ⟨(some 22), .mv (.tmp 5), (some (16, true)), false⟩,
              ⟨(some 23), .iaddr 1 (.tmp 21) (.tmp 22), (some (16, true)), false⟩,
              ⟨(some 24), .load1 (.tmp 23), (some (16, true)), false⟩,
              ⟨(some 25), .bin .eql (.tmp 20) (.tmp 24), (some (16, true)), true⟩,
              ⟨(some 26), .pick (.tmp 16) (.tmp 25) (.const (.bool false)), none, true⟩])
          (.cond (.tmp 26)
            .skip
            (.exit 0)))
        (.block 1
          (.ops false [
            ⟨(some 27), .mv (.tmp 5), none, false⟩,
            ⟨(some 28), .bin .add (.tmp 27) (.const (.int .i64 1)), none, false⟩,
            ⟨(some 5), .mv (.tmp 28), none, false⟩])))
        (.keep [0, 1, 5])))))
  (.seq (.keep [5])
  (.seq
    (.ops false [
      ⟨(some 29), .mv (.tmp 5), none, false⟩,
      ⟨(some 4), .mv (.tmp 29), none, false⟩])
  .ret)))))⟩
/-- coroner/prefix.Is[int] -/
def isP (commonN : Nat) : AFn := ⟨2, [.tmp 4],
  (.seq
    (.ops false [
      ⟨(some 4), .mv (.const (.bool false)), none, false⟩])
  (.seq
    (.ops false [
      ⟨(some 5), .mv (.tmp 0), none, false⟩,
      ⟨(some 6), .mv (.tmp 1), none, false⟩,
      ⟨(some 7), .call (.func commonN) [(.tmp 5), (.tmp 6)], none, false⟩,
      ⟨(some 8), .mv (.tmp 0), none, false⟩,
      ⟨(some 9), .len 1 (.tmp 8), none, false⟩,
      ⟨(some 10), .bin .eql (.tmp 7) (.tmp 9), none, false⟩,
      ⟨(some 4), .mv (.tmp 10), none, false⟩])
  .ret))⟩
/-- coroner/prefix.Fit[int] -/
def fit (isPN : Nat) : AFn := ⟨2, [.tmp 4],
  (.seq
    (.ops false [
      ⟨(some 4), .mv (.const (.bool false)), none, false⟩])
  (.seq
    (.ops false [
      ⟨(some 5), .mv (.tmp 0), none, false⟩,
      ⟨(some 6), .mv (.tmp 1), none, false⟩,
      ⟨(some 7), .call (.func isPN) [(.tmp 5), (.tmp 6)], none, false⟩,
      ⟨(some 8), .mv (.tmp 7), none, false⟩,
      ⟨(some 9), .mv (.tmp 1), (some (8, false)), false⟩,
      ⟨(some 10), .mv (.tmp 0), (some (8, false)), false⟩,
      ⟨(some 11), .call (.func isPN) [(.tmp 9), (.tmp 10)], (some (8, false)), false⟩,
      ⟨(some 12), .pick (.tmp 8) (.const (.bool true)) (.tmp 11), none, false⟩,
      ⟨(some 4), .mv (.tmp 12), none, false⟩])
  .ret))⟩
/-- slices.Clone[[]int,int] -/
def clone : AFn := ⟨1, [.tmp 2],
  (.seq
    (.ops false [
      ⟨(some 2), .mv (.const (.slice none 0 0)), none, false⟩])
  (.seq
    (.seq
      (.ops false [
        ⟨(some 3), .mv (.tmp 0), none, false⟩,
        ⟨(some 4), .eqv 2 false (.tmp 3) (.const (.slice none 0 0)), none, false⟩])
    (.cond (.tmp 4)
      (.seq
        (.ops false [
          ⟨(some 2), .mv (.const (.slice none 0 0)), none, false⟩])
      .ret)
      .skip))
  (.seq
    (.ops false [
      ⟨(some 5), .bslice 1 0 [] [], none, false⟩,
      ⟨(some 6), .mv (.tmp 0), none, false⟩,
      ⟨(some 7), .append 1 8 (.tmp 5) (.tmp 6), none, false⟩,
      ⟨(some 2), .mv (.tmp 7), none, false⟩])
  .ret)))⟩
/-- coroner/prefix.apart[int] -/
def apart (fitN : Nat) : AFn := ⟨2, [.tmp 4, .tmp 5],
  (.seq
    (.ops false [
      ⟨(some 4), .mv (.const (.int .i64 0)), none, false⟩,
      ⟨(some 5), .mv (.const (.bool false)), none, false⟩])
  (.seq
    (.seq
      (.ops false [
        ⟨(some 7), .mv (.tmp 1), none, false⟩,
        ⟨(some 8), .bin .add (.tmp 7) (.const (.int .i64 1)), none, false⟩,
        ⟨(some 6), .mv (.tmp 8), none, false⟩])
    (.seq (.keep [0, 1, 6])
    (.block 0
      (.loop (.seq
        (.seq
          (.seq
            (.ops false [
              ⟨(some 9), .mv (.tmp 6), none, false⟩,
              ⟨(some 10), .mv (.tmp 0), none, false⟩,
              ⟨(some 11), .len 1 (.tmp 10), none, false⟩,
              ⟨(some 12), .bin .lss (.tmp 9) (.tmp 11), none, false⟩])
          (.cond (.tmp 12)
            .skip
            (.exit 0)))
        (.seq
          (.block 1
            (.seq
              (.ops true [
                ⟨(some 15), .mv (.tmp 0), none, false⟩,
                ⟨(some 16), .mv (.tmp 1), none, false⟩,
                ⟨(some 17), .iaddr 1 (.tmp 15) (.tmp 16), none, false⟩,
                ⟨(some 18), .load1 (.tmp 17), none, false⟩,
                ⟨(some 19), .mv (.tmp 0), none, false⟩,
                ⟨(some 20), .mv (.tmp 6), none, false⟩,
                ⟨(some 21), .iaddr 1 (.tmp 19) (.tmp 20), none, false⟩,
                ⟨(some 22), .load1 (.tmp 21), none, false⟩,
                ⟨(some 23), .call (.func fitN) [(.tmp 18), (.tmp 22)], none, true⟩,
                ⟨(some 24), .un .not (.tmp 23), none, true⟩])
            (.cond (.tmp 24)
              (.seq
                (.ops false [
                  ⟨(some 25), .mv (.tmp 6), none, false⟩,
                  ⟨(some 4), .mv (.tmp 25), none, false⟩,
                  ⟨(some 5), .mv (.const (.bool true)), none, false⟩])
              .ret)
              .skip)))
        (.ops false [
          ⟨(some 13), .mv (.tmp 6), none, false⟩,
          ⟨(some 14), .bin .add (.tmp 13) (.const (.int .i64 1)), none, false⟩,
          ⟨(some 6), .mv (.tmp 14), none, false⟩])))
        (.keep [0, 1, 6]))))))
  (.seq (.keep [])
  (.seq
    (.ops false [
      ⟨(some 4), .mv (.const (.int .i64 0)), none, false⟩,
      ⟨(some 5), .mv (.const (.bool false)), none, false⟩])
  .ret))))⟩
/-- coroner/prefix.Longest[int] -/
def longest (fitN : Nat) (cloneN : Nat) (apartN : Nat) : AFn := ⟨1, [.tmp 2, .tmp 3, .tmp 4, .tmp 5],
  (.seq
    (.ops false [
      ⟨(some 2), .mv (.const (.slice none 0 0)), none, false⟩,
      ⟨(some 3), .mv (.const (.int .i64 0)), none, false⟩,
      ⟨(some 4), .mv (.const (.int .i64 0)), none, false⟩,
      ⟨(some 5), .mv (.const (.bool false)), none, false⟩])
  (.seq
    (.ops false [
      ⟨(some 6), .mv (.const (.slice none 0 0)), none, false⟩])
  (.seq
    (.ops false [
      ⟨(some 7), .mv (.const (.bool true)), none, false⟩])
  (.seq
    (.seq
      (.ops false [
        ⟨(some 13), .mv (.tmp 0), none, false⟩,
        ⟨(some 14), .len 1 (.tmp 13), none, false⟩,
        ⟨(some 15), .mv (.const (.int .i64 0)), none, false⟩])
    (.seq (.keep [0, 6, 7, 13, 14, 15])
    (.block 0
      (.loop (.seq
        (.seq
          (.ops false [
            ⟨(some 16), .bin .lss (.tmp 15) (.tmp 14), none, false⟩])
        (.seq
          (.cond (.tmp 16)
            .skip
            (.exit 0))
        (.seq
          (.block 1
            (.seq
              (.ops false [
                ⟨(some 17), .iaddr 1 (.tmp 13) (.tmp 15), none, false⟩,
                ⟨(some 18), .load1 (.tmp 17), none, false⟩,
                ⟨(some 9), .mv (.tmp 18), none, false⟩])
            (.seq
              (.ops false [
                ⟨(some 19), .mv (.tmp 7), none, false⟩,
                ⟨(some 20), .mv (.tmp 19), none, false⟩,
                ⟨(some 21), .mv (.tmp 9), (some (20, true)), false⟩,
                ⟨(some 22), .mv (.tmp 6), (some (20, true)), false⟩,
                ⟨(some 23), .call (.func fitN) [(.tmp 21), (.tmp 22)], (some (20, true)), false⟩,
                ⟨(some 24), .pick (.tmp 20) (.tmp 23) (.const (.bool false)), none, false⟩,
                ⟨(some 7), .mv (.tmp 24), none, false⟩])
            (.seq
              (.ops false [
                ⟨(some 25), .mv (.tmp 9), none, false⟩,
                ⟨(some 26), .len 1 (.tmp 25), none, false⟩,
                ⟨(some 27), .mv (.tmp 6), none, false⟩,
                ⟨(some 28), .len 1 (.tmp 27), none, false⟩,
                ⟨(some 29), .bin .gtr (.tmp 26) (.tmp 28), none, false⟩])
            (.cond (.tmp 29)
              (.ops false [
                ⟨(some 30), .mv (.tmp 9), none, false⟩,
                ⟨(some 6), .mv (.tmp 30), none, false⟩])
              .skip)))))
        (.ops false [
          ⟨(some 31), .bin .add (.tmp 15) (.const (.int .i64 1)), none, false⟩,
          ⟨(some 15), .mv (.tmp 31), none, false⟩]))))
        (.keep [0, 6, 7, 13, 14, 15]))))))
  (.seq (.keep [0, 6, 7])
  (.seq
    (.seq
      (.ops false [
        ⟨(some 32), .mv (.tmp 7), none, false⟩])
    (.cond (.tmp 32)
      (.seq
        (.ops false [
          ⟨(some 33), .mv (.tmp 6), none, false⟩,
          ⟨(some 34), .call (.func cloneN) [(.tmp 33)], none, false⟩,
          ⟨(some 2), .mv (.tmp 34), none, false⟩,
          ⟨(some 3), .mv (.const (.int .i64 0)), none, false⟩,
          ⟨(some 4), .mv (.const (.int .i64 0)), none, false⟩,
          ⟨(some 5), .mv (.const (.bool true)), none, false⟩])
      .ret)
      .skip))
  (.seq
    (.seq
      (.ops false [
        ⟨(some 35), .mv (.tmp 0), none, false⟩,
        ⟨(some 36), .len 1 (.tmp 35), none, false⟩,
        ⟨(some 37), .mv (.const (.int .i64 0)), none, false⟩])
    (.seq (.keep [0, 36, 37])
    (.block 2
      (.loop (.seq
        (.seq
          (.ops false [
            ⟨(some 38), .bin .lss (.tmp 37) (.tmp 36), none, false⟩])
        (.seq
          (.cond (.tmp 38)
            .skip
            (.exit 2))
        (.seq
          (.block 3
            (.seq
              (.ops false [
                ⟨(some 39), .mv (.tmp 37), none, false⟩,
                ⟨(some 10), .mv (.tmp 39), none, false⟩])
            (.seq
              (.ops false [
                ⟨(some 41), .mv (.tmp 0), none, false⟩,
                ⟨(some 42), .mv (.tmp 10), none, false⟩,
                ⟨(some 43), .call (.func apartN) [(.tmp 41), (.tmp 42)], none, false⟩,
                ⟨(some 40), .mv (.tmp 43), none, false⟩,
                ⟨(some 44), .extract 0 (.tmp 40), none, false⟩,
                ⟨(some 45), .extract 1 (.tmp 40), none, false⟩,
                ⟨(some 11), .mv (.tmp 44), none, false⟩,
                ⟨(some 12), .mv (.tmp 45), none, false⟩])
            (.seq
              (.ops false [
                ⟨(some 46), .mv (.tmp 12), none, false⟩])
            (.cond (.tmp 46)
              (.seq
                (.ops false [
                  ⟨(some 47), .mv (.tmp 10), none, false⟩,
                  ⟨(some 48), .mv (.tmp 11), none, false⟩,
                  ⟨(some 2), .mv (.const (.slice none 0 0)), none, false⟩,
                  ⟨(some 3), .mv (.tmp 47), none, false⟩,
                  ⟨(some 4), .mv (.tmp 48), none, false⟩,
                  ⟨(some 5), .mv (.const (.bool false)), none, false⟩])
              .ret)
              .skip)))))
        (.ops false [
          ⟨(some 49), .bin .add (.tmp 37) (.const (.int .i64 1)), none, false⟩,
          ⟨(some 37), .mv (.tmp 49), none, false⟩]))))
        (.keep [0, 36, 37]))))))
  (.seq (.keep [])
  (.seq
    (.ops false [
      ⟨(some 2), .mv (.const (.slice none 0 0)), none, false⟩,
      ⟨(some 3), .mv (.const (.int .i64 0)), none, false⟩,
      ⟨(some 4), .mv (.const (.int .i64 0)), none, false⟩,
      ⟨(some 5), .mv (.const (.bool false)), none, false⟩])
  .ret)))))))))⟩

section
variable {α : Type} [DecidableEq α] {K : Kind α} {f : α → Value} [iv : IsVal K f] [ie : EqV f] {prog : AProg} {h : Heap} {R : Value → Heap → Prop} {va vb : Value}
include iv ie

theorem common_runs {fn : FuncId} (hp : prog fn = some (.code common)) {a b : List α} (ha : Sl K (mem h) va a) (hb : Sl K (mem h) vb b) (la : a.length ≤ 9223372036854775807)
    (hR : R (.int .i64 (commonL a b)) h) : Runs prog fn [va, vb] h R := by
  obtain ⟨pa, ca, rfl⟩ := ha.form
  obtain ⟨pb, cb, rfl⟩ := hb.form
  refine runs_here hp rfl ?_
  unfold common
  repeat' first | refine at_seq ?_ | refine at_ops ?_ | refine at_nil ?_ | refine at_mv rfl ?_ | refine at_lenL rfl ?_ | refine at_guard_t rfl ?_ | refine at_guard_f rfl ?_ | refine at_guard_u rfl ?_ | (refine at_lss rfl rfl (fun _ => ?_) (fun _ => ?_) <;> try (exfalso; omega)) | (refine at_leq rfl rfl (fun _ => ?_) (fun _ => ?_) <;> try (exfalso; omega)) | (refine at_gtr rfl rfl (fun _ => ?_) (fun _ => ?_) <;> try (exfalso; omega)) | (refine at_geq rfl rfl (fun _ => ?_) (fun _ => ?_) <;> try (exfalso; omega)) | (refine at_eql rfl rfl (fun _ => ?_) (fun _ => ?_) <;> try (exfalso; omega)) | (refine at_neq rfl rfl (fun _ => ?_) (fun _ => ?_) <;> try (exfalso; omega)) | refine at_skip ?_ | refine at_true rfl ?_ | refine at_false rfl ?_ | refine at_block ?_ | refine at_blk ?_ | refine at_blk_exit ?_ | refine at_blk_ret ?_ | refine at_c_ret ?_ | refine at_o_ret ?_ | refine at_c_exit ?_ | refine at_blk_pass rfl ?_ | refine at_exit ?_ | refine at_ret ?_ | refine at_kp (by simp only [keep_cons, keep_nil, keepC_some, keepC_none, get_same, get_ne, get_nil, put_s, put_n, arg_cons, arg_nil, Nat.reduceBEq, Nat.reduceAdd] <;> rfl) ?_ | refine at_inc rfl (by omega) ?_ | refine at_add rfl rfl (by omega) ?_ | refine at_sub rfl rfl (by omega) ?_ | refine at_pick_t rfl rfl ?_ | refine at_pick_f rfl rfl ?_ | refine at_not rfl ?_ | refine at_conv64 rfl (by omega) ?_ | (refine at_max2 rfl rfl (fun _ => ?_) (fun _ => ?_) <;> try (exfalso; omega)) | (refine at_min2 rfl rfl (fun _ => ?_) (fun _ => ?_) <;> try (exfalso; omega)) | refine at_remN rfl rfl (by omega) (fun _ _ _ => ?_) | (refine at_iaddr rfl rfl (by assumption) (by omega) (fun _ _ hp => ?_); cases hp) | (refine at_iaddr_int rfl rfl (by assumption) (by omega) (fun _ _ hp => ?_); cases hp) | refine at_elemI rfl (by assumption) (by first | assumption | exact Sub.refl _ | exact fz_mem _ | exact St.sub (by assumption)) (by omega) (fun _ => ?_) | refine at_elemU8 rfl (by assumption) (by first | assumption | exact Sub.refl _ | exact fz_mem _ | exact St.sub (by assumption)) (by omega) (fun _ => ?_) | refine at_elemB rfl (by assumption) (by first | assumption | exact Sub.refl _ | exact fz_mem _ | exact St.sub (by assumption)) (by omega) (fun _ => ?_) (fun _ => ?_) | refine at_elemL rfl (by assumption) (by first | assumption | exact Sub.refl _ | exact fz_mem _ | exact St.sub (by assumption)) (by omega) (fun _ _ _ _ => ?_) | refine at_elemS rfl (by assumption) (by first | assumption | exact Sub.refl _ | exact fz_mem _ | exact St.sub (by assumption)) (by omega) (fun _ => ?_) | refine at_elemV rfl (by assumption) (by infer_instance) (by first | assumption | exact Sub.refl _ | exact fz_mem _ | exact St.sub (by assumption)) (by omega) ?_ | refine at_eqlV rfl rfl (fun _ => ?_) (fun _ => ?_) | refine at_faddr rfl ?_ | refine at_nilc rfl ?_ | refine at_ld rfl (by assumption) rfl rfl ?_ | refine at_opsA ?_ | refine at_apart rfl ?_ | refine at_ap_ret ?_ | refine at_end ?_ | refine at_free rfl rfl ?_
  refine at_loop2 (fun m e h' => h' = h ∧ ∃ n : Nat, n ≤ a.length ∧ m = a.length - n ∧ e = [(0, .slice pa a.length ca), (1, .slice pb b.length cb), (5, .int .i64 n)] ∧ commonL a b = n + commonL (a.drop n) (b.drop n))
    (fun x e h' => x = .exit 0 ∧ h' = h ∧ Env.get e 5 = some (.int .i64 (commonL a b))) ⟨rfl, 0, Nat.zero_le _, rfl, rfl, by simp⟩ ?_ ?_
  · rintro m e h' _ ⟨rfl, n, hn, rfl, rfl, hI⟩
    repeat' first | refine at_seq ?_ | refine at_ops ?_ | refine at_nil ?_ | refine at_mv rfl ?_ | refine at_lenL rfl ?_ | refine at_guard_t rfl ?_ | refine at_guard_f rfl ?_ | refine at_guard_u rfl ?_ | (refine at_lss rfl rfl (fun _ => ?_) (fun _ => ?_) <;> try (exfalso; omega)) | (refine at_leq rfl rfl (fun _ => ?_) (fun _ => ?_) <;> try (exfalso; omega)) | (refine at_gtr rfl rfl (fun _ => ?_) (fun _ => ?_) <;> try (exfalso; omega)) | (refine at_geq rfl rfl (fun _ => ?_) (fun _ => ?_) <;> try (exfalso; omega)) | (refine at_eql rfl rfl (fun _ => ?_) (fun _ => ?_) <;> try (exfalso; omega)) | (refine at_neq rfl rfl (fun _ => ?_) (fun _ => ?_) <;> try (exfalso; omega)) | refine at_skip ?_ | refine at_true rfl ?_ | refine at_false rfl ?_ | refine at_block ?_ | refine at_blk ?_ | refine at_blk_exit ?_ | refine at_blk_ret ?_ | refine at_c_ret ?_ | refine at_o_ret ?_ | refine at_c_exit ?_ | refine at_blk_pass rfl ?_ | refine at_exit ?_ | refine at_ret ?_ | refine at_kp (by simp only [keep_cons, keep_nil, keepC_some, keepC_none, get_same, get_ne, get_nil, put_s, put_n, arg_cons, arg_nil, Nat.reduceBEq, Nat.reduceAdd] <;> rfl) ?_ | refine at_inc rfl (by omega) ?_ | refine at_add rfl rfl (by omega) ?_ | refine at_sub rfl rfl (by omega) ?_ | refine at_pick_t rfl rfl ?_ | refine at_pick_f rfl rfl ?_ | refine at_not rfl ?_ | refine at_conv64 rfl (by omega) ?_ | (refine at_max2 rfl rfl (fun _ => ?_) (fun _ => ?_) <;> try (exfalso; omega)) | (refine at_min2 rfl rfl (fun _ => ?_) (fun _ => ?_) <;> try (exfalso; omega)) | refine at_remN rfl rfl (by omega) (fun _ _ _ => ?_) | (refine at_iaddr rfl rfl (by assumption) (by omega) (fun _ _ hp => ?_); cases hp) | (refine at_iaddr_int rfl rfl (by assumption) (by omega) (fun _ _ hp => ?_); cases hp) | refine at_elemI rfl (by assumption) (by first | assumption | exact Sub.refl _ | exact fz_mem _ | exact St.sub (by assumption)) (by omega) (fun _ => ?_) | refine at_elemU8 rfl (by assumption) (by first | assumption | exact Sub.refl _ | exact fz_mem _ | exact St.sub (by assumption)) (by omega) (fun _ => ?_) | refine at_elemB rfl (by assumption) (by first | assumption | exact Sub.refl _ | exact fz_mem _ | exact St.sub (by assumption)) (by omega) (fun _ => ?_) (fun _ => ?_) | refine at_elemL rfl (by assumption) (by first | assumption | exact Sub.refl _ | exact fz_mem _ | exact St.sub (by assumption)) (by omega) (fun _ _ _ _ => ?_) | refine at_elemS rfl (by assumption) (by first | assumption | exact Sub.refl _ | exact fz_mem _ | exact St.sub (by assumption)) (by omega) (fun _ => ?_) | refine at_elemV rfl (by assumption) (by infer_instance) (by first | assumption | exact Sub.refl _ | exact fz_mem _ | exact St.sub (by assumption)) (by omega) ?_ | refine at_eqlV rfl rfl (fun _ => ?_) (fun _ => ?_) | refine at_faddr rfl ?_ | refine at_nilc rfl ?_ | refine at_ld rfl (by assumption) rfl rfl ?_ | refine at_opsA ?_ | refine at_apart rfl ?_ | refine at_ap_ret ?_ | refine at_end ?_ | refine at_free rfl rfl ?_
    · exact ⟨_, by omega, rfl, n + 1, by omega, rfl, rfl, by rw [hI, commonL_step (by omega) (by omega), if_pos (by assumption)]; omega⟩
    · exact ⟨rfl, rfl, by rw [hI, commonL_step (by omega) (by omega), if_neg (by assumption)]; rfl⟩
    · exact ⟨rfl, rfl, by rw [hI, commonL_end (.inr (by omega))]; rfl⟩
    · exact ⟨rfl, rfl, by rw [hI, commonL_end (.inl (by omega))]; rfl⟩
  · rintro x e h' _ ⟨rfl, rfl, he⟩
    refine at_blk_exit (at_seq (at_kp (e' := [(5, .int .i64 (commonL a b))]) (by simp only [keep_cons, keep_nil, he, keepC_some]) ?_))
    repeat' first | refine at_seq ?_ | refine at_ops ?_ | refine at_nil ?_ | refine at_mv rfl ?_ | refine at_lenL rfl ?_ | refine at_guard_t rfl ?_ | refine at_guard_f rfl ?_ | refine at_guard_u rfl ?_ | (refine at_lss rfl rfl (fun _ => ?_) (fun _ => ?_) <;> try (exfalso; omega)) | (refine at_leq rfl rfl (fun _ => ?_) (fun _ => ?_) <;> try (exfalso; omega)) | (refine at_gtr rfl rfl (fun _ => ?_) (fun _ => ?_) <;> try (exfalso; omega)) | (refine at_geq rfl rfl (fun _ => ?_) (fun _ => ?_) <;> try (exfalso; omega)) | (refine at_eql rfl rfl (fun _ => ?_) (fun _ => ?_) <;> try (exfalso; omega)) | (refine at_neq rfl rfl (fun _ => ?_) (fun _ => ?_) <;> try (exfalso; omega)) | refine at_skip ?_ | refine at_true rfl ?_ | refine at_false rfl ?_ | refine at_block ?_ | refine at_blk ?_ | refine at_blk_exit ?_ | refine at_blk_ret ?_ | refine at_c_ret ?_ | refine at_o_ret ?_ | refine at_c_exit ?_ | refine at_blk_pass rfl ?_ | refine at_exit ?_ | refine at_ret ?_ | refine at_kp (by simp only [keep_cons, keep_nil, keepC_some, keepC_none, get_same, get_ne, get_nil, put_s, put_n, arg_cons, arg_nil, Nat.reduceBEq, Nat.reduceAdd] <;> rfl) ?_ | refine at_inc rfl (by omega) ?_ | refine at_add rfl rfl (by omega) ?_ | refine at_sub rfl rfl (by omega) ?_ | refine at_pick_t rfl rfl ?_ | refine at_pick_f rfl rfl ?_ | refine at_not rfl ?_ | refine at_conv64 rfl (by omega) ?_ | (refine at_max2 rfl rfl (fun _ => ?_) (fun _ => ?_) <;> try (exfalso; omega)) | (refine at_min2 rfl rfl (fun _ => ?_) (fun _ => ?_) <;> try (exfalso; omega)) | refine at_remN rfl rfl (by omega) (fun _ _ _ => ?_) | (refine at_iaddr rfl rfl (by assumption) (by omega) (fun _ _ hp => ?_); cases hp) | (refine at_iaddr_int rfl rfl (by assumption) (by omega) (fun _ _ hp => ?_); cases hp) | refine at_elemI rfl (by assumption) (by first | assumption | exact Sub.refl _ | exact fz_mem _ | exact St.sub (by assumption)) (by omega) (fun _ => ?_) | refine at_elemU8 rfl (by assumption) (by first | assumption | exact Sub.refl _ | exact fz_mem _ | exact St.sub (by assumption)) (by omega) (fun _ => ?_) | refine at_elemB rfl (by assumption) (by first | assumption | exact Sub.refl _ | exact fz_mem _ | exact St.sub (by assumption)) (by omega) (fun _ => ?_) (fun _ => ?_) | refine at_elemL rfl (by assumption) (by first | assumption | exact Sub.refl _ | exact fz_mem _ | exact St.sub (by assumption)) (by omega) (fun _ _ _ _ => ?_) | refine at_elemS rfl (by assumption) (by first | assumption | exact Sub.refl _ | exact fz_mem _ | exact St.sub (by assumption)) (by omega) (fun _ => ?_) | refine at_elemV rfl (by assumption) (by infer_instance) (by first | assumption | exact Sub.refl _ | exact fz_mem _ | exact St.sub (by assumption)) (by omega) ?_ | refine at_eqlV rfl rfl (fun _ => ?_) (fun _ => ?_) | refine at_faddr rfl ?_ | refine at_nilc rfl ?_ | refine at_ld rfl (by assumption) rfl rfl ?_ | refine at_opsA ?_ | refine at_apart rfl ?_ | refine at_ap_ret ?_ | refine at_end ?_ | refine at_free rfl rfl ?_
    refine ⟨by simp, _, rfl, ?_⟩
    exact hR

theorem isP_runs {fn fc : FuncId} (hp : prog fn = some (.code (isP fc))) (hc : prog fc = some (.code common)) {a b : List α} (ha : Sl K (mem h) va a) (hb : Sl K (mem h) vb b) (la : a.length ≤ 9223372036854775807)
    (hR : R (.bool (isL a b)) h) : Runs prog fn [va, vb] h R := by
  obtain ⟨pa, ca, rfl⟩ := ha.form
  refine runs_here hp rfl ?_
  unfold isP
  repeat' first | refine at_seq ?_ | refine at_ops ?_ | refine at_nil ?_ | refine at_mv rfl ?_ | refine at_lenL rfl ?_ | refine at_guard_t rfl ?_ | refine at_guard_f rfl ?_ | refine at_guard_u rfl ?_ | (refine at_lss rfl rfl (fun _ => ?_) (fun _ => ?_) <;> try (exfalso; omega)) | (refine at_leq rfl rfl (fun _ => ?_) (fun _ => ?_) <;> try (exfalso; omega)) | (refine at_gtr rfl rfl (fun _ => ?_) (fun _ => ?_) <;> try (exfalso; omega)) | (refine at_geq rfl rfl (fun _ => ?_) (fun _ => ?_) <;> try (exfalso; omega)) | (refine at_eql rfl rfl (fun _ => ?_) (fun _ => ?_) <;> try (exfalso; omega)) | (refine at_neq rfl rfl (fun _ => ?_) (fun _ => ?_) <;> try (exfalso; omega)) | refine at_skip ?_ | refine at_true rfl ?_ | refine at_false rfl ?_ | refine at_block ?_ | refine at_blk ?_ | refine at_blk_exit ?_ | refine at_blk_ret ?_ | refine at_c_ret ?_ | refine at_o_ret ?_ | refine at_c_exit ?_ | refine at_blk_pass rfl ?_ | refine at_exit ?_ | refine at_ret ?_ | refine at_kp (by simp only [keep_cons, keep_nil, keepC_some, keepC_none, get_same, get_ne, get_nil, put_s, put_n, arg_cons, arg_nil, Nat.reduceBEq, Nat.reduceAdd] <;> rfl) ?_ | refine at_inc rfl (by omega) ?_ | refine at_add rfl rfl (by omega) ?_ | refine at_sub rfl rfl (by omega) ?_ | refine at_pick_t rfl rfl ?_ | refine at_pick_f rfl rfl ?_ | refine at_not rfl ?_ | refine at_conv64 rfl (by omega) ?_ | (refine at_max2 rfl rfl (fun _ => ?_) (fun _ => ?_) <;> try (exfalso; omega)) | (refine at_min2 rfl rfl (fun _ => ?_) (fun _ => ?_) <;> try (exfalso; omega)) | refine at_remN rfl rfl (by omega) (fun _ _ _ => ?_) | (refine at_iaddr rfl rfl (by assumption) (by omega) (fun _ _ hp => ?_); cases hp) | (refine at_iaddr_int rfl rfl (by assumption) (by omega) (fun _ _ hp => ?_); cases hp) | refine at_elemI rfl (by assumption) (by first | assumption | exact Sub.refl _ | exact fz_mem _ | exact St.sub (by assumption)) (by omega) (fun _ => ?_) | refine at_elemU8 rfl (by assumption) (by first | assumption | exact Sub.refl _ | exact fz_mem _ | exact St.sub (by assumption)) (by omega) (fun _ => ?_) | refine at_elemB rfl (by assumption) (by first | assumption | exact Sub.refl _ | exact fz_mem _ | exact St.sub (by assumption)) (by omega) (fun _ => ?_) (fun _ => ?_) | refine at_elemL rfl (by assumption) (by first | assumption | exact Sub.refl _ | exact fz_mem _ | exact St.sub (by assumption)) (by omega) (fun _ _ _ _ => ?_) | refine at_elemS rfl (by assumption) (by first | assumption | exact Sub.refl _ | exact fz_mem _ | exact St.sub (by assumption)) (by omega) (fun _ => ?_) | refine at_elemV rfl (by assumption) (by infer_instance) (by first | assumption | exact Sub.refl _ | exact fz_mem _ | exact St.sub (by assumption)) (by omega) ?_ | refine at_eqlV rfl rfl (fun _ => ?_) (fun _ => ?_) | refine at_faddr rfl ?_ | refine at_nilc rfl ?_ | refine at_ld rfl (by assumption) rfl rfl ?_ | refine at_opsA ?_ | refine at_apart rfl ?_ | refine at_ap_ret ?_ | refine at_end ?_ | refine at_free rfl rfl ?_
  refine at_cl rfl rfl rfl rfl (common_runs (K := K) (f := f) hc ha hb la (fun _ _ => ?_))
  repeat' first | refine at_seq ?_ | refine at_ops ?_ | refine at_nil ?_ | refine at_mv rfl ?_ | refine at_lenL rfl ?_ | refine at_guard_t rfl ?_ | refine at_guard_f rfl ?_ | refine at_guard_u rfl ?_ | (refine at_lss rfl rfl (fun _ => ?_) (fun _ => ?_) <;> try (exfalso; omega)) | (refine at_leq rfl rfl (fun _ => ?_) (fun _ => ?_) <;> try (exfalso; omega)) | (refine at_gtr rfl rfl (fun _ => ?_) (fun _ => ?_) <;> try (exfalso; omega)) | (refine at_geq rfl rfl (fun _ => ?_) (fun _ => ?_) <;> try (exfalso; omega)) | (refine at_eql rfl rfl (fun _ => ?_) (fun _ => ?_) <;> try (exfalso; omega)) | (refine at_neq rfl rfl (fun _ => ?_) (fun _ => ?_) <;> try (exfalso; omega)) | refine at_skip ?_ | refine at_true rfl ?_ | refine at_false rfl ?_ | refine at_block ?_ | refine at_blk ?_ | refine at_blk_exit ?_ | refine at_blk_ret ?_ | refine at_c_ret ?_ | refine at_o_ret ?_ | refine at_c_exit ?_ | refine at_blk_pass rfl ?_ | refine at_exit ?_ | refine at_ret ?_ | refine at_kp (by simp only [keep_cons, keep_nil, keepC_some, keepC_none, get_same, get_ne, get_nil, put_s, put_n, arg_cons, arg_nil, Nat.reduceBEq, Nat.reduceAdd] <;> rfl) ?_ | refine at_inc rfl (by omega) ?_ | refine at_add rfl rfl (by omega) ?_ | refine at_sub rfl rfl (by omega) ?_ | refine at_pick_t rfl rfl ?_ | refine at_pick_f rfl rfl ?_ | refine at_not rfl ?_ | refine at_conv64 rfl (by omega) ?_ | (refine at_max2 rfl rfl (fun _ => ?_) (fun _ => ?_) <;> try (exfalso; omega)) | (refine at_min2 rfl rfl (fun _ => ?_) (fun _ => ?_) <;> try (exfalso; omega)) | refine at_remN rfl rfl (by omega) (fun _ _ _ => ?_) | (refine at_iaddr rfl rfl (by assumption) (by omega) (fun _ _ hp => ?_); cases hp) | (refine at_iaddr_int rfl rfl (by assumption) (by omega) (fun _ _ hp => ?_); cases hp) | refine at_elemI rfl (by assumption) (by first | assumption | exact Sub.refl _ | exact fz_mem _ | exact St.sub (by assumption)) (by omega) (fun _ => ?_) | refine at_elemU8 rfl (by assumption) (by first | assumption | exact Sub.refl _ | exact fz_mem _ | exact St.sub (by assumption)) (by omega) (fun _ => ?_) | refine at_elemB rfl (by assumption) (by first | assumption | exact Sub.refl _ | exact fz_mem _ | exact St.sub (by assumption)) (by omega) (fun _ => ?_) (fun _ => ?_) | refine at_elemL rfl (by assumption) (by first | assumption | exact Sub.refl _ | exact fz_mem _ | exact St.sub (by assumption)) (by omega) (fun _ _ _ _ => ?_) | refine at_elemS rfl (by assumption) (by first | assumption | exact Sub.refl _ | exact fz_mem _ | exact St.sub (by assumption)) (by omega) (fun _ => ?_) | refine at_elemV rfl (by assumption) (by infer_instance) (by first | assumption | exact Sub.refl _ | exact fz_mem _ | exact St.sub (by assumption)) (by omega) ?_ | refine at_eqlV rfl rfl (fun _ => ?_) (fun _ => ?_) | refine at_faddr rfl ?_ | refine at_nilc rfl ?_ | refine at_ld rfl (by assumption) rfl rfl ?_ | refine at_opsA ?_ | refine at_apart rfl ?_ | refine at_ap_ret ?_ | refine at_end ?_ | refine at_free rfl rfl ?_
  all_goals
    refine ⟨by simp, _, rfl, ?_⟩
    unfold isL at hR
  · rwa [show (commonL a b == a.length) = true by simp; omega] at hR
  · rwa [show (commonL a b == a.length) = false by simp; omega] at hR

theorem fit_runs {fn fi fc : FuncId} (hp : prog fn = some (.code (fit fi))) (hi : prog fi = some (.code (isP fc))) (hc : prog fc = some (.code common)) {a b : List α} (ha : Sl K (mem h) va a) (hb : Sl K (mem h) vb b) (la : a.length ≤ 9223372036854775807) (lb : b.length ≤ 9223372036854775807)
    (hR : R (.bool (fitL a b)) h) : Runs prog fn [va, vb] h R := by
  refine runs_here hp rfl ?_
  unfold fit
  repeat' first | refine at_seq ?_ | refine at_ops ?_ | refine at_nil ?_ | refine at_mv rfl ?_ | refine at_lenL rfl ?_ | refine at_guard_t rfl ?_ | refine at_guard_f rfl ?_ | refine at_guard_u rfl ?_ | (refine at_lss rfl rfl (fun _ => ?_) (fun _ => ?_) <;> try (exfalso; omega)) | (refine at_leq rfl rfl (fun _ => ?_) (fun _ => ?_) <;> try (exfalso; omega)) | (refine at_gtr rfl rfl (fun _ => ?_) (fun _ => ?_) <;> try (exfalso; omega)) | (refine at_geq rfl rfl (fun _ => ?_) (fun _ => ?_) <;> try (exfalso; omega)) | (refine at_eql rfl rfl (fun _ => ?_) (fun _ => ?_) <;> try (exfalso; omega)) | (refine at_neq rfl rfl (fun _ => ?_) (fun _ => ?_) <;> try (exfalso; omega)) | refine at_skip ?_ | refine at_true rfl ?_ | refine at_false rfl ?_ | refine at_block ?_ | refine at_blk ?_ | refine at_blk_exit ?_ | refine at_blk_ret ?_ | refine at_c_ret ?_ | refine at_o_ret ?_ | refine at_c_exit ?_ | refine at_blk_pass rfl ?_ | refine at_exit ?_ | refine at_ret ?_ | refine at_kp (by simp only [keep_cons, keep_nil, keepC_some, keepC_none, get_same, get_ne, get_nil, put_s, put_n, arg_cons, arg_nil, Nat.reduceBEq, Nat.reduceAdd] <;> rfl) ?_ | refine at_inc rfl (by omega) ?_ | refine at_add rfl rfl (by omega) ?_ | refine at_sub rfl rfl (by omega) ?_ | refine at_pick_t rfl rfl ?_ | refine at_pick_f rfl rfl ?_ | refine at_not rfl ?_ | refine at_conv64 rfl (by omega) ?_ | (refine at_max2 rfl rfl (fun _ => ?_) (fun _ => ?_) <;> try (exfalso; omega)) | (refine at_min2 rfl rfl (fun _ => ?_) (fun _ => ?_) <;> try (exfalso; omega)) | refine at_remN rfl rfl (by omega) (fun _ _ _ => ?_) | (refine at_iaddr rfl rfl (by assumption) (by omega) (fun _ _ hp => ?_); cases hp) | (refine at_iaddr_int rfl rfl (by assumption) (by omega) (fun _ _ hp => ?_); cases hp) | refine at_elemI rfl (by assumption) (by first | assumption | exact Sub.refl _ | exact fz_mem _ | exact St.sub (by assumption)) (by omega) (fun _ => ?_) | refine at_elemU8 rfl (by assumption) (by first | assumption | exact Sub.refl _ | exact fz_mem _ | exact St.sub (by assumption)) (by omega) (fun _ => ?_) | refine at_elemB rfl (by assumption) (by first | assumption | exact Sub.refl _ | exact fz_mem _ | exact St.sub (by assumption)) (by omega) (fun _ => ?_) (fun _ => ?_) | refine at_elemL rfl (by assumption) (by first | assumption | exact Sub.refl _ | exact fz_mem _ | exact St.sub (by assumption)) (by omega) (fun _ _ _ _ => ?_) | refine at_elemS rfl (by assumption) (by first | assumption | exact Sub.refl _ | exact fz_mem _ | exact St.sub (by assumption)) (by omega) (fun _ => ?_) | refine at_elemV rfl (by assumption) (by infer_instance) (by first | assumption | exact Sub.refl _ | exact fz_mem _ | exact St.sub (by assumption)) (by omega) ?_ | refine at_eqlV rfl rfl (fun _ => ?_) (fun _ => ?_) | refine at_faddr rfl ?_ | refine at_nilc rfl ?_ | refine at_ld rfl (by assumption) rfl rfl ?_ | refine at_opsA ?_ | refine at_apart rfl ?_ | refine at_ap_ret ?_ | refine at_end ?_ | refine at_free rfl rfl ?_
  refine at_cl rfl rfl rfl rfl (isP_runs (K := K) (f := f) hi hc ha hb la (fun _ _ => ?_))
  unfold fitL at hR
  cases h1 : isL a b with
  | true =>
    repeat' first | refine at_seq ?_ | refine at_ops ?_ | refine at_nil ?_ | refine at_mv rfl ?_ | refine at_lenL rfl ?_ | refine at_guard_t rfl ?_ | refine at_guard_f rfl ?_ | refine at_guard_u rfl ?_ | (refine at_lss rfl rfl (fun _ => ?_) (fun _ => ?_) <;> try (exfalso; omega)) | (refine at_leq rfl rfl (fun _ => ?_) (fun _ => ?_) <;> try (exfalso; omega)) | (refine at_gtr rfl rfl (fun _ => ?_) (fun _ => ?_) <;> try (exfalso; omega)) | (refine at_geq rfl rfl (fun _ => ?_) (fun _ => ?_) <;> try (exfalso; omega)) | (refine at_eql rfl rfl (fun _ => ?_) (fun _ => ?_) <;> try (exfalso; omega)) | (refine at_neq rfl rfl (fun _ => ?_) (fun _ => ?_) <;> try (exfalso; omega)) | refine at_skip ?_ | refine at_true rfl ?_ | refine at_false rfl ?_ | refine at_block ?_ | refine at_blk ?_ | refine at_blk_exit ?_ | refine at_blk_ret ?_ | refine at_c_ret ?_ | refine at_o_ret ?_ | refine at_c_exit ?_ | refine at_blk_pass rfl ?_ | refine at_exit ?_ | refine at_ret ?_ | refine at_kp (by simp only [keep_cons, keep_nil, keepC_some, keepC_none, get_same, get_ne, get_nil, put_s, put_n, arg_cons, arg_nil, Nat.reduceBEq, Nat.reduceAdd] <;> rfl) ?_ | refine at_inc rfl (by omega) ?_ | refine at_add rfl rfl (by omega) ?_ | refine at_sub rfl rfl (by omega) ?_ | refine at_pick_t rfl rfl ?_ | refine at_pick_f rfl rfl ?_ | refine at_not rfl ?_ | refine at_conv64 rfl (by omega) ?_ | (refine at_max2 rfl rfl (fun _ => ?_) (fun _ => ?_) <;> try (exfalso; omega)) | (refine at_min2 rfl rfl (fun _ => ?_) (fun _ => ?_) <;> try (exfalso; omega)) | refine at_remN rfl rfl (by omega) (fun _ _ _ => ?_) | (refine at_iaddr rfl rfl (by assumption) (by omega) (fun _ _ hp => ?_); cases hp) | (refine at_iaddr_int rfl rfl (by assumption) (by omega) (fun _ _ hp => ?_); cases hp) | refine at_elemI rfl (by assumption) (by first | assumption | exact Sub.refl _ | exact fz_mem _ | exact St.sub (by assumption)) (by omega) (fun _ => ?_) | refine at_elemU8 rfl (by assumption) (by first | assumption | exact Sub.refl _ | exact fz_mem _ | exact St.sub (by assumption)) (by omega) (fun _ => ?_) | refine at_elemB rfl (by assumption) (by first | assumption | exact Sub.refl _ | exact fz_mem _ | exact St.sub (by assumption)) (by omega) (fun _ => ?_) (fun _ => ?_) | refine at_elemL rfl (by assumption) (by first | assumption | exact Sub.refl _ | exact fz_mem _ | exact St.sub (by assumption)) (by omega) (fun _ _ _ _ => ?_) | refine at_elemS rfl (by assumption) (by first | assumption | exact Sub.refl _ | exact fz_mem _ | exact St.sub (by assumption)) (by omega) (fun _ => ?_) | refine at_elemV rfl (by assumption) (by infer_instance) (by first | assumption | exact Sub.refl _ | exact fz_mem _ | exact St.sub (by assumption)) (by omega) ?_ | refine at_eqlV rfl rfl (fun _ => ?_) (fun _ => ?_) | refine at_faddr rfl ?_ | refine at_nilc rfl ?_ | refine at_ld rfl (by assumption) rfl rfl ?_ | refine at_opsA ?_ | refine at_apart rfl ?_ | refine at_ap_ret ?_ | refine at_end ?_ | refine at_free rfl rfl ?_
    refine ⟨by simp, _, rfl, ?_⟩
    rw [h1] at hR; exact hR
  | false =>
    repeat' first | refine at_seq ?_ | refine at_ops ?_ | refine at_nil ?_ | refine at_mv rfl ?_ | refine at_lenL rfl ?_ | refine at_guard_t rfl ?_ | refine at_guard_f rfl ?_ | refine at_guard_u rfl ?_ | (refine at_lss rfl rfl (fun _ => ?_) (fun _ => ?_) <;> try (exfalso; omega)) | (refine at_leq rfl rfl (fun _ => ?_) (fun _ => ?_) <;> try (exfalso; omega)) | (refine at_gtr rfl rfl (fun _ => ?_) (fun _ => ?_) <;> try (exfalso; omega)) | (refine at_geq rfl rfl (fun _ => ?_) (fun _ => ?_) <;> try (exfalso; omega)) | (refine at_eql rfl rfl (fun _ => ?_) (fun _ => ?_) <;> try (exfalso; omega)) | (refine at_neq rfl rfl (fun _ => ?_) (fun _ => ?_) <;> try (exfalso; omega)) | refine at_skip ?_ | refine at_true rfl ?_ | refine at_false rfl ?_ | refine at_block ?_ | refine at_blk ?_ | refine at_blk_exit ?_ | refine at_blk_ret ?_ | refine at_c_ret ?_ | refine at_o_ret ?_ | refine at_c_exit ?_ | refine at_blk_pass rfl ?_ | refine at_exit ?_ | refine at_ret ?_ | refine at_kp (by simp only [keep_cons, keep_nil, keepC_some, keepC_none, get_same, get_ne, get_nil, put_s, put_n, arg_cons, arg_nil, Nat.reduceBEq, Nat.reduceAdd] <;> rfl) ?_ | refine at_inc rfl (by omega) ?_ | refine at_add rfl rfl (by omega) ?_ | refine at_sub rfl rfl (by omega) ?_ | refine at_pick_t rfl rfl ?_ | refine at_pick_f rfl rfl ?_ | refine at_not rfl ?_ | refine at_conv64 rfl (by omega) ?_ | (refine at_max2 rfl rfl (fun _ => ?_) (fun _ => ?_) <;> try (exfalso; omega)) | (refine at_min2 rfl rfl (fun _ => ?_) (fun _ => ?_) <;> try (exfalso; omega)) | refine at_remN rfl rfl (by omega) (fun _ _ _ => ?_) | (refine at_iaddr rfl rfl (by assumption) (by omega) (fun _ _ hp => ?_); cases hp) | (refine at_iaddr_int rfl rfl (by assumption) (by omega) (fun _ _ hp => ?_); cases hp) | refine at_elemI rfl (by assumption) (by first | assumption | exact Sub.refl _ | exact fz_mem _ | exact St.sub (by assumption)) (by omega) (fun _ => ?_) | refine at_elemU8 rfl (by assumption) (by first | assumption | exact Sub.refl _ | exact fz_mem _ | exact St.sub (by assumption)) (by omega) (fun _ => ?_) | refine at_elemB rfl (by assumption) (by first | assumption | exact Sub.refl _ | exact fz_mem _ | exact St.sub (by assumption)) (by omega) (fun _ => ?_) (fun _ => ?_) | refine at_elemL rfl (by assumption) (by first | assumption | exact Sub.refl _ | exact fz_mem _ | exact St.sub (by assumption)) (by omega) (fun _ _ _ _ => ?_) | refine at_elemS rfl (by assumption) (by first | assumption | exact Sub.refl _ | exact fz_mem _ | exact St.sub (by assumption)) (by omega) (fun _ => ?_) | refine at_elemV rfl (by assumption) (by infer_instance) (by first | assumption | exact Sub.refl _ | exact fz_mem _ | exact St.sub (by assumption)) (by omega) ?_ | refine at_eqlV rfl rfl (fun _ => ?_) (fun _ => ?_) | refine at_faddr rfl ?_ | refine at_nilc rfl ?_ | refine at_ld rfl (by assumption) rfl rfl ?_ | refine at_opsA ?_ | refine at_apart rfl ?_ | refine at_ap_ret ?_ | refine at_end ?_ | refine at_free rfl rfl ?_
    refine at_cl rfl rfl rfl rfl (isP_runs (K := K) (f := f) hi hc hb ha lb (fun _ _ => ?_))
    repeat' first | refine at_seq ?_ | refine at_ops ?_ | refine at_nil ?_ | refine at_mv rfl ?_ | refine at_lenL rfl ?_ | refine at_guard_t rfl ?_ | refine at_guard_f rfl ?_ | refine at_guard_u rfl ?_ | (refine at_lss rfl rfl (fun _ => ?_) (fun _ => ?_) <;> try (exfalso; omega)) | (refine at_leq rfl rfl (fun _ => ?_) (fun _ => ?_) <;> try (exfalso; omega)) | (refine at_gtr rfl rfl (fun _ => ?_) (fun _ => ?_) <;> try (exfalso; omega)) | (refine at_geq rfl rfl (fun _ => ?_) (fun _ => ?_) <;> try (exfalso; omega)) | (refine at_eql rfl rfl (fun _ => ?_) (fun _ => ?_) <;> try (exfalso; omega)) | (refine at_neq rfl rfl (fun _ => ?_) (fun _ => ?_) <;> try (exfalso; omega)) | refine at_skip ?_ | refine at_true rfl ?_ | refine at_false rfl ?_ | refine at_block ?_ | refine at_blk ?_ | refine at_blk_exit ?_ | refine at_blk_ret ?_ | refine at_c_ret ?_ | refine at_o_ret ?_ | refine at_c_exit ?_ | refine at_blk_pass rfl ?_ | refine at_exit ?_ | refine at_ret ?_ | refine at_kp (by simp only [keep_cons, keep_nil, keepC_some, keepC_none, get_same, get_ne, get_nil, put_s, put_n, arg_cons, arg_nil, Nat.reduceBEq, Nat.reduceAdd] <;> rfl) ?_ | refine at_inc rfl (by omega) ?_ | refine at_add rfl rfl (by omega) ?_ | refine at_sub rfl rfl (by omega) ?_ | refine at_pick_t rfl rfl ?_ | refine at_pick_f rfl rfl ?_ | refine at_not rfl ?_ | refine at_conv64 rfl (by omega) ?_ | (refine at_max2 rfl rfl (fun _ => ?_) (fun _ => ?_) <;> try (exfalso; omega)) | (refine at_min2 rfl rfl (fun _ => ?_) (fun _ => ?_) <;> try (exfalso; omega)) | refine at_remN rfl rfl (by omega) (fun _ _ _ => ?_) | (refine at_iaddr rfl rfl (by assumption) (by omega) (fun _ _ hp => ?_); cases hp) | (refine at_iaddr_int rfl rfl (by assumption) (by omega) (fun _ _ hp => ?_); cases hp) | refine at_elemI rfl (by assumption) (by first | assumption | exact Sub.refl _ | exact fz_mem _ | exact St.sub (by assumption)) (by omega) (fun _ => ?_) | refine at_elemU8 rfl (by assumption) (by first | assumption | exact Sub.refl _ | exact fz_mem _ | exact St.sub (by assumption)) (by omega) (fun _ => ?_) | refine at_elemB rfl (by assumption) (by first | assumption | exact Sub.refl _ | exact fz_mem _ | exact St.sub (by assumption)) (by omega) (fun _ => ?_) (fun _ => ?_) | refine at_elemL rfl (by assumption) (by first | assumption | exact Sub.refl _ | exact fz_mem _ | exact St.sub (by assumption)) (by omega) (fun _ _ _ _ => ?_) | refine at_elemS rfl (by assumption) (by first | assumption | exact Sub.refl _ | exact fz_mem _ | exact St.sub (by assumption)) (by omega) (fun _ => ?_) | refine at_elemV rfl (by assumption) (by infer_instance) (by first | assumption | exact Sub.refl _ | exact fz_mem _ | exact St.sub (by assumption)) (by omega) ?_ | refine at_eqlV rfl rfl (fun _ => ?_) (fun _ => ?_) | refine at_faddr rfl ?_ | refine at_nilc rfl ?_ | refine at_ld rfl (by assumption) rfl rfl ?_ | refine at_opsA ?_ | refine at_apart rfl ?_ | refine at_ap_ret ?_ | refine at_end ?_ | refine at_free rfl rfl ?_
    refine ⟨by simp, _, rfl, ?_⟩
    rw [h1] at hR; exact hR

/-- A copy of one's own. -/
theorem clone_runs {fn : FuncId} (hp : prog fn = some (.code clone)) {m : M} {a : List α} (ha : Sl K m va a) (hm : Sub m (mem h)) (hs : h.prot ≤ h.size) (la : a.length ≤ 1000000000)
    (hR : ∀ v h', Old h h' → Ow K m h.size h' v a → R v h') : Runs prog fn [va] h R := by
  obtain ⟨pa, ca, rfl⟩ := ha.form
  have hk := IsVal.one (K := K) (f := f)
  refine runs_here hp rfl ?_
  unfold clone
  repeat' first | refine at_seq ?_ | refine at_ops ?_ | refine at_nil ?_ | refine at_mv rfl ?_ | refine at_lenL rfl ?_ | refine at_guard_t rfl ?_ | refine at_guard_f rfl ?_ | refine at_guard_u rfl ?_ | (refine at_lss rfl rfl (fun _ => ?_) (fun _ => ?_) <;> try (exfalso; omega)) | (refine at_leq rfl rfl (fun _ => ?_) (fun _ => ?_) <;> try (exfalso; omega)) | (refine at_gtr rfl rfl (fun _ => ?_) (fun _ => ?_) <;> try (exfalso; omega)) | (refine at_geq rfl rfl (fun _ => ?_) (fun _ => ?_) <;> try (exfalso; omega)) | (refine at_eql rfl rfl (fun _ => ?_) (fun _ => ?_) <;> try (exfalso; omega)) | (refine at_neq rfl rfl (fun _ => ?_) (fun _ => ?_) <;> try (exfalso; omega)) | refine at_skip ?_ | refine at_true rfl ?_ | refine at_false rfl ?_ | refine at_block ?_ | refine at_blk ?_ | refine at_blk_exit ?_ | refine at_blk_ret ?_ | refine at_c_ret ?_ | refine at_o_ret ?_ | refine at_c_exit ?_ | refine at_blk_pass rfl ?_ | refine at_exit ?_ | refine at_ret ?_ | refine at_kp (by simp only [keep_cons, keep_nil, keepC_some, keepC_none, get_same, get_ne, get_nil, put_s, put_n, arg_cons, arg_nil, Nat.reduceBEq, Nat.reduceAdd] <;> rfl) ?_ | refine at_inc rfl (by omega) ?_ | refine at_add rfl rfl (by omega) ?_ | refine at_sub rfl rfl (by omega) ?_ | refine at_pick_t rfl rfl ?_ | refine at_pick_f rfl rfl ?_ | refine at_not rfl ?_ | refine at_conv64 rfl (by omega) ?_ | (refine at_max2 rfl rfl (fun _ => ?_) (fun _ => ?_) <;> try (exfalso; omega)) | (refine at_min2 rfl rfl (fun _ => ?_) (fun _ => ?_) <;> try (exfalso; omega)) | refine at_remN rfl rfl (by omega) (fun _ _ _ => ?_) | (refine at_iaddr rfl rfl (by assumption) (by omega) (fun _ _ hp => ?_); cases hp) | (refine at_iaddr_int rfl rfl (by assumption) (by omega) (fun _ _ hp => ?_); cases hp) | refine at_elemI rfl (by assumption) (by first | assumption | exact Sub.refl _ | exact fz_mem _ | exact St.sub (by assumption)) (by omega) (fun _ => ?_) | refine at_elemU8 rfl (by assumption) (by first | assumption | exact Sub.refl _ | exact fz_mem _ | exact St.sub (by assumption)) (by omega) (fun _ => ?_) | refine at_elemB rfl (by assumption) (by first | assumption | exact Sub.refl _ | exact fz_mem _ | exact St.sub (by assumption)) (by omega) (fun _ => ?_) (fun _ => ?_) | refine at_elemL rfl (by assumption) (by first | assumption | exact Sub.refl _ | exact fz_mem _ | exact St.sub (by assumption)) (by omega) (fun _ _ _ _ => ?_) | refine at_elemS rfl (by assumption) (by first | assumption | exact Sub.refl _ | exact fz_mem _ | exact St.sub (by assumption)) (by omega) (fun _ => ?_) | refine at_elemV rfl (by assumption) (by infer_instance) (by first | assumption | exact Sub.refl _ | exact fz_mem _ | exact St.sub (by assumption)) (by omega) ?_ | refine at_eqlV rfl rfl (fun _ => ?_) (fun _ => ?_) | refine at_faddr rfl ?_ | refine at_nilc rfl ?_ | refine at_ld rfl (by assumption) rfl rfl ?_ | refine at_opsA ?_ | refine at_apart rfl ?_ | refine at_ap_ret ?_ | refine at_end ?_ | refine at_free rfl rfl ?_
  refine at_nil_t rfl rfl (fun hq => ?_) (fun hq => ?_)
  · repeat' first | refine at_seq ?_ | refine at_ops ?_ | refine at_nil ?_ | refine at_mv rfl ?_ | refine at_lenL rfl ?_ | refine at_guard_t rfl ?_ | refine at_guard_f rfl ?_ | refine at_guard_u rfl ?_ | (refine at_lss rfl rfl (fun _ => ?_) (fun _ => ?_) <;> try (exfalso; omega)) | (refine at_leq rfl rfl (fun _ => ?_) (fun _ => ?_) <;> try (exfalso; omega)) | (refine at_gtr rfl rfl (fun _ => ?_) (fun _ => ?_) <;> try (exfalso; omega)) | (refine at_geq rfl rfl (fun _ => ?_) (fun _ => ?_) <;> try (exfalso; omega)) | (refine at_eql rfl rfl (fun _ => ?_) (fun _ => ?_) <;> try (exfalso; omega)) | (refine at_neq rfl rfl (fun _ => ?_) (fun _ => ?_) <;> try (exfalso; omega)) | refine at_skip ?_ | refine at_true rfl ?_ | refine at_false rfl ?_ | refine at_block ?_ | refine at_blk ?_ | refine at_blk_exit ?_ | refine at_blk_ret ?_ | refine at_c_ret ?_ | refine at_o_ret ?_ | refine at_c_exit ?_ | refine at_blk_pass rfl ?_ | refine at_exit ?_ | refine at_ret ?_ | refine at_kp (by simp only [keep_cons, keep_nil, keepC_some, keepC_none, get_same, get_ne, get_nil, put_s, put_n, arg_cons, arg_nil, Nat.reduceBEq, Nat.reduceAdd] <;> rfl) ?_ | refine at_inc rfl (by omega) ?_ | refine at_add rfl rfl (by omega) ?_ | refine at_sub rfl rfl (by omega) ?_ | refine at_pick_t rfl rfl ?_ | refine at_pick_f rfl rfl ?_ | refine at_not rfl ?_ | refine at_conv64 rfl (by omega) ?_ | (refine at_max2 rfl rfl (fun _ => ?_) (fun _ => ?_) <;> try (exfalso; omega)) | (refine at_min2 rfl rfl (fun _ => ?_) (fun _ => ?_) <;> try (exfalso; omega)) | refine at_remN rfl rfl (by omega) (fun _ _ _ => ?_) | (refine at_iaddr rfl rfl (by assumption) (by omega) (fun _ _ hp => ?_); cases hp) | (refine at_iaddr_int rfl rfl (by assumption) (by omega) (fun _ _ hp => ?_); cases hp) | refine at_elemI rfl (by assumption) (by first | assumption | exact Sub.refl _ | exact fz_mem _ | exact St.sub (by assumption)) (by omega) (fun _ => ?_) | refine at_elemU8 rfl (by assumption) (by first | assumption | exact Sub.refl _ | exact fz_mem _ | exact St.sub (by assumption)) (by omega) (fun _ => ?_) | refine at_elemB rfl (by assumption) (by first | assumption | exact Sub.refl _ | exact fz_mem _ | exact St.sub (by assumption)) (by omega) (fun _ => ?_) (fun _ => ?_) | refine at_elemL rfl (by assumption) (by first | assumption | exact Sub.refl _ | exact fz_mem _ | exact St.sub (by assumption)) (by omega) (fun _ _ _ _ => ?_) | refine at_elemS rfl (by assumption) (by first | assumption | exact Sub.refl _ | exact fz_mem _ | exact St.sub (by assumption)) (by omega) (fun _ => ?_) | refine at_elemV rfl (by assumption) (by infer_instance) (by first | assumption | exact Sub.refl _ | exact fz_mem _ | exact St.sub (by assumption)) (by omega) ?_ | refine at_eqlV rfl rfl (fun _ => ?_) (fun _ => ?_) | refine at_faddr rfl ?_ | refine at_nilc rfl ?_ | refine at_ld rfl (by assumption) rfl rfl ?_ | refine at_opsA ?_ | refine at_apart rfl ?_ | refine at_ap_ret ?_ | refine at_end ?_ | refine at_free rfl rfl ?_
    refine ⟨by simp, _, rfl, ?_⟩
    subst hq
    obtain ⟨rfl, _, _⟩ := ha.nil_inv
    exact hR _ _ (.refl _) .nil
  · repeat' first | refine at_seq ?_ | refine at_ops ?_ | refine at_nil ?_ | refine at_mv rfl ?_ | refine at_lenL rfl ?_ | refine at_guard_t rfl ?_ | refine at_guard_f rfl ?_ | refine at_guard_u rfl ?_ | (refine at_lss rfl rfl (fun _ => ?_) (fun _ => ?_) <;> try (exfalso; omega)) | (refine at_leq rfl rfl (fun _ => ?_) (fun _ => ?_) <;> try (exfalso; omega)) | (refine at_gtr rfl rfl (fun _ => ?_) (fun _ => ?_) <;> try (exfalso; omega)) | (refine at_geq rfl rfl (fun _ => ?_) (fun _ => ?_) <;> try (exfalso; omega)) | (refine at_eql rfl rfl (fun _ => ?_) (fun _ => ?_) <;> try (exfalso; omega)) | (refine at_neq rfl rfl (fun _ => ?_) (fun _ => ?_) <;> try (exfalso; omega)) | refine at_skip ?_ | refine at_true rfl ?_ | refine at_false rfl ?_ | refine at_block ?_ | refine at_blk ?_ | refine at_blk_exit ?_ | refine at_blk_ret ?_ | refine at_c_ret ?_ | refine at_o_ret ?_ | refine at_c_exit ?_ | refine at_blk_pass rfl ?_ | refine at_exit ?_ | refine at_ret ?_ | refine at_kp (by simp only [keep_cons, keep_nil, keepC_some, keepC_none, get_same, get_ne, get_nil, put_s, put_n, arg_cons, arg_nil, Nat.reduceBEq, Nat.reduceAdd] <;> rfl) ?_ | refine at_inc rfl (by omega) ?_ | refine at_add rfl rfl (by omega) ?_ | refine at_sub rfl rfl (by omega) ?_ | refine at_pick_t rfl rfl ?_ | refine at_pick_f rfl rfl ?_ | refine at_not rfl ?_ | refine at_conv64 rfl (by omega) ?_ | (refine at_max2 rfl rfl (fun _ => ?_) (fun _ => ?_) <;> try (exfalso; omega)) | (refine at_min2 rfl rfl (fun _ => ?_) (fun _ => ?_) <;> try (exfalso; omega)) | refine at_remN rfl rfl (by omega) (fun _ _ _ => ?_) | (refine at_iaddr rfl rfl (by assumption) (by omega) (fun _ _ hp => ?_); cases hp) | (refine at_iaddr_int rfl rfl (by assumption) (by omega) (fun _ _ hp => ?_); cases hp) | refine at_elemI rfl (by assumption) (by first | assumption | exact Sub.refl _ | exact fz_mem _ | exact St.sub (by assumption)) (by omega) (fun _ => ?_) | refine at_elemU8 rfl (by assumption) (by first | assumption | exact Sub.refl _ | exact fz_mem _ | exact St.sub (by assumption)) (by omega) (fun _ => ?_) | refine at_elemB rfl (by assumption) (by first | assumption | exact Sub.refl _ | exact fz_mem _ | exact St.sub (by assumption)) (by omega) (fun _ => ?_) (fun _ => ?_) | refine at_elemL rfl (by assumption) (by first | assumption | exact Sub.refl _ | exact fz_mem _ | exact St.sub (by assumption)) (by omega) (fun _ _ _ _ => ?_) | refine at_elemS rfl (by assumption) (by first | assumption | exact Sub.refl _ | exact fz_mem _ | exact St.sub (by assumption)) (by omega) (fun _ => ?_) | refine at_elemV rfl (by assumption) (by infer_instance) (by first | assumption | exact Sub.refl _ | exact fz_mem _ | exact St.sub (by assumption)) (by omega) ?_ | refine at_eqlV rfl rfl (fun _ => ?_) (fun _ => ?_) | refine at_faddr rfl ?_ | refine at_nilc rfl ?_ | refine at_ld rfl (by assumption) rfl rfl ?_ | refine at_opsA ?_ | refine at_apart rfl ?_ | refine at_ap_ret ?_ | refine at_end ?_ | refine at_free rfl rfl ?_
    refine at_bslice (K := K) (m := m) (l := []) rfl rfl hk rfl rfl (fun h1 o1 s1 w1 p1 => ?_) hs
    repeat' first | refine at_seq ?_ | refine at_ops ?_ | refine at_nil ?_ | refine at_mv rfl ?_ | refine at_lenL rfl ?_ | refine at_guard_t rfl ?_ | refine at_guard_f rfl ?_ | refine at_guard_u rfl ?_ | (refine at_lss rfl rfl (fun _ => ?_) (fun _ => ?_) <;> try (exfalso; omega)) | (refine at_leq rfl rfl (fun _ => ?_) (fun _ => ?_) <;> try (exfalso; omega)) | (refine at_gtr rfl rfl (fun _ => ?_) (fun _ => ?_) <;> try (exfalso; omega)) | (refine at_geq rfl rfl (fun _ => ?_) (fun _ => ?_) <;> try (exfalso; omega)) | (refine at_eql rfl rfl (fun _ => ?_) (fun _ => ?_) <;> try (exfalso; omega)) | (refine at_neq rfl rfl (fun _ => ?_) (fun _ => ?_) <;> try (exfalso; omega)) | refine at_skip ?_ | refine at_true rfl ?_ | refine at_false rfl ?_ | refine at_block ?_ | refine at_blk ?_ | refine at_blk_exit ?_ | refine at_blk_ret ?_ | refine at_c_ret ?_ | refine at_o_ret ?_ | refine at_c_exit ?_ | refine at_blk_pass rfl ?_ | refine at_exit ?_ | refine at_ret ?_ | refine at_kp (by simp only [keep_cons, keep_nil, keepC_some, keepC_none, get_same, get_ne, get_nil, put_s, put_n, arg_cons, arg_nil, Nat.reduceBEq, Nat.reduceAdd] <;> rfl) ?_ | refine at_inc rfl (by omega) ?_ | refine at_add rfl rfl (by omega) ?_ | refine at_sub rfl rfl (by omega) ?_ | refine at_pick_t rfl rfl ?_ | refine at_pick_f rfl rfl ?_ | refine at_not rfl ?_ | refine at_conv64 rfl (by omega) ?_ | (refine at_max2 rfl rfl (fun _ => ?_) (fun _ => ?_) <;> try (exfalso; omega)) | (refine at_min2 rfl rfl (fun _ => ?_) (fun _ => ?_) <;> try (exfalso; omega)) | refine at_remN rfl rfl (by omega) (fun _ _ _ => ?_) | (refine at_iaddr rfl rfl (by assumption) (by omega) (fun _ _ hp => ?_); cases hp) | (refine at_iaddr_int rfl rfl (by assumption) (by omega) (fun _ _ hp => ?_); cases hp) | refine at_elemI rfl (by assumption) (by first | assumption | exact Sub.refl _ | exact fz_mem _ | exact St.sub (by assumption)) (by omega) (fun _ => ?_) | refine at_elemU8 rfl (by assumption) (by first | assumption | exact Sub.refl _ | exact fz_mem _ | exact St.sub (by assumption)) (by omega) (fun _ => ?_) | refine at_elemB rfl (by assumption) (by first | assumption | exact Sub.refl _ | exact fz_mem _ | exact St.sub (by assumption)) (by omega) (fun _ => ?_) (fun _ => ?_) | refine at_elemL rfl (by assumption) (by first | assumption | exact Sub.refl _ | exact fz_mem _ | exact St.sub (by assumption)) (by omega) (fun _ _ _ _ => ?_) | refine at_elemS rfl (by assumption) (by first | assumption | exact Sub.refl _ | exact fz_mem _ | exact St.sub (by assumption)) (by omega) (fun _ => ?_) | refine at_elemV rfl (by assumption) (by infer_instance) (by first | assumption | exact Sub.refl _ | exact fz_mem _ | exact St.sub (by assumption)) (by omega) ?_ | refine at_eqlV rfl rfl (fun _ => ?_) (fun _ => ?_) | refine at_faddr rfl ?_ | refine at_nilc rfl ?_ | refine at_ld rfl (by assumption) rfl rfl ?_ | refine at_opsA ?_ | refine at_apart rfl ?_ | refine at_ap_ret ?_ | refine at_end ?_ | refine at_free rfl rfl ?_
    refine at_append (K := K) (m := m) rfl rfl rfl w1 ha (hm.trans o1.sub) hk ⟨by simp; omega, by simp; omega⟩ ⟨o1.size, by rw [s1]; omega⟩ (fun v2 h2 A => ?_)
    repeat' first | refine at_seq ?_ | refine at_ops ?_ | refine at_nil ?_ | refine at_mv rfl ?_ | refine at_lenL rfl ?_ | refine at_guard_t rfl ?_ | refine at_guard_f rfl ?_ | refine at_guard_u rfl ?_ | (refine at_lss rfl rfl (fun _ => ?_) (fun _ => ?_) <;> try (exfalso; omega)) | (refine at_leq rfl rfl (fun _ => ?_) (fun _ => ?_) <;> try (exfalso; omega)) | (refine at_gtr rfl rfl (fun _ => ?_) (fun _ => ?_) <;> try (exfalso; omega)) | (refine at_geq rfl rfl (fun _ => ?_) (fun _ => ?_) <;> try (exfalso; omega)) | (refine at_eql rfl rfl (fun _ => ?_) (fun _ => ?_) <;> try (exfalso; omega)) | (refine at_neq rfl rfl (fun _ => ?_) (fun _ => ?_) <;> try (exfalso; omega)) | refine at_skip ?_ | refine at_true rfl ?_ | refine at_false rfl ?_ | refine at_block ?_ | refine at_blk ?_ | refine at_blk_exit ?_ | refine at_blk_ret ?_ | refine at_c_ret ?_ | refine at_o_ret ?_ | refine at_c_exit ?_ | refine at_blk_pass rfl ?_ | refine at_exit ?_ | refine at_ret ?_ | refine at_kp (by simp only [keep_cons, keep_nil, keepC_some, keepC_none, get_same, get_ne, get_nil, put_s, put_n, arg_cons, arg_nil, Nat.reduceBEq, Nat.reduceAdd] <;> rfl) ?_ | refine at_inc rfl (by omega) ?_ | refine at_add rfl rfl (by omega) ?_ | refine at_sub rfl rfl (by omega) ?_ | refine at_pick_t rfl rfl ?_ | refine at_pick_f rfl rfl ?_ | refine at_not rfl ?_ | refine at_conv64 rfl (by omega) ?_ | (refine at_max2 rfl rfl (fun _ => ?_) (fun _ => ?_) <;> try (exfalso; omega)) | (refine at_min2 rfl rfl (fun _ => ?_) (fun _ => ?_) <;> try (exfalso; omega)) | refine at_remN rfl rfl (by omega) (fun _ _ _ => ?_) | (refine at_iaddr rfl rfl (by assumption) (by omega) (fun _ _ hp => ?_); cases hp) | (refine at_iaddr_int rfl rfl (by assumption) (by omega) (fun _ _ hp => ?_); cases hp) | refine at_elemI rfl (by assumption) (by first | assumption | exact Sub.refl _ | exact fz_mem _ | exact St.sub (by assumption)) (by omega) (fun _ => ?_) | refine at_elemU8 rfl (by assumption) (by first | assumption | exact Sub.refl _ | exact fz_mem _ | exact St.sub (by assumption)) (by omega) (fun _ => ?_) | refine at_elemB rfl (by assumption) (by first | assumption | exact Sub.refl _ | exact fz_mem _ | exact St.sub (by assumption)) (by omega) (fun _ => ?_) (fun _ => ?_) | refine at_elemL rfl (by assumption) (by first | assumption | exact Sub.refl _ | exact fz_mem _ | exact St.sub (by assumption)) (by omega) (fun _ _ _ _ => ?_) | refine at_elemS rfl (by assumption) (by first | assumption | exact Sub.refl _ | exact fz_mem _ | exact St.sub (by assumption)) (by omega) (fun _ => ?_) | refine at_elemV rfl (by assumption) (by infer_instance) (by first | assumption | exact Sub.refl _ | exact fz_mem _ | exact St.sub (by assumption)) (by omega) ?_ | refine at_eqlV rfl rfl (fun _ => ?_) (fun _ => ?_) | refine at_faddr rfl ?_ | refine at_nilc rfl ?_ | refine at_ld rfl (by assumption) rfl rfl ?_ | refine at_opsA ?_ | refine at_apart rfl ?_ | refine at_ap_ret ?_ | refine at_end ?_ | refine at_free rfl rfl ?_
    refine ⟨by simp, _, rfl, ?_⟩
    refine hR _ _ ⟨Nat.le_trans o1.size A.but.size, rfl, fun b hb => ?_⟩ (Ow.keep (h := h2) (l := a) (Nat.le_refl _) (by show h.prot = h2.prot; rw [A.but.prot, o1.prot]) (fun _ _ _ => rfl) A.ow)
    show h2.get b = h.get b
    rw [A.but.get b (Nat.lt_of_lt_of_le hb o1.size) (fun hbb => by have := w1.blk_ge hbb; omega), o1.get b hb]

/-- What a copy does. -/
def CloneOk (K : Kind α) (prog : AProg) (fn : FuncId) : Prop := ∀ {h : Heap} {m : M} {a : List α} {va : Value} {R : Value → Heap → Prop}, Sl K m va a → Sub m (mem h) → h.prot ≤ h.size → a.length ≤ 1000000000 → (∀ v h', Old h h' → Ow K m h.size h' v a → R v h') → Runs prog fn [va] h R
theorem clone_ok {fn : FuncId} (hp : prog fn = some (.code clone)) : CloneOk K prog fn := fun ha hm hs la hR => clone_runs (f := f) hp ha hm hs la hR

def apartV : Option Nat → Value
  | some j => .tuple #[.int .i64 j, .bool true]
  | none => .tuple #[.int .i64 0, .bool false]

theorem apart_runs {fn ff fi fc : FuncId} (hp : prog fn = some (.code (apart ff))) (hf : prog ff = some (.code (fit fi))) (hi : prog fi = some (.code (isP fc))) (hc : prog fc = some (.code common)) {l : List (List α)} (ha : Sl (kSl K) (mem h) va l) {k : Nat} (hk : k < l.length) (ll : l.length ≤ 9223372036854775807)
    (hR : R (apartV (apartL l[k] (l.drop (k + 1)) (k + 1))) h) : Runs prog fn [va, .int .i64 k] h R := by
  obtain ⟨pa, ca, rfl⟩ := ha.form
  refine runs_here hp rfl ?_
  unfold apart
  repeat' first | refine at_seq ?_ | refine at_ops ?_ | refine at_nil ?_ | refine at_mv rfl ?_ | refine at_lenL rfl ?_ | refine at_guard_t rfl ?_ | refine at_guard_f rfl ?_ | refine at_guard_u rfl ?_ | (refine at_lss rfl rfl (fun _ => ?_) (fun _ => ?_) <;> try (exfalso; omega)) | (refine at_leq rfl rfl (fun _ => ?_) (fun _ => ?_) <;> try (exfalso; omega)) | (refine at_gtr rfl rfl (fun _ => ?_) (fun _ => ?_) <;> try (exfalso; omega)) | (refine at_geq rfl rfl (fun _ => ?_) (fun _ => ?_) <;> try (exfalso; omega)) | (refine at_eql rfl rfl (fun _ => ?_) (fun _ => ?_) <;> try (exfalso; omega)) | (refine at_neq rfl rfl (fun _ => ?_) (fun _ => ?_) <;> try (exfalso; omega)) | refine at_skip ?_ | refine at_true rfl ?_ | refine at_false rfl ?_ | refine at_block ?_ | refine at_blk ?_ | refine at_blk_exit ?_ | refine at_blk_ret ?_ | refine at_c_ret ?_ | refine at_o_ret ?_ | refine at_c_exit ?_ | refine at_blk_pass rfl ?_ | refine at_exit ?_ | refine at_ret ?_ | refine at_kp (by simp only [keep_cons, keep_nil, keepC_some, keepC_none, get_same, get_ne, get_nil, put_s, put_n, arg_cons, arg_nil, Nat.reduceBEq, Nat.reduceAdd] <;> rfl) ?_ | refine at_inc rfl (by omega) ?_ | refine at_add rfl rfl (by omega) ?_ | refine at_sub rfl rfl (by omega) ?_ | refine at_pick_t rfl rfl ?_ | refine at_pick_f rfl rfl ?_ | refine at_not rfl ?_ | refine at_conv64 rfl (by omega) ?_ | (refine at_max2 rfl rfl (fun _ => ?_) (fun _ => ?_) <;> try (exfalso; omega)) | (refine at_min2 rfl rfl (fun _ => ?_) (fun _ => ?_) <;> try (exfalso; omega)) | refine at_remN rfl rfl (by omega) (fun _ _ _ => ?_) | (refine at_iaddr rfl rfl (by assumption) (by omega) (fun _ _ hp => ?_); cases hp) | (refine at_iaddr_int rfl rfl (by assumption) (by omega) (fun _ _ hp => ?_); cases hp) | refine at_elemI rfl (by assumption) (by first | assumption | exact Sub.refl _ | exact fz_mem _ | exact St.sub (by assumption)) (by omega) (fun _ => ?_) | refine at_elemU8 rfl (by assumption) (by first | assumption | exact Sub.refl _ | exact fz_mem _ | exact St.sub (by assumption)) (by omega) (fun _ => ?_) | refine at_elemB rfl (by assumption) (by first | assumption | exact Sub.refl _ | exact fz_mem _ | exact St.sub (by assumption)) (by omega) (fun _ => ?_) (fun _ => ?_) | refine at_elemL rfl (by assumption) (by first | assumption | exact Sub.refl _ | exact fz_mem _ | exact St.sub (by assumption)) (by omega) (fun _ _ _ _ => ?_) | refine at_elemS rfl (by assumption) (by first | assumption | exact Sub.refl _ | exact fz_mem _ | exact St.sub (by assumption)) (by omega) (fun _ => ?_) | refine at_elemV rfl (by assumption) (by infer_instance) (by first | assumption | exact Sub.refl _ | exact fz_mem _ | exact St.sub (by assumption)) (by omega) ?_ | refine at_eqlV rfl rfl (fun _ => ?_) (fun _ => ?_) | refine at_faddr rfl ?_ | refine at_nilc rfl ?_ | refine at_ld rfl (by assumption) rfl rfl ?_ | refine at_opsA ?_ | refine at_apart rfl ?_ | refine at_ap_ret ?_ | refine at_end ?_ | refine at_free rfl rfl ?_
  refine at_loop2 (fun m e h' => h' = h ∧ ∃ n : Nat, n ≤ l.length ∧ m = l.length - n ∧ e = [(0, .slice pa l.length ca), (1, .int .i64 k), (6, .int .i64 n)] ∧ apartL l[k] (l.drop (k + 1)) (k + 1) = apartL l[k] (l.drop n) n)
    (fun x e h' => h' = h ∧ (x = .exit 0 ∧ apartL l[k] (l.drop (k + 1)) (k + 1) = none ∨ x = .ret ∧ ∃ j : Nat, apartL l[k] (l.drop (k + 1)) (k + 1) = some j ∧ Env.get e 4 = some (.int .i64 j) ∧ Env.get e 5 = some (.bool true))) ⟨rfl, k + 1, by omega, rfl, rfl, rfl⟩ ?_ ?_
  · rintro m e h' _ ⟨rfl, n, hn, rfl, rfl, hI⟩
    repeat' first | refine at_seq ?_ | refine at_ops ?_ | refine at_nil ?_ | refine at_mv rfl ?_ | refine at_lenL rfl ?_ | refine at_guard_t rfl ?_ | refine at_guard_f rfl ?_ | refine at_guard_u rfl ?_ | (refine at_lss rfl rfl (fun _ => ?_) (fun _ => ?_) <;> try (exfalso; omega)) | (refine at_leq rfl rfl (fun _ => ?_) (fun _ => ?_) <;> try (exfalso; omega)) | (refine at_gtr rfl rfl (fun _ => ?_) (fun _ => ?_) <;> try (exfalso; omega)) | (refine at_geq rfl rfl (fun _ => ?_) (fun _ => ?_) <;> try (exfalso; omega)) | (refine at_eql rfl rfl (fun _ => ?_) (fun _ => ?_) <;> try (exfalso; omega)) | (refine at_neq rfl rfl (fun _ => ?_) (fun _ => ?_) <;> try (exfalso; omega)) | refine at_skip ?_ | refine at_true rfl ?_ | refine at_false rfl ?_ | refine at_block ?_ | refine at_blk ?_ | refine at_blk_exit ?_ | refine at_blk_ret ?_ | refine at_c_ret ?_ | refine at_o_ret ?_ | refine at_c_exit ?_ | refine at_blk_pass rfl ?_ | refine at_exit ?_ | refine at_ret ?_ | refine at_kp (by simp only [keep_cons, keep_nil, keepC_some, keepC_none, get_same, get_ne, get_nil, put_s, put_n, arg_cons, arg_nil, Nat.reduceBEq, Nat.reduceAdd] <;> rfl) ?_ | refine at_inc rfl (by omega) ?_ | refine at_add rfl rfl (by omega) ?_ | refine at_sub rfl rfl (by omega) ?_ | refine at_pick_t rfl rfl ?_ | refine at_pick_f rfl rfl ?_ | refine at_not rfl ?_ | refine at_conv64 rfl (by omega) ?_ | (refine at_max2 rfl rfl (fun _ => ?_) (fun _ => ?_) <;> try (exfalso; omega)) | (refine at_min2 rfl rfl (fun _ => ?_) (fun _ => ?_) <;> try (exfalso; omega)) | refine at_remN rfl rfl (by omega) (fun _ _ _ => ?_) | (refine at_iaddr rfl rfl (by assumption) (by omega) (fun _ _ hp => ?_); cases hp) | (refine at_iaddr_int rfl rfl (by assumption) (by omega) (fun _ _ hp => ?_); cases hp) | refine at_elemI rfl (by assumption) (by first | assumption | exact Sub.refl _ | exact fz_mem _ | exact St.sub (by assumption)) (by omega) (fun _ => ?_) | refine at_elemU8 rfl (by assumption) (by first | assumption | exact Sub.refl _ | exact fz_mem _ | exact St.sub (by assumption)) (by omega) (fun _ => ?_) | refine at_elemB rfl (by assumption) (by first | assumption | exact Sub.refl _ | exact fz_mem _ | exact St.sub (by assumption)) (by omega) (fun _ => ?_) (fun _ => ?_) | refine at_elemL rfl (by assumption) (by first | assumption | exact Sub.refl _ | exact fz_mem _ | exact St.sub (by assumption)) (by omega) (fun _ _ _ _ => ?_) | refine at_elemS rfl (by assumption) (by first | assumption | exact Sub.refl _ | exact fz_mem _ | exact St.sub (by assumption)) (by omega) (fun _ => ?_) | refine at_elemV rfl (by assumption) (by infer_instance) (by first | assumption | exact Sub.refl _ | exact fz_mem _ | exact St.sub (by assumption)) (by omega) ?_ | refine at_eqlV rfl rfl (fun _ => ?_) (fun _ => ?_) | refine at_faddr rfl ?_ | refine at_nilc rfl ?_ | refine at_ld rfl (by assumption) rfl rfl ?_ | refine at_opsA ?_ | refine at_apart rfl ?_ | refine at_ap_ret ?_ | refine at_end ?_ | refine at_free rfl rfl ?_
    · refine at_cl rfl rfl rfl rfl (fit_runs (K := K) (f := f) hf hi hc (by assumption) (by assumption) (by have := maxLen_lt; omega) (by have := maxLen_lt; omega) (fun _ _ => ?_))
      have hn2 : n < l.length := by omega
      have e1 : apartL l[k] (l.drop n) n = if fitL l[k] l[n] = true then apartL l[k] (l.drop (n + 1)) (n + 1) else some n := by rw [List.drop_eq_getElem_cons hn2]; rfl
      cases hq : fitL l[k] l[n] with
      | true =>
        repeat' first | refine at_seq ?_ | refine at_ops ?_ | refine at_nil ?_ | refine at_mv rfl ?_ | refine at_lenL rfl ?_ | refine at_guard_t rfl ?_ | refine at_guard_f rfl ?_ | refine at_guard_u rfl ?_ | (refine at_lss rfl rfl (fun _ => ?_) (fun _ => ?_) <;> try (exfalso; omega)) | (refine at_leq rfl rfl (fun _ => ?_) (fun _ => ?_) <;> try (exfalso; omega)) | (refine at_gtr rfl rfl (fun _ => ?_) (fun _ => ?_) <;> try (exfalso; omega)) | (refine at_geq rfl rfl (fun _ => ?_) (fun _ => ?_) <;> try (exfalso; omega)) | (refine at_eql rfl rfl (fun _ => ?_) (fun _ => ?_) <;> try (exfalso; omega)) | (refine at_neq rfl rfl (fun _ => ?_) (fun _ => ?_) <;> try (exfalso; omega)) | refine at_skip ?_ | refine at_true rfl ?_ | refine at_false rfl ?_ | refine at_block ?_ | refine at_blk ?_ | refine at_blk_exit ?_ | refine at_blk_ret ?_ | refine at_c_ret ?_ | refine at_o_ret ?_ | refine at_c_exit ?_ | refine at_blk_pass rfl ?_ | refine at_exit ?_ | refine at_ret ?_ | refine at_kp (by simp only [keep_cons, keep_nil, keepC_some, keepC_none, get_same, get_ne, get_nil, put_s, put_n, arg_cons, arg_nil, Nat.reduceBEq, Nat.reduceAdd] <;> rfl) ?_ | refine at_inc rfl (by omega) ?_ | refine at_add rfl rfl (by omega) ?_ | refine at_sub rfl rfl (by omega) ?_ | refine at_pick_t rfl rfl ?_ | refine at_pick_f rfl rfl ?_ | refine at_not rfl ?_ | refine at_conv64 rfl (by omega) ?_ | (refine at_max2 rfl rfl (fun _ => ?_) (fun _ => ?_) <;> try (exfalso; omega)) | (refine at_min2 rfl rfl (fun _ => ?_) (fun _ => ?_) <;> try (exfalso; omega)) | refine at_remN rfl rfl (by omega) (fun _ _ _ => ?_) | (refine at_iaddr rfl rfl (by assumption) (by omega) (fun _ _ hp => ?_); cases hp) | (refine at_iaddr_int rfl rfl (by assumption) (by omega) (fun _ _ hp => ?_); cases hp) | refine at_elemI rfl (by assumption) (by first | assumption | exact Sub.refl _ | exact fz_mem _ | exact St.sub (by assumption)) (by omega) (fun _ => ?_) | refine at_elemU8 rfl (by assumption) (by first | assumption | exact Sub.refl _ | exact fz_mem _ | exact St.sub (by assumption)) (by omega) (fun _ => ?_) | refine at_elemB rfl (by assumption) (by first | assumption | exact Sub.refl _ | exact fz_mem _ | exact St.sub (by assumption)) (by omega) (fun _ => ?_) (fun _ => ?_) | refine at_elemL rfl (by assumption) (by first | assumption | exact Sub.refl _ | exact fz_mem _ | exact St.sub (by assumption)) (by omega) (fun _ _ _ _ => ?_) | refine at_elemS rfl (by assumption) (by first | assumption | exact Sub.refl _ | exact fz_mem _ | exact St.sub (by assumption)) (by omega) (fun _ => ?_) | refine at_elemV rfl (by assumption) (by infer_instance) (by first | assumption | exact Sub.refl _ | exact fz_mem _ | exact St.sub (by assumption)) (by omega) ?_ | refine at_eqlV rfl rfl (fun _ => ?_) (fun _ => ?_) | refine at_faddr rfl ?_ | refine at_nilc rfl ?_ | refine at_ld rfl (by assumption) rfl rfl ?_ | refine at_opsA ?_ | refine at_apart rfl ?_ | refine at_ap_ret ?_ | refine at_end ?_ | refine at_free rfl rfl ?_
        exact ⟨_, by omega, rfl, n + 1, by omega, rfl, rfl, by rw [hI, e1, if_pos hq]⟩
      | false =>
        repeat' first | refine at_seq ?_ | refine at_ops ?_ | refine at_nil ?_ | refine at_mv rfl ?_ | refine at_lenL rfl ?_ | refine at_guard_t rfl ?_ | refine at_guard_f rfl ?_ | refine at_guard_u rfl ?_ | (refine at_lss rfl rfl (fun _ => ?_) (fun _ => ?_) <;> try (exfalso; omega)) | (refine at_leq rfl rfl (fun _ => ?_) (fun _ => ?_) <;> try (exfalso; omega)) | (refine at_gtr rfl rfl (fun _ => ?_) (fun _ => ?_) <;> try (exfalso; omega)) | (refine at_geq rfl rfl (fun _ => ?_) (fun _ => ?_) <;> try (exfalso; omega)) | (refine at_eql rfl rfl (fun _ => ?_) (fun _ => ?_) <;> try (exfalso; omega)) | (refine at_neq rfl rfl (fun _ => ?_) (fun _ => ?_) <;> try (exfalso; omega)) | refine at_skip ?_ | refine at_true rfl ?_ | refine at_false rfl ?_ | refine at_block ?_ | refine at_blk ?_ | refine at_blk_exit ?_ | refine at_blk_ret ?_ | refine at_c_ret ?_ | refine at_o_ret ?_ | refine at_c_exit ?_ | refine at_blk_pass rfl ?_ | refine at_exit ?_ | refine at_ret ?_ | refine at_kp (by simp only [keep_cons, keep_nil, keepC_some, keepC_none, get_same, get_ne, get_nil, put_s, put_n, arg_cons, arg_nil, Nat.reduceBEq, Nat.reduceAdd] <;> rfl) ?_ | refine at_inc rfl (by omega) ?_ | refine at_add rfl rfl (by omega) ?_ | refine at_sub rfl rfl (by omega) ?_ | refine at_pick_t rfl rfl ?_ | refine at_pick_f rfl rfl ?_ | refine at_not rfl ?_ | refine at_conv64 rfl (by omega) ?_ | (refine at_max2 rfl rfl (fun _ => ?_) (fun _ => ?_) <;> try (exfalso; omega)) | (refine at_min2 rfl rfl (fun _ => ?_) (fun _ => ?_) <;> try (exfalso; omega)) | refine at_remN rfl rfl (by omega) (fun _ _ _ => ?_) | (refine at_iaddr rfl rfl (by assumption) (by omega) (fun _ _ hp => ?_); cases hp) | (refine at_iaddr_int rfl rfl (by assumption) (by omega) (fun _ _ hp => ?_); cases hp) | refine at_elemI rfl (by assumption) (by first | assumption | exact Sub.refl _ | exact fz_mem _ | exact St.sub (by assumption)) (by omega) (fun _ => ?_) | refine at_elemU8 rfl (by assumption) (by first | assumption | exact Sub.refl _ | exact fz_mem _ | exact St.sub (by assumption)) (by omega) (fun _ => ?_) | refine at_elemB rfl (by assumption) (by first | assumption | exact Sub.refl _ | exact fz_mem _ | exact St.sub (by assumption)) (by omega) (fun _ => ?_) (fun _ => ?_) | refine at_elemL rfl (by assumption) (by first | assumption | exact Sub.refl _ | exact fz_mem _ | exact St.sub (by assumption)) (by omega) (fun _ _ _ _ => ?_) | refine at_elemS rfl (by assumption) (by first | assumption | exact Sub.refl _ | exact fz_mem _ | exact St.sub (by assumption)) (by omega) (fun _ => ?_) | refine at_elemV rfl (by assumption) (by infer_instance) (by first | assumption | exact Sub.refl _ | exact fz_mem _ | exact St.sub (by assumption)) (by omega) ?_ | refine at_eqlV rfl rfl (fun _ => ?_) (fun _ => ?_) | refine at_faddr rfl ?_ | refine at_nilc rfl ?_ | refine at_ld rfl (by assumption) rfl rfl ?_ | refine at_opsA ?_ | refine at_apart rfl ?_ | refine at_ap_ret ?_ | refine at_end ?_ | refine at_free rfl rfl ?_
        exact ⟨rfl, .inr ⟨rfl, n, by rw [hI, e1, hq]; rfl, rfl, rfl⟩⟩
    · refine ⟨rfl, .inl ⟨rfl, ?_⟩⟩
      rw [hI, List.drop_eq_nil_of_le (by omega)]; rfl
  · rintro x e h' _ ⟨rfl, ⟨rfl, he⟩ | ⟨rfl, j, h1, h2, h3⟩⟩
    · repeat' first | refine at_seq ?_ | refine at_ops ?_ | refine at_nil ?_ | refine at_mv rfl ?_ | refine at_lenL rfl ?_ | refine at_guard_t rfl ?_ | refine at_guard_f rfl ?_ | refine at_guard_u rfl ?_ | (refine at_lss rfl rfl (fun _ => ?_) (fun _ => ?_) <;> try (exfalso; omega)) | (refine at_leq rfl rfl (fun _ => ?_) (fun _ => ?_) <;> try (exfalso; omega)) | (refine at_gtr rfl rfl (fun _ => ?_) (fun _ => ?_) <;> try (exfalso; omega)) | (refine at_geq rfl rfl (fun _ => ?_) (fun _ => ?_) <;> try (exfalso; omega)) | (refine at_eql rfl rfl (fun _ => ?_) (fun _ => ?_) <;> try (exfalso; omega)) | (refine at_neq rfl rfl (fun _ => ?_) (fun _ => ?_) <;> try (exfalso; omega)) | refine at_skip ?_ | refine at_true rfl ?_ | refine at_false rfl ?_ | refine at_block ?_ | refine at_blk ?_ | refine at_blk_exit ?_ | refine at_blk_ret ?_ | refine at_c_ret ?_ | refine at_o_ret ?_ | refine at_c_exit ?_ | refine at_blk_pass rfl ?_ | refine at_exit ?_ | refine at_ret ?_ | refine at_kp (by simp only [keep_cons, keep_nil, keepC_some, keepC_none, get_same, get_ne, get_nil, put_s, put_n, arg_cons, arg_nil, Nat.reduceBEq, Nat.reduceAdd] <;> rfl) ?_ | refine at_inc rfl (by omega) ?_ | refine at_add rfl rfl (by omega) ?_ | refine at_sub rfl rfl (by omega) ?_ | refine at_pick_t rfl rfl ?_ | refine at_pick_f rfl rfl ?_ | refine at_not rfl ?_ | refine at_conv64 rfl (by omega) ?_ | (refine at_max2 rfl rfl (fun _ => ?_) (fun _ => ?_) <;> try (exfalso; omega)) | (refine at_min2 rfl rfl (fun _ => ?_) (fun _ => ?_) <;> try (exfalso; omega)) | refine at_remN rfl rfl (by omega) (fun _ _ _ => ?_) | (refine at_iaddr rfl rfl (by assumption) (by omega) (fun _ _ hp => ?_); cases hp) | (refine at_iaddr_int rfl rfl (by assumption) (by omega) (fun _ _ hp => ?_); cases hp) | refine at_elemI rfl (by assumption) (by first | assumption | exact Sub.refl _ | exact fz_mem _ | exact St.sub (by assumption)) (by omega) (fun _ => ?_) | refine at_elemU8 rfl (by assumption) (by first | assumption | exact Sub.refl _ | exact fz_mem _ | exact St.sub (by assumption)) (by omega) (fun _ => ?_) | refine at_elemB rfl (by assumption) (by first | assumption | exact Sub.refl _ | exact fz_mem _ | exact St.sub (by assumption)) (by omega) (fun _ => ?_) (fun _ => ?_) | refine at_elemL rfl (by assumption) (by first | assumption | exact Sub.refl _ | exact fz_mem _ | exact St.sub (by assumption)) (by omega) (fun _ _ _ _ => ?_) | refine at_elemS rfl (by assumption) (by first | assumption | exact Sub.refl _ | exact fz_mem _ | exact St.sub (by assumption)) (by omega) (fun _ => ?_) | refine at_elemV rfl (by assumption) (by infer_instance) (by first | assumption | exact Sub.refl _ | exact fz_mem _ | exact St.sub (by assumption)) (by omega) ?_ | refine at_eqlV rfl rfl (fun _ => ?_) (fun _ => ?_) | refine at_faddr rfl ?_ | refine at_nilc rfl ?_ | refine at_ld rfl (by assumption) rfl rfl ?_ | refine at_opsA ?_ | refine at_apart rfl ?_ | refine at_ap_ret ?_ | refine at_end ?_ | refine at_free rfl rfl ?_
      refine ⟨by simp, _, rfl, ?_⟩
      rw [he] at hR; exact hR
    · repeat' first | refine at_seq ?_ | refine at_ops ?_ | refine at_nil ?_ | refine at_mv rfl ?_ | refine at_lenL rfl ?_ | refine at_guard_t rfl ?_ | refine at_guard_f rfl ?_ | refine at_guard_u rfl ?_ | (refine at_lss rfl rfl (fun _ => ?_) (fun _ => ?_) <;> try (exfalso; omega)) | (refine at_leq rfl rfl (fun _ => ?_) (fun _ => ?_) <;> try (exfalso; omega)) | (refine at_gtr rfl rfl (fun _ => ?_) (fun _ => ?_) <;> try (exfalso; omega)) | (refine at_geq rfl rfl (fun _ => ?_) (fun _ => ?_) <;> try (exfalso; omega)) | (refine at_eql rfl rfl (fun _ => ?_) (fun _ => ?_) <;> try (exfalso; omega)) | (refine at_neq rfl rfl (fun _ => ?_) (fun _ => ?_) <;> try (exfalso; omega)) | refine at_skip ?_ | refine at_true rfl ?_ | refine at_false rfl ?_ | refine at_block ?_ | refine at_blk ?_ | refine at_blk_exit ?_ | refine at_blk_ret ?_ | refine at_c_ret ?_ | refine at_o_ret ?_ | refine at_c_exit ?_ | refine at_blk_pass rfl ?_ | refine at_exit ?_ | refine at_ret ?_ | refine at_kp (by simp only [keep_cons, keep_nil, keepC_some, keepC_none, get_same, get_ne, get_nil, put_s, put_n, arg_cons, arg_nil, Nat.reduceBEq, Nat.reduceAdd] <;> rfl) ?_ | refine at_inc rfl (by omega) ?_ | refine at_add rfl rfl (by omega) ?_ | refine at_sub rfl rfl (by omega) ?_ | refine at_pick_t rfl rfl ?_ | refine at_pick_f rfl rfl ?_ | refine at_not rfl ?_ | refine at_conv64 rfl (by omega) ?_ | (refine at_max2 rfl rfl (fun _ => ?_) (fun _ => ?_) <;> try (exfalso; omega)) | (refine at_min2 rfl rfl (fun _ => ?_) (fun _ => ?_) <;> try (exfalso; omega)) | refine at_remN rfl rfl (by omega) (fun _ _ _ => ?_) | (refine at_iaddr rfl rfl (by assumption) (by omega) (fun _ _ hp => ?_); cases hp) | (refine at_iaddr_int rfl rfl (by assumption) (by omega) (fun _ _ hp => ?_); cases hp) | refine at_elemI rfl (by assumption) (by first | assumption | exact Sub.refl _ | exact fz_mem _ | exact St.sub (by assumption)) (by omega) (fun _ => ?_) | refine at_elemU8 rfl (by assumption) (by first | assumption | exact Sub.refl _ | exact fz_mem _ | exact St.sub (by assumption)) (by omega) (fun _ => ?_) | refine at_elemB rfl (by assumption) (by first | assumption | exact Sub.refl _ | exact fz_mem _ | exact St.sub (by assumption)) (by omega) (fun _ => ?_) (fun _ => ?_) | refine at_elemL rfl (by assumption) (by first | assumption | exact Sub.refl _ | exact fz_mem _ | exact St.sub (by assumption)) (by omega) (fun _ _ _ _ => ?_) | refine at_elemS rfl (by assumption) (by first | assumption | exact Sub.refl _ | exact fz_mem _ | exact St.sub (by assumption)) (by omega) (fun _ => ?_) | refine at_elemV rfl (by assumption) (by infer_instance) (by first | assumption | exact Sub.refl _ | exact fz_mem _ | exact St.sub (by assumption)) (by omega) ?_ | refine at_eqlV rfl rfl (fun _ => ?_) (fun _ => ?_) | refine at_faddr rfl ?_ | refine at_nilc rfl ?_ | refine at_ld rfl (by assumption) rfl rfl ?_ | refine at_opsA ?_ | refine at_apart rfl ?_ | refine at_ap_ret ?_ | refine at_end ?_ | refine at_free rfl rfl ?_
      refine ⟨by simp, [_, _], by simp only [resL, resV, h2, h3]; rfl, ?_⟩
      rw [h1] at hR; exact hR
end
end Go.AM.G.Pre
