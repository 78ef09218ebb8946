/- The library's sort and compaction of whole numbers; the package sorted. -/
import Derived.Test.YtialmffcjaechaaPre
import Derived.Test.YtialmffcjaechaaSetLaw
namespace Go.AM.G.Set
open Go.AM hiding Kt At WP WL Runs RunsY
set_option linter.unusedVariables false
set_option linter.unusedSimpArgs false
set_option linter.unusedSectionVars false

/-- slices.Compact[[]int,int] -/
def compact : AFn := ⟨1, [.tmp 2],
  (.seq
    (.ops false [
      ⟨(some 2), .mv (.const (.slice none 0 0)), none, false⟩])
  (.seq
    (.seq
      (.ops false [
        ⟨(some 6), .mv (.tmp 0), none, false⟩,
        ⟨(some 7), .len 1 (.tmp 6), none, false⟩,
        ⟨(some 8), .bin .lss (.tmp 7) (.const (.int .i64 2)), none, false⟩])
    (.cond (.tmp 8)
      (.seq
        (.ops false [
          ⟨(some 9), .mv (.tmp 0), none, false⟩,
          ⟨(some 2), .mv (.tmp 9), none, false⟩])
      .ret)
      .skip))
  (.seq
    (.seq
      (.ops false [
        ⟨(some 3), .mv (.const (.int .i64 1)), none, false⟩])
    (.seq (.keep [0, 3])
    (.block 0
      (.loop (.seq
        (.seq
          (.seq
            (.ops false [
              ⟨(some 10), .mv (.tmp 3), none, false⟩,
              ⟨(some 11), .mv (.tmp 0), none, false⟩,
              ⟨(some 12), .len 1 (.tmp 11), none, false⟩,
              ⟨(some 13), .bin .lss (.tmp 10) (.tmp 12), none, false⟩])
          (.cond (.tmp 13)
            .skip
            (.exit 0)))
        (.seq
          (.block 1
            (.seq
              (.ops true [
                ⟨(some 16), .mv (.tmp 0), none, false⟩,
                ⟨(some 17), .mv (.tmp 3), none, false⟩,
                ⟨(some 18), .iaddr 1 (.tmp 16) (.tmp 17), none, false⟩,
                ⟨(some 19), .load1 (.tmp 18), none, false⟩,
                ⟨(some 20), .mv (.tmp 0), none, false⟩,
                ⟨(some 21), .mv (.tmp 3), none, false⟩,
                ⟨(some 22), .bin .sub (.tmp 21) (.const (.int .i64 1)), none, false⟩,
                ⟨(some 23), .iaddr 1 (.tmp 20) (.tmp 22), none, false⟩,
                ⟨(some 24), .load1 (.tmp 23), none, false⟩,
                ⟨(some 25), .bin .eql (.tmp 19) (.tmp 24), none, true⟩])
            (.cond (.tmp 25)
              (.seq
                (.ops false [
                  ⟨(some 26), .mv (.tmp 0), none, false⟩,
                  ⟨(some 27), .mv (.tmp 3), none, false⟩,
                  ⟨(some 28), .slc 1 (.tmp 26) (some (.tmp 27)) none, none, false⟩,
                  ⟨(some 4), .mv (.tmp 28), none, false⟩])
              (.seq
                (.seq
                  (.ops false [
                    ⟨(some 5), .mv (.const (.int .i64 1)), none, false⟩])
                (.seq (.keep [0, 3, 4, 5])
                (.block 2
                  (.loop (.seq
                    (.seq
                      (.seq
                        (.ops false [
                          ⟨(some 29), .mv (.tmp 5), none, false⟩,
                          ⟨(some 30), .mv (.tmp 4), none, false⟩,
                          ⟨(some 31), .len 1 (.tmp 30), none, false⟩,
                          ⟨(some 32), .bin .lss (.tmp 29) (.tmp 31), none, false⟩])
                      (.cond (.tmp 32)
                        .skip
                        (.exit 2)))
                    (.seq
                      (.block 3
                        (.seq
                          (.ops true [
                            ⟨(some 35), .mv (.tmp 4), none, false⟩,
                            ⟨(some 36), .mv (.tmp 5), none, false⟩,
                            ⟨(some 37), .iaddr 1 (.tmp 35) (.tmp 36), none, false⟩,
                            ⟨(some 38), .load1 (.tmp 37), none, false⟩,
                            ⟨(some 39), .mv (.tmp 4), none, false⟩,
                            ⟨(some 40), .mv (.tmp 5), none, false⟩,
                            ⟨(some 41), .bin .sub (.tmp 40) (.const (.int .i64 1)), none, false⟩,
                            ⟨(some 42), .iaddr 1 (.tmp 39) (.tmp 41), none, false⟩,
                            ⟨(some 43), .load1 (.tmp 42), none, false⟩,
                            ⟨(some 44), .bin .neq (.tmp 38) (.tmp 43), none, true⟩])
                        (.cond (.tmp 44)
                          (.seq
                            (.ops false [
                              ⟨(some 45), .mv (.tmp 0), none, false⟩,
                              ⟨(some 46), .mv (.tmp 3), none, false⟩,
                              ⟨(some 47), .mv (.tmp 4), none, false⟩,
                              ⟨(some 48), .mv (.tmp 5), none, false⟩,
                              ⟨(some 49), .iaddr 1 (.tmp 47) (.tmp 48), none, false⟩,
                              ⟨(some 50), .load1 (.tmp 49), none, false⟩,
                              ⟨(some 51), .iaddr 1 (.tmp 45) (.tmp 46), none, false⟩,
                              ⟨none, .store 1 (.tmp 51) (.tmp 50), none, false⟩])
                          (.ops false [
                            ⟨(some 52), .mv (.tmp 3), none, false⟩,
                            ⟨(some 53), .bin .add (.tmp 52) (.const (.int .i64 1)), none, false⟩,
                            ⟨(some 3), .mv (.tmp 53), none, false⟩]))
                          .skip)))
                    (.ops false [
                      ⟨(some 33), .mv (.tmp 5), none, false⟩,
                      ⟨(some 34), .bin .add (.tmp 33) (.const (.int .i64 1)), none, false⟩,
                      ⟨(some 5), .mv (.tmp 34), none, false⟩])))
                    (.keep [0, 3, 4, 5]))))))
              (.seq (.keep [0, 3])
              (.seq
                (.ops false [
                  ⟨(some 54), .mv (.tmp 0), none, false⟩,
                  ⟨(some 55), .mv (.tmp 3), none, false⟩,
                  ⟨(some 56), .slc 1 (.tmp 54) (some (.tmp 55)) none, none, false⟩,
                  ⟨none, .clear [(.int .i64 0)] (.tmp 56), none, false⟩])
              (.seq
                (.ops false [
                  ⟨(some 57), .mv (.tmp 0), none, false⟩,
                  ⟨(some 58), .mv (.tmp 3), none, false⟩,
                  ⟨(some 59), .slc 1 (.tmp 57) none (some (.tmp 58)), none, false⟩,
                  ⟨(some 2), .mv (.tmp 59), none, false⟩])
              .ret)))))
              .skip)))
        (.seq (.keep [0, 3])
        (.ops false [
          ⟨(some 14), .mv (.tmp 3), none, false⟩,
          ⟨(some 15), .bin .add (.tmp 14) (.const (.int .i64 1)), none, false⟩,
          ⟨(some 3), .mv (.tmp 15), none, false⟩]))))
        (.keep [0, 3]))))))
  (.seq (.keep [0])
  (.seq
    (.ops false [
      ⟨(some 60), .mv (.tmp 0), none, false⟩,
      ⟨(some 2), .mv (.tmp 60), none, false⟩])
  .ret)))))⟩
/-- coroner/sorted.Of[int] -/
def setOf (cloneN : Nat) (sortN : Nat) (compactN : Nat) : AFn := ⟨1, [.cellN 2 1],
  (.seq
    (.ops false [
      ⟨(some 2), .alloc [(.slice none 0 0)], none, false⟩])
  (.seq
    (.ops false [
      ⟨(some 4), .mv (.tmp 0), none, false⟩,
      ⟨(some 5), .call (.func cloneN) [(.tmp 4)], none, false⟩,
      ⟨(some 3), .mv (.tmp 5), none, false⟩])
  (.seq
    (.ops false [
      ⟨(some 6), .mv (.tmp 3), none, false⟩,
      ⟨(some 7), .call (.func sortN) [(.tmp 6)], none, false⟩])
  (.seq
    (.ops false [
      ⟨(some 8), .mv (.tmp 3), none, false⟩,
      ⟨(some 9), .call (.func compactN) [(.tmp 8)], none, false⟩,
      ⟨(some 10), .build [(.slice none 0 0)] [(0, (1, (.tmp 9)))], none, false⟩,
      ⟨none, .store 1 (.tmp 2) (.tmp 10), none, false⟩])
  .ret))))⟩
/-- (coroner/sorted.Set[int]).Len -/
def setLen : AFn := ⟨1, [.tmp 2],
  (.seq
    (.ops false [
      ⟨(some 1), .box (.tmp 0), none, false⟩,
      ⟨(some 2), .mv (.const (.int .i64 0)), none, false⟩])
  (.seq
    (.ops false [
      ⟨(some 3), .faddr 0 (.tmp 1), none, false⟩,
      ⟨(some 4), .load1 (.tmp 3), none, false⟩,
      ⟨(some 5), .len 1 (.tmp 4), none, false⟩,
      ⟨(some 2), .mv (.tmp 5), none, false⟩])
  .ret))⟩
/-- (coroner/sorted.Set[int]).List -/
def setList (cloneN : Nat) : AFn := ⟨1, [.tmp 2],
  (.seq
    (.ops false [
      ⟨(some 1), .box (.tmp 0), none, false⟩,
      ⟨(some 2), .mv (.const (.slice none 0 0)), none, false⟩])
  (.seq
    (.ops false [
      ⟨(some 3), .faddr 0 (.tmp 1), none, false⟩,
      ⟨(some 4), .load1 (.tmp 3), none, false⟩,
      ⟨(some 5), .call (.func cloneN) [(.tmp 4)], none, false⟩,
      ⟨(some 2), .mv (.tmp 5), none, false⟩])
  .ret))⟩

section
variable {prog : AProg} {h : Heap} {R : Value → Heap → Prop} {va vb v : Value} {m : M} {n : Nat}

theorem sort_runs {fn : FuncId} (hp : prog fn = some (.oracle sortO)) {l : List Int} (w : Ow (kInt .i64) m n h v l) (hl : l.length < 4611686018427387904)
    (hR : ∀ h', But (blk v) h h' → h'.size = h.size → Ow (kInt .i64) m n h' v (sortL l) → R (.tuple #[]) h') : Runs prog fn [v] h R := by
  have hsl : (sortL l).length = l.length := by unfold sortL; simp
  have stay : l = [] → (∀ H, sortO [v] H = some (.tuple #[], H)) → Runs prog fn [v] h R := by
    intro h0 hs
    refine runs_oracle hp hs (hR h ⟨Nat.le_refl _, rfl, fun _ _ _ => rfl⟩ rfl ?_)
    have : sortL l = l := by rw [h0]; simp [sortL]
    rw [this]; exact w
  rcases w with ⟨rfl, rfl⟩ | ⟨b, c, cs, rfl, h1, h2, h3, h4, h5⟩
  · exact stay rfl (fun _ => rfl)
  · by_cases h0 : l = []
    · subst h0; exact stay rfl (fun _ => rfl)
    · have hcs := cells_int_eq h5
      subst hcs
      have hn0 : ¬ l.length = 0 := by simpa using h0
      intro H hH
      obtain ⟨own', e1, e2⟩ := hH.cells h4
      have e3 : H.get b = some (.cells (l.map (.int .i64)) (some 1)) := by
        rcases e2 with rfl | e2
        · exact e1
        · cases e2
      have hsp : splice (l.map (Value.int .i64)) 0 ((sortL l).map (.int .i64)) = (sortL l).map (.int .i64) := by
        unfold splice
        simp only [List.take_zero, List.nil_append, List.length_map, hsl, Nat.zero_add]
        rw [List.drop_eq_nil_of_le (by simp), List.append_nil]
      refine ⟨1, .tuple #[], H.set b (.cells ((sortL l).map (.int .i64)) (some 1)), h.set b (.cells ((sortL l).map (.int .i64)) (some 1)), ?_, rfl, hH.set _ _, .set _ h3 (fun x hx => by rw [h4] at hx; cases hx), rfl, ?_⟩
      · simp only [callV, hp, sortO]
        rw [if_neg hn0]
        simp only [e3]
        rw [if_pos ⟨Nat.le_trans hH.prot h3, by simp, hl⟩]
        rw [List.drop_zero, show l.length = (l.map (Value.int .i64)).length by simp, List.take_length, intsOf_map]
        simp only [hsp]
      · refine hR _ ⟨Nat.le_refl _, rfl, fun x hx hne => ?_⟩ rfl (.inr ⟨b, c, _, by rw [hsl], h1, h2, h3, by rw [Heap.get_set, if_pos rfl]; rfl, ?_⟩)
        · rw [Heap.get_set, if_neg (show ¬ x = b from hne)]
        · refine cells_int fun x hx => ?_
          have hx' : x ∈ l := by unfold sortL at hx; rwa [List.mem_mergeSort] at hx
          obtain ⟨c, h⟩ := h5.mem x hx'
          exact h.2

attribute [local irreducible] At WP WL Runs
theorem compact_runs {fn : FuncId} (hp : prog fn = some (.code compact)) {l : List Int} (w : Ow (kInt .i64) m n h v l) (hl : l.length ≤ 1000000000)
    (hR : ∀ v' h', But (blk v) h h' → h'.size = h.size → OwP (kInt .i64) m n h' v' (compactL l) → R v' h') : Runs prog fn [v] h R := by
  have same : compactL l = l → R v h := fun e => hR v h ⟨Nat.le_refl _, rfl, fun _ _ _ => rfl⟩ rfl (by rw [e]; exact w.p)
  by_cases hlen : l.length < 2
  · obtain ⟨p, c, rfl⟩ := w.form
    refine runs_here hp rfl ?_
    unfold compact
    repeat' first | refine at_seq ?_ | refine at_ops ?_ | refine at_nil ?_ | refine at_mv rfl ?_ | refine at_lenL rfl ?_ | refine at_guard_t rfl ?_ | refine at_guard_f rfl ?_ | refine at_guard_u rfl ?_ | (refine at_lss rfl rfl (fun _ => ?_) (fun _ => ?_) <;> try (exfalso; omega)) | (refine at_leq rfl rfl (fun _ => ?_) (fun _ => ?_) <;> try (exfalso; omega)) | (refine at_gtr rfl rfl (fun _ => ?_) (fun _ => ?_) <;> try (exfalso; omega)) | (refine at_geq rfl rfl (fun _ => ?_) (fun _ => ?_) <;> try (exfalso; omega)) | (refine at_eql rfl rfl (fun _ => ?_) (fun _ => ?_) <;> try (exfalso; omega)) | (refine at_neq rfl rfl (fun _ => ?_) (fun _ => ?_) <;> try (exfalso; omega)) | refine at_skip ?_ | refine at_true rfl ?_ | refine at_false rfl ?_ | refine at_block ?_ | refine at_blk ?_ | refine at_blk_exit ?_ | refine at_blk_ret ?_ | refine at_c_ret ?_ | refine at_o_ret ?_ | refine at_c_exit ?_ | refine at_blk_pass rfl ?_ | refine at_exit ?_ | refine at_ret ?_ | refine at_kp (by simp only [keep_cons, keep_nil, keepC_some, keepC_none, get_same, get_ne, get_nil, put_s, put_n, arg_cons, arg_nil, Nat.reduceBEq, Nat.reduceAdd] <;> rfl) ?_ | refine at_inc rfl (by omega) ?_ | refine at_add rfl rfl (by omega) ?_ | refine at_sub rfl rfl (by omega) ?_ | refine at_pick_t rfl rfl ?_ | refine at_pick_f rfl rfl ?_ | refine at_not rfl ?_ | refine at_conv64 rfl (by omega) ?_ | (refine at_max2 rfl rfl (fun _ => ?_) (fun _ => ?_) <;> try (exfalso; omega)) | (refine at_min2 rfl rfl (fun _ => ?_) (fun _ => ?_) <;> try (exfalso; omega)) | refine at_remN rfl rfl (by omega) (fun _ _ _ => ?_) | (refine at_iaddr rfl rfl (by assumption) (by omega) (fun _ _ hp => ?_); cases hp) | (refine at_iaddr_int rfl rfl (by assumption) (by omega) (fun _ _ hp => ?_); cases hp) | refine at_elemI rfl (by assumption) (by first | assumption | exact Sub.refl _ | exact fz_mem _ | exact St.sub (by assumption)) (by omega) (fun _ => ?_) | refine at_elemU8 rfl (by assumption) (by first | assumption | exact Sub.refl _ | exact fz_mem _ | exact St.sub (by assumption)) (by omega) (fun _ => ?_) | refine at_elemB rfl (by assumption) (by first | assumption | exact Sub.refl _ | exact fz_mem _ | exact St.sub (by assumption)) (by omega) (fun _ => ?_) (fun _ => ?_) | refine at_elemL rfl (by assumption) (by first | assumption | exact Sub.refl _ | exact fz_mem _ | exact St.sub (by assumption)) (by omega) (fun _ _ _ _ => ?_) | refine at_elemS rfl (by assumption) (by first | assumption | exact Sub.refl _ | exact fz_mem _ | exact St.sub (by assumption)) (by omega) (fun _ => ?_) | refine at_elemV rfl (by assumption) (by infer_instance) (by first | assumption | exact Sub.refl _ | exact fz_mem _ | exact St.sub (by assumption)) (by omega) ?_ | refine at_eqlV rfl rfl (fun _ => ?_) (fun _ => ?_) | refine at_faddr rfl ?_ | refine at_nilc rfl ?_ | refine at_ld rfl (by assumption) rfl rfl ?_ | refine at_opsA ?_ | refine at_apart rfl ?_ | refine at_ap_ret ?_ | refine at_end ?_ | refine at_free rfl rfl ?_
    refine ⟨by simp, _, rfl, ?_⟩
    exact same (compactL_short hlen)
  have hne : l ≠ [] := by rintro rfl; simp at hlen
  obtain ⟨b, c, rfl, hbn, hbs⟩ := w.pos hne
  have hb := (w.slF flat_int).bounds
  refine runs_here hp rfl ?_
  unfold compact
  repeat' first | refine at_seq ?_ | refine at_ops ?_ | refine at_nil ?_ | refine at_mv rfl ?_ | refine at_lenL rfl ?_ | refine at_guard_t rfl ?_ | refine at_guard_f rfl ?_ | refine at_guard_u rfl ?_ | (refine at_lss rfl rfl (fun _ => ?_) (fun _ => ?_) <;> try (exfalso; omega)) | (refine at_leq rfl rfl (fun _ => ?_) (fun _ => ?_) <;> try (exfalso; omega)) | (refine at_gtr rfl rfl (fun _ => ?_) (fun _ => ?_) <;> try (exfalso; omega)) | (refine at_geq rfl rfl (fun _ => ?_) (fun _ => ?_) <;> try (exfalso; omega)) | (refine at_eql rfl rfl (fun _ => ?_) (fun _ => ?_) <;> try (exfalso; omega)) | (refine at_neq rfl rfl (fun _ => ?_) (fun _ => ?_) <;> try (exfalso; omega)) | refine at_skip ?_ | refine at_true rfl ?_ | refine at_false rfl ?_ | refine at_block ?_ | refine at_blk ?_ | refine at_blk_exit ?_ | refine at_blk_ret ?_ | refine at_c_ret ?_ | refine at_o_ret ?_ | refine at_c_exit ?_ | refine at_blk_pass rfl ?_ | refine at_exit ?_ | refine at_ret ?_ | refine at_kp (by simp only [keep_cons, keep_nil, keepC_some, keepC_none, get_same, get_ne, get_nil, put_s, put_n, arg_cons, arg_nil, Nat.reduceBEq, Nat.reduceAdd] <;> rfl) ?_ | refine at_inc rfl (by omega) ?_ | refine at_add rfl rfl (by omega) ?_ | refine at_sub rfl rfl (by omega) ?_ | refine at_pick_t rfl rfl ?_ | refine at_pick_f rfl rfl ?_ | refine at_not rfl ?_ | refine at_conv64 rfl (by omega) ?_ | (refine at_max2 rfl rfl (fun _ => ?_) (fun _ => ?_) <;> try (exfalso; omega)) | (refine at_min2 rfl rfl (fun _ => ?_) (fun _ => ?_) <;> try (exfalso; omega)) | refine at_remN rfl rfl (by omega) (fun _ _ _ => ?_) | (refine at_iaddr rfl rfl (by assumption) (by omega) (fun _ _ hp => ?_); cases hp) | (refine at_iaddr_int rfl rfl (by assumption) (by omega) (fun _ _ hp => ?_); cases hp) | refine at_elemI rfl (by assumption) (by first | assumption | exact Sub.refl _ | exact fz_mem _ | exact St.sub (by assumption)) (by omega) (fun _ => ?_) | refine at_elemU8 rfl (by assumption) (by first | assumption | exact Sub.refl _ | exact fz_mem _ | exact St.sub (by assumption)) (by omega) (fun _ => ?_) | refine at_elemB rfl (by assumption) (by first | assumption | exact Sub.refl _ | exact fz_mem _ | exact St.sub (by assumption)) (by omega) (fun _ => ?_) (fun _ => ?_) | refine at_elemL rfl (by assumption) (by first | assumption | exact Sub.refl _ | exact fz_mem _ | exact St.sub (by assumption)) (by omega) (fun _ _ _ _ => ?_) | refine at_elemS rfl (by assumption) (by first | assumption | exact Sub.refl _ | exact fz_mem _ | exact St.sub (by assumption)) (by omega) (fun _ => ?_) | refine at_elemV rfl (by assumption) (by infer_instance) (by first | assumption | exact Sub.refl _ | exact fz_mem _ | exact St.sub (by assumption)) (by omega) ?_ | refine at_eqlV rfl rfl (fun _ => ?_) (fun _ => ?_) | refine at_faddr rfl ?_ | refine at_nilc rfl ?_ | refine at_ld rfl (by assumption) rfl rfl ?_ | refine at_opsA ?_ | refine at_apart rfl ?_ | refine at_ap_ret ?_ | refine at_end ?_ | refine at_free rfl rfl ?_
  refine at_loop2 (fun mm e h' => h' = h ∧ ∃ k : Nat, 0 < k ∧ k ≤ l.length ∧ mm = l.length - k ∧ e = [(0, .slice (some ⟨b, 0, none⟩) l.length c), (3, .int .i64 k)] ∧ ∀ i, 0 < i → (hi : i < l.length) → i < k → l[i] ≠ l[i - 1])
    (fun x e h' => (x = .exit 0 ∧ h' = h ∧ keepE e [0] = [(0, .slice (some ⟨b, 0, none⟩) l.length c)] ∧ compactL l = l) ∨ (x = .ret ∧ ∃ v', resL e h' [.tmp 2] = some [v'] ∧ But (blk (.slice (some ⟨b, 0, none⟩) l.length c)) h h' ∧ h'.size = h.size ∧ OwP (kInt .i64) m n h' v' (compactL l)))
    ⟨rfl, 1, by omega, by omega, rfl, rfl, fun i h1 h2 h3 => by omega⟩ ?_ ?_
  · rintro mm e h' _ ⟨rfl, k, hk0, hk, rfl, rfl, hI⟩
    have ws := w.slF flat_int
    repeat' first | refine at_seq ?_ | refine at_ops ?_ | refine at_nil ?_ | refine at_mv rfl ?_ | refine at_lenL rfl ?_ | refine at_guard_t rfl ?_ | refine at_guard_f rfl ?_ | refine at_guard_u rfl ?_ | (refine at_lss rfl rfl (fun _ => ?_) (fun _ => ?_) <;> try (exfalso; omega)) | (refine at_leq rfl rfl (fun _ => ?_) (fun _ => ?_) <;> try (exfalso; omega)) | (refine at_gtr rfl rfl (fun _ => ?_) (fun _ => ?_) <;> try (exfalso; omega)) | (refine at_geq rfl rfl (fun _ => ?_) (fun _ => ?_) <;> try (exfalso; omega)) | (refine at_eql rfl rfl (fun _ => ?_) (fun _ => ?_) <;> try (exfalso; omega)) | (refine at_neq rfl rfl (fun _ => ?_) (fun _ => ?_) <;> try (exfalso; omega)) | refine at_skip ?_ | refine at_true rfl ?_ | refine at_false rfl ?_ | refine at_block ?_ | refine at_blk ?_ | refine at_blk_exit ?_ | refine at_blk_ret ?_ | refine at_c_ret ?_ | refine at_o_ret ?_ | refine at_c_exit ?_ | refine at_blk_pass rfl ?_ | refine at_exit ?_ | refine at_ret ?_ | refine at_kp (by simp only [keep_cons, keep_nil, keepC_some, keepC_none, get_same, get_ne, get_nil, put_s, put_n, arg_cons, arg_nil, Nat.reduceBEq, Nat.reduceAdd] <;> rfl) ?_ | refine at_inc rfl (by omega) ?_ | refine at_add rfl rfl (by omega) ?_ | refine at_sub rfl rfl (by omega) ?_ | refine at_pick_t rfl rfl ?_ | refine at_pick_f rfl rfl ?_ | refine at_not rfl ?_ | refine at_conv64 rfl (by omega) ?_ | (refine at_max2 rfl rfl (fun _ => ?_) (fun _ => ?_) <;> try (exfalso; omega)) | (refine at_min2 rfl rfl (fun _ => ?_) (fun _ => ?_) <;> try (exfalso; omega)) | refine at_remN rfl rfl (by omega) (fun _ _ _ => ?_) | (refine at_iaddr rfl rfl (by assumption) (by omega) (fun _ _ hp => ?_); cases hp) | (refine at_iaddr_int rfl rfl (by assumption) (by omega) (fun _ _ hp => ?_); cases hp) | refine at_elemI rfl (by assumption) (by first | assumption | exact Sub.refl _ | exact fz_mem _ | exact St.sub (by assumption)) (by omega) (fun _ => ?_) | refine at_elemU8 rfl (by assumption) (by first | assumption | exact Sub.refl _ | exact fz_mem _ | exact St.sub (by assumption)) (by omega) (fun _ => ?_) | refine at_elemB rfl (by assumption) (by first | assumption | exact Sub.refl _ | exact fz_mem _ | exact St.sub (by assumption)) (by omega) (fun _ => ?_) (fun _ => ?_) | refine at_elemL rfl (by assumption) (by first | assumption | exact Sub.refl _ | exact fz_mem _ | exact St.sub (by assumption)) (by omega) (fun _ _ _ _ => ?_) | refine at_elemS rfl (by assumption) (by first | assumption | exact Sub.refl _ | exact fz_mem _ | exact St.sub (by assumption)) (by omega) (fun _ => ?_) | refine at_elemV rfl (by assumption) (by infer_instance) (by first | assumption | exact Sub.refl _ | exact fz_mem _ | exact St.sub (by assumption)) (by omega) ?_ | refine at_eqlV rfl rfl (fun _ => ?_) (fun _ => ?_) | refine at_faddr rfl ?_ | refine at_nilc rfl ?_ | refine at_ld rfl (by assumption) rfl rfl ?_ | refine at_opsA ?_ | refine at_apart rfl ?_ | refine at_ap_ret ?_ | refine at_end ?_ | refine at_free rfl rfl ?_
    · -- two alike
      rename_i hdup
      have hk1 : ((k : Int) - 1).toNat = k - 1 := by omega
      simp only [hk1] at hdup
      have hkl : k < l.length := by omega
      have hstart : compactL (l.take (k + 1)) = l.take k := by
        rw [compactL_take hk0 hkl, if_pos hdup]
        refine compactL_id fun i h1 h2 => ?_
        have h3 : i < k := by simp at h2; omega
        simp only [List.getElem_take]
        exact hI i h1 (by omega) h3
      refine at_slcP (i := k) (j := l.length) rfl rfl rfl (by omega) (by omega) ?_
      repeat' first | refine at_seq ?_ | refine at_ops ?_ | refine at_nil ?_ | refine at_mv rfl ?_ | refine at_lenL rfl ?_ | refine at_guard_t rfl ?_ | refine at_guard_f rfl ?_ | refine at_guard_u rfl ?_ | (refine at_lss rfl rfl (fun _ => ?_) (fun _ => ?_) <;> try (exfalso; omega)) | (refine at_leq rfl rfl (fun _ => ?_) (fun _ => ?_) <;> try (exfalso; omega)) | (refine at_gtr rfl rfl (fun _ => ?_) (fun _ => ?_) <;> try (exfalso; omega)) | (refine at_geq rfl rfl (fun _ => ?_) (fun _ => ?_) <;> try (exfalso; omega)) | (refine at_eql rfl rfl (fun _ => ?_) (fun _ => ?_) <;> try (exfalso; omega)) | (refine at_neq rfl rfl (fun _ => ?_) (fun _ => ?_) <;> try (exfalso; omega)) | refine at_skip ?_ | refine at_true rfl ?_ | refine at_false rfl ?_ | refine at_block ?_ | refine at_blk ?_ | refine at_blk_exit ?_ | refine at_blk_ret ?_ | refine at_c_ret ?_ | refine at_o_ret ?_ | refine at_c_exit ?_ | refine at_blk_pass rfl ?_ | refine at_exit ?_ | refine at_ret ?_ | refine at_kp (by simp only [keep_cons, keep_nil, keepC_some, keepC_none, get_same, get_ne, get_nil, put_s, put_n, arg_cons, arg_nil, Nat.reduceBEq, Nat.reduceAdd] <;> rfl) ?_ | refine at_inc rfl (by omega) ?_ | refine at_add rfl rfl (by omega) ?_ | refine at_sub rfl rfl (by omega) ?_ | refine at_pick_t rfl rfl ?_ | refine at_pick_f rfl rfl ?_ | refine at_not rfl ?_ | refine at_conv64 rfl (by omega) ?_ | (refine at_max2 rfl rfl (fun _ => ?_) (fun _ => ?_) <;> try (exfalso; omega)) | (refine at_min2 rfl rfl (fun _ => ?_) (fun _ => ?_) <;> try (exfalso; omega)) | refine at_remN rfl rfl (by omega) (fun _ _ _ => ?_) | (refine at_iaddr rfl rfl (by assumption) (by omega) (fun _ _ hp => ?_); cases hp) | (refine at_iaddr_int rfl rfl (by assumption) (by omega) (fun _ _ hp => ?_); cases hp) | refine at_elemI rfl (by assumption) (by first | assumption | exact Sub.refl _ | exact fz_mem _ | exact St.sub (by assumption)) (by omega) (fun _ => ?_) | refine at_elemU8 rfl (by assumption) (by first | assumption | exact Sub.refl _ | exact fz_mem _ | exact St.sub (by assumption)) (by omega) (fun _ => ?_) | refine at_elemB rfl (by assumption) (by first | assumption | exact Sub.refl _ | exact fz_mem _ | exact St.sub (by assumption)) (by omega) (fun _ => ?_) (fun _ => ?_) | refine at_elemL rfl (by assumption) (by first | assumption | exact Sub.refl _ | exact fz_mem _ | exact St.sub (by assumption)) (by omega) (fun _ _ _ _ => ?_) | refine at_elemS rfl (by assumption) (by first | assumption | exact Sub.refl _ | exact fz_mem _ | exact St.sub (by assumption)) (by omega) (fun _ => ?_) | refine at_elemV rfl (by assumption) (by infer_instance) (by first | assumption | exact Sub.refl _ | exact fz_mem _ | exact St.sub (by assumption)) (by omega) ?_ | refine at_eqlV rfl rfl (fun _ => ?_) (fun _ => ?_) | refine at_faddr rfl ?_ | refine at_nilc rfl ?_ | refine at_ld rfl (by assumption) rfl rfl ?_ | refine at_opsA ?_ | refine at_apart rfl ?_ | refine at_ap_ret ?_ | refine at_end ?_ | refine at_free rfl rfl ?_
      refine at_loop2 (fun mm e h2 => But (blk (.slice (some ⟨b, 0, none⟩) l.length c)) h' h2 ∧ h2.size = h'.size ∧ ∃ (j kk : Nat) (l2 : List Int), l2.length = l.length ∧ Ow (kInt .i64) m n h2 (.slice (some ⟨b, 0, none⟩) l.length c) l2 ∧ 1 ≤ j ∧ j ≤ l.length - k ∧ mm = l.length - j ∧ kk ≤ k + j - 1 ∧
          l2.take kk = compactL (l.take (k + j)) ∧ l2.drop (k + j - 1) = l.drop (k + j - 1) ∧ e = [(0, .slice (some ⟨b, 0, none⟩) l.length c), (3, .int .i64 kk), (4, .slice (some ⟨b, 0 + k * 1, none⟩) (l.length - k) (l.length - k)), (5, .int .i64 j)])
        (fun x e h2 => x = .exit 2 ∧ But (blk (.slice (some ⟨b, 0, none⟩) l.length c)) h' h2 ∧ h2.size = h'.size ∧ ∃ (kk : Nat) (l2 : List Int), l2.length = l.length ∧ Ow (kInt .i64) m n h2 (.slice (some ⟨b, 0, none⟩) l.length c) l2 ∧ kk ≤ l.length ∧ l2.take kk = compactL l ∧
          keepE e [0, 3] = [(0, .slice (some ⟨b, 0, none⟩) l.length c), (3, .int .i64 kk)])
        ⟨⟨Nat.le_refl _, rfl, fun _ _ _ => rfl⟩, rfl, 1, k, l, rfl, w, by omega, by omega, rfl, by omega, hstart.symm, rfl, rfl⟩ ?_ ?_
      · rintro mm e h2 _ ⟨hB, hsz, j, kk, l2, hl2, w2, hj1, hj2, rfl, hkk, htk, hdr, rfl⟩
        have w2s : Sl (kInt .i64) (mem h2) (.slice (some ⟨b, 0, none⟩) l.length c) l2 := w2.slF flat_int
        have w2p : Sl (kInt .i64) (mem h2) (.slice (some ⟨b, 0 + k * 1, none⟩) (l.length - k) (l.length - k)) (l2.drop k) := by
          have := w2s.part k (l.length - k) (by omega)
          rwa [List.take_of_length_le (by simp; omega)] at this
        have hdl : (l2.drop k).length = l.length - k := by simp; omega
        have hsame : ∀ q, k + j - 1 ≤ q → (hq : q < l.length) → l2[q]'(by omega) = l[q] := by
          intro q h1 h3
          have := congrArg (fun z => z[q - (k + j - 1)]?) hdr
          simp only [List.getElem?_drop] at this
          rw [show k + j - 1 + (q - (k + j - 1)) = q by omega, List.getElem?_eq_getElem (by omega), List.getElem?_eq_getElem h3] at this
          exact Option.some.inj this
        have hct : ∀ hq : k + j < l.length, compactL (l.take (k + j + 1)) = if l[k + j] = l[k + j - 1] then compactL (l.take (k + j)) else compactL (l.take (k + j)) ++ [l[k + j]] := fun hq => compactL_take (by omega) hq
        by_cases hjn : j < l.length - k
        · have hq : k + j < l.length := by omega
          have e1 : (l2.drop k)[j]'(by simp; omega) = l[k + j] := by rw [List.getElem_drop]; exact hsame _ (by omega) hq
          have e2 : (l2.drop k)[j - 1]'(by simp; omega) = l[k + j - 1] := by
            rw [List.getElem_drop]
            have := hsame (k + (j - 1)) (by omega) (by omega)
            rw [this]; congr 1; omega
          repeat' first | refine at_seq ?_ | refine at_ops ?_ | refine at_nil ?_ | refine at_mv rfl ?_ | refine at_lenL rfl ?_ | refine at_guard_t rfl ?_ | refine at_guard_f rfl ?_ | refine at_guard_u rfl ?_ | (refine at_lss rfl rfl (fun _ => ?_) (fun _ => ?_) <;> try (exfalso; omega)) | (refine at_leq rfl rfl (fun _ => ?_) (fun _ => ?_) <;> try (exfalso; omega)) | (refine at_gtr rfl rfl (fun _ => ?_) (fun _ => ?_) <;> try (exfalso; omega)) | (refine at_geq rfl rfl (fun _ => ?_) (fun _ => ?_) <;> try (exfalso; omega)) | (refine at_eql rfl rfl (fun _ => ?_) (fun _ => ?_) <;> try (exfalso; omega)) | (refine at_neq rfl rfl (fun _ => ?_) (fun _ => ?_) <;> try (exfalso; omega)) | refine at_skip ?_ | refine at_true rfl ?_ | refine at_false rfl ?_ | refine at_block ?_ | refine at_blk ?_ | refine at_blk_exit ?_ | refine at_blk_ret ?_ | refine at_c_ret ?_ | refine at_o_ret ?_ | refine at_c_exit ?_ | refine at_blk_pass rfl ?_ | refine at_exit ?_ | refine at_ret ?_ | refine at_kp (by simp only [keep_cons, keep_nil, keepC_some, keepC_none, get_same, get_ne, get_nil, put_s, put_n, arg_cons, arg_nil, Nat.reduceBEq, Nat.reduceAdd] <;> rfl) ?_ | refine at_inc rfl (by omega) ?_ | refine at_add rfl rfl (by omega) ?_ | refine at_sub rfl rfl (by omega) ?_ | refine at_pick_t rfl rfl ?_ | refine at_pick_f rfl rfl ?_ | refine at_not rfl ?_ | refine at_conv64 rfl (by omega) ?_ | (refine at_max2 rfl rfl (fun _ => ?_) (fun _ => ?_) <;> try (exfalso; omega)) | (refine at_min2 rfl rfl (fun _ => ?_) (fun _ => ?_) <;> try (exfalso; omega)) | refine at_remN rfl rfl (by omega) (fun _ _ _ => ?_) | (refine at_iaddr rfl rfl (by assumption) (by omega) (fun _ _ hp => ?_); cases hp) | (refine at_iaddr_int rfl rfl (by assumption) (by omega) (fun _ _ hp => ?_); cases hp) | refine at_elemI rfl (by assumption) (by first | assumption | exact Sub.refl _ | exact fz_mem _ | exact St.sub (by assumption)) (by omega) (fun _ => ?_) | refine at_elemU8 rfl (by assumption) (by first | assumption | exact Sub.refl _ | exact fz_mem _ | exact St.sub (by assumption)) (by omega) (fun _ => ?_) | refine at_elemB rfl (by assumption) (by first | assumption | exact Sub.refl _ | exact fz_mem _ | exact St.sub (by assumption)) (by omega) (fun _ => ?_) (fun _ => ?_) | refine at_elemL rfl (by assumption) (by first | assumption | exact Sub.refl _ | exact fz_mem _ | exact St.sub (by assumption)) (by omega) (fun _ _ _ _ => ?_) | refine at_elemS rfl (by assumption) (by first | assumption | exact Sub.refl _ | exact fz_mem _ | exact St.sub (by assumption)) (by omega) (fun _ => ?_) | refine at_elemV rfl (by assumption) (by infer_instance) (by first | assumption | exact Sub.refl _ | exact fz_mem _ | exact St.sub (by assumption)) (by omega) ?_ | refine at_eqlV rfl rfl (fun _ => ?_) (fun _ => ?_) | refine at_faddr rfl ?_ | refine at_nilc rfl ?_ | refine at_ld rfl (by assumption) rfl rfl ?_ | refine at_opsA ?_ | refine at_apart rfl ?_ | refine at_ap_ret ?_ | refine at_end ?_ | refine at_free rfl rfl ?_
          · -- another one
            rename_i hcmp _
            simp only [show ((j : Int) - 1).toNat = j - 1 by omega] at hcmp
            rw [e1, e2] at hcmp
            have hkn : kk < l2.length := by omega
            refine at_stE (K := kInt .i64) (a := l[k + j]) rfl rfl rfl rfl rfl w2 hkn ⟨by rw [e1]; rfl, hb _ (List.getElem_mem hq)⟩ (fun h3 B3 _ hs3 w3 => ?_)
            have B4 : But (blk (.slice (some ⟨b, 0, none⟩) l.length c)) h' h3 := hB.trans (B3.mono fun x _ hx => hx)
            repeat' first | refine at_seq ?_ | refine at_ops ?_ | refine at_nil ?_ | refine at_mv rfl ?_ | refine at_lenL rfl ?_ | refine at_guard_t rfl ?_ | refine at_guard_f rfl ?_ | refine at_guard_u rfl ?_ | (refine at_lss rfl rfl (fun _ => ?_) (fun _ => ?_) <;> try (exfalso; omega)) | (refine at_leq rfl rfl (fun _ => ?_) (fun _ => ?_) <;> try (exfalso; omega)) | (refine at_gtr rfl rfl (fun _ => ?_) (fun _ => ?_) <;> try (exfalso; omega)) | (refine at_geq rfl rfl (fun _ => ?_) (fun _ => ?_) <;> try (exfalso; omega)) | (refine at_eql rfl rfl (fun _ => ?_) (fun _ => ?_) <;> try (exfalso; omega)) | (refine at_neq rfl rfl (fun _ => ?_) (fun _ => ?_) <;> try (exfalso; omega)) | refine at_skip ?_ | refine at_true rfl ?_ | refine at_false rfl ?_ | refine at_block ?_ | refine at_blk ?_ | refine at_blk_exit ?_ | refine at_blk_ret ?_ | refine at_c_ret ?_ | refine at_o_ret ?_ | refine at_c_exit ?_ | refine at_blk_pass rfl ?_ | refine at_exit ?_ | refine at_ret ?_ | refine at_kp (by simp only [keep_cons, keep_nil, keepC_some, keepC_none, get_same, get_ne, get_nil, put_s, put_n, arg_cons, arg_nil, Nat.reduceBEq, Nat.reduceAdd] <;> rfl) ?_ | refine at_inc rfl (by omega) ?_ | refine at_add rfl rfl (by omega) ?_ | refine at_sub rfl rfl (by omega) ?_ | refine at_pick_t rfl rfl ?_ | refine at_pick_f rfl rfl ?_ | refine at_not rfl ?_ | refine at_conv64 rfl (by omega) ?_ | (refine at_max2 rfl rfl (fun _ => ?_) (fun _ => ?_) <;> try (exfalso; omega)) | (refine at_min2 rfl rfl (fun _ => ?_) (fun _ => ?_) <;> try (exfalso; omega)) | refine at_remN rfl rfl (by omega) (fun _ _ _ => ?_) | (refine at_iaddr rfl rfl (by assumption) (by omega) (fun _ _ hp => ?_); cases hp) | (refine at_iaddr_int rfl rfl (by assumption) (by omega) (fun _ _ hp => ?_); cases hp) | refine at_elemI rfl (by assumption) (by first | assumption | exact Sub.refl _ | exact fz_mem _ | exact St.sub (by assumption)) (by omega) (fun _ => ?_) | refine at_elemU8 rfl (by assumption) (by first | assumption | exact Sub.refl _ | exact fz_mem _ | exact St.sub (by assumption)) (by omega) (fun _ => ?_) | refine at_elemB rfl (by assumption) (by first | assumption | exact Sub.refl _ | exact fz_mem _ | exact St.sub (by assumption)) (by omega) (fun _ => ?_) (fun _ => ?_) | refine at_elemL rfl (by assumption) (by first | assumption | exact Sub.refl _ | exact fz_mem _ | exact St.sub (by assumption)) (by omega) (fun _ _ _ _ => ?_) | refine at_elemS rfl (by assumption) (by first | assumption | exact Sub.refl _ | exact fz_mem _ | exact St.sub (by assumption)) (by omega) (fun _ => ?_) | refine at_elemV rfl (by assumption) (by infer_instance) (by first | assumption | exact Sub.refl _ | exact fz_mem _ | exact St.sub (by assumption)) (by omega) ?_ | refine at_eqlV rfl rfl (fun _ => ?_) (fun _ => ?_) | refine at_faddr rfl ?_ | refine at_nilc rfl ?_ | refine at_ld rfl (by assumption) rfl rfl ?_ | refine at_opsA ?_ | refine at_apart rfl ?_ | refine at_ap_ret ?_ | refine at_end ?_ | refine at_free rfl rfl ?_
            refine ⟨_, by omega, B4, by rw [hs3, hsz], j + 1, kk + 1, l2.set kk l[k + j], by simp [hl2], w3, by omega, by omega, rfl, by omega, ?_, ?_, rfl⟩
            · rw [show k + (j + 1) = k + j + 1 by omega, hct hq, if_neg hcmp, ← htk, List.take_succ_eq_append_getElem (by simp; omega), List.take_set_of_le (Nat.le_refl _)]
              simp
            · rw [show k + (j + 1) - 1 = k + j by omega, List.drop_set_of_lt (by omega)]
              have := congrArg (List.drop 1) hdr
              rw [List.drop_drop, List.drop_drop, show k + j - 1 + 1 = k + j by omega] at this
              exact this
          · rename_i hcmp
            simp only [show ((j : Int) - 1).toNat = j - 1 by omega] at hcmp
            rw [e1, e2] at hcmp
            refine ⟨_, by omega, hB, hsz, j + 1, kk, l2, hl2, w2, by omega, by omega, rfl, by omega, ?_, ?_, rfl⟩
            · rw [show k + (j + 1) = k + j + 1 by omega, hct hq, if_pos hcmp]; exact htk
            · have := congrArg (List.drop 1) hdr
              rw [List.drop_drop, List.drop_drop, show k + j - 1 + 1 = k + j by omega] at this
              rw [show k + (j + 1) - 1 = k + j by omega]; exact this
        · repeat' first | refine at_seq ?_ | refine at_ops ?_ | refine at_nil ?_ | refine at_mv rfl ?_ | refine at_lenL rfl ?_ | refine at_guard_t rfl ?_ | refine at_guard_f rfl ?_ | refine at_guard_u rfl ?_ | (refine at_lss rfl rfl (fun _ => ?_) (fun _ => ?_) <;> try (exfalso; omega)) | (refine at_leq rfl rfl (fun _ => ?_) (fun _ => ?_) <;> try (exfalso; omega)) | (refine at_gtr rfl rfl (fun _ => ?_) (fun _ => ?_) <;> try (exfalso; omega)) | (refine at_geq rfl rfl (fun _ => ?_) (fun _ => ?_) <;> try (exfalso; omega)) | (refine at_eql rfl rfl (fun _ => ?_) (fun _ => ?_) <;> try (exfalso; omega)) | (refine at_neq rfl rfl (fun _ => ?_) (fun _ => ?_) <;> try (exfalso; omega)) | refine at_skip ?_ | refine at_true rfl ?_ | refine at_false rfl ?_ | refine at_block ?_ | refine at_blk ?_ | refine at_blk_exit ?_ | refine at_blk_ret ?_ | refine at_c_ret ?_ | refine at_o_ret ?_ | refine at_c_exit ?_ | refine at_blk_pass rfl ?_ | refine at_exit ?_ | refine at_ret ?_ | refine at_kp (by simp only [keep_cons, keep_nil, keepC_some, keepC_none, get_same, get_ne, get_nil, put_s, put_n, arg_cons, arg_nil, Nat.reduceBEq, Nat.reduceAdd] <;> rfl) ?_ | refine at_inc rfl (by omega) ?_ | refine at_add rfl rfl (by omega) ?_ | refine at_sub rfl rfl (by omega) ?_ | refine at_pick_t rfl rfl ?_ | refine at_pick_f rfl rfl ?_ | refine at_not rfl ?_ | refine at_conv64 rfl (by omega) ?_ | (refine at_max2 rfl rfl (fun _ => ?_) (fun _ => ?_) <;> try (exfalso; omega)) | (refine at_min2 rfl rfl (fun _ => ?_) (fun _ => ?_) <;> try (exfalso; omega)) | refine at_remN rfl rfl (by omega) (fun _ _ _ => ?_) | (refine at_iaddr rfl rfl (by assumption) (by omega) (fun _ _ hp => ?_); cases hp) | (refine at_iaddr_int rfl rfl (by assumption) (by omega) (fun _ _ hp => ?_); cases hp) | refine at_elemI rfl (by assumption) (by first | assumption | exact Sub.refl _ | exact fz_mem _ | exact St.sub (by assumption)) (by omega) (fun _ => ?_) | refine at_elemU8 rfl (by assumption) (by first | assumption | exact Sub.refl _ | exact fz_mem _ | exact St.sub (by assumption)) (by omega) (fun _ => ?_) | refine at_elemB rfl (by assumption) (by first | assumption | exact Sub.refl _ | exact fz_mem _ | exact St.sub (by assumption)) (by omega) (fun _ => ?_) (fun _ => ?_) | refine at_elemL rfl (by assumption) (by first | assumption | exact Sub.refl _ | exact fz_mem _ | exact St.sub (by assumption)) (by omega) (fun _ _ _ _ => ?_) | refine at_elemS rfl (by assumption) (by first | assumption | exact Sub.refl _ | exact fz_mem _ | exact St.sub (by assumption)) (by omega) (fun _ => ?_) | refine at_elemV rfl (by assumption) (by infer_instance) (by first | assumption | exact Sub.refl _ | exact fz_mem _ | exact St.sub (by assumption)) (by omega) ?_ | refine at_eqlV rfl rfl (fun _ => ?_) (fun _ => ?_) | refine at_faddr rfl ?_ | refine at_nilc rfl ?_ | refine at_ld rfl (by assumption) rfl rfl ?_ | refine at_opsA ?_ | refine at_apart rfl ?_ | refine at_ap_ret ?_ | refine at_end ?_ | refine at_free rfl rfl ?_
          refine ⟨rfl, hB, hsz, kk, l2, hl2, w2, by omega, ?_, (by simp only [keep_cons, keep_nil, keepC_some, keepC_none, get_same, get_ne, get_nil, put_s, put_n, arg_cons, arg_nil, Nat.reduceBEq, Nat.reduceAdd] <;> rfl)⟩
          rw [htk, show k + j = l.length by omega, List.take_length]
      · rintro x e h2 _ ⟨rfl, hB, hsz, kk, l2, hl2, w2, hkk, htk, hk2⟩
        refine at_blk_exit (at_seq (at_kp hk2 ?_))
        repeat' first | refine at_seq ?_ | refine at_ops ?_ | refine at_nil ?_ | refine at_mv rfl ?_ | refine at_lenL rfl ?_ | refine at_guard_t rfl ?_ | refine at_guard_f rfl ?_ | refine at_guard_u rfl ?_ | (refine at_lss rfl rfl (fun _ => ?_) (fun _ => ?_) <;> try (exfalso; omega)) | (refine at_leq rfl rfl (fun _ => ?_) (fun _ => ?_) <;> try (exfalso; omega)) | (refine at_gtr rfl rfl (fun _ => ?_) (fun _ => ?_) <;> try (exfalso; omega)) | (refine at_geq rfl rfl (fun _ => ?_) (fun _ => ?_) <;> try (exfalso; omega)) | (refine at_eql rfl rfl (fun _ => ?_) (fun _ => ?_) <;> try (exfalso; omega)) | (refine at_neq rfl rfl (fun _ => ?_) (fun _ => ?_) <;> try (exfalso; omega)) | refine at_skip ?_ | refine at_true rfl ?_ | refine at_false rfl ?_ | refine at_block ?_ | refine at_blk ?_ | refine at_blk_exit ?_ | refine at_blk_ret ?_ | refine at_c_ret ?_ | refine at_o_ret ?_ | refine at_c_exit ?_ | refine at_blk_pass rfl ?_ | refine at_exit ?_ | refine at_ret ?_ | refine at_kp (by simp only [keep_cons, keep_nil, keepC_some, keepC_none, get_same, get_ne, get_nil, put_s, put_n, arg_cons, arg_nil, Nat.reduceBEq, Nat.reduceAdd] <;> rfl) ?_ | refine at_inc rfl (by omega) ?_ | refine at_add rfl rfl (by omega) ?_ | refine at_sub rfl rfl (by omega) ?_ | refine at_pick_t rfl rfl ?_ | refine at_pick_f rfl rfl ?_ | refine at_not rfl ?_ | refine at_conv64 rfl (by omega) ?_ | (refine at_max2 rfl rfl (fun _ => ?_) (fun _ => ?_) <;> try (exfalso; omega)) | (refine at_min2 rfl rfl (fun _ => ?_) (fun _ => ?_) <;> try (exfalso; omega)) | refine at_remN rfl rfl (by omega) (fun _ _ _ => ?_) | (refine at_iaddr rfl rfl (by assumption) (by omega) (fun _ _ hp => ?_); cases hp) | (refine at_iaddr_int rfl rfl (by assumption) (by omega) (fun _ _ hp => ?_); cases hp) | refine at_elemI rfl (by assumption) (by first | assumption | exact Sub.refl _ | exact fz_mem _ | exact St.sub (by assumption)) (by omega) (fun _ => ?_) | refine at_elemU8 rfl (by assumption) (by first | assumption | exact Sub.refl _ | exact fz_mem _ | exact St.sub (by assumption)) (by omega) (fun _ => ?_) | refine at_elemB rfl (by assumption) (by first | assumption | exact Sub.refl _ | exact fz_mem _ | exact St.sub (by assumption)) (by omega) (fun _ => ?_) (fun _ => ?_) | refine at_elemL rfl (by assumption) (by first | assumption | exact Sub.refl _ | exact fz_mem _ | exact St.sub (by assumption)) (by omega) (fun _ _ _ _ => ?_) | refine at_elemS rfl (by assumption) (by first | assumption | exact Sub.refl _ | exact fz_mem _ | exact St.sub (by assumption)) (by omega) (fun _ => ?_) | refine at_elemV rfl (by assumption) (by infer_instance) (by first | assumption | exact Sub.refl _ | exact fz_mem _ | exact St.sub (by assumption)) (by omega) ?_ | refine at_eqlV rfl rfl (fun _ => ?_) (fun _ => ?_) | refine at_faddr rfl ?_ | refine at_nilc rfl ?_ | refine at_ld rfl (by assumption) rfl rfl ?_ | refine at_opsA ?_ | refine at_apart rfl ?_ | refine at_ap_ret ?_ | refine at_end ?_ | refine at_free rfl rfl ?_
        refine at_slcP (i := kk) (j := l.length) rfl rfl rfl (by omega) (by omega) ?_
        repeat' first | refine at_seq ?_ | refine at_ops ?_ | refine at_nil ?_ | refine at_mv rfl ?_ | refine at_lenL rfl ?_ | refine at_guard_t rfl ?_ | refine at_guard_f rfl ?_ | refine at_guard_u rfl ?_ | (refine at_lss rfl rfl (fun _ => ?_) (fun _ => ?_) <;> try (exfalso; omega)) | (refine at_leq rfl rfl (fun _ => ?_) (fun _ => ?_) <;> try (exfalso; omega)) | (refine at_gtr rfl rfl (fun _ => ?_) (fun _ => ?_) <;> try (exfalso; omega)) | (refine at_geq rfl rfl (fun _ => ?_) (fun _ => ?_) <;> try (exfalso; omega)) | (refine at_eql rfl rfl (fun _ => ?_) (fun _ => ?_) <;> try (exfalso; omega)) | (refine at_neq rfl rfl (fun _ => ?_) (fun _ => ?_) <;> try (exfalso; omega)) | refine at_skip ?_ | refine at_true rfl ?_ | refine at_false rfl ?_ | refine at_block ?_ | refine at_blk ?_ | refine at_blk_exit ?_ | refine at_blk_ret ?_ | refine at_c_ret ?_ | refine at_o_ret ?_ | refine at_c_exit ?_ | refine at_blk_pass rfl ?_ | refine at_exit ?_ | refine at_ret ?_ | refine at_kp (by simp only [keep_cons, keep_nil, keepC_some, keepC_none, get_same, get_ne, get_nil, put_s, put_n, arg_cons, arg_nil, Nat.reduceBEq, Nat.reduceAdd] <;> rfl) ?_ | refine at_inc rfl (by omega) ?_ | refine at_add rfl rfl (by omega) ?_ | refine at_sub rfl rfl (by omega) ?_ | refine at_pick_t rfl rfl ?_ | refine at_pick_f rfl rfl ?_ | refine at_not rfl ?_ | refine at_conv64 rfl (by omega) ?_ | (refine at_max2 rfl rfl (fun _ => ?_) (fun _ => ?_) <;> try (exfalso; omega)) | (refine at_min2 rfl rfl (fun _ => ?_) (fun _ => ?_) <;> try (exfalso; omega)) | refine at_remN rfl rfl (by omega) (fun _ _ _ => ?_) | (refine at_iaddr rfl rfl (by assumption) (by omega) (fun _ _ hp => ?_); cases hp) | (refine at_iaddr_int rfl rfl (by assumption) (by omega) (fun _ _ hp => ?_); cases hp) | refine at_elemI rfl (by assumption) (by first | assumption | exact Sub.refl _ | exact fz_mem _ | exact St.sub (by assumption)) (by omega) (fun _ => ?_) | refine at_elemU8 rfl (by assumption) (by first | assumption | exact Sub.refl _ | exact fz_mem _ | exact St.sub (by assumption)) (by omega) (fun _ => ?_) | refine at_elemB rfl (by assumption) (by first | assumption | exact Sub.refl _ | exact fz_mem _ | exact St.sub (by assumption)) (by omega) (fun _ => ?_) (fun _ => ?_) | refine at_elemL rfl (by assumption) (by first | assumption | exact Sub.refl _ | exact fz_mem _ | exact St.sub (by assumption)) (by omega) (fun _ _ _ _ => ?_) | refine at_elemS rfl (by assumption) (by first | assumption | exact Sub.refl _ | exact fz_mem _ | exact St.sub (by assumption)) (by omega) (fun _ => ?_) | refine at_elemV rfl (by assumption) (by infer_instance) (by first | assumption | exact Sub.refl _ | exact fz_mem _ | exact St.sub (by assumption)) (by omega) ?_ | refine at_eqlV rfl rfl (fun _ => ?_) (fun _ => ?_) | refine at_faddr rfl ?_ | refine at_nilc rfl ?_ | refine at_ld rfl (by assumption) rfl rfl ?_ | refine at_opsA ?_ | refine at_apart rfl ?_ | refine at_ap_ret ?_ | refine at_end ?_ | refine at_free rfl rfl ?_
        rcases w2 with ⟨h0, _⟩ | ⟨b', c', cs, h0, q1, q2, q3, q4, q5⟩
        · cases h0
        injection h0 with h0 _ _
        injection h0 with h0
        injection h0 with h0 _
        subst h0
        have hcs := cells_int_eq q5
        subst hcs
        refine at_clear rfl rfl q4 q3 (by simp) (by simp; omega) rfl (fun h3 S3 => ?_)
        repeat' first | refine at_seq ?_ | refine at_ops ?_ | refine at_nil ?_ | refine at_mv rfl ?_ | refine at_lenL rfl ?_ | refine at_guard_t rfl ?_ | refine at_guard_f rfl ?_ | refine at_guard_u rfl ?_ | (refine at_lss rfl rfl (fun _ => ?_) (fun _ => ?_) <;> try (exfalso; omega)) | (refine at_leq rfl rfl (fun _ => ?_) (fun _ => ?_) <;> try (exfalso; omega)) | (refine at_gtr rfl rfl (fun _ => ?_) (fun _ => ?_) <;> try (exfalso; omega)) | (refine at_geq rfl rfl (fun _ => ?_) (fun _ => ?_) <;> try (exfalso; omega)) | (refine at_eql rfl rfl (fun _ => ?_) (fun _ => ?_) <;> try (exfalso; omega)) | (refine at_neq rfl rfl (fun _ => ?_) (fun _ => ?_) <;> try (exfalso; omega)) | refine at_skip ?_ | refine at_true rfl ?_ | refine at_false rfl ?_ | refine at_block ?_ | refine at_blk ?_ | refine at_blk_exit ?_ | refine at_blk_ret ?_ | refine at_c_ret ?_ | refine at_o_ret ?_ | refine at_c_exit ?_ | refine at_blk_pass rfl ?_ | refine at_exit ?_ | refine at_ret ?_ | refine at_kp (by simp only [keep_cons, keep_nil, keepC_some, keepC_none, get_same, get_ne, get_nil, put_s, put_n, arg_cons, arg_nil, Nat.reduceBEq, Nat.reduceAdd] <;> rfl) ?_ | refine at_inc rfl (by omega) ?_ | refine at_add rfl rfl (by omega) ?_ | refine at_sub rfl rfl (by omega) ?_ | refine at_pick_t rfl rfl ?_ | refine at_pick_f rfl rfl ?_ | refine at_not rfl ?_ | refine at_conv64 rfl (by omega) ?_ | (refine at_max2 rfl rfl (fun _ => ?_) (fun _ => ?_) <;> try (exfalso; omega)) | (refine at_min2 rfl rfl (fun _ => ?_) (fun _ => ?_) <;> try (exfalso; omega)) | refine at_remN rfl rfl (by omega) (fun _ _ _ => ?_) | (refine at_iaddr rfl rfl (by assumption) (by omega) (fun _ _ hp => ?_); cases hp) | (refine at_iaddr_int rfl rfl (by assumption) (by omega) (fun _ _ hp => ?_); cases hp) | refine at_elemI rfl (by assumption) (by first | assumption | exact Sub.refl _ | exact fz_mem _ | exact St.sub (by assumption)) (by omega) (fun _ => ?_) | refine at_elemU8 rfl (by assumption) (by first | assumption | exact Sub.refl _ | exact fz_mem _ | exact St.sub (by assumption)) (by omega) (fun _ => ?_) | refine at_elemB rfl (by assumption) (by first | assumption | exact Sub.refl _ | exact fz_mem _ | exact St.sub (by assumption)) (by omega) (fun _ => ?_) (fun _ => ?_) | refine at_elemL rfl (by assumption) (by first | assumption | exact Sub.refl _ | exact fz_mem _ | exact St.sub (by assumption)) (by omega) (fun _ _ _ _ => ?_) | refine at_elemS rfl (by assumption) (by first | assumption | exact Sub.refl _ | exact fz_mem _ | exact St.sub (by assumption)) (by omega) (fun _ => ?_) | refine at_elemV rfl (by assumption) (by infer_instance) (by first | assumption | exact Sub.refl _ | exact fz_mem _ | exact St.sub (by assumption)) (by omega) ?_ | refine at_eqlV rfl rfl (fun _ => ?_) (fun _ => ?_) | refine at_faddr rfl ?_ | refine at_nilc rfl ?_ | refine at_ld rfl (by assumption) rfl rfl ?_ | refine at_opsA ?_ | refine at_apart rfl ?_ | refine at_ap_ret ?_ | refine at_end ?_ | refine at_free rfl rfl ?_
        refine at_slcP (i := 0) (j := kk) rfl rfl rfl (by omega) (by omega) ?_
        repeat' first | refine at_seq ?_ | refine at_ops ?_ | refine at_nil ?_ | refine at_mv rfl ?_ | refine at_lenL rfl ?_ | refine at_guard_t rfl ?_ | refine at_guard_f rfl ?_ | refine at_guard_u rfl ?_ | (refine at_lss rfl rfl (fun _ => ?_) (fun _ => ?_) <;> try (exfalso; omega)) | (refine at_leq rfl rfl (fun _ => ?_) (fun _ => ?_) <;> try (exfalso; omega)) | (refine at_gtr rfl rfl (fun _ => ?_) (fun _ => ?_) <;> try (exfalso; omega)) | (refine at_geq rfl rfl (fun _ => ?_) (fun _ => ?_) <;> try (exfalso; omega)) | (refine at_eql rfl rfl (fun _ => ?_) (fun _ => ?_) <;> try (exfalso; omega)) | (refine at_neq rfl rfl (fun _ => ?_) (fun _ => ?_) <;> try (exfalso; omega)) | refine at_skip ?_ | refine at_true rfl ?_ | refine at_false rfl ?_ | refine at_block ?_ | refine at_blk ?_ | refine at_blk_exit ?_ | refine at_blk_ret ?_ | refine at_c_ret ?_ | refine at_o_ret ?_ | refine at_c_exit ?_ | refine at_blk_pass rfl ?_ | refine at_exit ?_ | refine at_ret ?_ | refine at_kp (by simp only [keep_cons, keep_nil, keepC_some, keepC_none, get_same, get_ne, get_nil, put_s, put_n, arg_cons, arg_nil, Nat.reduceBEq, Nat.reduceAdd] <;> rfl) ?_ | refine at_inc rfl (by omega) ?_ | refine at_add rfl rfl (by omega) ?_ | refine at_sub rfl rfl (by omega) ?_ | refine at_pick_t rfl rfl ?_ | refine at_pick_f rfl rfl ?_ | refine at_not rfl ?_ | refine at_conv64 rfl (by omega) ?_ | (refine at_max2 rfl rfl (fun _ => ?_) (fun _ => ?_) <;> try (exfalso; omega)) | (refine at_min2 rfl rfl (fun _ => ?_) (fun _ => ?_) <;> try (exfalso; omega)) | refine at_remN rfl rfl (by omega) (fun _ _ _ => ?_) | (refine at_iaddr rfl rfl (by assumption) (by omega) (fun _ _ hp => ?_); cases hp) | (refine at_iaddr_int rfl rfl (by assumption) (by omega) (fun _ _ hp => ?_); cases hp) | refine at_elemI rfl (by assumption) (by first | assumption | exact Sub.refl _ | exact fz_mem _ | exact St.sub (by assumption)) (by omega) (fun _ => ?_) | refine at_elemU8 rfl (by assumption) (by first | assumption | exact Sub.refl _ | exact fz_mem _ | exact St.sub (by assumption)) (by omega) (fun _ => ?_) | refine at_elemB rfl (by assumption) (by first | assumption | exact Sub.refl _ | exact fz_mem _ | exact St.sub (by assumption)) (by omega) (fun _ => ?_) (fun _ => ?_) | refine at_elemL rfl (by assumption) (by first | assumption | exact Sub.refl _ | exact fz_mem _ | exact St.sub (by assumption)) (by omega) (fun _ _ _ _ => ?_) | refine at_elemS rfl (by assumption) (by first | assumption | exact Sub.refl _ | exact fz_mem _ | exact St.sub (by assumption)) (by omega) (fun _ => ?_) | refine at_elemV rfl (by assumption) (by infer_instance) (by first | assumption | exact Sub.refl _ | exact fz_mem _ | exact St.sub (by assumption)) (by omega) ?_ | refine at_eqlV rfl rfl (fun _ => ?_) (fun _ => ?_) | refine at_faddr rfl ?_ | refine at_nilc rfl ?_ | refine at_ld rfl (by assumption) rfl rfl ?_ | refine at_opsA ?_ | refine at_apart rfl ?_ | refine at_ap_ret ?_ | refine at_end ?_ | refine at_free rfl rfl ?_
        have hkl2 : kk = (compactL l).length := by rw [← htk]; simp; omega
        have B3 : But (blk (.slice (some ⟨b, 0, none⟩) l.length c)) h' h3 := hB.trans (S3.but.mono fun x _ hx => hx)
        refine .inr ⟨rfl, _, rfl, B3, by rw [S3.size, hsz], .inr ⟨b, _, (l2.take kk).map (.int .i64), List.replicate (l.length - kk) (.int .i64 0) ++ (l2.map (Value.int .i64)).drop (kk + (l.length - kk)), by rw [← hkl2]; rfl, q1, by rw [S3.size]; exact q2, by rw [S3.but.prot]; exact q3, ?_, ?_⟩⟩
        · rw [S3.get]
          have hfl : (List.replicate (l.length - kk) [Value.int .i64 0]).flatten = List.replicate (l.length - kk) (.int .i64 0) := by simp
          rw [hfl]
          unfold splice
          simp only [Nat.zero_add, Nat.mul_one, List.length_replicate, List.map_take, List.append_assoc]
        · rw [← htk]
          refine cells_int fun x hx => ?_
          obtain ⟨c2, hc2⟩ := q5.mem x (List.mem_of_mem_take hx)
          exact hc2.2
    · refine ⟨_, by omega, rfl, k + 1, by omega, by omega, rfl, rfl, fun i h1 h2 h3 => ?_⟩
      rename_i hdup
      have hk1 : ((k : Int) - 1).toNat = k - 1 := by omega
      simp only [hk1] at hdup
      by_cases e : i = k
      · subst e; exact hdup
      · exact hI i h1 h2 (by omega)
    · exact .inl ⟨rfl, rfl, (by simp only [keep_cons, keep_nil, keepC_some, keepC_none, get_same, get_ne, get_nil, put_s, put_n, arg_cons, arg_nil, Nat.reduceBEq, Nat.reduceAdd] <;> rfl), compactL_id fun i h1 h2 => hI i h1 h2 (by omega)⟩
  · rintro x e h' _ (⟨rfl, rfl, hk, he⟩ | ⟨rfl, v', hv, h1, h2, h3⟩)
    · refine at_blk_exit (at_seq (at_kp hk ?_))
      repeat' first | refine at_seq ?_ | refine at_ops ?_ | refine at_nil ?_ | refine at_mv rfl ?_ | refine at_lenL rfl ?_ | refine at_guard_t rfl ?_ | refine at_guard_f rfl ?_ | refine at_guard_u rfl ?_ | (refine at_lss rfl rfl (fun _ => ?_) (fun _ => ?_) <;> try (exfalso; omega)) | (refine at_leq rfl rfl (fun _ => ?_) (fun _ => ?_) <;> try (exfalso; omega)) | (refine at_gtr rfl rfl (fun _ => ?_) (fun _ => ?_) <;> try (exfalso; omega)) | (refine at_geq rfl rfl (fun _ => ?_) (fun _ => ?_) <;> try (exfalso; omega)) | (refine at_eql rfl rfl (fun _ => ?_) (fun _ => ?_) <;> try (exfalso; omega)) | (refine at_neq rfl rfl (fun _ => ?_) (fun _ => ?_) <;> try (exfalso; omega)) | refine at_skip ?_ | refine at_true rfl ?_ | refine at_false rfl ?_ | refine at_block ?_ | refine at_blk ?_ | refine at_blk_exit ?_ | refine at_blk_ret ?_ | refine at_c_ret ?_ | refine at_o_ret ?_ | refine at_c_exit ?_ | refine at_blk_pass rfl ?_ | refine at_exit ?_ | refine at_ret ?_ | refine at_kp (by simp only [keep_cons, keep_nil, keepC_some, keepC_none, get_same, get_ne, get_nil, put_s, put_n, arg_cons, arg_nil, Nat.reduceBEq, Nat.reduceAdd] <;> rfl) ?_ | refine at_inc rfl (by omega) ?_ | refine at_add rfl rfl (by omega) ?_ | refine at_sub rfl rfl (by omega) ?_ | refine at_pick_t rfl rfl ?_ | refine at_pick_f rfl rfl ?_ | refine at_not rfl ?_ | refine at_conv64 rfl (by omega) ?_ | (refine at_max2 rfl rfl (fun _ => ?_) (fun _ => ?_) <;> try (exfalso; omega)) | (refine at_min2 rfl rfl (fun _ => ?_) (fun _ => ?_) <;> try (exfalso; omega)) | refine at_remN rfl rfl (by omega) (fun _ _ _ => ?_) | (refine at_iaddr rfl rfl (by assumption) (by omega) (fun _ _ hp => ?_); cases hp) | (refine at_iaddr_int rfl rfl (by assumption) (by omega) (fun _ _ hp => ?_); cases hp) | refine at_elemI rfl (by assumption) (by first | assumption | exact Sub.refl _ | exact fz_mem _ | exact St.sub (by assumption)) (by omega) (fun _ => ?_) | refine at_elemU8 rfl (by assumption) (by first | assumption | exact Sub.refl _ | exact fz_mem _ | exact St.sub (by assumption)) (by omega) (fun _ => ?_) | refine at_elemB rfl (by assumption) (by first | assumption | exact Sub.refl _ | exact fz_mem _ | exact St.sub (by assumption)) (by omega) (fun _ => ?_) (fun _ => ?_) | refine at_elemL rfl (by assumption) (by first | assumption | exact Sub.refl _ | exact fz_mem _ | exact St.sub (by assumption)) (by omega) (fun _ _ _ _ => ?_) | refine at_elemS rfl (by assumption) (by first | assumption | exact Sub.refl _ | exact fz_mem _ | exact St.sub (by assumption)) (by omega) (fun _ => ?_) | refine at_elemV rfl (by assumption) (by infer_instance) (by first | assumption | exact Sub.refl _ | exact fz_mem _ | exact St.sub (by assumption)) (by omega) ?_ | refine at_eqlV rfl rfl (fun _ => ?_) (fun _ => ?_) | refine at_faddr rfl ?_ | refine at_nilc rfl ?_ | refine at_ld rfl (by assumption) rfl rfl ?_ | refine at_opsA ?_ | refine at_apart rfl ?_ | refine at_ap_ret ?_ | refine at_end ?_ | refine at_free rfl rfl ?_
      refine ⟨by simp, _, rfl, ?_⟩
      exact same he
    · repeat' first | refine at_seq ?_ | refine at_ops ?_ | refine at_nil ?_ | refine at_mv rfl ?_ | refine at_lenL rfl ?_ | refine at_guard_t rfl ?_ | refine at_guard_f rfl ?_ | refine at_guard_u rfl ?_ | (refine at_lss rfl rfl (fun _ => ?_) (fun _ => ?_) <;> try (exfalso; omega)) | (refine at_leq rfl rfl (fun _ => ?_) (fun _ => ?_) <;> try (exfalso; omega)) | (refine at_gtr rfl rfl (fun _ => ?_) (fun _ => ?_) <;> try (exfalso; omega)) | (refine at_geq rfl rfl (fun _ => ?_) (fun _ => ?_) <;> try (exfalso; omega)) | (refine at_eql rfl rfl (fun _ => ?_) (fun _ => ?_) <;> try (exfalso; omega)) | (refine at_neq rfl rfl (fun _ => ?_) (fun _ => ?_) <;> try (exfalso; omega)) | refine at_skip ?_ | refine at_true rfl ?_ | refine at_false rfl ?_ | refine at_block ?_ | refine at_blk ?_ | refine at_blk_exit ?_ | refine at_blk_ret ?_ | refine at_c_ret ?_ | refine at_o_ret ?_ | refine at_c_exit ?_ | refine at_blk_pass rfl ?_ | refine at_exit ?_ | refine at_ret ?_ | refine at_kp (by simp only [keep_cons, keep_nil, keepC_some, keepC_none, get_same, get_ne, get_nil, put_s, put_n, arg_cons, arg_nil, Nat.reduceBEq, Nat.reduceAdd] <;> rfl) ?_ | refine at_inc rfl (by omega) ?_ | refine at_add rfl rfl (by omega) ?_ | refine at_sub rfl rfl (by omega) ?_ | refine at_pick_t rfl rfl ?_ | refine at_pick_f rfl rfl ?_ | refine at_not rfl ?_ | refine at_conv64 rfl (by omega) ?_ | (refine at_max2 rfl rfl (fun _ => ?_) (fun _ => ?_) <;> try (exfalso; omega)) | (refine at_min2 rfl rfl (fun _ => ?_) (fun _ => ?_) <;> try (exfalso; omega)) | refine at_remN rfl rfl (by omega) (fun _ _ _ => ?_) | (refine at_iaddr rfl rfl (by assumption) (by omega) (fun _ _ hp => ?_); cases hp) | (refine at_iaddr_int rfl rfl (by assumption) (by omega) (fun _ _ hp => ?_); cases hp) | refine at_elemI rfl (by assumption) (by first | assumption | exact Sub.refl _ | exact fz_mem _ | exact St.sub (by assumption)) (by omega) (fun _ => ?_) | refine at_elemU8 rfl (by assumption) (by first | assumption | exact Sub.refl _ | exact fz_mem _ | exact St.sub (by assumption)) (by omega) (fun _ => ?_) | refine at_elemB rfl (by assumption) (by first | assumption | exact Sub.refl _ | exact fz_mem _ | exact St.sub (by assumption)) (by omega) (fun _ => ?_) (fun _ => ?_) | refine at_elemL rfl (by assumption) (by first | assumption | exact Sub.refl _ | exact fz_mem _ | exact St.sub (by assumption)) (by omega) (fun _ _ _ _ => ?_) | refine at_elemS rfl (by assumption) (by first | assumption | exact Sub.refl _ | exact fz_mem _ | exact St.sub (by assumption)) (by omega) (fun _ => ?_) | refine at_elemV rfl (by assumption) (by infer_instance) (by first | assumption | exact Sub.refl _ | exact fz_mem _ | exact St.sub (by assumption)) (by omega) ?_ | refine at_eqlV rfl rfl (fun _ => ?_) (fun _ => ?_) | refine at_faddr rfl ?_ | refine at_nilc rfl ?_ | refine at_ld rfl (by assumption) rfl rfl ?_ | refine at_opsA ?_ | refine at_apart rfl ?_ | refine at_ap_ret ?_ | refine at_end ?_ | refine at_free rfl rfl ?_
      rw [wp_eq h1.prot]
      exact ⟨by simp, _, hv, hR v' h' h1 h2 h3⟩

/-- What a struct's result reads as. -/
theorem resV_cellN {e : Env} {a b o n : Nat} {c cs : List Value} {own : Option Nat} (he : Env.get e a = some (.pointer (some ⟨b, o, none⟩))) (hg : h.get b = some (.cells c own)) (hn : o + n ≤ c.length) (hv : (c.drop o).take n = cs) (hj : cs.all (fun v => !Heap.isJ v) = true) : resV e h (.cellN a n) = some (.agg cs.toArray) := by
  unfold resV
  simp only [he]
  unfold Heap.rd
  simp only [hg, hv]
  rw [if_pos ⟨hn, hj⟩]; rfl

/-- The set of some numbers: a list that stays. -/
theorem setOf_runs {fn fcl fs fc : FuncId} (hp : prog fn = some (.code (setOf fcl fs fc))) (hcl : prog fcl = some (.code Pre.clone)) (hs : prog fs = some (.oracle sortO)) (hc : prog fc = some (.code compact)) {l : List Int} (ha : Sl (kInt .i64) (mem h) va l) (hl : l.length ≤ 1000000) (hps : h.prot ≤ h.size)
    (hR : ∀ v h', Old h h' → Sl (kInt .i64) (fz h') v (setL l) → R (.agg #[v]) h') : Runs prog fn [va] h R := by
  obtain ⟨pa, ca, rfl⟩ := ha.form
  refine runs_here hp rfl ?_
  unfold setOf
  repeat' first | refine at_seq ?_ | refine at_ops ?_ | refine at_nil ?_ | refine at_mv rfl ?_ | refine at_lenL rfl ?_ | refine at_guard_t rfl ?_ | refine at_guard_f rfl ?_ | refine at_guard_u rfl ?_ | (refine at_lss rfl rfl (fun _ => ?_) (fun _ => ?_) <;> try (exfalso; omega)) | (refine at_leq rfl rfl (fun _ => ?_) (fun _ => ?_) <;> try (exfalso; omega)) | (refine at_gtr rfl rfl (fun _ => ?_) (fun _ => ?_) <;> try (exfalso; omega)) | (refine at_geq rfl rfl (fun _ => ?_) (fun _ => ?_) <;> try (exfalso; omega)) | (refine at_eql rfl rfl (fun _ => ?_) (fun _ => ?_) <;> try (exfalso; omega)) | (refine at_neq rfl rfl (fun _ => ?_) (fun _ => ?_) <;> try (exfalso; omega)) | refine at_skip ?_ | refine at_true rfl ?_ | refine at_false rfl ?_ | refine at_block ?_ | refine at_blk ?_ | refine at_blk_exit ?_ | refine at_blk_ret ?_ | refine at_c_ret ?_ | refine at_o_ret ?_ | refine at_c_exit ?_ | refine at_blk_pass rfl ?_ | refine at_exit ?_ | refine at_ret ?_ | refine at_kp (by simp only [keep_cons, keep_nil, keepC_some, keepC_none, get_same, get_ne, get_nil, put_s, put_n, arg_cons, arg_nil, Nat.reduceBEq, Nat.reduceAdd] <;> rfl) ?_ | refine at_inc rfl (by omega) ?_ | refine at_add rfl rfl (by omega) ?_ | refine at_sub rfl rfl (by omega) ?_ | refine at_pick_t rfl rfl ?_ | refine at_pick_f rfl rfl ?_ | refine at_not rfl ?_ | refine at_conv64 rfl (by omega) ?_ | (refine at_max2 rfl rfl (fun _ => ?_) (fun _ => ?_) <;> try (exfalso; omega)) | (refine at_min2 rfl rfl (fun _ => ?_) (fun _ => ?_) <;> try (exfalso; omega)) | refine at_remN rfl rfl (by omega) (fun _ _ _ => ?_) | (refine at_iaddr rfl rfl (by assumption) (by omega) (fun _ _ hp => ?_); cases hp) | (refine at_iaddr_int rfl rfl (by assumption) (by omega) (fun _ _ hp => ?_); cases hp) | refine at_elemI rfl (by assumption) (by first | assumption | exact Sub.refl _ | exact fz_mem _ | exact St.sub (by assumption)) (by omega) (fun _ => ?_) | refine at_elemU8 rfl (by assumption) (by first | assumption | exact Sub.refl _ | exact fz_mem _ | exact St.sub (by assumption)) (by omega) (fun _ => ?_) | refine at_elemB rfl (by assumption) (by first | assumption | exact Sub.refl _ | exact fz_mem _ | exact St.sub (by assumption)) (by omega) (fun _ => ?_) (fun _ => ?_) | refine at_elemL rfl (by assumption) (by first | assumption | exact Sub.refl _ | exact fz_mem _ | exact St.sub (by assumption)) (by omega) (fun _ _ _ _ => ?_) | refine at_elemS rfl (by assumption) (by first | assumption | exact Sub.refl _ | exact fz_mem _ | exact St.sub (by assumption)) (by omega) (fun _ => ?_) | refine at_elemV rfl (by assumption) (by infer_instance) (by first | assumption | exact Sub.refl _ | exact fz_mem _ | exact St.sub (by assumption)) (by omega) ?_ | refine at_eqlV rfl rfl (fun _ => ?_) (fun _ => ?_) | refine at_faddr rfl ?_ | refine at_nilc rfl ?_ | refine at_ld rfl (by assumption) rfl rfl ?_ | refine at_opsA ?_ | refine at_apart rfl ?_ | refine at_ap_ret ?_ | refine at_end ?_ | refine at_free rfl rfl ?_
  refine at_alloc (fun h1 o1 s1 g1 => ?_)
  repeat' first | refine at_seq ?_ | refine at_ops ?_ | refine at_nil ?_ | refine at_mv rfl ?_ | refine at_lenL rfl ?_ | refine at_guard_t rfl ?_ | refine at_guard_f rfl ?_ | refine at_guard_u rfl ?_ | (refine at_lss rfl rfl (fun _ => ?_) (fun _ => ?_) <;> try (exfalso; omega)) | (refine at_leq rfl rfl (fun _ => ?_) (fun _ => ?_) <;> try (exfalso; omega)) | (refine at_gtr rfl rfl (fun _ => ?_) (fun _ => ?_) <;> try (exfalso; omega)) | (refine at_geq rfl rfl (fun _ => ?_) (fun _ => ?_) <;> try (exfalso; omega)) | (refine at_eql rfl rfl (fun _ => ?_) (fun _ => ?_) <;> try (exfalso; omega)) | (refine at_neq rfl rfl (fun _ => ?_) (fun _ => ?_) <;> try (exfalso; omega)) | refine at_skip ?_ | refine at_true rfl ?_ | refine at_false rfl ?_ | refine at_block ?_ | refine at_blk ?_ | refine at_blk_exit ?_ | refine at_blk_ret ?_ | refine at_c_ret ?_ | refine at_o_ret ?_ | refine at_c_exit ?_ | refine at_blk_pass rfl ?_ | refine at_exit ?_ | refine at_ret ?_ | refine at_kp (by simp only [keep_cons, keep_nil, keepC_some, keepC_none, get_same, get_ne, get_nil, put_s, put_n, arg_cons, arg_nil, Nat.reduceBEq, Nat.reduceAdd] <;> rfl) ?_ | refine at_inc rfl (by omega) ?_ | refine at_add rfl rfl (by omega) ?_ | refine at_sub rfl rfl (by omega) ?_ | refine at_pick_t rfl rfl ?_ | refine at_pick_f rfl rfl ?_ | refine at_not rfl ?_ | refine at_conv64 rfl (by omega) ?_ | (refine at_max2 rfl rfl (fun _ => ?_) (fun _ => ?_) <;> try (exfalso; omega)) | (refine at_min2 rfl rfl (fun _ => ?_) (fun _ => ?_) <;> try (exfalso; omega)) | refine at_remN rfl rfl (by omega) (fun _ _ _ => ?_) | (refine at_iaddr rfl rfl (by assumption) (by omega) (fun _ _ hp => ?_); cases hp) | (refine at_iaddr_int rfl rfl (by assumption) (by omega) (fun _ _ hp => ?_); cases hp) | refine at_elemI rfl (by assumption) (by first | assumption | exact Sub.refl _ | exact fz_mem _ | exact St.sub (by assumption)) (by omega) (fun _ => ?_) | refine at_elemU8 rfl (by assumption) (by first | assumption | exact Sub.refl _ | exact fz_mem _ | exact St.sub (by assumption)) (by omega) (fun _ => ?_) | refine at_elemB rfl (by assumption) (by first | assumption | exact Sub.refl _ | exact fz_mem _ | exact St.sub (by assumption)) (by omega) (fun _ => ?_) (fun _ => ?_) | refine at_elemL rfl (by assumption) (by first | assumption | exact Sub.refl _ | exact fz_mem _ | exact St.sub (by assumption)) (by omega) (fun _ _ _ _ => ?_) | refine at_elemS rfl (by assumption) (by first | assumption | exact Sub.refl _ | exact fz_mem _ | exact St.sub (by assumption)) (by omega) (fun _ => ?_) | refine at_elemV rfl (by assumption) (by infer_instance) (by first | assumption | exact Sub.refl _ | exact fz_mem _ | exact St.sub (by assumption)) (by omega) ?_ | refine at_eqlV rfl rfl (fun _ => ?_) (fun _ => ?_) | refine at_faddr rfl ?_ | refine at_nilc rfl ?_ | refine at_ld rfl (by assumption) rfl rfl ?_ | refine at_opsA ?_ | refine at_apart rfl ?_ | refine at_ap_ret ?_ | refine at_end ?_ | refine at_free rfl rfl ?_
  refine at_cl rfl rfl rfl rfl (Pre.clone_runs (K := kInt .i64) (f := .int .i64) hcl (ha.mono o1.sub) (Sub.refl _) (by rw [o1.prot, s1]; omega) (by omega) (fun v2 h2 o2 w2 => ?_))
  intro _ _
  repeat' first | refine at_seq ?_ | refine at_ops ?_ | refine at_nil ?_ | refine at_mv rfl ?_ | refine at_lenL rfl ?_ | refine at_guard_t rfl ?_ | refine at_guard_f rfl ?_ | refine at_guard_u rfl ?_ | (refine at_lss rfl rfl (fun _ => ?_) (fun _ => ?_) <;> try (exfalso; omega)) | (refine at_leq rfl rfl (fun _ => ?_) (fun _ => ?_) <;> try (exfalso; omega)) | (refine at_gtr rfl rfl (fun _ => ?_) (fun _ => ?_) <;> try (exfalso; omega)) | (refine at_geq rfl rfl (fun _ => ?_) (fun _ => ?_) <;> try (exfalso; omega)) | (refine at_eql rfl rfl (fun _ => ?_) (fun _ => ?_) <;> try (exfalso; omega)) | (refine at_neq rfl rfl (fun _ => ?_) (fun _ => ?_) <;> try (exfalso; omega)) | refine at_skip ?_ | refine at_true rfl ?_ | refine at_false rfl ?_ | refine at_block ?_ | refine at_blk ?_ | refine at_blk_exit ?_ | refine at_blk_ret ?_ | refine at_c_ret ?_ | refine at_o_ret ?_ | refine at_c_exit ?_ | refine at_blk_pass rfl ?_ | refine at_exit ?_ | refine at_ret ?_ | refine at_kp (by simp only [keep_cons, keep_nil, keepC_some, keepC_none, get_same, get_ne, get_nil, put_s, put_n, arg_cons, arg_nil, Nat.reduceBEq, Nat.reduceAdd] <;> rfl) ?_ | refine at_inc rfl (by omega) ?_ | refine at_add rfl rfl (by omega) ?_ | refine at_sub rfl rfl (by omega) ?_ | refine at_pick_t rfl rfl ?_ | refine at_pick_f rfl rfl ?_ | refine at_not rfl ?_ | refine at_conv64 rfl (by omega) ?_ | (refine at_max2 rfl rfl (fun _ => ?_) (fun _ => ?_) <;> try (exfalso; omega)) | (refine at_min2 rfl rfl (fun _ => ?_) (fun _ => ?_) <;> try (exfalso; omega)) | refine at_remN rfl rfl (by omega) (fun _ _ _ => ?_) | (refine at_iaddr rfl rfl (by assumption) (by omega) (fun _ _ hp => ?_); cases hp) | (refine at_iaddr_int rfl rfl (by assumption) (by omega) (fun _ _ hp => ?_); cases hp) | refine at_elemI rfl (by assumption) (by first | assumption | exact Sub.refl _ | exact fz_mem _ | exact St.sub (by assumption)) (by omega) (fun _ => ?_) | refine at_elemU8 rfl (by assumption) (by first | assumption | exact Sub.refl _ | exact fz_mem _ | exact St.sub (by assumption)) (by omega) (fun _ => ?_) | refine at_elemB rfl (by assumption) (by first | assumption | exact Sub.refl _ | exact fz_mem _ | exact St.sub (by assumption)) (by omega) (fun _ => ?_) (fun _ => ?_) | refine at_elemL rfl (by assumption) (by first | assumption | exact Sub.refl _ | exact fz_mem _ | exact St.sub (by assumption)) (by omega) (fun _ _ _ _ => ?_) | refine at_elemS rfl (by assumption) (by first | assumption | exact Sub.refl _ | exact fz_mem _ | exact St.sub (by assumption)) (by omega) (fun _ => ?_) | refine at_elemV rfl (by assumption) (by infer_instance) (by first | assumption | exact Sub.refl _ | exact fz_mem _ | exact St.sub (by assumption)) (by omega) ?_ | refine at_eqlV rfl rfl (fun _ => ?_) (fun _ => ?_) | refine at_faddr rfl ?_ | refine at_nilc rfl ?_ | refine at_ld rfl (by assumption) rfl rfl ?_ | refine at_opsA ?_ | refine at_apart rfl ?_ | refine at_ap_ret ?_ | refine at_end ?_ | refine at_free rfl rfl ?_
  refine at_cl rfl rfl rfl rfl (sort_runs hs w2 (by omega) (fun h3 B3 s3 w3 => ?_))
  intro _ _
  repeat' first | refine at_seq ?_ | refine at_ops ?_ | refine at_nil ?_ | refine at_mv rfl ?_ | refine at_lenL rfl ?_ | refine at_guard_t rfl ?_ | refine at_guard_f rfl ?_ | refine at_guard_u rfl ?_ | (refine at_lss rfl rfl (fun _ => ?_) (fun _ => ?_) <;> try (exfalso; omega)) | (refine at_leq rfl rfl (fun _ => ?_) (fun _ => ?_) <;> try (exfalso; omega)) | (refine at_gtr rfl rfl (fun _ => ?_) (fun _ => ?_) <;> try (exfalso; omega)) | (refine at_geq rfl rfl (fun _ => ?_) (fun _ => ?_) <;> try (exfalso; omega)) | (refine at_eql rfl rfl (fun _ => ?_) (fun _ => ?_) <;> try (exfalso; omega)) | (refine at_neq rfl rfl (fun _ => ?_) (fun _ => ?_) <;> try (exfalso; omega)) | refine at_skip ?_ | refine at_true rfl ?_ | refine at_false rfl ?_ | refine at_block ?_ | refine at_blk ?_ | refine at_blk_exit ?_ | refine at_blk_ret ?_ | refine at_c_ret ?_ | refine at_o_ret ?_ | refine at_c_exit ?_ | refine at_blk_pass rfl ?_ | refine at_exit ?_ | refine at_ret ?_ | refine at_kp (by simp only [keep_cons, keep_nil, keepC_some, keepC_none, get_same, get_ne, get_nil, put_s, put_n, arg_cons, arg_nil, Nat.reduceBEq, Nat.reduceAdd] <;> rfl) ?_ | refine at_inc rfl (by omega) ?_ | refine at_add rfl rfl (by omega) ?_ | refine at_sub rfl rfl (by omega) ?_ | refine at_pick_t rfl rfl ?_ | refine at_pick_f rfl rfl ?_ | refine at_not rfl ?_ | refine at_conv64 rfl (by omega) ?_ | (refine at_max2 rfl rfl (fun _ => ?_) (fun _ => ?_) <;> try (exfalso; omega)) | (refine at_min2 rfl rfl (fun _ => ?_) (fun _ => ?_) <;> try (exfalso; omega)) | refine at_remN rfl rfl (by omega) (fun _ _ _ => ?_) | (refine at_iaddr rfl rfl (by assumption) (by omega) (fun _ _ hp => ?_); cases hp) | (refine at_iaddr_int rfl rfl (by assumption) (by omega) (fun _ _ hp => ?_); cases hp) | refine at_elemI rfl (by assumption) (by first | assumption | exact Sub.refl _ | exact fz_mem _ | exact St.sub (by assumption)) (by omega) (fun _ => ?_) | refine at_elemU8 rfl (by assumption) (by first | assumption | exact Sub.refl _ | exact fz_mem _ | exact St.sub (by assumption)) (by omega) (fun _ => ?_) | refine at_elemB rfl (by assumption) (by first | assumption | exact Sub.refl _ | exact fz_mem _ | exact St.sub (by assumption)) (by omega) (fun _ => ?_) (fun _ => ?_) | refine at_elemL rfl (by assumption) (by first | assumption | exact Sub.refl _ | exact fz_mem _ | exact St.sub (by assumption)) (by omega) (fun _ _ _ _ => ?_) | refine at_elemS rfl (by assumption) (by first | assumption | exact Sub.refl _ | exact fz_mem _ | exact St.sub (by assumption)) (by omega) (fun _ => ?_) | refine at_elemV rfl (by assumption) (by infer_instance) (by first | assumption | exact Sub.refl _ | exact fz_mem _ | exact St.sub (by assumption)) (by omega) ?_ | refine at_eqlV rfl rfl (fun _ => ?_) (fun _ => ?_) | refine at_faddr rfl ?_ | refine at_nilc rfl ?_ | refine at_ld rfl (by assumption) rfl rfl ?_ | refine at_opsA ?_ | refine at_apart rfl ?_ | refine at_ap_ret ?_ | refine at_end ?_ | refine at_free rfl rfl ?_
  have hsl : (sortL l).length = l.length := by unfold sortL; simp
  refine at_cl rfl rfl rfl rfl (compact_runs hc w3 (by omega) (fun v4 h4 B4 s4 w4 => ?_))
  intro _ _
  obtain ⟨g, hless, hst, hgs, hgp, hgb, hrd⟩ := (w4.flat flat_int (m' := noM)).freeze
  have hnb : ∀ b, b < h1.size → ¬ blk v2 b := fun b hb hbb => by have := (w2.blk_ge hbb).1; omega
  have o4 : ∀ b, b < h1.size → g.get b = h1.get b := fun b hb => by
    rw [hgb.get b (by have := o2.size; omega) (by omega), B4.get b (by have := o2.size; omega) (hnb b hb), B3.get b (by have := o2.size; omega) (hnb b hb), o2.get b hb]
  have p4 : g.prot = h1.prot := by rw [hgp, B4.prot, B3.prot, o2.prot]
  have hsz : h1.size ≤ g.size := by rw [hgs, s4, s3]; exact o2.size
  refine at_less_o hless hst ?_
  obtain ⟨p4', c4, rfl⟩ := w4.form
  repeat' first | refine at_seq ?_ | refine at_ops ?_ | refine at_nil ?_ | refine at_mv rfl ?_ | refine at_lenL rfl ?_ | refine at_guard_t rfl ?_ | refine at_guard_f rfl ?_ | refine at_guard_u rfl ?_ | (refine at_lss rfl rfl (fun _ => ?_) (fun _ => ?_) <;> try (exfalso; omega)) | (refine at_leq rfl rfl (fun _ => ?_) (fun _ => ?_) <;> try (exfalso; omega)) | (refine at_gtr rfl rfl (fun _ => ?_) (fun _ => ?_) <;> try (exfalso; omega)) | (refine at_geq rfl rfl (fun _ => ?_) (fun _ => ?_) <;> try (exfalso; omega)) | (refine at_eql rfl rfl (fun _ => ?_) (fun _ => ?_) <;> try (exfalso; omega)) | (refine at_neq rfl rfl (fun _ => ?_) (fun _ => ?_) <;> try (exfalso; omega)) | refine at_skip ?_ | refine at_true rfl ?_ | refine at_false rfl ?_ | refine at_block ?_ | refine at_blk ?_ | refine at_blk_exit ?_ | refine at_blk_ret ?_ | refine at_c_ret ?_ | refine at_o_ret ?_ | refine at_c_exit ?_ | refine at_blk_pass rfl ?_ | refine at_exit ?_ | refine at_ret ?_ | refine at_kp (by simp only [keep_cons, keep_nil, keepC_some, keepC_none, get_same, get_ne, get_nil, put_s, put_n, arg_cons, arg_nil, Nat.reduceBEq, Nat.reduceAdd] <;> rfl) ?_ | refine at_inc rfl (by omega) ?_ | refine at_add rfl rfl (by omega) ?_ | refine at_sub rfl rfl (by omega) ?_ | refine at_pick_t rfl rfl ?_ | refine at_pick_f rfl rfl ?_ | refine at_not rfl ?_ | refine at_conv64 rfl (by omega) ?_ | (refine at_max2 rfl rfl (fun _ => ?_) (fun _ => ?_) <;> try (exfalso; omega)) | (refine at_min2 rfl rfl (fun _ => ?_) (fun _ => ?_) <;> try (exfalso; omega)) | refine at_remN rfl rfl (by omega) (fun _ _ _ => ?_) | (refine at_iaddr rfl rfl (by assumption) (by omega) (fun _ _ hp => ?_); cases hp) | (refine at_iaddr_int rfl rfl (by assumption) (by omega) (fun _ _ hp => ?_); cases hp) | refine at_elemI rfl (by assumption) (by first | assumption | exact Sub.refl _ | exact fz_mem _ | exact St.sub (by assumption)) (by omega) (fun _ => ?_) | refine at_elemU8 rfl (by assumption) (by first | assumption | exact Sub.refl _ | exact fz_mem _ | exact St.sub (by assumption)) (by omega) (fun _ => ?_) | refine at_elemB rfl (by assumption) (by first | assumption | exact Sub.refl _ | exact fz_mem _ | exact St.sub (by assumption)) (by omega) (fun _ => ?_) (fun _ => ?_) | refine at_elemL rfl (by assumption) (by first | assumption | exact Sub.refl _ | exact fz_mem _ | exact St.sub (by assumption)) (by omega) (fun _ _ _ _ => ?_) | refine at_elemS rfl (by assumption) (by first | assumption | exact Sub.refl _ | exact fz_mem _ | exact St.sub (by assumption)) (by omega) (fun _ => ?_) | refine at_elemV rfl (by assumption) (by infer_instance) (by first | assumption | exact Sub.refl _ | exact fz_mem _ | exact St.sub (by assumption)) (by omega) ?_ | refine at_eqlV rfl rfl (fun _ => ?_) (fun _ => ?_) | refine at_faddr rfl ?_ | refine at_nilc rfl ?_ | refine at_ld rfl (by assumption) rfl rfl ?_ | refine at_opsA ?_ | refine at_apart rfl ?_ | refine at_ap_ret ?_ | refine at_end ?_ | refine at_free rfl rfl ?_
  have g1' : g.get h.size = some (.cells [.slice none 0 0] (some 0)) := by rw [o4 _ (by omega), g1]
  refine at_st (vs := [.slice p4' (compactL (sortL l)).length c4]) rfl rfl rfl rfl rfl g1' (by rw [p4, o1.prot]; exact hps) (by simp) rfl (fun h5 S5 => ?_)
  repeat' first | refine at_seq ?_ | refine at_ops ?_ | refine at_nil ?_ | refine at_mv rfl ?_ | refine at_lenL rfl ?_ | refine at_guard_t rfl ?_ | refine at_guard_f rfl ?_ | refine at_guard_u rfl ?_ | (refine at_lss rfl rfl (fun _ => ?_) (fun _ => ?_) <;> try (exfalso; omega)) | (refine at_leq rfl rfl (fun _ => ?_) (fun _ => ?_) <;> try (exfalso; omega)) | (refine at_gtr rfl rfl (fun _ => ?_) (fun _ => ?_) <;> try (exfalso; omega)) | (refine at_geq rfl rfl (fun _ => ?_) (fun _ => ?_) <;> try (exfalso; omega)) | (refine at_eql rfl rfl (fun _ => ?_) (fun _ => ?_) <;> try (exfalso; omega)) | (refine at_neq rfl rfl (fun _ => ?_) (fun _ => ?_) <;> try (exfalso; omega)) | refine at_skip ?_ | refine at_true rfl ?_ | refine at_false rfl ?_ | refine at_block ?_ | refine at_blk ?_ | refine at_blk_exit ?_ | refine at_blk_ret ?_ | refine at_c_ret ?_ | refine at_o_ret ?_ | refine at_c_exit ?_ | refine at_blk_pass rfl ?_ | refine at_exit ?_ | refine at_ret ?_ | refine at_kp (by simp only [keep_cons, keep_nil, keepC_some, keepC_none, get_same, get_ne, get_nil, put_s, put_n, arg_cons, arg_nil, Nat.reduceBEq, Nat.reduceAdd] <;> rfl) ?_ | refine at_inc rfl (by omega) ?_ | refine at_add rfl rfl (by omega) ?_ | refine at_sub rfl rfl (by omega) ?_ | refine at_pick_t rfl rfl ?_ | refine at_pick_f rfl rfl ?_ | refine at_not rfl ?_ | refine at_conv64 rfl (by omega) ?_ | (refine at_max2 rfl rfl (fun _ => ?_) (fun _ => ?_) <;> try (exfalso; omega)) | (refine at_min2 rfl rfl (fun _ => ?_) (fun _ => ?_) <;> try (exfalso; omega)) | refine at_remN rfl rfl (by omega) (fun _ _ _ => ?_) | (refine at_iaddr rfl rfl (by assumption) (by omega) (fun _ _ hp => ?_); cases hp) | (refine at_iaddr_int rfl rfl (by assumption) (by omega) (fun _ _ hp => ?_); cases hp) | refine at_elemI rfl (by assumption) (by first | assumption | exact Sub.refl _ | exact fz_mem _ | exact St.sub (by assumption)) (by omega) (fun _ => ?_) | refine at_elemU8 rfl (by assumption) (by first | assumption | exact Sub.refl _ | exact fz_mem _ | exact St.sub (by assumption)) (by omega) (fun _ => ?_) | refine at_elemB rfl (by assumption) (by first | assumption | exact Sub.refl _ | exact fz_mem _ | exact St.sub (by assumption)) (by omega) (fun _ => ?_) (fun _ => ?_) | refine at_elemL rfl (by assumption) (by first | assumption | exact Sub.refl _ | exact fz_mem _ | exact St.sub (by assumption)) (by omega) (fun _ _ _ _ => ?_) | refine at_elemS rfl (by assumption) (by first | assumption | exact Sub.refl _ | exact fz_mem _ | exact St.sub (by assumption)) (by omega) (fun _ => ?_) | refine at_elemV rfl (by assumption) (by infer_instance) (by first | assumption | exact Sub.refl _ | exact fz_mem _ | exact St.sub (by assumption)) (by omega) ?_ | refine at_eqlV rfl rfl (fun _ => ?_) (fun _ => ?_) | refine at_faddr rfl ?_ | refine at_nilc rfl ?_ | refine at_ld rfl (by assumption) rfl rfl ?_ | refine at_opsA ?_ | refine at_apart rfl ?_ | refine at_ap_ret ?_ | refine at_end ?_ | refine at_free rfl rfl ?_
  refine ⟨by simp, [.agg #[.slice p4' (compactL (sortL l)).length c4]], ?_, ?_⟩
  · simp only [resL]
    rw [resV_cellN (cs := [.slice p4' (compactL (sortL l)).length c4]) rfl S5.get (Nat.le_refl 1) rfl rfl]; rfl
  · have hp5 : h5.prot = h.prot := by rw [S5.but.prot, p4, o1.prot]
    rw [wp_eq hp5]
    refine hR _ _ ⟨by rw [S5.size]; have := o1.size; omega, hp5, fun b hb => ?_⟩ ?_
    · rw [S5.but.get b (by have := o1.size; omega) (by omega), o4 b (by have := o1.size; omega), o1.get b hb]
    · exact hrd _ (noM_sub _) (St.fz S5.st)
end
end Go.AM.G.Set
