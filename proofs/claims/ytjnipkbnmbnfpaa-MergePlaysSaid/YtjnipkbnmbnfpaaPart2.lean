/- What the functions do, part 2. -/
import Derived.Test.YtjnipkbnmbnfpaaPart1
import Derived.Test.YtjnipkbnmbnfpaaSetLaw
namespace Go.AMS
open Go.AM hiding Kt At WP WL Runs RunsY
open Go.AM.G
set_option linter.unusedVariables false
set_option linter.unusedSimpArgs false
set_option linter.unusedSectionVars false
set_option maxRecDepth 100000
set_option maxHeartbeats 1000000
attribute [local irreducible] AtS AtV AtC AtG FinA Spec Post LP G.At G.WP G.WL pt own fro rdl ro hx mp lrec elt sub

open Go.AM.G.Set
section
def Ce.new (r : List Int) : Ce := ⟨r, 0, [], 0, false, 0, false⟩
def M0 (rows : List (List Int)) : Ms := ⟨rows.map Ce.new, [], false⟩
theorem sum_map_new (rows : List (List Int)) : ((rows.map Ce.new).map Ce.w).sum = 3 * cnt rows + rows.length := by
  induction rows with
  | nil => rfl
  | cons r rows ih =>
    simp only [List.map_cons, List.sum_cons, List.length_cons] at ih ⊢
    rw [ih]
    unfold cnt
    simp only [List.map_cons, List.sum_cons]
    show 3 * (r.length - 0) + 2 * 0 + 0 + 1 + _ = _
    omega
theorem M0_mu (rows : List (List Int)) : (M0 rows).mu = 3 * cnt rows + rows.length + 1 := by
  unfold Ms.mu M0; dsimp only; rw [sum_map_new]; rfl
theorem cnt_le {rows : List (List Int)} {k : Nat} (h : ∀ x ∈ rows, x.length ≤ k) : cnt rows ≤ k * rows.length := by
  induction rows with
  | nil => simp [cnt]
  | cons r rows ih =>
    have h1 := h r (by simp)
    have h2 := ih (fun x hx => h x (by simp [hx]))
    unfold cnt at *
    simp only [List.map_cons, List.sum_cons, List.length_cons, Nat.mul_add]
    omega
theorem M0_ok {rows : List (List Int)} {m : Nat} (h1 : 0 < m) (h2 : m ≤ 64) (hf : rows.length ≤ 20) (hr : ∀ x ∈ rows, x.length ≤ 40) : (M0 rows).ok m := by
  have hc := cnt_le hr
  refine ⟨⟨h1, h2⟩, by simp [M0]; omega, fun c hc => ?_, by rw [M0_mu]; simp [M0]; omega, fun h => (by cases h)⟩
  obtain ⟨r, hr', rfl⟩ := List.mem_map.1 hc
  have := hr r hr'
  exact ⟨Nat.zero_le _, Nat.zero_le _, fun h => (by cases h), rfl, by simp [Ce.new], by show r.length ≤ 1000; omega⟩
theorem sentN_le {m : Nat} {M : Ms} (ok : M.ok m) (k : Nat) : (M.mg m).sentN k ≤ 1000000 := by
  unfold Mg.sentN
  have hn := ok.n
  have : ∀ (l : List Sn), (∀ s ∈ l, s.sent ≤ 1000) → (l.map (·.sent)).sum ≤ 1000 * l.length := by
    intro l
    induction l with
    | nil => intro _; simp
    | cons a l ih =>
      intro h
      have h1 := h a (by simp)
      have h2 := ih (fun s hs => h s (by simp [hs]))
      simp only [List.map_cons, List.sum_cons, List.length_cons]; omega
  refine Nat.le_trans (this _ fun s hs => ?_) ?_
  · have hm := List.mem_of_mem_take hs
    obtain ⟨c, hc, rfl⟩ := List.mem_map.1 hm
    have h1 := (ok.c c hc).s; have h2 := (ok.c c hc).n
    show c.sent ≤ 1000; omega
  · have : ((M.mg m).l.take k).length ≤ M.c.length := by rw [List.length_take, mg_len]; omega
    omega
theorem merge_Run_int_spec {p : Option Addr} {c sb : Nat} {rows : List (List Int)} {w : Int} {s : Scr} (hf : rows.length ≤ 20) (hr : ∀ x ∈ rows, x.length ≤ 40) (hs0 : s.steps = 0) (hu0 : s.used ≤ 1000000) :
    Spec prog1 n_merge_Run_int [.slice p rows.length c, ordV n_l11_order, .int .i64 w, .pointer (some ⟨sb, 0, none⟩)] [fro (kSl (kInt .i64)) p c rows, scr true sb s] (fun R => (w < 1 ∨ 64 < w → R (.tuple #[.slice none 0 0, .agg #[.int .i64 0, .int .i64 0, .int .i64 0], .int .i64 2]) [scr true sb s]) ∧
      ∀ n : Nat, w = n → 0 < n → n ≤ 64 → ∀ M' s' e p' c', runM n (M0 rows).mu (M0 rows) s = (M', s', e) → R (.tuple #[.slice p' (if e = 0 then M'.out else []).length c', .agg #[.int .i64 (s'.steps : Int), .int .i64 ((M'.mg n).sentN (M'.mg n).l.length : Int), .int .i64 (((M'.mg n).exN (M'.mg n).l.length + (bif M'.exited then 1 else 0) : Nat) : Int)], .int .i64 e]) [scr true sb s', own (kInt .i64) p' c' (if e = 0 then M'.out else [])]) := by
  refine spec_code c_merge_Run_int rfl ?_; intro n F R hR; unfold F_merge_Run_int
  repeat' first | apply step | (apply g_op; · repeat first | exact Evs.nil | (apply Evs.cons; exact rfl)) | (refine Br.mk (fun _ => ?_) (fun _ => ?_) <;> try (exfalso; omega)) | (refine Sd.mk ?_ ?_; · ((repeat' apply And.intro) <;> first | omega | trivial | assumption | (simp; done) | (simp; omega))) | (refine Sx.mk ?_ ?_; · omega) | refine Fa.mk (fun _ => ?_) | refine Im.mk (fun _ => ?_) | apply Lw.go | refine g_cond ?_ | refine g_guard ?_ | refine g_keep ?_ | refine g_pass ?_ | refine g_fin ?_ | (apply g_ap; exact rfl; exact rfl; assumption)
  first | refine at_callS (pipe_New_int_spec (w := w)) ?_ | refine at_callR (pipe_New_int_spec (w := w)) ?_
  refine ⟨fun h => ?_, fun m hm h1 h2 b => ?_⟩
  · repeat' first | apply step | (apply g_op; · repeat first | exact Evs.nil | (apply Evs.cons; exact rfl)) | (refine Br.mk (fun _ => ?_) (fun _ => ?_) <;> try (exfalso; omega)) | (refine Sd.mk ?_ ?_; · ((repeat' apply And.intro) <;> first | omega | trivial | assumption | (simp; done) | (simp; omega))) | (refine Sx.mk ?_ ?_; · omega) | refine Fa.mk (fun _ => ?_) | refine Im.mk (fun _ => ?_) | apply Lw.go | refine g_cond ?_ | refine g_guard ?_ | refine g_keep ?_ | refine g_pass ?_ | refine g_fin ?_ | (apply g_ap; exact rfl; exact rfl; assumption)
    exact fin (hR.1 h)
  repeat' first | apply step | (apply g_op; · repeat first | exact Evs.nil | (apply Evs.cons; exact rfl)) | (refine Br.mk (fun _ => ?_) (fun _ => ?_) <;> try (exfalso; omega)) | (refine Sd.mk ?_ ?_; · ((repeat' apply And.intro) <;> first | omega | trivial | assumption | (simp; done) | (simp; omega))) | (refine Sx.mk ?_ ?_; · omega) | refine Fa.mk (fun _ => ?_) | refine Im.mk (fun _ => ?_) | apply Lw.go | refine g_cond ?_ | refine g_guard ?_ | refine g_keep ?_ | refine g_pass ?_ | refine g_fin ?_ | (apply g_ap; exact rfl; exact rfl; assumption)
  rename_i x9 _ hb kb mb xm
  subst hm
  have hf' : (rows.map Ce.new).length ≤ 20 := by simpa using hf
  -- the senders
  refine at_loopS (ι := Nat × (Option Addr × Nat) × List Nat) (E := fun k => [(2, .int .i64 (m : Int)), (3, .pointer (some ⟨sb, 0, none⟩)), (9, .pointer (some ⟨x9, 0, none⟩)), (13, .pointer (some ⟨xm, 0, none⟩)), (43, .slice p rows.length c), (44, .int .i64 (rows.length : Int)), (45, .int .i64 (k.1 : Int))]) (Δ := fun k => pt xm [.pointer (some ⟨mb, 0, none⟩)] 0 :: pt mb [.slice k.2.1.1 k.2.2.length k.2.1.2, ordV n_l11_order, .slice (some ⟨hb, 0, none⟩) rows.length rows.length, .slice (some ⟨kb, 0, none⟩) rows.length rows.length, .slice none 0 0, .bool false] 0 :: own kPtr k.2.1.1 k.2.1.2 k.2.2 :: each snd k.2.2 (((rows.map Ce.new).map (Ce.sn m)).take k.1) :: own (kInt .i64) (some ⟨hb, 0, none⟩) rows.length (List.replicate rows.length 0) :: own kBool (some ⟨kb, 0, none⟩) rows.length (List.replicate rows.length false) :: pt x9 [.int .i64 0, .int .i64 0, .int .i64 0] 0 :: fro (kSl (kInt .i64)) p c rows :: scr true sb s :: F) (P := fun k => k.1 ≤ rows.length ∧ k.2.2.length = k.1) (μ := fun k => rows.length - k.1) (0, (none, 0), []) ⟨Nat.zero_le _, rfl⟩ ?_ (hs := by
    (apply Ent.more; · repeat first | exact Ent.here | apply Ent.there)
    (apply Ent.more; · repeat first | exact Ent.here | apply Ent.there)
    (apply Ent.more; · exact ent_nil)
    (apply Ent.more; · exact each_nil)
    repeat first | exact Ent.refl _ | (apply Ent.more; · repeat first | exact Ent.keep | exact Ent.here | exact Ent.lend | exact ent_nil | apply Ent.there) | apply Ent.drop)
  · rintro ⟨k, ⟨lp, lc⟩, bs⟩ ⟨hk, hbl⟩
    dsimp only at hk hbl ⊢
    rcases Nat.lt_or_ge k rows.length with hk' | hk'
    · have hrk := hr _ (List.getElem_mem hk')
      repeat' first | apply step | (apply g_op; · repeat first | exact Evs.nil | (apply Evs.cons; exact rfl)) | (refine Br.mk (fun _ => ?_) (fun _ => ?_) <;> try (exfalso; omega)) | (refine Sd.mk ?_ ?_; · ((repeat' apply And.intro) <;> first | omega | trivial | assumption | (simp; done) | (simp; omega))) | (refine Sx.mk ?_ ?_; · omega) | refine Fa.mk (fun _ => ?_) | refine Im.mk (fun _ => ?_) | apply Lw.go | refine g_cond ?_ | refine g_guard ?_ | refine g_keep ?_ | refine g_pass ?_ | refine g_fin ?_ | (apply g_ap; exact rfl; exact rfl; assumption)
      rename_i rp rc hrl
      first | refine at_callS (pipe_New_int_spec (w := (m : Int))) ?_ | refine at_callR (pipe_New_int_spec (w := (m : Int))) ?_
      refine ⟨fun h => by exfalso; omega, fun m' hm' h1' h2' pb => ?_⟩
      obtain rfl : m = m' := by omega
      repeat' first | apply step | (apply g_op; · repeat first | exact Evs.nil | (apply Evs.cons; exact rfl)) | (refine Br.mk (fun _ => ?_) (fun _ => ?_) <;> try (exfalso; omega)) | (refine Sd.mk ?_ ?_; · ((repeat' apply And.intro) <;> first | omega | trivial | assumption | (simp; done) | (simp; omega))) | (refine Sx.mk ?_ ?_; · omega) | refine Fa.mk (fun _ => ?_) | refine Im.mk (fun _ => ?_) | apply Lw.go | refine g_cond ?_ | refine g_guard ?_ | refine g_keep ?_ | refine g_pass ?_ | refine g_fin ?_ | (apply g_ap; exact rfl; exact rfl; assumption)
      refine at_opsKS xm 10 (fun sz hsz => ?_)
      repeat' first | apply step | (apply g_op; · repeat first | exact Evs.nil | (apply Evs.cons; exact rfl)) | (refine Br.mk (fun _ => ?_) (fun _ => ?_) <;> try (exfalso; omega)) | (refine Sd.mk ?_ ?_; · ((repeat' apply And.intro) <;> first | omega | trivial | assumption | (simp; done) | (simp; omega))) | (refine Sx.mk ?_ ?_; · omega) | refine Fa.mk (fun _ => ?_) | refine Im.mk (fun _ => ?_) | apply Lw.go | refine g_cond ?_ | refine g_guard ?_ | refine g_keep ?_ | refine g_pass ?_ | refine g_fin ?_ | (apply g_ap; exact rfl; exact rfl; assumption)
      refine kp1 xm ?_ hsz
      repeat' first | apply step | (apply g_op; · repeat first | exact Evs.nil | (apply Evs.cons; exact rfl)) | (refine Br.mk (fun _ => ?_) (fun _ => ?_) <;> try (exfalso; omega)) | (refine Sd.mk ?_ ?_; · ((repeat' apply And.intro) <;> first | omega | trivial | assumption | (simp; done) | (simp; omega))) | (refine Sx.mk ?_ ?_; · omega) | refine Fa.mk (fun _ => ?_) | refine Im.mk (fun _ => ?_) | apply Lw.go | refine g_cond ?_ | refine g_guard ?_ | refine g_keep ?_ | refine g_pass ?_ | refine g_fin ?_ | (apply g_ap; exact rfl; exact rfl; assumption)
      rename_i sbk _ lp2 lc2
      refine kp2 ?_
      repeat' first | apply step | (apply g_op; · repeat first | exact Evs.nil | (apply Evs.cons; exact rfl)) | (refine Br.mk (fun _ => ?_) (fun _ => ?_) <;> try (exfalso; omega)) | (refine Sd.mk ?_ ?_; · ((repeat' apply And.intro) <;> first | omega | trivial | assumption | (simp; done) | (simp; omega))) | (refine Sx.mk ?_ ?_; · omega) | refine Fa.mk (fun _ => ?_) | refine Im.mk (fun _ => ?_) | apply Lw.go | refine g_cond ?_ | refine g_guard ?_ | refine g_keep ?_ | refine g_pass ?_ | refine g_fin ?_ | (apply g_ap; exact rfl; exact rfl; assumption)
      have hkc : k < (rows.map Ce.new).length := by simpa using hk'
      have hsn : ((rows.map Ce.new).map (Ce.sn m))[k]'(by simpa using hk') = (Ce.new rows[k]).sn m := by simp
      refine at_foldP (snd sbk ((Ce.new rows[k]).sn m)) rfl ((rp, rc), pb) ⟨by show rows[k].length ≤ 1000; omega, Nat.zero_le _⟩ ?_
      refine at_via2 (each_snoc (g := snd) (a := sbk) (b := (Ce.new rows[k]).sn m) (xs := bs) (ys := ((rows.map Ce.new).map (Ce.sn m)).take k) (by simp; omega)) ?_
      rw [← hsn, take_snoc (by simpa using hk')]
      exact lp_next (k + 1, (lp2, lc2), bs ++ [sbk]) ⟨by dsimp only; omega, by simp; omega⟩ (by dsimp only; omega)
    · have hkk : k = rows.length := by omega
      subst hkk
      repeat' first | apply step | (apply g_op; · repeat first | exact Evs.nil | (apply Evs.cons; exact rfl)) | (refine Br.mk (fun _ => ?_) (fun _ => ?_) <;> try (exfalso; omega)) | (refine Sd.mk ?_ ?_; · ((repeat' apply And.intro) <;> first | omega | trivial | assumption | (simp; done) | (simp; omega))) | (refine Sx.mk ?_ ?_; · omega) | refine Fa.mk (fun _ => ?_) | refine Im.mk (fun _ => ?_) | apply Lw.go | refine g_cond ?_ | refine g_guard ?_ | refine g_keep ?_ | refine g_pass ?_ | refine g_fin ?_ | (apply g_ap; exact rfl; exact rfl; assumption)
      rename_i xs
      have ok0 := M0_ok h1 h2 hf hr
      have hmu0 := M0_mu rows
      have hc0 := cnt_le hr
      have e1 : ((M0 rows).mg m).heads.length = rows.length := by simp [M0, Ms.mg]
      have e2 : ((M0 rows).mg m).has.length = rows.length := by simp [M0, Ms.mg]
      have e3 : ((M0 rows).mg m).heads = List.replicate rows.length 0 := by
        refine List.eq_replicate_iff.2 ⟨e1, fun x hx => ?_⟩
        obtain ⟨c, hc, rfl⟩ := List.mem_map.1 hx
        obtain ⟨r, _, rfl⟩ := List.mem_map.1 hc
        rfl
      have e4 : ((M0 rows).mg m).has = List.replicate rows.length false := by
        refine List.eq_replicate_iff.2 ⟨e2, fun x hx => ?_⟩
        obtain ⟨c, hc, rfl⟩ := List.mem_map.1 hx
        obtain ⟨r, _, rfl⟩ := List.mem_map.1 hc
        rfl
      have e5 : ((rows.map Ce.new).map (Ce.sn m)).take rows.length = ((M0 rows).mg m).l := List.take_of_length_le (by simp)
      rw [e5]
      refine at_foldP (mrg mb (ordV n_l11_order) ((M0 rows).mg m)) rfl (((lp, lc), bs), (some ⟨hb, 0, none⟩, rows.length), (some ⟨kb, 0, none⟩, rows.length), (none, 0)) ⟨mg_ok ok0, by rw [mg_len]; simp [M0]; exact hbl⟩ ?_ (h2 := by
        dsimp only
        rw [e1, e2, e3, e4]
        (apply Ent.more; · repeat first | exact Ent.here | apply Ent.there)
        (apply Ent.more; · repeat first | exact Ent.here | apply Ent.there)
        (apply Ent.more; · repeat first | exact Ent.here | apply Ent.there)
        (apply Ent.more; · repeat first | exact Ent.here | apply Ent.there)
        (apply Ent.more; · repeat first | exact Ent.here | apply Ent.there)
        (apply Ent.more; · exact ent_nil)
        exact Ent.refl _)
      obtain ⟨LI, hLI⟩ : ∃ LI : Ms × Scr → Prop, ∀ w, LI w ↔ (w.1.ok m ∧ w.2.steps + w.1.mu ≤ 1000000 ∧ w.2.used + w.1.mu ≤ 2000000 ∧ runM m (M0 rows).mu (M0 rows) s = runM m w.1.mu w.1 w.2) := ⟨_, fun _ => Iff.rfl⟩
      refine at_loopS (ι := Ms × Scr) (E := fun w => [(3, .pointer (some ⟨sb, 0, none⟩)), (9, .pointer (some ⟨x9, 0, none⟩)), (13, .pointer (some ⟨xm, 0, none⟩)), (18, .pointer (some ⟨xs, 0, none⟩)), (19, .func (.func n_merge_Run_int_c1) #[] #[.pointer (some ⟨xs, 0, none⟩), .pointer (some ⟨xm, 0, none⟩)])]) (Δ := fun w => pt xs [.int .i64 (w.2.steps : Int)] 0 :: pt xm [.pointer (some ⟨mb, 0, none⟩)] 0 :: mrg mb (ordV n_l11_order) (w.1.mg m) :: scr true sb w.2 :: pt x9 [.int .i64 0, .int .i64 0, .int .i64 0] 0 :: F) (P := LI) (μ := fun w => w.1.mu) (M0 rows, s) ((hLI _).2 ⟨ok0, by dsimp only; omega, by dsimp only; omega, rfl⟩) ?_ (hs := by dsimp only; rw [hs0]; repeat first | exact Ent.refl _ | (apply Ent.more; · repeat first | exact Ent.keep | exact Ent.here | exact Ent.lend | exact ent_nil | apply Ent.there) | apply Ent.drop)
      rintro ⟨M, s1⟩ hL
      obtain ⟨ok, hst, hus, hrun⟩ := (hLI _).1 hL
      have hR1 := hR.2 m rfl h1 h2
      dsimp only at ok hst hus hrun ⊢
      have hsn := fun k => sentN_le ok k
      repeat' first | apply step | (apply g_op; · repeat first | exact Evs.nil | (apply Evs.cons; exact rfl)) | (refine Br.mk (fun _ => ?_) (fun _ => ?_) <;> try (exfalso; omega)) | (refine Sd.mk ?_ ?_; · ((repeat' apply And.intro) <;> first | omega | trivial | assumption | (simp; done) | (simp; omega))) | (refine Sx.mk ?_ ?_; · omega) | refine Fa.mk (fun _ => ?_) | refine Im.mk (fun _ => ?_) | apply Lw.go | refine g_cond ?_ | refine g_guard ?_ | refine g_keep ?_ | refine g_pass ?_ | refine g_fin ?_ | (apply g_ap; exact rfl; exact rfl; assumption)
      first | refine at_openP (mrg mb (ordV n_l11_order) (M.mg m)) rfl ?_ | refine av_openP (mrg mb (ordV n_l11_order) (M.mg m)) rfl ?_
      rintro ⟨⟨⟨lp, lc⟩, bs⟩, ⟨hp, hc⟩, ⟨sp, sc⟩, ⟨op, oc⟩⟩ ⟨mo, hl⟩
      dsimp only at hl ⊢
      cases hx : M.exited with
      | true =>
        have hxm : (M.mg m).exited = true := hx
        rw [hrun, runM_done hx] at hR1
        repeat' first | apply step | (apply g_op; · repeat first | exact Evs.nil | (apply Evs.cons; exact rfl)) | (refine Br.mk (fun _ => ?_) (fun _ => ?_) <;> try (exfalso; omega)) | (refine Sd.mk ?_ ?_; · ((repeat' apply And.intro) <;> first | omega | trivial | assumption | (simp; done) | (simp; omega))) | (refine Sx.mk ?_ ?_; · omega) | refine Fa.mk (fun _ => ?_) | refine Im.mk (fun _ => ?_) | apply Lw.go | refine g_cond ?_ | refine g_guard ?_ | refine g_keep ?_ | refine g_pass ?_ | refine g_fin ?_ | (apply g_ap; exact rfl; exact rfl; assumption)
        all_goals first | (exfalso; rename_i q; rw [hxm] at q; simp at q; done) | skip
        first | refine at_callS (merge_merger_int_stats_open (f := (ordV n_l11_order)) (M := M.mg m) (st := s1.steps) mo hl (by omega) hsn) ?_ | refine at_callR (merge_merger_int_stats_open (f := (ordV n_l11_order)) (M := M.mg m) (st := s1.steps) mo hl (by omega) hsn) ?_
        repeat' first | apply step | (apply g_op; · repeat first | exact Evs.nil | (apply Evs.cons; exact rfl)) | (refine Br.mk (fun _ => ?_) (fun _ => ?_) <;> try (exfalso; omega)) | (refine Sd.mk ?_ ?_; · ((repeat' apply And.intro) <;> first | omega | trivial | assumption | (simp; done) | (simp; omega))) | (refine Sx.mk ?_ ?_; · omega) | refine Fa.mk (fun _ => ?_) | refine Im.mk (fun _ => ?_) | apply Lw.go | refine g_cond ?_ | refine g_guard ?_ | refine g_keep ?_ | refine g_pass ?_ | refine g_fin ?_ | (apply g_ap; exact rfl; exact rfl; assumption)
        have := hR1 M s1 0 op oc rfl
        rw [if_pos rfl] at this
        exact fin this
      | false =>
        have hxm : (M.mg m).exited = false := hx
        repeat' first | apply step | (apply g_op; · repeat first | exact Evs.nil | (apply Evs.cons; exact rfl)) | (refine Br.mk (fun _ => ?_) (fun _ => ?_) <;> try (exfalso; omega)) | (refine Sd.mk ?_ ?_; · ((repeat' apply And.intro) <;> first | omega | trivial | assumption | (simp; done) | (simp; omega))) | (refine Sx.mk ?_ ?_; · omega) | refine Fa.mk (fun _ => ?_) | refine Im.mk (fun _ => ?_) | apply Lw.go | refine g_cond ?_ | refine g_guard ?_ | refine g_keep ?_ | refine g_pass ?_ | refine g_fin ?_ | (apply g_ap; exact rfl; exact rfl; assumption)
        all_goals first | (exfalso; rename_i q; rw [hxm] at q; simp at q; done) | skip
        refine av_foldP (mrg mb (ordV n_l11_order) (M.mg m)) rfl (((lp, lc), bs), (hp, hc), (sp, sc), (op, oc)) ⟨mo, hl⟩ ?_
        first | refine at_callS (merge_merger_int_ready_spec (f := (ordV n_l11_order)) (M := M.mg m)) ?_ | refine at_callR (merge_merger_int_ready_spec (f := (ordV n_l11_order)) (M := M.mg m)) ?_
        rw [mg_ready]
        intro pr cr
        repeat' first | apply step | (apply g_op; · repeat first | exact Evs.nil | (apply Evs.cons; exact rfl)) | (refine Br.mk (fun _ => ?_) (fun _ => ?_) <;> try (exfalso; omega)) | (refine Sd.mk ?_ ?_; · ((repeat' apply And.intro) <;> first | omega | trivial | assumption | (simp; done) | (simp; omega))) | (refine Sx.mk ?_ ?_; · omega) | refine Fa.mk (fun _ => ?_) | refine Im.mk (fun _ => ?_) | apply Lw.go | refine g_cond ?_ | refine g_guard ?_ | refine g_keep ?_ | refine g_pass ?_ | refine g_fin ?_ | (apply g_ap; exact rfl; exact rfl; assumption)
        have hlen : ((M.ready m).map Int.ofNat).length ≤ 1000000 := by
          rw [List.length_map]
          have h1 : (M.ready m).length ≤ M.c.length + 1 := by
            unfold Ms.ready
            rw [List.length_append]
            have := List.length_filter_le (fun k => ((M.c[k]?).map (Ce.rdy m)).getD false) (List.range M.c.length)
            rw [List.length_range] at this
            split <;> simp <;> omega
          have := ok.n; omega
        first | refine at_callS (picks_Script_Step_spec (b := sb) (s := s1) (A := own (kInt .i64) pr cr ((M.ready m).map Int.ofNat)) (p := pr) (c := cr) (r := (M.ready m).map Int.ofNat) (fun Γ => inferInstance) hlen (by omega) (by omega)) ?_ | refine at_callR (picks_Script_Step_spec (b := sb) (s := s1) (A := own (kInt .i64) pr cr ((M.ready m).map Int.ofNat)) (p := pr) (c := cr) (r := (M.ready m).map Int.ofNat) (fun Γ => inferInstance) hlen (by omega) (by omega)) ?_
        have hmp := mu_pos hx
        obtain ⟨f, hfe⟩ : ∃ f, M.mu = f + 1 := ⟨M.mu - 1, by omega⟩
        rw [hrun, hfe] at hR1
        by_cases ho : s1.off
        · rw [stepS_off ho]
          rw [runM_off hx ho] at hR1
          repeat' first | apply step | (apply g_op; · repeat first | exact Evs.nil | (apply Evs.cons; exact rfl)) | (refine Br.mk (fun _ => ?_) (fun _ => ?_) <;> try (exfalso; omega)) | (refine Sd.mk ?_ ?_; · ((repeat' apply And.intro) <;> first | omega | trivial | assumption | (simp; done) | (simp; omega))) | (refine Sx.mk ?_ ?_; · omega) | refine Fa.mk (fun _ => ?_) | refine Im.mk (fun _ => ?_) | apply Lw.go | refine g_cond ?_ | refine g_guard ?_ | refine g_keep ?_ | refine g_pass ?_ | refine g_fin ?_ | (apply g_ap; exact rfl; exact rfl; assumption)
          first | refine at_callS (merge_merger_int_stats_spec (f := (ordV n_l11_order)) (M := M.mg m) (st := s1.steps) (by omega) hsn) ?_ | refine at_callR (merge_merger_int_stats_spec (f := (ordV n_l11_order)) (M := M.mg m) (st := s1.steps) (by omega) hsn) ?_
          repeat' first | apply step | (apply g_op; · repeat first | exact Evs.nil | (apply Evs.cons; exact rfl)) | (refine Br.mk (fun _ => ?_) (fun _ => ?_) <;> try (exfalso; omega)) | (refine Sd.mk ?_ ?_; · ((repeat' apply And.intro) <;> first | omega | trivial | assumption | (simp; done) | (simp; omega))) | (refine Sx.mk ?_ ?_; · omega) | refine Fa.mk (fun _ => ?_) | refine Im.mk (fun _ => ?_) | apply Lw.go | refine g_cond ?_ | refine g_guard ?_ | refine g_keep ?_ | refine g_pass ?_ | refine g_fin ?_ | (apply g_ap; exact rfl; exact rfl; assumption)
          have := hR1 M s1 8 none 0 rfl
          rw [if_neg (by decide)] at this
          repeat' first | apply step | (apply g_op; · repeat first | exact Evs.nil | (apply Evs.cons; exact rfl)) | (refine Br.mk (fun _ => ?_) (fun _ => ?_) <;> try (exfalso; omega)) | (refine Sd.mk ?_ ?_; · ((repeat' apply And.intro) <;> first | omega | trivial | assumption | (simp; done) | (simp; omega))) | (refine Sx.mk ?_ ?_; · omega) | refine Fa.mk (fun _ => ?_) | refine Im.mk (fun _ => ?_) | apply Lw.go | refine g_cond ?_ | refine g_guard ?_ | refine g_keep ?_ | refine g_pass ?_ | refine g_fin ?_ | (apply g_ap; exact rfl; exact rfl; assumption)
          exact fin this
        · obtain ⟨k, hk, hst1, hrn⟩ := runM_on (f := f) ok hx ho
          rw [hst1]
          obtain ⟨a1, a2, a3, a4⟩ := act_ok ok hx hk
          obtain ⟨g1, g2, g3, g4⟩ := one_took s1
          repeat' first | apply step | (apply g_op; · repeat first | exact Evs.nil | (apply Evs.cons; exact rfl)) | (refine Br.mk (fun _ => ?_) (fun _ => ?_) <;> try (exfalso; omega)) | (refine Sd.mk ?_ ?_; · ((repeat' apply And.intro) <;> first | omega | trivial | assumption | (simp; done) | (simp; omega))) | (refine Sx.mk ?_ ?_; · omega) | refine Fa.mk (fun _ => ?_) | refine Im.mk (fun _ => ?_) | apply Lw.go | refine g_cond ?_ | refine g_guard ?_ | refine g_keep ?_ | refine g_pass ?_ | refine g_fin ?_ | (apply g_ap; exact rfl; exact rfl; assumption)
          first | refine at_callS (merge_Run_int_c1_spec (b := mb) (xs := xs) (xm := xm) (st := s1.steps) ok hx hk (by omega)) ?_ | refine at_callR (merge_Run_int_c1_spec (b := mb) (xs := xs) (xm := xm) (st := s1.steps) ok hx hk (by omega)) ?_
          repeat' first | apply step | (apply g_op; · repeat first | exact Evs.nil | (apply Evs.cons; exact rfl)) | (refine Br.mk (fun _ => ?_) (fun _ => ?_) <;> try (exfalso; omega)) | (refine Sd.mk ?_ ?_; · ((repeat' apply And.intro) <;> first | omega | trivial | assumption | (simp; done) | (simp; omega))) | (refine Sx.mk ?_ ?_; · omega) | refine Fa.mk (fun _ => ?_) | refine Im.mk (fun _ => ?_) | apply Lw.go | refine g_cond ?_ | refine g_guard ?_ | refine g_keep ?_ | refine g_pass ?_ | refine g_fin ?_ | (apply g_ap; exact rfl; exact rfl; assumption)
          rw [hrn] at hR1
          refine lp_next (M.act k, s1.one.took) ((hLI _).2 ⟨a1, by dsimp only; omega, by dsimp only; omega, ?_⟩) (by dsimp only; omega) (hs := by rw [g1]; repeat first | exact Ent.refl _ | (apply Ent.more; · repeat first | exact Ent.keep | exact Ent.here | exact Ent.lend | exact ent_nil | apply Ent.there) | apply Ent.drop)
          dsimp only
          rw [hrun, hfe, hrn]
          congr 1; omega
end
end Go.AMS

namespace Go.AMS
open Go.AM hiding Kt At WP WL Runs RunsY
open Go.AM.G
set_option linter.unusedVariables false
set_option linter.unusedSimpArgs false
set_option linter.unusedSectionVars false
set_option maxRecDepth 100000
set_option maxHeartbeats 1000000
attribute [local irreducible] AtS AtV AtC AtG FinA Spec Post LP G.At G.WP G.WL pt own fro rdl ro hx mp lrec elt sub

open Go.AM.G.Set
section
theorem r11_Few_spec {p : Option Addr} {c : Nat} {rows : List (List Int)} : Spec prog1 n_r11_Few [.slice p rows.length c] [rdl (kSl (kInt .i64)) p rows] (fun R => (rows.length ≤ 20 → (∀ x ∈ rows, x.length ≤ 40) → R (.bool true) []) ∧ R (.bool false) []) := by
  refine spec_code c_r11_Few rfl ?_; intro n F R hR; unfold F_r11_Few
  repeat' first | apply step | (apply g_op; · repeat first | exact Evs.nil | (apply Evs.cons; exact rfl)) | (refine Br.mk (fun _ => ?_) (fun _ => ?_) <;> try (exfalso; omega)) | (refine Sd.mk ?_ ?_; · ((repeat' apply And.intro) <;> first | omega | trivial | assumption | (simp; done) | (simp; omega))) | (refine Sx.mk ?_ ?_; · omega) | refine Fa.mk (fun _ => ?_) | refine Im.mk (fun _ => ?_) | apply Lw.go | refine g_cond ?_ | refine g_guard ?_ | refine g_keep ?_ | refine g_pass ?_ | refine g_fin ?_ | (apply g_ap; exact rfl; exact rfl; assumption)
  · exact fin hR.2
  have hln : rows.length ≤ 20 := by omega
  refine at_loopS (ι := Nat) (E := fun k => [(0, .slice p rows.length c), (3, .int .i64 (k : Int))]) (Δ := fun k => rdl (kSl (kInt .i64)) p rows :: F) (P := fun k => k ≤ rows.length ∧ ∀ x ∈ rows.take k, x.length ≤ 40) (μ := fun k => rows.length - k) 0 ⟨Nat.zero_le _, by simp⟩ ?_
  rintro k ⟨hk, hle⟩
  try dsimp only
  repeat' first | apply step | (apply g_op; · repeat first | exact Evs.nil | (apply Evs.cons; exact rfl)) | (refine Br.mk (fun _ => ?_) (fun _ => ?_) <;> try (exfalso; omega)) | (refine Sd.mk ?_ ?_; · ((repeat' apply And.intro) <;> first | omega | trivial | assumption | (simp; done) | (simp; omega))) | (refine Sx.mk ?_ ?_; · omega) | refine Fa.mk (fun _ => ?_) | refine Im.mk (fun _ => ?_) | apply Lw.go | refine g_cond ?_ | refine g_guard ?_ | refine g_keep ?_ | refine g_pass ?_ | refine g_fin ?_ | (apply g_ap; exact rfl; exact rfl; assumption)
  · exact fin hR.2
  · have hk' : k < rows.length := by omega
    refine lp_next (k + 1) ⟨by omega, fun x hx => ?_⟩ (by omega)
    rw [List.take_succ_eq_append_getElem hk'] at hx
    rcases List.mem_append.1 hx with hx | hx
    · exact hle x hx
    · rw [List.mem_singleton.1 hx]; omega
  · have e : rows.take k = rows := List.take_of_length_le (by omega)
    rw [e] at hle
    exact fin (hR.1 hln hle)
theorem cnt_succ {rows : List (List Int)} {k : Nat} (hk : k < rows.length) : cnt (rows.take (k + 1)) = cnt (rows.take k) + rows[k].length := by
  unfold cnt
  rw [List.take_succ_eq_append_getElem hk, List.map_append, List.sum_append]; simp
theorem cnt_take_le (rows : List (List Int)) (k : Nat) : cnt (rows.take k) ≤ cnt rows := by
  conv => rhs; rw [← List.take_append_drop k rows]
  unfold cnt
  rw [List.map_append, List.sum_append]; omega
theorem r11_Count_spec {p : Option Addr} {c : Nat} {rows : List (List Int)} (hf : rows.length ≤ 1000) (hc : cnt rows ≤ 1000000) : Spec prog1 n_r11_Count [.slice p rows.length c] [rdl (kSl (kInt .i64)) p rows] (fun R => R (.int .i64 (cnt rows : Int)) []) := by
  refine spec_code c_r11_Count rfl ?_; intro n F R hR; unfold F_r11_Count
  repeat' first | apply step | (apply g_op; · repeat first | exact Evs.nil | (apply Evs.cons; exact rfl)) | (refine Br.mk (fun _ => ?_) (fun _ => ?_) <;> try (exfalso; omega)) | (refine Sd.mk ?_ ?_; · ((repeat' apply And.intro) <;> first | omega | trivial | assumption | (simp; done) | (simp; omega))) | (refine Sx.mk ?_ ?_; · omega) | refine Fa.mk (fun _ => ?_) | refine Im.mk (fun _ => ?_) | apply Lw.go | refine g_cond ?_ | refine g_guard ?_ | refine g_keep ?_ | refine g_pass ?_ | refine g_fin ?_ | (apply g_ap; exact rfl; exact rfl; assumption)
  refine at_loopS (ι := Nat) (E := fun k => [(0, .slice p rows.length c), (3, .int .i64 (cnt (rows.take k) : Int)), (4, .int .i64 (k : Int))]) (Δ := fun k => rdl (kSl (kInt .i64)) p rows :: F) (P := fun k => k ≤ rows.length) (μ := fun k => rows.length - k) 0 (Nat.zero_le _) ?_
  rintro k hk
  try dsimp only
  rcases Nat.lt_or_ge k rows.length with hk' | hk'
  · have h1 := cnt_succ hk'
    have h2 := cnt_take_le rows (k + 1)
    repeat' first | apply step | (apply g_op; · repeat first | exact Evs.nil | (apply Evs.cons; exact rfl)) | (refine Br.mk (fun _ => ?_) (fun _ => ?_) <;> try (exfalso; omega)) | (refine Sd.mk ?_ ?_; · ((repeat' apply And.intro) <;> first | omega | trivial | assumption | (simp; done) | (simp; omega))) | (refine Sx.mk ?_ ?_; · omega) | refine Fa.mk (fun _ => ?_) | refine Im.mk (fun _ => ?_) | apply Lw.go | refine g_cond ?_ | refine g_guard ?_ | refine g_keep ?_ | refine g_pass ?_ | refine g_fin ?_ | (apply g_ap; exact rfl; exact rfl; assumption)
    exact lp_next (k + 1) (by omega) (by omega) (by rw [h1])
  · have e : rows.take k = rows := List.take_of_length_le (by omega)
    rw [e]
    repeat' first | apply step | (apply g_op; · repeat first | exact Evs.nil | (apply Evs.cons; exact rfl)) | (refine Br.mk (fun _ => ?_) (fun _ => ?_) <;> try (exfalso; omega)) | (refine Sd.mk ?_ ?_; · ((repeat' apply And.intro) <;> first | omega | trivial | assumption | (simp; done) | (simp; omega))) | (refine Sx.mk ?_ ?_; · omega) | refine Fa.mk (fun _ => ?_) | refine Im.mk (fun _ => ?_) | apply Lw.go | refine g_cond ?_ | refine g_guard ?_ | refine g_keep ?_ | refine g_pass ?_ | refine g_fin ?_ | (apply g_ap; exact rfl; exact rfl; assumption)
    exact fin hR
theorem hd_some {l : List (List Int)} {k : Nat} (hk : k < l.length) (h0 : 0 < l[k].length) : hd l k = some l[k][0] := by
  unfold hd; rw [List.getElem?_eq_getElem hk]
  show l[k].head? = _
  rw [List.head?_eq_getElem?, List.getElem?_eq_getElem h0]
theorem hd_none {l : List (List Int)} {k : Nat} (hk : k < l.length) (h0 : ¬ 0 < l[k].length) : hd l k = none := by
  unfold hd; rw [List.getElem?_eq_getElem hk]
  show l[k].head? = _
  rw [List.eq_nil_of_length_eq_zero (show l[k].length = 0 by omega)]; rfl
theorem hd_inv {l : List (List Int)} {k : Nat} {x : Int} (h : hd l k = some x) : ∃ hk : k < l.length, ∃ h0 : 0 < l[k].length, l[k][0] = x := by
  obtain ⟨hk, r, h1, _⟩ := cnt_tail h
  have h0 : 0 < l[k].length := by rw [h1]; simp
  refine ⟨hk, h0, ?_⟩
  have := hd_some hk h0
  rw [h] at this; simpa using this.symm
theorem r11_take_spec {p : Option Addr} {c : Nat} {l : List (List Int)} (hl : l.length ≤ 1000000) : Spec prog1 n_r11_take [.slice p l.length c] [rdl (kSl (kInt .i64)) p l] (fun R => R (.int .i64 (bI (bestN (hd l) l.length))) []) := by
  refine spec_code c_r11_take rfl ?_; intro n F R hR; unfold F_r11_take
  repeat' first | apply step | (apply g_op; · repeat first | exact Evs.nil | (apply Evs.cons; exact rfl)) | (refine Br.mk (fun _ => ?_) (fun _ => ?_) <;> try (exfalso; omega)) | (refine Sd.mk ?_ ?_; · ((repeat' apply And.intro) <;> first | omega | trivial | assumption | (simp; done) | (simp; omega))) | (refine Sx.mk ?_ ?_; · omega) | refine Fa.mk (fun _ => ?_) | refine Im.mk (fun _ => ?_) | apply Lw.go | refine g_cond ?_ | refine g_guard ?_ | refine g_keep ?_ | refine g_pass ?_ | refine g_fin ?_ | (apply g_ap; exact rfl; exact rfl; assumption)
  refine at_loopS (ι := Nat) (E := fun k => [(0, .slice p l.length c), (3, .int .i64 (bI (bestN (hd l) k))), (4, .int .i64 (k : Int))]) (Δ := fun k => rdl (kSl (kInt .i64)) p l :: F) (P := fun k => k ≤ l.length) (μ := fun k => l.length - k) 0 (Nat.zero_le _) ?_
  rintro k hk
  try dsimp only
  rcases Nat.lt_or_ge k l.length with hk' | hk'
  · cases hbn : bestN (hd l) k with
    | none =>
      rw [bI_none]
      repeat' first | apply step | (apply g_op; · repeat first | exact Evs.nil | (apply Evs.cons; exact rfl)) | (refine Br.mk (fun _ => ?_) (fun _ => ?_) <;> try (exfalso; omega)) | (refine Sd.mk ?_ ?_; · ((repeat' apply And.intro) <;> first | omega | trivial | assumption | (simp; done) | (simp; omega))) | (refine Sx.mk ?_ ?_; · omega) | refine Fa.mk (fun _ => ?_) | refine Im.mk (fun _ => ?_) | apply Lw.go | refine g_cond ?_ | refine g_guard ?_ | refine g_keep ?_ | refine g_pass ?_ | refine g_fin ?_ | (apply g_ap; exact rfl; exact rfl; assumption)
      · have e1 := best_first (hd_some hk' (by omega)) hbn
        exact lp_next (k + 1) (by omega) (by omega) (by rw [e1, bI_some])
      · have e1 := best_skip (hd_none hk' (by omega))
        exact lp_next (k + 1) (by omega) (by omega) (by rw [e1, hbn, bI_none])
    | some q =>
      obtain ⟨hq, y, hy, _⟩ := (best_spec (hd l) k).2 q hbn
      obtain ⟨hql, hq0, rfl⟩ := hd_inv hy
      rw [bI_some]
      repeat' first | apply step | (apply g_op; · repeat first | exact Evs.nil | (apply Evs.cons; exact rfl)) | (refine Br.mk (fun _ => ?_) (fun _ => ?_) <;> try (exfalso; omega)) | (refine Sd.mk ?_ ?_; · ((repeat' apply And.intro) <;> first | omega | trivial | assumption | (simp; done) | (simp; omega))) | (refine Sx.mk ?_ ?_; · omega) | refine Fa.mk (fun _ => ?_) | refine Im.mk (fun _ => ?_) | apply Lw.go | refine g_cond ?_ | refine g_guard ?_ | refine g_keep ?_ | refine g_pass ?_ | refine g_fin ?_ | (apply g_ap; exact rfl; exact rfl; assumption)
      · have e1 := best_less (hd_some hk' (by omega)) hbn hy (by assumption)
        exact lp_next (k + 1) (by omega) (by omega) (by rw [e1, bI_some])
      · have e1 := best_keep (hd_some hk' (by omega)) hbn hy (by assumption)
        exact lp_next (k + 1) (by omega) (by omega) (by rw [e1, bI_some])
      · have e1 := best_skip (hd_none hk' (by omega))
        exact lp_next (k + 1) (by omega) (by omega) (by rw [e1, hbn, bI_some])
  · have hkk : k = l.length := by omega
    subst hkk
    repeat' first | apply step | (apply g_op; · repeat first | exact Evs.nil | (apply Evs.cons; exact rfl)) | (refine Br.mk (fun _ => ?_) (fun _ => ?_) <;> try (exfalso; omega)) | (refine Sd.mk ?_ ?_; · ((repeat' apply And.intro) <;> first | omega | trivial | assumption | (simp; done) | (simp; omega))) | (refine Sx.mk ?_ ?_; · omega) | refine Fa.mk (fun _ => ?_) | refine Im.mk (fun _ => ?_) | apply Lw.go | refine g_cond ?_ | refine g_guard ?_ | refine g_keep ?_ | refine g_pass ?_ | refine g_fin ?_ | (apply g_ap; exact rfl; exact rfl; assumption)
    exact fin hR
theorem putS_yes {out : List Int} {x : Int} (h : out.length = 0 ∨ ∃ h : 0 < out.length, out[out.length - 1] ≠ x) : putS out x = out ++ [x] := by
  unfold putS
  rw [if_neg]
  rw [List.getLast?_eq_getElem?]
  rcases h with h | ⟨h0, h⟩
  · rw [List.getElem?_eq_none (by omega)]; simp
  · rw [List.getElem?_eq_getElem (by omega)]; simpa using h
theorem putS_no {out : List Int} {x : Int} (h0 : 0 < out.length) (h : out[out.length - 1] = x) : putS out x = out := by
  unfold putS
  rw [if_pos]
  rw [List.getLast?_eq_getElem?, List.getElem?_eq_getElem (by omega), h]
end
end Go.AMS

namespace Go.AMS
open Go.AM hiding Kt At WP WL Runs RunsY
open Go.AM.G
set_option linter.unusedVariables false
set_option linter.unusedSimpArgs false
set_option linter.unusedSectionVars false
set_option maxRecDepth 100000
set_option maxHeartbeats 1000000
attribute [local irreducible] AtS AtV AtC AtG FinA Spec Post LP G.At G.WP G.WL pt own fro rdl ro hx mp lrec elt sub

open Go.AM.G.Set
section
theorem l11_works_spec : Spec prog1 n_l11_works [] [] (fun R => R (.bool true) []) := closed_spec c_l11_works
theorem M0_rows (rows : List (List Int)) : (M0 rows).c.map Ce.row = rows := by
  unfold M0; dsimp only
  rw [List.map_map]
  have : (Ce.row ∘ Ce.new) = id := rfl
  rw [this, List.map_id]
theorem rows_len {m : Nat} {M : Ms} {rows : List (List Int)} (h : M.c.map Ce.row = rows) : M.c.length = rows.length := by rw [← h]; simp
end
end Go.AMS

namespace Go.AMS
open Go.AM hiding Kt At WP WL Runs RunsY
open Go.AM.G
set_option linter.unusedVariables false
set_option linter.unusedSimpArgs false
set_option linter.unusedSectionVars false
set_option maxRecDepth 100000
set_option maxHeartbeats 1000000
attribute [local irreducible] AtS AtV AtC AtG FinA Spec Post LP G.At G.WP G.WL pt own fro rdl ro hx mp lrec elt sub

open Go.AM.G.Set
section
structure Pi8 where
  room : Int
  sent : List Int
  recv : Int
  closed : Bool
def kPi8 : Kind Pi8 := ⟨4, by decide, fun m cs a => ∃ v0 v1 v2 v3, cs = [v0, v1, v2, v3] ∧ (kInt .i64).rd m [v0] a.room ∧ (kSl (kInt .i64)).rd m [v1] a.sent ∧ (kInt .i64).rd m [v2] a.recv ∧ kBool.rd m [v3] a.closed,
  fun s ⟨v0, v1, v2, v3, hc, h0, h1, h2, h3⟩ => ⟨v0, v1, v2, v3, hc, (kInt .i64).mono s h0, (kSl (kInt .i64)).mono s h1, (kInt .i64).mono s h2, kBool.mono s h3⟩, fun ⟨v0, v1, v2, v3, hc, h0, h1, h2, h3⟩ => by rw [hc]; rfl,
  fun ⟨v0, v1, v2, v3, hc, h0, h1, h2, h3⟩ => by
    have e0 := (kInt .i64).ok h0
    have e1 := (kSl (kInt .i64)).ok h1
    have e2 := (kInt .i64).ok h2
    have e3 := kBool.ok h3
    simp only [List.all_cons, List.all_nil, Bool.and_true] at e0 e1 e2 e3
    rw [hc]; simp only [List.all_cons, List.all_nil, Bool.and_true, e0, e1, e2, e3]⟩
instance esz_Pi8 : Esz kPi8 4 := ⟨rfl⟩
instance cel_Pi8 : Cel kPi8 ((Option Addr × Nat)) (fun a x => [.int .i64 a.room, .slice x.1 a.sent.length x.2, .int .i64 a.recv, .bool a.closed]) (fun a x => [fro (kInt .i64) x.1 x.2 a.sent]) (fun a => (-9223372036854775808 ≤ a.room ∧ a.room ≤ 9223372036854775807) ∧ a.sent.length ≤ 140737488351232 ∧ (-9223372036854775808 ≤ a.recv ∧ a.recv ≤ 9223372036854775807) ∧ True) := ⟨fun ⟨v0, v1, v2, v3, hc, h0, h1, h2, h3⟩ => by
  obtain ⟨q0, b0⟩ := h0; cases q0
  obtain ⟨w1, q1, s1, b1⟩ := h1; cases q1; obtain ⟨p1, c1, rfl⟩ := s1.form
  obtain ⟨q2, b2⟩ := h2; cases q2
  cases h3
  exact ⟨(p1, c1), hc, ⟨b0, b1, b2, trivial⟩, sat_fro0 s1 (sat_nil0)⟩⟩
instance ofc_Pi8 {Γ : List HP} {v0 v1 v2 v3 : Value} {a0 : Int} {φ0 : Prop} {a1 : List Int} {φ1 : Prop} {a2 : Int} {φ2 : Prop} {a3 : Bool} {φ3 : Prop} [o0 : OfC Γ (kInt .i64) [v0] a0 φ0] [o1 : OfC Γ (kSl (kInt .i64)) [v1] a1 φ1] [o2 : OfC Γ (kInt .i64) [v2] a2 φ2] [o3 : OfC Γ kBool [v3] a3 φ3] : OfC Γ kPi8 [v0, v1, v2, v3] ⟨a0, a1, a2, a3⟩ (φ0 ∧ φ1 ∧ φ2 ∧ φ3) := ⟨fun h _ _ hs => ⟨v0, v1, v2, v3, rfl, o0.rd h.1 hs, o1.rd h.2.1 hs, o2.rd h.2.2.1 hs, o3.rd h.2.2.2 hs⟩⟩
instance fld_Pi8_room : Fld kPi8 0 (kInt .i64) (fun a => a.room) := ⟨fun ⟨v0, v1, v2, v3, hc, h0, h1, h2, h3⟩ => by subst hc; exact h0, by decide⟩
instance fld_Pi8_sent : Fld kPi8 1 (kSl (kInt .i64)) (fun a => a.sent) := ⟨fun ⟨v0, v1, v2, v3, hc, h0, h1, h2, h3⟩ => by subst hc; exact h1, by decide⟩
instance fld_Pi8_recv : Fld kPi8 2 (kInt .i64) (fun a => a.recv) := ⟨fun ⟨v0, v1, v2, v3, hc, h0, h1, h2, h3⟩ => by subst hc; exact h2, by decide⟩
instance fld_Pi8_closed : Fld kPi8 3 kBool (fun a => a.closed) := ⟨fun ⟨v0, v1, v2, v3, hc, h0, h1, h2, h3⟩ => by subst hc; exact h3, by decide⟩
variable {rm : Nat} {M : Ms}
theorem r08_New_spec {w : Int} : Spec prog1 n_r08_New [.int .i64 w] [] (fun R => (w < 1 ∨ 64 < w → R (.int .i64 2) []) ∧ (¬ (w < 1 ∨ 64 < w) → R (.int .i64 0) [])) := by
  refine spec_code c_r08_New rfl ?_; intro n F R hR; unfold F_r08_New
  repeat' first | apply step | (apply g_op; · repeat first | exact Evs.nil | (apply Evs.cons; exact rfl)) | (refine Br.mk (fun _ => ?_) (fun _ => ?_) <;> try (exfalso; omega)) | (refine Sd.mk ?_ ?_; · ((repeat' apply And.intro) <;> first | omega | trivial | assumption | (simp; done) | (simp; omega))) | (refine Sx.mk ?_ ?_; · omega) | refine Fa.mk (fun _ => ?_) | refine Im.mk (fun _ => ?_) | apply Lw.go | refine g_cond ?_ | refine g_guard ?_ | refine g_keep ?_ | refine g_pass ?_ | refine g_fin ?_ | (apply g_ap; exact rfl; exact rfl; assumption)
  · exact fin (hR.1 (.inl (by omega)))
  · exact fin (hR.1 (.inr (by omega)))
  · exact fin (hR.2 (by omega))
theorem r08_Close_spec {r v : Int} {p : Option Addr} {n c : Nat} : Spec prog1 n_r08_Close [.agg #[.int .i64 r, .slice p n c, .int .i64 v, .bool false]] [] (fun R => R (.tuple #[.agg #[.int .i64 r, .slice p n c, .int .i64 v, .bool true], .int .i64 0]) []) := by
  refine spec_code c_r08_Close rfl ?_; intro n F R hR; unfold F_r08_Close
  repeat' first | apply step | (apply g_op; · repeat first | exact Evs.nil | (apply Evs.cons; exact rfl)) | (refine Br.mk (fun _ => ?_) (fun _ => ?_) <;> try (exfalso; omega)) | (refine Sd.mk ?_ ?_; · ((repeat' apply And.intro) <;> first | omega | trivial | assumption | (simp; done) | (simp; omega))) | (refine Sx.mk ?_ ?_; · omega) | refine Fa.mk (fun _ => ?_) | refine Im.mk (fun _ => ?_) | apply Lw.go | refine g_cond ?_ | refine g_guard ?_ | refine g_keep ?_ | refine g_pass ?_ | refine g_fin ?_ | (apply g_ap; exact rfl; exact rfl; assumption)
  exact fin hR
theorem r08_Recv_spec {r : Int} {v : Nat} {p : Option Addr} {c : Nat} {l : List Int} {b : Bool} (hv : v < l.length) (hl : l.length ≤ 1000000) : Spec prog1 n_r08_Recv [.agg #[.int .i64 r, .slice p l.length c, .int .i64 (v : Int), .bool b]] [rdl (kInt .i64) p l] (fun R => R (.tuple #[.agg #[.int .i64 r, .slice p l.length c, .int .i64 ((v + 1 : Nat) : Int), .bool b], .int .i64 l[v], .int .i64 0]) []) := by
  refine spec_code c_r08_Recv rfl ?_; intro n F R hR; unfold F_r08_Recv
  repeat' first | apply step | (apply g_op; · repeat first | exact Evs.nil | (apply Evs.cons; exact rfl)) | (refine Br.mk (fun _ => ?_) (fun _ => ?_) <;> try (exfalso; omega)) | (refine Sd.mk ?_ ?_; · ((repeat' apply And.intro) <;> first | omega | trivial | assumption | (simp; done) | (simp; omega))) | (refine Sx.mk ?_ ?_; · omega) | refine Fa.mk (fun _ => ?_) | refine Im.mk (fun _ => ?_) | apply Lw.go | refine g_cond ?_ | refine g_guard ?_ | refine g_keep ?_ | refine g_pass ?_ | refine g_fin ?_ | (apply g_ap; exact rfl; exact rfl; assumption)
  exact fin hR
theorem r08_Send_spec {r : Int} {v : Nat} {x : Int} {p : Option Addr} {c : Nat} {l : List Int} (hv : v ≤ l.length) (hl : l.length ≤ 1000000) (hr : (l.length : Int) - v < r) (hx : -9223372036854775808 ≤ x ∧ x ≤ 9223372036854775807) : Spec prog1 n_r08_Send [.agg #[.int .i64 r, .slice p l.length c, .int .i64 (v : Int), .bool false], .int .i64 x] [rdl (kInt .i64) p l] (fun R => ∀ p' c', R (.tuple #[.agg #[.int .i64 r, .slice p' (l ++ [x]).length c', .int .i64 (v : Int), .bool false], .int .i64 0]) [own (kInt .i64) p' c' (l ++ [x])]) := by
  refine spec_code c_r08_Send rfl ?_; intro n F R hR; unfold F_r08_Send
  repeat' first | apply step | (apply g_op; · repeat first | exact Evs.nil | (apply Evs.cons; exact rfl)) | (refine Br.mk (fun _ => ?_) (fun _ => ?_) <;> try (exfalso; omega)) | (refine Sd.mk ?_ ?_; · ((repeat' apply And.intro) <;> first | omega | trivial | assumption | (simp; done) | (simp; omega))) | (refine Sx.mk ?_ ?_; · omega) | refine Fa.mk (fun _ => ?_) | refine Im.mk (fun _ => ?_) | apply Lw.go | refine g_cond ?_ | refine g_guard ?_ | refine g_keep ?_ | refine g_pass ?_ | refine g_fin ?_ | (apply g_ap; exact rfl; exact rfl; assumption)
  rename_i p1 c1 _ p2 c2
  exact fin (hR p2 c2)
theorem r11_in_spec {r : Int} {v m : Nat} {p : Option Addr} {c : Nat} {b : Bool} (hv : v ≤ m) (hl : m ≤ 1000000) : Spec prog1 n_r11_in [.agg #[.int .i64 r, .slice p m c, .int .i64 (v : Int), .bool b]] [] (fun R => R (.int .i64 ((m - v : Nat) : Int)) []) := by
  refine spec_code c_r11_in rfl ?_; intro n F R hR; unfold F_r11_in
  repeat' first | apply step | (apply g_op; · repeat first | exact Evs.nil | (apply Evs.cons; exact rfl)) | (refine Br.mk (fun _ => ?_) (fun _ => ?_) <;> try (exfalso; omega)) | (refine Sd.mk ?_ ?_; · ((repeat' apply And.intro) <;> first | omega | trivial | assumption | (simp; done) | (simp; omega))) | (refine Sx.mk ?_ ?_; · omega) | refine Fa.mk (fun _ => ?_) | refine Im.mk (fun _ => ?_) | apply Lw.go | refine g_cond ?_ | refine g_guard ?_ | refine g_keep ?_ | refine g_pass ?_ | refine g_fin ?_ | (apply g_ap; exact rfl; exact rfl; assumption)
  rw [show ((m - v : Nat) : Int) = (m : Int) - v by omega] at hR
  exact fin hR
def Ms.sentL (M : Ms) : List Int := M.c.map fun c => (c.sent : Int)
def Ce.pi (rm : Nat) (c : Ce) : Pi8 := ⟨rm, c.row.take c.sent, c.recv, c.exited⟩
def Ms.pipL (rm : Nat) (M : Ms) : List Pi8 := M.c.map (Ce.pi rm)
def Ms.headL (M : Ms) : List Int := M.c.map Ce.head
def Ms.hasL (M : Ms) : List Bool := M.c.map Ce.has
def Ms.exL (M : Ms) : List Bool := M.c.map Ce.exited ++ [M.exited]
theorem sentL_len : M.sentL.length = M.c.length := List.length_map ..
theorem pipL_len : (M.pipL rm).length = M.c.length := List.length_map ..
theorem headL_len : M.headL.length = M.c.length := List.length_map ..
theorem hasL_len : M.hasL.length = M.c.length := List.length_map ..
theorem exL_len : M.exL.length = M.c.length + 1 := by unfold Ms.exL; simp
theorem pip_len {k : Nat} (ok : M.ok rm) (hk : k < M.c.length) : (M.c[k].row.take M.c[k].sent).length = M.c[k].sent := by
  have := (ok.c _ (List.getElem_mem hk)).s
  rw [List.length_take]; omega
theorem can_of {c : Ce} (hb : c.has = false) (h : 0 < c.q.length) : c.can = true := by unfold Ce.can; rw [hb, decide_eq_true h]; rfl
theorem can_no {c : Ce} (h : ¬ 0 < c.q.length) : c.can = false := by unfold Ce.can; rw [decide_eq_false h]; simp
theorem r11_receives_spec {pr p1 p2 p3 p4 p5 p6 : Option Addr} {cr c1 c2 c3 c4 c5 c6 nr : Nat} {st : Int} (ok : M.ok rm) : Spec prog1 n_r11_receives [.agg #[.slice pr nr cr, .slice p1 M.sentL.length c1, .slice p2 (M.pipL rm).length c2, .slice p3 M.headL.length c3, .slice p4 M.hasL.length c4, .slice p5 M.exL.length c5, .slice p6 M.out.length c6, .int .i64 st]] [rdl kPi8 p2 (M.pipL rm), rdl kBool p4 M.hasL] (fun R => R (.tuple #[.int .i64 (bI M.recv), .bool (M.recv.isNone && M.full)]) []) := by
  refine spec_code c_r11_receives rfl ?_; intro n F R hR; unfold F_r11_receives
  have hn := ok.n
  repeat' first | apply step | (apply g_op; · repeat first | exact Evs.nil | (apply Evs.cons; exact rfl)) | (refine Br.mk (fun _ => ?_) (fun _ => ?_) <;> try (exfalso; omega)) | (refine Sd.mk ?_ ?_; · ((repeat' apply And.intro) <;> first | omega | trivial | assumption | (simp; done) | (simp; omega))) | (refine Sx.mk ?_ ?_; · omega) | refine Fa.mk (fun _ => ?_) | refine Im.mk (fun _ => ?_) | apply Lw.go | refine g_cond ?_ | refine g_guard ?_ | refine g_keep ?_ | refine g_pass ?_ | refine g_fin ?_ | (apply g_ap; exact rfl; exact rfl; assumption)
  rename_i tb
  refine at_loopS (ι := Nat) (E := fun k => [(1, .pointer (some ⟨tb, 0, none⟩)), (4, .bool ((M.c.take k).all Ce.fll)), (5, .int .i64 (k : Int))]) (Δ := fun k => pt tb [.slice pr nr cr, .slice p1 M.sentL.length c1, .slice p2 (M.pipL rm).length c2, .slice p3 M.headL.length c3, .slice p4 M.hasL.length c4, .slice p5 M.exL.length c5, .slice p6 M.out.length c6, .int .i64 st] 0 :: rdl kPi8 p2 (M.pipL rm) :: rdl kBool p4 M.hasL :: F) (P := fun k => k ≤ M.c.length ∧ ∀ j, (hj : j < M.c.length) → j < k → M.c[j].can = false) (μ := fun k => M.c.length - k) 0 ⟨Nat.zero_le _, by simp⟩ ?_
  rintro k ⟨hk, hno⟩
  try dsimp only
  have l1 := pipL_len (M := M) (rm := rm)
  have l2 := hasL_len (M := M)
  rcases Nat.lt_or_ge k M.c.length with hk' | hk'
  · have ex : M.hasL[k]'(by omega) = M.c[k].has := List.getElem_map ..
    have ep : (M.pipL rm)[k]'(by omega) = M.c[k].pi rm := List.getElem_map ..
    have e1 : ((M.pipL rm)[k]'(by omega)).room = (rm : Int) := by rw [ep]; rfl
    have e2 : ((M.pipL rm)[k]'(by omega)).sent = M.c[k].row.take M.c[k].sent := by rw [ep]; rfl
    have e3 : ((M.pipL rm)[k]'(by omega)).recv = (M.c[k].recv : Int) := by rw [ep]; rfl
    have e4 : ((M.pipL rm)[k]'(by omega)).closed = M.c[k].exited := by rw [ep]; rfl
    have hpl := pip_len ok hk'
    have cok := ok.c _ (List.getElem_mem hk')
    have q1 := cok.v; have q2 := cok.s; have q3 := cok.n
    have ht : (M.c.take (k + 1)).all Ce.fll = ((M.c.take k).all Ce.fll && M.c[k].fll) := by
      rw [List.take_succ_eq_append_getElem hk', List.all_append]; simp
    have nxt : M.c[k].can = false → ∀ j, (hj : j < M.c.length) → j < k + 1 → M.c[j].can = false := fun h j hj hjk => by
      rcases Nat.lt_or_ge j k with g | g
      · exact hno j hj g
      · have : j = k := by omega
        subst this; exact h
    have fnd : M.c[k].can = true → M.recv = some k := fun h => by
      unfold Ms.recv
      rw [List.findIdx?_eq_some_iff_getElem]
      exact ⟨hk', h, fun j hj => by rw [hno j (by omega) hj]; simp⟩
    cases hb : M.c[k].has with
    | true =>
      have hcan : M.c[k].can = false := by unfold Ce.can; rw [hb]; rfl
      have hfl : M.c[k].fll = true := by unfold Ce.fll; rw [hb]; rfl
      rw [hfl, Bool.and_true] at ht
      repeat' first | rw [ex] | rw [hb] | apply step | (apply g_op; · repeat first | exact Evs.nil | (apply Evs.cons; exact rfl)) | (refine Br.mk (fun _ => ?_) (fun _ => ?_) <;> try (exfalso; omega)) | (refine Sd.mk ?_ ?_; · ((repeat' apply And.intro) <;> first | omega | trivial | assumption | (simp; done) | (simp; omega))) | (refine Sx.mk ?_ ?_; · omega) | refine Fa.mk (fun _ => ?_) | refine Im.mk (fun _ => ?_) | apply Lw.go | refine g_cond ?_ | refine g_guard ?_ | refine g_keep ?_ | refine g_pass ?_ | refine g_fin ?_ | (apply g_ap; exact rfl; exact rfl; assumption)
      exact lp_next (k + 1) ⟨by omega, nxt hcan⟩ (by omega) (by rw [ht])
    | false =>
      repeat' first | rw [ex] | rw [hb] | rw [e1] | rw [e2] | rw [e3] | rw [e4] | apply step | (apply g_op; · repeat first | exact Evs.nil | (apply Evs.cons; exact rfl)) | (refine Br.mk (fun _ => ?_) (fun _ => ?_) <;> try (exfalso; omega)) | (refine Sd.mk ?_ ?_; · ((repeat' apply And.intro) <;> first | omega | trivial | assumption | (simp; done) | (simp; omega))) | (refine Sx.mk ?_ ?_; · omega) | refine Fa.mk (fun _ => ?_) | refine Im.mk (fun _ => ?_) | apply Lw.go | refine g_cond ?_ | refine g_guard ?_ | refine g_keep ?_ | refine g_pass ?_ | refine g_fin ?_ | (apply g_ap; exact rfl; exact rfl; assumption)
      first | refine at_callS (r11_in_spec (r := (rm : Int)) (v := M.c[k].recv) (m := (M.c[k].row.take M.c[k].sent).length) (by omega) (by omega)) ?_ | refine at_callR (r11_in_spec (r := (rm : Int)) (v := M.c[k].recv) (m := (M.c[k].row.take M.c[k].sent).length) (by omega) (by omega)) ?_
      have hfl0 : M.c[k].q.length = 0 → M.c[k].fll = M.c[k].exited := fun h => by unfold Ce.fll; rw [hb, h]; simp
      cases he : M.c[k].exited with
      | true =>
        rw [he] at e4 hfl0
        repeat' first | rw [ex] | rw [hb] | rw [e1] | rw [e2] | rw [e3] | rw [e4] | apply step | (apply g_op; · repeat first | exact Evs.nil | (apply Evs.cons; exact rfl)) | (refine Br.mk (fun _ => ?_) (fun _ => ?_) <;> try (exfalso; omega)) | (refine Sd.mk ?_ ?_; · ((repeat' apply And.intro) <;> first | omega | trivial | assumption | (simp; done) | (simp; omega))) | (refine Sx.mk ?_ ?_; · omega) | refine Fa.mk (fun _ => ?_) | refine Im.mk (fun _ => ?_) | apply Lw.go | refine g_cond ?_ | refine g_guard ?_ | refine g_keep ?_ | refine g_pass ?_ | refine g_fin ?_ | (apply g_ap; exact rfl; exact rfl; assumption)
        · rw [fnd (can_of hb (by omega))] at hR
          exact fin hR
        · have hcan : M.c[k].can = false := can_no (by omega)
          rw [hfl0 (by omega), Bool.and_true] at ht
          exact lp_next (k + 1) ⟨by omega, nxt hcan⟩ (by omega) (by rw [ht])
      | false =>
        rw [he] at e4 hfl0
        repeat' first | rw [ex] | rw [hb] | rw [e1] | rw [e2] | rw [e3] | rw [e4] | apply step | (apply g_op; · repeat first | exact Evs.nil | (apply Evs.cons; exact rfl)) | (refine Br.mk (fun _ => ?_) (fun _ => ?_) <;> try (exfalso; omega)) | (refine Sd.mk ?_ ?_; · ((repeat' apply And.intro) <;> first | omega | trivial | assumption | (simp; done) | (simp; omega))) | (refine Sx.mk ?_ ?_; · omega) | refine Fa.mk (fun _ => ?_) | refine Im.mk (fun _ => ?_) | apply Lw.go | refine g_cond ?_ | refine g_guard ?_ | refine g_keep ?_ | refine g_pass ?_ | refine g_fin ?_ | (apply g_ap; exact rfl; exact rfl; assumption)
        · rw [fnd (can_of hb (by omega))] at hR
          exact fin hR
        · have hcan : M.c[k].can = false := can_no (by omega)
          rw [hfl0 (by omega), Bool.and_false] at ht
          exact lp_next (k + 1) ⟨by omega, nxt hcan⟩ (by omega) (by rw [ht])
  · have hkk : k = M.c.length := by omega
    subst hkk
    have hrv : M.recv = none := by
      unfold Ms.recv
      rw [List.findIdx?_eq_none_iff]
      intro x hx
      obtain ⟨j, hj, rfl⟩ := List.mem_iff_getElem.1 hx
      exact hno j hj hj
    rw [hrv, bI_none, show (Option.isNone (none : Option Nat) && M.full) = M.c.all Ce.fll from rfl] at hR
    rw [List.take_length]
    repeat' first | apply step | (apply g_op; · repeat first | exact Evs.nil | (apply Evs.cons; exact rfl)) | (refine Br.mk (fun _ => ?_) (fun _ => ?_) <;> try (exfalso; omega)) | (refine Sd.mk ?_ ?_; · ((repeat' apply And.intro) <;> first | omega | trivial | assumption | (simp; done) | (simp; omega))) | (refine Sx.mk ?_ ?_; · omega) | refine Fa.mk (fun _ => ?_) | refine Im.mk (fun _ => ?_) | apply Lw.go | refine g_cond ?_ | refine g_guard ?_ | refine g_keep ?_ | refine g_pass ?_ | refine g_fin ?_ | (apply g_ap; exact rfl; exact rfl; assumption)
    exact fin hR
theorem exL_lt {k : Nat} (hk : k < M.c.length) : M.exL[k]'(by rw [exL_len]; omega) = M.c[k].exited := by
  unfold Ms.exL
  rw [List.getElem_append_left (by simpa using hk)]; simp
theorem exL_last : M.exL[M.c.length]'(by rw [exL_len]; omega) = M.exited := by
  unfold Ms.exL
  rw [List.getElem_append_right (by simp)]; simp
theorem r11_ready_spec {pr p1 p2 p3 p4 p5 p6 : Option Addr} {cr c1 c2 c3 c4 c5 c6 : Nat} {st : Int} {rows : List (List Int)} (ok : M.ok rm) (hrows : M.c.map Ce.row = rows) : Spec prog1 n_r11_ready [.agg #[.slice pr rows.length cr, .slice p1 M.sentL.length c1, .slice p2 (M.pipL rm).length c2, .slice p3 M.headL.length c3, .slice p4 M.hasL.length c4, .slice p5 M.exL.length c5, .slice p6 M.out.length c6, .int .i64 st]] [rdl (kSl (kInt .i64)) pr rows, rdl (kInt .i64) p1 M.sentL, rdl kPi8 p2 (M.pipL rm), rdl kBool p4 M.hasL, rdl kBool p5 M.exL] (fun R => ∀ p c, R (.slice p (M.mg rm).readyL.length c) [own (kInt .i64) p c (M.mg rm).readyL]) := by
  refine spec_code c_r11_ready rfl ?_; intro n F R hR; unfold F_r11_ready
  have hn := ok.n
  have hrl := rows_len (m := rm) hrows
  have lml : (M.mg rm).l.length = M.c.length := mg_len
  repeat' first | apply step | (apply g_op; · repeat first | exact Evs.nil | (apply Evs.cons; exact rfl)) | (refine Br.mk (fun _ => ?_) (fun _ => ?_) <;> try (exfalso; omega)) | (refine Sd.mk ?_ ?_; · ((repeat' apply And.intro) <;> first | omega | trivial | assumption | (simp; done) | (simp; omega))) | (refine Sx.mk ?_ ?_; · omega) | refine Fa.mk (fun _ => ?_) | refine Im.mk (fun _ => ?_) | apply Lw.go | refine g_cond ?_ | refine g_guard ?_ | refine g_keep ?_ | refine g_pass ?_ | refine g_fin ?_ | (apply g_ap; exact rfl; exact rfl; assumption)
  rename_i tb
  refine at_loopS (ι := Nat × Option Addr × Nat) (E := fun k => [(1, .pointer (some ⟨tb, 0, none⟩)), (3, .slice k.2.1 ((M.mg rm).goes k.1).length k.2.2), (4, .int .i64 (rows.length : Int)), (5, .int .i64 (k.1 : Int))]) (Δ := fun k => own (kInt .i64) k.2.1 k.2.2 ((M.mg rm).goes k.1) :: pt tb [.slice pr rows.length cr, .slice p1 M.sentL.length c1, .slice p2 (M.pipL rm).length c2, .slice p3 M.headL.length c3, .slice p4 M.hasL.length c4, .slice p5 M.exL.length c5, .slice p6 M.out.length c6, .int .i64 st] 0 :: rdl (kSl (kInt .i64)) pr rows :: rdl (kInt .i64) p1 M.sentL :: rdl kPi8 p2 (M.pipL rm) :: rdl kBool p4 M.hasL :: rdl kBool p5 M.exL :: F) (P := fun k => k.1 ≤ M.c.length) (μ := fun k => M.c.length - k.1) (0, none, 0) (Nat.zero_le _) ?_
  rintro ⟨k, gp, gc⟩ hk
  dsimp only at hk ⊢
  have l0 := sentL_len (M := M)
  have l1 := pipL_len (M := M) (rm := rm)
  have l2 := hasL_len (M := M)
  have l3 := exL_len (M := M)
  have hgl := goes_len (M.mg rm) k
  rcases Nat.lt_or_ge k M.c.length with hk' | hk'
  · have ex := exL_lt hk'
    have es : M.sentL[k]'(by omega) = (M.c[k].sent : Int) := List.getElem_map ..
    have er : rows[k]'(by omega) = M.c[k].row := by subst hrows; simp
    have ep : (M.pipL rm)[k]'(by omega) = M.c[k].pi rm := List.getElem_map ..
    have e1 : ((M.pipL rm)[k]'(by omega)).room = (rm : Int) := by rw [ep]; rfl
    have e2 : ((M.pipL rm)[k]'(by omega)).sent = M.c[k].row.take M.c[k].sent := by rw [ep]; rfl
    have e3 : ((M.pipL rm)[k]'(by omega)).recv = (M.c[k].recv : Int) := by rw [ep]; rfl
    have e4 : ((M.pipL rm)[k]'(by omega)).closed = M.c[k].exited := by rw [ep]; rfl
    have hpl := pip_len ok hk'
    have cok := ok.c _ (List.getElem_mem hk')
    have q1 := cok.v; have q2 := cok.s; have q3 := cok.n
    have hgs := goes_succ (M := M.mg rm) (k := k) (by omega)
    rw [getElem_sn hk', show (M.c[k].sn rm).rdy = M.c[k].rdy rm from rfl] at hgs
    cases he : M.c[k].exited with
    | true =>
      have hrd : M.c[k].rdy rm = false := by unfold Ce.rdy; rw [he]; rfl
      rw [hrd] at hgs
      simp only [Bool.false_eq_true, if_false, List.append_nil] at hgs
      repeat' first | rw [ex] | rw [he] | apply step | (apply g_op; · repeat first | exact Evs.nil | (apply Evs.cons; exact rfl)) | (refine Br.mk (fun _ => ?_) (fun _ => ?_) <;> try (exfalso; omega)) | (refine Sd.mk ?_ ?_; · ((repeat' apply And.intro) <;> first | omega | trivial | assumption | (simp; done) | (simp; omega))) | (refine Sx.mk ?_ ?_; · omega) | refine Fa.mk (fun _ => ?_) | refine Im.mk (fun _ => ?_) | apply Lw.go | refine g_cond ?_ | refine g_guard ?_ | refine g_keep ?_ | refine g_pass ?_ | refine g_fin ?_ | (apply g_ap; exact rfl; exact rfl; assumption)
      exact lp_next (k + 1, gp, gc) (by dsimp only; omega) (by dsimp only; omega) (by simp only [hgs]) (hs := by simp only [hgs]; repeat first | exact Ent.refl _ | (apply Ent.more; · repeat first | exact Ent.keep | exact Ent.here | exact Ent.lend | exact ent_nil | apply Ent.there) | apply Ent.drop)
    | false =>
      rw [he] at e4
      by_cases hs1 : M.c[k].sent = M.c[k].row.length
      · have hrd : M.c[k].rdy rm = true := by unfold Ce.rdy; rw [he, decide_eq_true (show M.c[k].row.length ≤ M.c[k].sent by omega)]; rfl
        rw [hrd] at hgs
        simp only [if_true] at hgs
        repeat' first | rw [ex] | rw [he] | rw [es] | rw [er] | rw [e1] | rw [e2] | rw [e3] | rw [e4] | apply step | (apply g_op; · repeat first | exact Evs.nil | (apply Evs.cons; exact rfl)) | (refine Br.mk (fun _ => ?_) (fun _ => ?_) <;> try (exfalso; omega)) | (refine Sd.mk ?_ ?_; · ((repeat' apply And.intro) <;> first | omega | trivial | assumption | (simp; done) | (simp; omega))) | (refine Sx.mk ?_ ?_; · omega) | refine Fa.mk (fun _ => ?_) | refine Im.mk (fun _ => ?_) | apply Lw.go | refine g_cond ?_ | refine g_guard ?_ | refine g_keep ?_ | refine g_pass ?_ | refine g_fin ?_ | (apply g_ap; exact rfl; exact rfl; assumption)
        all_goals first | (exfalso; omega) | skip
        rename_i gp2 gc2
        exact lp_next (k + 1, gp2, gc2) (by dsimp only; omega) (by dsimp only; omega) (by simp only [hgs]) (hs := by simp only [hgs]; repeat first | exact Ent.refl _ | (apply Ent.more; · repeat first | exact Ent.keep | exact Ent.here | exact Ent.lend | exact ent_nil | apply Ent.there) | apply Ent.drop)
      · repeat' first | rw [ex] | rw [he] | rw [es] | rw [er] | rw [e1] | rw [e2] | rw [e3] | rw [e4] | apply step | (apply g_op; · repeat first | exact Evs.nil | (apply Evs.cons; exact rfl)) | (refine Br.mk (fun _ => ?_) (fun _ => ?_) <;> try (exfalso; omega)) | (refine Sd.mk ?_ ?_; · ((repeat' apply And.intro) <;> first | omega | trivial | assumption | (simp; done) | (simp; omega))) | (refine Sx.mk ?_ ?_; · omega) | refine Fa.mk (fun _ => ?_) | refine Im.mk (fun _ => ?_) | apply Lw.go | refine g_cond ?_ | refine g_guard ?_ | refine g_keep ?_ | refine g_pass ?_ | refine g_fin ?_ | (apply g_ap; exact rfl; exact rfl; assumption)
        first | refine at_callS (r11_in_spec (r := (rm : Int)) (v := M.c[k].recv) (m := (M.c[k].row.take M.c[k].sent).length) (by omega) (by omega)) ?_ | refine at_callR (r11_in_spec (r := (rm : Int)) (v := M.c[k].recv) (m := (M.c[k].row.take M.c[k].sent).length) (by omega) (by omega)) ?_
        by_cases hq : M.c[k].q.length < rm
        · have hrd : M.c[k].rdy rm = true := by unfold Ce.rdy; rw [he, decide_eq_true hq]; simp
          rw [hrd] at hgs
          simp only [if_true] at hgs
          repeat' first | rw [ex] | rw [he] | rw [es] | rw [er] | rw [e1] | rw [e2] | rw [e3] | rw [e4] | apply step | (apply g_op; · repeat first | exact Evs.nil | (apply Evs.cons; exact rfl)) | (refine Br.mk (fun _ => ?_) (fun _ => ?_) <;> try (exfalso; omega)) | (refine Sd.mk ?_ ?_; · ((repeat' apply And.intro) <;> first | omega | trivial | assumption | (simp; done) | (simp; omega))) | (refine Sx.mk ?_ ?_; · omega) | refine Fa.mk (fun _ => ?_) | refine Im.mk (fun _ => ?_) | apply Lw.go | refine g_cond ?_ | refine g_guard ?_ | refine g_keep ?_ | refine g_pass ?_ | refine g_fin ?_ | (apply g_ap; exact rfl; exact rfl; assumption)
          rename_i gp2 gc2
          exact lp_next (k + 1, gp2, gc2) (by dsimp only; omega) (by dsimp only; omega) (by simp only [hgs]) (hs := by simp only [hgs]; repeat first | exact Ent.refl _ | (apply Ent.more; · repeat first | exact Ent.keep | exact Ent.here | exact Ent.lend | exact ent_nil | apply Ent.there) | apply Ent.drop)
        · have hrd : M.c[k].rdy rm = false := by unfold Ce.rdy; rw [he, decide_eq_false hq, decide_eq_false (show ¬ M.c[k].row.length ≤ M.c[k].sent by omega)]; rfl
          rw [hrd] at hgs
          simp only [Bool.false_eq_true, if_false, List.append_nil] at hgs
          repeat' first | rw [ex] | rw [he] | rw [es] | rw [er] | rw [e1] | rw [e2] | rw [e3] | rw [e4] | apply step | (apply g_op; · repeat first | exact Evs.nil | (apply Evs.cons; exact rfl)) | (refine Br.mk (fun _ => ?_) (fun _ => ?_) <;> try (exfalso; omega)) | (refine Sd.mk ?_ ?_; · ((repeat' apply And.intro) <;> first | omega | trivial | assumption | (simp; done) | (simp; omega))) | (refine Sx.mk ?_ ?_; · omega) | refine Fa.mk (fun _ => ?_) | refine Im.mk (fun _ => ?_) | apply Lw.go | refine g_cond ?_ | refine g_guard ?_ | refine g_keep ?_ | refine g_pass ?_ | refine g_fin ?_ | (apply g_ap; exact rfl; exact rfl; assumption)
          exact lp_next (k + 1, gp, gc) (by dsimp only; omega) (by dsimp only; omega) (by simp only [hgs]) (hs := by simp only [hgs]; repeat first | exact Ent.refl _ | (apply Ent.more; · repeat first | exact Ent.keep | exact Ent.here | exact Ent.lend | exact ent_nil | apply Ent.there) | apply Ent.drop)
  · have hkk : k = M.c.length := by omega
    subst hkk
    repeat' first | apply step | (apply g_op; · repeat first | exact Evs.nil | (apply Evs.cons; exact rfl)) | (refine Br.mk (fun _ => ?_) (fun _ => ?_) <;> try (exfalso; omega)) | (refine Sd.mk ?_ ?_; · ((repeat' apply And.intro) <;> first | omega | trivial | assumption | (simp; done) | (simp; omega))) | (refine Sx.mk ?_ ?_; · omega) | refine Fa.mk (fun _ => ?_) | refine Im.mk (fun _ => ?_) | apply Lw.go | refine g_cond ?_ | refine g_guard ?_ | refine g_keep ?_ | refine g_pass ?_ | refine g_fin ?_ | (apply g_ap; exact rfl; exact rfl; assumption)
    first | refine at_callS (r11_receives_spec (pr := pr) (p1 := p1) (p2 := p2) (p3 := p3) (p4 := p4) (p5 := p5) (p6 := p6) (cr := cr) (c1 := c1) (c2 := c2) (c3 := c3) (c4 := c4) (c5 := c5) (c6 := c6) (nr := rows.length) (st := st) ok) ?_ | refine at_callR (r11_receives_spec (pr := pr) (p1 := p1) (p2 := p2) (p3 := p3) (p4 := p4) (p5 := p5) (p6 := p6) (cr := cr) (c1 := c1) (c2 := c2) (c3 := c3) (c4 := c4) (c5 := c5) (c6 := c6) (nr := rows.length) (st := st) ok) ?_
    have exl : M.exL[rows.length]'(by omega) = M.exited := by
      have : ∀ i (h : i < M.exL.length), i = M.c.length → M.exL[i] = M.exited := fun i h e => by subst e; exact exL_last
      exact this _ _ hrl.symm
    have key : (M.mg rm).readyL = (M.mg rm).goes M.c.length ++ (if (!M.exited && (M.recv.isSome || M.full)) = true then [(rows.length : Int)] else []) := by
      have e : (!(M.mg rm).exited && (decide (0 ≤ (M.mg rm).recv) || (M.mg rm).full)) = (!M.exited && (M.recv.isSome || M.full)) := by
        rw [mg_recv, mg_full]
        show (!M.exited && _) = _
        cases M.recv with
        | none => rfl
        | some k => rw [bI_some, decide_eq_true (by omega)]; rfl
      unfold Mg.readyL
      rw [e, mg_len, hrl]
    rw [key] at hR
    cases hx : M.exited with
    | true =>
      rw [hx] at hR
      simp only [Bool.not_true, Bool.false_and, Bool.false_eq_true, if_false, List.append_nil] at hR
      repeat' first | rw [exl] | rw [hx] | apply step | (apply g_op; · repeat first | exact Evs.nil | (apply Evs.cons; exact rfl)) | (refine Br.mk (fun _ => ?_) (fun _ => ?_) <;> try (exfalso; omega)) | (refine Sd.mk ?_ ?_; · ((repeat' apply And.intro) <;> first | omega | trivial | assumption | (simp; done) | (simp; omega))) | (refine Sx.mk ?_ ?_; · omega) | refine Fa.mk (fun _ => ?_) | refine Im.mk (fun _ => ?_) | apply Lw.go | refine g_cond ?_ | refine g_guard ?_ | refine g_keep ?_ | refine g_pass ?_ | refine g_fin ?_ | (apply g_ap; exact rfl; exact rfl; assumption)
      exact fin (hR gp gc)
    | false =>
      rw [hx] at hR
      cases hrv : M.recv with
      | some j =>
        rw [hrv] at hR
        simp only [Bool.not_false, Bool.true_and, Option.isSome_some, Bool.true_or, if_true] at hR
        rw [bI_some]
        repeat' first | rw [exl] | rw [hx] | apply step | (apply g_op; · repeat first | exact Evs.nil | (apply Evs.cons; exact rfl)) | (refine Br.mk (fun _ => ?_) (fun _ => ?_) <;> try (exfalso; omega)) | (refine Sd.mk ?_ ?_; · ((repeat' apply And.intro) <;> first | omega | trivial | assumption | (simp; done) | (simp; omega))) | (refine Sx.mk ?_ ?_; · omega) | refine Fa.mk (fun _ => ?_) | refine Im.mk (fun _ => ?_) | apply Lw.go | refine g_cond ?_ | refine g_guard ?_ | refine g_keep ?_ | refine g_pass ?_ | refine g_fin ?_ | (apply g_ap; exact rfl; exact rfl; assumption)
        rename_i gp2 gc2
        exact fin (hR gp2 gc2)
      | none =>
        rw [hrv] at hR
        simp only [Bool.not_false, Bool.true_and, Option.isSome_none, Bool.false_or] at hR
        rw [bI_none]
        cases hfl : M.full with
        | true =>
          rw [hfl] at hR
          simp only [if_true] at hR
          simp only [Option.isNone_none, Bool.and_self]
          repeat' first | rw [exl] | rw [hx] | apply step | (apply g_op; · repeat first | exact Evs.nil | (apply Evs.cons; exact rfl)) | (refine Br.mk (fun _ => ?_) (fun _ => ?_) <;> try (exfalso; omega)) | (refine Sd.mk ?_ ?_; · ((repeat' apply And.intro) <;> first | omega | trivial | assumption | (simp; done) | (simp; omega))) | (refine Sx.mk ?_ ?_; · omega) | refine Fa.mk (fun _ => ?_) | refine Im.mk (fun _ => ?_) | apply Lw.go | refine g_cond ?_ | refine g_guard ?_ | refine g_keep ?_ | refine g_pass ?_ | refine g_fin ?_ | (apply g_ap; exact rfl; exact rfl; assumption)
          rename_i gp2 gc2
          exact fin (hR gp2 gc2)
        | false =>
          rw [hfl] at hR
          simp only [Bool.false_eq_true, if_false, List.append_nil] at hR
          simp only [Option.isNone_none, Bool.and_false]
          repeat' first | rw [exl] | rw [hx] | apply step | (apply g_op; · repeat first | exact Evs.nil | (apply Evs.cons; exact rfl)) | (refine Br.mk (fun _ => ?_) (fun _ => ?_) <;> try (exfalso; omega)) | (refine Sd.mk ?_ ?_; · ((repeat' apply And.intro) <;> first | omega | trivial | assumption | (simp; done) | (simp; omega))) | (refine Sx.mk ?_ ?_; · omega) | refine Fa.mk (fun _ => ?_) | refine Im.mk (fun _ => ?_) | apply Lw.go | refine g_cond ?_ | refine g_guard ?_ | refine g_keep ?_ | refine g_pass ?_ | refine g_fin ?_ | (apply g_ap; exact rfl; exact rfl; assumption)
          exact fin (hR gp gc)
end
end Go.AMS

namespace Go.AMS
open Go.AM hiding Kt At WP WL Runs RunsY
open Go.AM.G
set_option linter.unusedVariables false
set_option linter.unusedSimpArgs false
set_option linter.unusedSectionVars false
set_option maxRecDepth 100000
set_option maxHeartbeats 1000000
attribute [local irreducible] AtS AtV AtC AtG FinA Spec Post LP G.At G.WP G.WL pt own fro rdl ro hx mp lrec elt sub

open Go.AM.G.Set
section
variable {rm : Nat} {M : Ms}
theorem upd_len {k : Nat} {f : Ce → Ce} : (M.upd k f).c.length = M.c.length := by
  unfold Ms.upd; split <;> simp
section
variable {k : Nat} {f : Ce → Ce} (hk : k < M.c.length)
include hk
theorem upd_sentL {x : Int} (h : ((f M.c[k]).sent : Int) = x) : (M.upd k f).sentL = M.sentL.set k x := by
  rw [upd_lt hk]; unfold Ms.sentL; dsimp only; rw [List.map_set, h]
theorem upd_sentL0 (h : (f M.c[k]).sent = M.c[k].sent) : (M.upd k f).sentL = M.sentL := by
  rw [upd_lt hk]; unfold Ms.sentL; dsimp only; exact set_map_same hk (by rw [h])
theorem upd_pipL {x : Pi8} (h : (f M.c[k]).pi rm = x) : (M.upd k f).pipL rm = (M.pipL rm).set k x := by
  rw [upd_lt hk]; unfold Ms.pipL; dsimp only; rw [List.map_set, h]
theorem upd_pipL0 (h : (f M.c[k]).pi rm = M.c[k].pi rm) : (M.upd k f).pipL rm = M.pipL rm := by
  rw [upd_lt hk]; unfold Ms.pipL; dsimp only; exact set_map_same hk h
theorem upd_headL {x : Int} (h : (f M.c[k]).head = x) : (M.upd k f).headL = M.headL.set k x := by
  rw [upd_lt hk]; unfold Ms.headL; dsimp only; rw [List.map_set, h]
theorem upd_headL0 (h : (f M.c[k]).head = M.c[k].head) : (M.upd k f).headL = M.headL := by
  rw [upd_lt hk]; unfold Ms.headL; dsimp only; exact set_map_same hk h
theorem upd_hasL {x : Bool} (h : (f M.c[k]).has = x) : (M.upd k f).hasL = M.hasL.set k x := by
  rw [upd_lt hk]; unfold Ms.hasL; dsimp only; rw [List.map_set, h]
theorem upd_hasL0 (h : (f M.c[k]).has = M.c[k].has) : (M.upd k f).hasL = M.hasL := by
  rw [upd_lt hk]; unfold Ms.hasL; dsimp only; exact set_map_same hk h
theorem upd_exL {x : Bool} (h : (f M.c[k]).exited = x) : (M.upd k f).exL = M.exL.set k x := by
  rw [upd_lt hk]; unfold Ms.exL; dsimp only
  rw [List.map_set, h, List.set_append_left _ _ (by simpa using hk)]
theorem upd_exL0 (h : (f M.c[k]).exited = M.c[k].exited) : (M.upd k f).exL = M.exL := by
  rw [upd_lt hk]; unfold Ms.exL; dsimp only; rw [set_map_same hk h]
theorem upd_out : (M.upd k f).out = M.out := by rw [upd_lt hk]
end
theorem r11_send_spec {pr p1 p2 p3 p4 p5 p6 : Option Addr} {cr c1 c2 c3 c4 c5 c6 k : Nat} {st : Int} {rows : List (List Int)} (ok : M.ok rm) (hrows : M.c.map Ce.row = rows) (hk : k < M.c.length) (hrd : M.c[k].rdy rm = true) :
    Spec prog1 n_r11_send [.agg #[.slice pr rows.length cr, .slice p1 M.sentL.length c1, .slice p2 (M.pipL rm).length c2, .slice p3 M.headL.length c3, .slice p4 M.hasL.length c4, .slice p5 M.exL.length c5, .slice p6 M.out.length c6, .int .i64 st], .int .i64 (k : Int)] [own (kInt .i64) p1 c1 M.sentL, own kPi8 p2 c2 (M.pipL rm), own kBool p5 c5 M.exL, rdl (kSl (kInt .i64)) pr rows]
      (fun R => R (.agg #[.slice pr rows.length cr, .slice p1 M.sentL.length c1, .slice p2 (M.pipL rm).length c2, .slice p3 M.headL.length c3, .slice p4 M.hasL.length c4, .slice p5 M.exL.length c5, .slice p6 M.out.length c6, .int .i64 st]) [own (kInt .i64) p1 c1 (M.upd k Ce.step).sentL, own kPi8 p2 c2 ((M.upd k Ce.step).pipL rm), own kBool p5 c5 (M.upd k Ce.step).exL]) := by
  refine spec_code c_r11_send rfl ?_; intro n F R hR; unfold F_r11_send
  have hn := ok.n
  have hrl := rows_len (m := rm) hrows
  have l0 := sentL_len (M := M)
  have l1 := pipL_len (M := M) (rm := rm)
  have l3 := exL_len (M := M)
  have ex := exL_lt hk
  have es : M.sentL[k]'(by omega) = (M.c[k].sent : Int) := List.getElem_map ..
  have er : rows[k]'(by omega) = M.c[k].row := by subst hrows; simp
  have ep : (M.pipL rm)[k]'(by omega) = M.c[k].pi rm := List.getElem_map ..
  have e1 : ((M.pipL rm)[k]'(by omega)).room = (rm : Int) := by rw [ep]; rfl
  have e2 : ((M.pipL rm)[k]'(by omega)).sent = M.c[k].row.take M.c[k].sent := by rw [ep]; rfl
  have e3 : ((M.pipL rm)[k]'(by omega)).recv = (M.c[k].recv : Int) := by rw [ep]; rfl
  have e4 : ((M.pipL rm)[k]'(by omega)).closed = M.c[k].exited := by rw [ep]; rfl
  have hpl := pip_len ok hk
  have cok := ok.c _ (List.getElem_mem hk)
  have q1 := cok.v; have q2 := cok.s; have q3 := cok.n
  obtain ⟨he, hq⟩ : M.c[k].exited = false ∧ (M.c[k].row.length ≤ M.c[k].sent ∨ M.c[k].q.length < rm) := by
    unfold Ce.rdy at hrd; simpa using hrd
  rw [he] at e4
  by_cases hs1 : M.c[k].sent = M.c[k].row.length
  · have hst : M.c[k].step = { M.c[k] with exited := true } := by unfold Ce.step; rw [if_pos (by omega)]
    rw [upd_sentL0 hk (by rw [hst]), upd_pipL hk (x := ⟨rm, M.c[k].row.take M.c[k].sent, M.c[k].recv, true⟩) (by rw [hst]; rfl), upd_exL hk (x := true) (by rw [hst])] at hR
    repeat' first | rw [es] | rw [er] | rw [e1] | rw [e2] | rw [e3] | rw [e4] | apply step | (apply g_op; · repeat first | exact Evs.nil | (apply Evs.cons; exact rfl)) | (refine Br.mk (fun _ => ?_) (fun _ => ?_) <;> try (exfalso; omega)) | (refine Sd.mk ?_ ?_; · ((repeat' apply And.intro) <;> first | omega | trivial | assumption | (simp; done) | (simp; omega))) | (refine Sx.mk ?_ ?_; · omega) | refine Fa.mk (fun _ => ?_) | refine Im.mk (fun _ => ?_) | apply Lw.go | refine g_cond ?_ | refine g_guard ?_ | refine g_keep ?_ | refine g_pass ?_ | refine g_fin ?_ | (apply g_ap; exact rfl; exact rfl; assumption)
    all_goals first | (exfalso; omega) | skip
    first | refine at_callS (r08_Close_spec) ?_ | refine at_callR (r08_Close_spec) ?_
    repeat' first | apply step | (apply g_op; · repeat first | exact Evs.nil | (apply Evs.cons; exact rfl)) | (refine Br.mk (fun _ => ?_) (fun _ => ?_) <;> try (exfalso; omega)) | (refine Sd.mk ?_ ?_; · ((repeat' apply And.intro) <;> first | omega | trivial | assumption | (simp; done) | (simp; omega))) | (refine Sx.mk ?_ ?_; · omega) | refine Fa.mk (fun _ => ?_) | refine Im.mk (fun _ => ?_) | apply Lw.go | refine g_cond ?_ | refine g_guard ?_ | refine g_keep ?_ | refine g_pass ?_ | refine g_fin ?_ | (apply g_ap; exact rfl; exact rfl; assumption)
    exact fin hR
  · have hlt : M.c[k].sent < M.c[k].row.length := by omega
    have hq2 : M.c[k].q.length < rm := by omega
    have hst : M.c[k].step = { M.c[k] with sent := M.c[k].sent + 1, q := M.c[k].q ++ [M.c[k].row[M.c[k].sent]] } := by
      unfold Ce.step; rw [if_neg (by omega), getD_lt hlt]
    rw [upd_sentL hk (x := ((M.c[k].sent + 1 : Nat) : Int)) (by rw [hst]), upd_pipL hk (x := ⟨rm, M.c[k].row.take M.c[k].sent ++ [M.c[k].row[M.c[k].sent]], M.c[k].recv, false⟩) (by rw [hst]; unfold Ce.pi; dsimp only; rw [List.take_succ_eq_append_getElem hlt, he]), upd_exL0 hk (by rw [hst])] at hR
    repeat' first | rw [es] | rw [er] | rw [e1] | rw [e2] | rw [e3] | rw [e4] | apply step | (apply g_op; · repeat first | exact Evs.nil | (apply Evs.cons; exact rfl)) | (refine Br.mk (fun _ => ?_) (fun _ => ?_) <;> try (exfalso; omega)) | (refine Sd.mk ?_ ?_; · ((repeat' apply And.intro) <;> first | omega | trivial | assumption | (simp; done) | (simp; omega))) | (refine Sx.mk ?_ ?_; · omega) | refine Fa.mk (fun _ => ?_) | refine Im.mk (fun _ => ?_) | apply Lw.go | refine g_cond ?_ | refine g_guard ?_ | refine g_keep ?_ | refine g_pass ?_ | refine g_fin ?_ | (apply g_ap; exact rfl; exact rfl; assumption)
    rename_i hxb
    first | refine at_callS (r08_Send_spec (r := (rm : Int)) (v := M.c[k].recv) (x := M.c[k].row[M.c[k].sent]) (l := M.c[k].row.take M.c[k].sent) (by omega) (by omega) (by omega) hxb) ?_ | refine at_callR (r08_Send_spec (r := (rm : Int)) (v := M.c[k].recv) (x := M.c[k].row[M.c[k].sent]) (l := M.c[k].row.take M.c[k].sent) (by omega) (by omega) (by omega) hxb) ?_
    intro p' c'
    repeat' first | apply step | (apply g_op; · repeat first | exact Evs.nil | (apply Evs.cons; exact rfl)) | (refine Br.mk (fun _ => ?_) (fun _ => ?_) <;> try (exfalso; omega)) | (refine Sd.mk ?_ ?_; · ((repeat' apply And.intro) <;> first | omega | trivial | assumption | (simp; done) | (simp; omega))) | (refine Sx.mk ?_ ?_; · omega) | refine Fa.mk (fun _ => ?_) | refine Im.mk (fun _ => ?_) | apply Lw.go | refine g_cond ?_ | refine g_guard ?_ | refine g_keep ?_ | refine g_pass ?_ | refine g_fin ?_ | (apply g_ap; exact rfl; exact rfl; assumption)
    refine av_freeze (K := kInt .i64) (p := p') (l := M.c[k].row.take M.c[k].sent ++ [M.c[k].row[M.c[k].sent]]) ?_
    repeat' first | rw [es] | apply step | (apply g_op; · repeat first | exact Evs.nil | (apply Evs.cons; exact rfl)) | (refine Br.mk (fun _ => ?_) (fun _ => ?_) <;> try (exfalso; omega)) | (refine Sd.mk ?_ ?_; · ((repeat' apply And.intro) <;> first | omega | trivial | assumption | (simp; done) | (simp; omega))) | (refine Sx.mk ?_ ?_; · omega) | refine Fa.mk (fun _ => ?_) | refine Im.mk (fun _ => ?_) | apply Lw.go | refine g_cond ?_ | refine g_guard ?_ | refine g_keep ?_ | refine g_pass ?_ | refine g_fin ?_ | (apply g_ap; exact rfl; exact rfl; assumption)
    exact fin hR
end
end Go.AMS

namespace Go.AMS
open Go.AM hiding Kt At WP WL Runs RunsY
open Go.AM.G
set_option linter.unusedVariables false
set_option linter.unusedSimpArgs false
set_option linter.unusedSectionVars false
set_option maxRecDepth 100000
set_option maxHeartbeats 1000000
attribute [local irreducible] AtS AtV AtC AtG FinA Spec Post LP G.At G.WP G.WL pt own fro rdl ro hx mp lrec elt sub

open Go.AM.G.Set
section
variable {rm : Nat} {M : Ms}
def Ms.hdsL (M : Ms) : List (List Int) := M.c.map fun c => bif c.has then [c.head] else []
theorem hdsL_len : M.hdsL.length = M.c.length := List.length_map ..
theorem hdsL_best : bestN (hd M.hdsL) M.hdsL.length = M.least := by
  rw [hdsL_len]
  refine best_congr fun j hj => ?_
  rw [hv_lt hj]
  unfold hd Ms.hdsL Ce.hd
  rw [List.getElem?_map, List.getElem?_eq_getElem hj]
  cases h : M.c[j].has <;> simp [h]
theorem r11_merge_spec {pr p1 p2 p3 p4 p5 p6 : Option Addr} {cr c1 c2 c3 c4 c5 c6 : Nat} {st : Int} {rows : List (List Int)} (ok : M.ok rm) (hx : M.exited = false) (hrows : M.c.map Ce.row = rows) :
    Spec prog1 n_r11_merge [.agg #[.slice pr rows.length cr, .slice p1 M.sentL.length c1, .slice p2 (M.pipL rm).length c2, .slice p3 M.headL.length c3, .slice p4 M.hasL.length c4, .slice p5 M.exL.length c5, .slice p6 M.out.length c6, .int .i64 st]] [own kPi8 p2 c2 (M.pipL rm), own (kInt .i64) p3 c3 M.headL, own kBool p4 c4 M.hasL, own kBool p5 c5 M.exL, own (kInt .i64) p6 c6 M.out, fro (kSl (kInt .i64)) pr cr rows]
      (fun R => ∀ p6' c6', R (.agg #[.slice pr rows.length cr, .slice p1 M.sentL.length c1, .slice p2 (M.pipL rm).length c2, .slice p3 M.headL.length c3, .slice p4 M.hasL.length c4, .slice p5 M.exL.length c5, .slice p6' M.step.out.length c6', .int .i64 st]) [own kPi8 p2 c2 (M.step.pipL rm), own (kInt .i64) p3 c3 M.step.headL, own kBool p4 c4 M.step.hasL, own kBool p5 c5 M.step.exL, own (kInt .i64) p6' c6' M.step.out, fro (kSl (kInt .i64)) pr cr rows]) := by
  refine spec_code c_r11_merge rfl ?_; intro n F R hR; unfold F_r11_merge
  have hn := ok.n
  have hrl := rows_len (m := rm) hrows
  have l1 := pipL_len (M := M) (rm := rm)
  have l2 := hasL_len (M := M)
  have l3 := exL_len (M := M)
  have l4 := headL_len (M := M)
  repeat' first | apply step | (apply g_op; · repeat first | exact Evs.nil | (apply Evs.cons; exact rfl)) | (refine Br.mk (fun _ => ?_) (fun _ => ?_) <;> try (exfalso; omega)) | (refine Sd.mk ?_ ?_; · ((repeat' apply And.intro) <;> first | omega | trivial | assumption | (simp; done) | (simp; omega))) | (refine Sx.mk ?_ ?_; · omega) | refine Fa.mk (fun _ => ?_) | refine Im.mk (fun _ => ?_) | apply Lw.go | refine g_cond ?_ | refine g_guard ?_ | refine g_keep ?_ | refine g_pass ?_ | refine g_fin ?_ | (apply g_ap; exact rfl; exact rfl; assumption)
  rename_i tb rb
  first | refine at_callS (r11_receives_spec (pr := pr) (p1 := p1) (p2 := p2) (p3 := p3) (p4 := p4) (p5 := p5) (p6 := p6) (cr := cr) (c1 := c1) (c2 := c2) (c3 := c3) (c4 := c4) (c5 := c5) (c6 := c6) (nr := rows.length) (st := st) ok) ?_ | refine at_callR (r11_receives_spec (pr := pr) (p1 := p1) (p2 := p2) (p3 := p3) (p4 := p4) (p5 := p5) (p6 := p6) (cr := cr) (c1 := c1) (c2 := c2) (c3 := c3) (c4 := c4) (c5 := c5) (c6 := c6) (nr := rows.length) (st := st) ok) ?_
  unfold Ms.step at hR
  cases hr : M.recv with
  | some k =>
    obtain ⟨hk, hcan⟩ := recv_lt hr
    rw [hr] at hR
    dsimp only at hR
    rw [bI_some]
    have cok := ok.c _ (List.getElem_mem hk)
    obtain ⟨w1, w2⟩ : M.c[k].has = false ∧ 0 < M.c[k].q.length := by
      unfold Ce.can at hcan; simpa using hcan
    have q1 := cok.v; have q2 := cok.s; have q3 := cok.n
    have hpl := pip_len ok hk
    have ep : (M.pipL rm)[k]'(by omega) = M.c[k].pi rm := List.getElem_map ..
    have e1 : ((M.pipL rm)[k]'(by omega)).room = (rm : Int) := by rw [ep]; rfl
    have e2 : ((M.pipL rm)[k]'(by omega)).sent = M.c[k].row.take M.c[k].sent := by rw [ep]; rfl
    have e3 : ((M.pipL rm)[k]'(by omega)).recv = (M.c[k].recv : Int) := by rw [ep]; rfl
    have e4 : ((M.pipL rm)[k]'(by omega)).closed = M.c[k].exited := by rw [ep]; rfl
    have hrv : M.c[k].recv < (M.c[k].row.take M.c[k].sent).length := by omega
    have hhd : M.c[k].q.headD 0 = (M.c[k].row.take M.c[k].sent)[M.c[k].recv] := by
      rw [cok.p]
      rw [List.drop_eq_getElem_cons hrv]; rfl
    rw [upd_pipL hk (x := ⟨rm, M.c[k].row.take M.c[k].sent, ((M.c[k].recv + 1 : Nat) : Int), M.c[k].exited⟩) rfl, upd_headL hk (x := (M.c[k].row.take M.c[k].sent)[M.c[k].recv]) hhd, upd_hasL hk (x := true) rfl, upd_exL0 hk rfl, upd_out hk] at hR
    repeat' first | apply step | (apply g_op; · repeat first | exact Evs.nil | (apply Evs.cons; exact rfl)) | (refine Br.mk (fun _ => ?_) (fun _ => ?_) <;> try (exfalso; omega)) | (refine Sd.mk ?_ ?_; · ((repeat' apply And.intro) <;> first | omega | trivial | assumption | (simp; done) | (simp; omega))) | (refine Sx.mk ?_ ?_; · omega) | refine Fa.mk (fun _ => ?_) | refine Im.mk (fun _ => ?_) | apply Lw.go | refine g_cond ?_ | refine g_guard ?_ | refine g_keep ?_ | refine g_pass ?_ | refine g_fin ?_ | (apply g_ap; exact rfl; exact rfl; assumption)
    have hne : M.pipL rm ≠ [] := fun h => by
      have : (M.pipL rm).length = 0 := by rw [h]; rfl
      omega
    refine at_opsA2 (K := kPi8) (l := M.pipL rm) tb p2 hne (fun sz hsz hap => ?_)
    repeat' first | rw [e1] | rw [e2] | rw [e3] | rw [e4] | apply step | (apply g_op; · repeat first | exact Evs.nil | (apply Evs.cons; exact rfl)) | (refine Br.mk (fun _ => ?_) (fun _ => ?_) <;> try (exfalso; omega)) | (refine Sd.mk ?_ ?_; · ((repeat' apply And.intro) <;> first | omega | trivial | assumption | (simp; done) | (simp; omega))) | (refine Sx.mk ?_ ?_; · omega) | refine Fa.mk (fun _ => ?_) | refine Im.mk (fun _ => ?_) | apply Lw.go | refine g_cond ?_ | refine g_guard ?_ | refine g_keep ?_ | refine g_pass ?_ | refine g_fin ?_ | (apply g_ap; exact rfl; exact rfl; assumption)
    rename_i ya _
    refine av_bnd (p := ya.1) (fun hvb => ?_)
    have hvb1 := hvb _ (List.getElem_mem hrv)
    first | refine at_callS (r08_Recv_spec (r := (rm : Int)) (v := M.c[k].recv) (l := M.c[k].row.take M.c[k].sent) (b := M.c[k].exited) hrv (by omega)) ?_ | refine at_callR (r08_Recv_spec (r := (rm : Int)) (v := M.c[k].recv) (l := M.c[k].row.take M.c[k].sent) (b := M.c[k].exited) hrv (by omega)) ?_
    repeat' first | apply step | (apply g_op; · repeat first | exact Evs.nil | (apply Evs.cons; exact rfl)) | (refine Br.mk (fun _ => ?_) (fun _ => ?_) <;> try (exfalso; omega)) | (refine Sd.mk ?_ ?_; · ((repeat' apply And.intro) <;> first | omega | trivial | assumption | (simp; done) | (simp; omega))) | (refine Sx.mk ?_ ?_; · omega) | refine Fa.mk (fun _ => ?_) | refine Im.mk (fun _ => ?_) | apply Lw.go | refine g_cond ?_ | refine g_guard ?_ | refine g_keep ?_ | refine g_pass ?_ | refine g_fin ?_ | (apply g_ap; exact rfl; exact rfl; assumption)
    refine g_ap2 rfl rfl hsz hap ?_
    repeat' first | apply step | (apply g_op; · repeat first | exact Evs.nil | (apply Evs.cons; exact rfl)) | (refine Br.mk (fun _ => ?_) (fun _ => ?_) <;> try (exfalso; omega)) | (refine Sd.mk ?_ ?_; · ((repeat' apply And.intro) <;> first | omega | trivial | assumption | (simp; done) | (simp; omega))) | (refine Sx.mk ?_ ?_; · omega) | refine Fa.mk (fun _ => ?_) | refine Im.mk (fun _ => ?_) | apply Lw.go | refine g_cond ?_ | refine g_guard ?_ | refine g_keep ?_ | refine g_pass ?_ | refine g_fin ?_ | (apply g_ap; exact rfl; exact rfl; assumption)
    exact fin (hR p6 c6)
  | none =>
    rw [hr] at hR
    dsimp only at hR
    rw [bI_none]
    repeat' first | apply step | (apply g_op; · repeat first | exact Evs.nil | (apply Evs.cons; exact rfl)) | (refine Br.mk (fun _ => ?_) (fun _ => ?_) <;> try (exfalso; omega)) | (refine Sd.mk ?_ ?_; · ((repeat' apply And.intro) <;> first | omega | trivial | assumption | (simp; done) | (simp; omega))) | (refine Sx.mk ?_ ?_; · omega) | refine Fa.mk (fun _ => ?_) | refine Im.mk (fun _ => ?_) | apply Lw.go | refine g_cond ?_ | refine g_guard ?_ | refine g_keep ?_ | refine g_pass ?_ | refine g_fin ?_ | (apply g_ap; exact rfl; exact rfl; assumption)
    refine at_loopS (ι := Nat × Option Addr × Nat) (E := fun k => [(1, .pointer (some ⟨tb, 0, none⟩)), (2, .pointer (some ⟨rb, 0, none⟩)), (5, .slice k.2.1 (M.hdsL.take k.1).length k.2.2), (6, .int .i64 (k.1 : Int))]) (Δ := fun k => own (kSl (kInt .i64)) k.2.1 k.2.2 (M.hdsL.take k.1) :: pt rb [.slice none 0 0, .slice none 0 0, .slice none 0 0, .slice none 0 0, .slice none 0 0, .slice none 0 0, .slice none 0 0, .int .i64 0] 0 :: pt tb [.slice pr rows.length cr, .slice p1 M.sentL.length c1, .slice p2 (M.pipL rm).length c2, .slice p3 M.headL.length c3, .slice p4 M.hasL.length c4, .slice p5 M.exL.length c5, .slice p6 M.out.length c6, .int .i64 st] 0 :: own kPi8 p2 c2 (M.pipL rm) :: own (kInt .i64) p3 c3 M.headL :: own kBool p4 c4 M.hasL :: own kBool p5 c5 M.exL :: own (kInt .i64) p6 c6 M.out :: fro (kSl (kInt .i64)) pr cr rows :: F) (P := fun k => k.1 ≤ M.c.length) (μ := fun k => M.c.length - k.1) (0, none, 0) (Nat.zero_le _) ?_
    rintro ⟨k, hp, hc⟩ hk
    dsimp only at hk ⊢
    have lh := hdsL_len (M := M)
    have ltk : (M.hdsL.take k).length ≤ 1000 := by rw [List.length_take]; omega
    rcases Nat.lt_or_ge k M.c.length with hk' | hk'
    · have eh : M.hasL[k]'(by omega) = M.c[k].has := List.getElem_map ..
      have ehd : M.headL[k]'(by omega) = M.c[k].head := List.getElem_map ..
      have etk : M.hdsL.take (k + 1) = M.hdsL.take k ++ [bif M.c[k].has then [M.c[k].head] else []] := by
        rw [List.take_succ_eq_append_getElem (by omega)]
        have : M.hdsL[k]'(by omega) = bif M.c[k].has then [M.c[k].head] else [] := List.getElem_map ..
        rw [this]
      cases hb : M.c[k].has with
      | true =>
        rw [hb] at etk
        simp only [cond_true] at etk
        repeat' first | rw [eh] | rw [hb] | rw [ehd] | apply step | (apply g_op; · repeat first | exact Evs.nil | (apply Evs.cons; exact rfl)) | (refine Br.mk (fun _ => ?_) (fun _ => ?_) <;> try (exfalso; omega)) | (refine Sd.mk ?_ ?_; · ((repeat' apply And.intro) <;> first | omega | trivial | assumption | (simp; done) | (simp; omega))) | (refine Sx.mk ?_ ?_; · omega) | refine Fa.mk (fun _ => ?_) | refine Im.mk (fun _ => ?_) | apply Lw.go | refine g_cond ?_ | refine g_guard ?_ | refine g_keep ?_ | refine g_pass ?_ | refine g_fin ?_ | (apply g_ap; exact rfl; exact rfl; assumption)
        rename_i hhb y z
        refine av_via (pt_own (b := y) (K := kInt .i64) (cap := 1) rfl (inferInstance : OfVs _ (kInt .i64) [.int .i64 M.c[k].head] [M.c[k].head] _) hhb) ?_
        refine av_freeze (K := kInt .i64) (p := some ⟨y, 0, none⟩) (l := [M.c[k].head]) ?_
        repeat' first | apply step | (apply g_op; · repeat first | exact Evs.nil | (apply Evs.cons; exact rfl)) | (refine Br.mk (fun _ => ?_) (fun _ => ?_) <;> try (exfalso; omega)) | (refine Sd.mk ?_ ?_; · ((repeat' apply And.intro) <;> first | omega | trivial | assumption | (simp; done) | (simp; omega))) | (refine Sx.mk ?_ ?_; · omega) | refine Fa.mk (fun _ => ?_) | refine Im.mk (fun _ => ?_) | apply Lw.go | refine g_cond ?_ | refine g_guard ?_ | refine g_keep ?_ | refine g_pass ?_ | refine g_fin ?_ | (apply g_ap; exact rfl; exact rfl; assumption)
        rename_i hp2 hc2
        exact lp_next (k + 1, hp2, hc2) (by dsimp only; omega) (by dsimp only; omega) (by simp only [etk, List.take_succ_cons, List.take_zero]) (hs := by simp only [etk, List.take_succ_cons, List.take_zero]; repeat first | exact Ent.refl _ | (apply Ent.more; · repeat first | exact Ent.keep | exact Ent.here | exact Ent.lend | exact ent_nil | apply Ent.there) | apply Ent.drop)
      | false =>
        rw [hb] at etk
        simp only [cond_false] at etk
        repeat' first | rw [eh] | rw [hb] | rw [ehd] | apply step | (apply g_op; · repeat first | exact Evs.nil | (apply Evs.cons; exact rfl)) | (refine Br.mk (fun _ => ?_) (fun _ => ?_) <;> try (exfalso; omega)) | (refine Sd.mk ?_ ?_; · ((repeat' apply And.intro) <;> first | omega | trivial | assumption | (simp; done) | (simp; omega))) | (refine Sx.mk ?_ ?_; · omega) | refine Fa.mk (fun _ => ?_) | refine Im.mk (fun _ => ?_) | apply Lw.go | refine g_cond ?_ | refine g_guard ?_ | refine g_keep ?_ | refine g_pass ?_ | refine g_fin ?_ | (apply g_ap; exact rfl; exact rfl; assumption)
        rename_i hp2 hc2
        exact lp_next (k + 1, hp2, hc2) (by dsimp only; omega) (by dsimp only; omega) (by simp only [etk]) (hs := by simp only [etk]; repeat first | exact Ent.refl _ | (apply Ent.more; · repeat first | exact Ent.keep | exact Ent.here | exact Ent.lend | exact ent_nil | apply Ent.there) | apply Ent.drop)
    · have hkk : k = M.c.length := by omega
      subst hkk
      have etl : M.hdsL.take M.c.length = M.hdsL := List.take_of_length_le (by omega)
      rw [etl] at ltk ⊢
      repeat' first | apply step | (apply g_op; · repeat first | exact Evs.nil | (apply Evs.cons; exact rfl)) | (refine Br.mk (fun _ => ?_) (fun _ => ?_) <;> try (exfalso; omega)) | (refine Sd.mk ?_ ?_; · ((repeat' apply And.intro) <;> first | omega | trivial | assumption | (simp; done) | (simp; omega))) | (refine Sx.mk ?_ ?_; · omega) | refine Fa.mk (fun _ => ?_) | refine Im.mk (fun _ => ?_) | apply Lw.go | refine g_cond ?_ | refine g_guard ?_ | refine g_keep ?_ | refine g_pass ?_ | refine g_fin ?_ | (apply g_ap; exact rfl; exact rfl; assumption)
      first | refine at_callS (r11_take_spec (l := M.hdsL) (by omega)) ?_ | refine at_callR (r11_take_spec (l := M.hdsL) (by omega)) ?_
      rw [hdsL_best]
      unfold Ms.put at hR
      cases hls : M.least with
      | none =>
        rw [hls] at hR
        dsimp only at hR
        rw [bI_none]
        repeat' first | apply step | (apply g_op; · repeat first | exact Evs.nil | (apply Evs.cons; exact rfl)) | (refine Br.mk (fun _ => ?_) (fun _ => ?_) <;> try (exfalso; omega)) | (refine Sd.mk ?_ ?_; · ((repeat' apply And.intro) <;> first | omega | trivial | assumption | (simp; done) | (simp; omega))) | (refine Sx.mk ?_ ?_; · omega) | refine Fa.mk (fun _ => ?_) | refine Im.mk (fun _ => ?_) | apply Lw.go | refine g_cond ?_ | refine g_guard ?_ | refine g_keep ?_ | refine g_pass ?_ | refine g_fin ?_ | (apply g_ap; exact rfl; exact rfl; assumption)
        have eex : ({ M with exited := true } : Ms).exL = M.exL.set rows.length true := by
          unfold Ms.exL; dsimp only
          rw [← hrl, List.set_append_right _ _ (by simp)]; simp
        rw [show ({ M with exited := true } : Ms).pipL rm = M.pipL rm from rfl, show ({ M with exited := true } : Ms).headL = M.headL from rfl, show ({ M with exited := true } : Ms).hasL = M.hasL from rfl, eex] at hR
        exact fin (hR p6 c6)
      | some j =>
        obtain ⟨hj, x, hx1, hx2⟩ := (best_spec M.hv M.c.length).2 j hls
        rw [hls] at hR
        dsimp only at hR
        have hxh : M.c[j].head = x := by
          have h5 := hx1
          rw [hv_lt hj] at h5
          unfold Ce.hd at h5
          cases hh : M.c[j].has with
          | false => rw [hh] at h5; cases h5
          | true => rw [hh] at h5; simpa using h5
        have ehj : M.headL[j]'(by omega) = x := by rw [← hxh]; exact List.getElem_map ..
        have hob : M.out.length < 1000000 := by
          have h1 := ok.o; have h2 := mu_pos hx; omega
        rw [hx1, show (some x).getD 0 = x from rfl, show ({ M.upd j Ce.off with out := putS M.out x } : Ms).pipL rm = M.pipL rm from upd_pipL0 hj rfl, show ({ M.upd j Ce.off with out := putS M.out x } : Ms).headL = M.headL from upd_headL0 hj rfl, show ({ M.upd j Ce.off with out := putS M.out x } : Ms).hasL = M.hasL.set j false from upd_hasL hj rfl, show ({ M.upd j Ce.off with out := putS M.out x } : Ms).exL = M.exL from upd_exL0 hj rfl] at hR
        rw [bI_some]
        have e : ((M.out.length : Int) - 1).toNat = M.out.length - 1 := by omega
        rcases Nat.eq_zero_or_pos M.out.length with h0 | h0
        · have ep := putS_yes (out := M.out) (x := x) (.inl h0)
          rw [ep] at hR
          repeat' first | rw [ehj] | apply step | (apply g_op; · repeat first | exact Evs.nil | (apply Evs.cons; exact rfl)) | (refine Br.mk (fun _ => ?_) (fun _ => ?_) <;> try (exfalso; omega)) | (refine Sd.mk ?_ ?_; · ((repeat' apply And.intro) <;> first | omega | trivial | assumption | (simp; done) | (simp; omega))) | (refine Sx.mk ?_ ?_; · omega) | refine Fa.mk (fun _ => ?_) | refine Im.mk (fun _ => ?_) | apply Lw.go | refine g_cond ?_ | refine g_guard ?_ | refine g_keep ?_ | refine g_pass ?_ | refine g_fin ?_ | (apply g_ap; exact rfl; exact rfl; assumption)
          all_goals first | (exfalso; omega) | skip
          rename_i p7 c7
          exact fin (hR p7 c7)
        · repeat' first | rw [ehj] | apply step | (apply g_op; · repeat first | exact Evs.nil | (apply Evs.cons; exact rfl)) | (refine Br.mk (fun _ => ?_) (fun _ => ?_) <;> try (exfalso; omega)) | (refine Sd.mk ?_ ?_; · ((repeat' apply And.intro) <;> first | omega | trivial | assumption | (simp; done) | (simp; omega))) | (refine Sx.mk ?_ ?_; · omega) | refine Fa.mk (fun _ => ?_) | refine Im.mk (fun _ => ?_) | apply Lw.go | refine g_cond ?_ | refine g_guard ?_ | refine g_keep ?_ | refine g_pass ?_ | refine g_fin ?_ | (apply g_ap; exact rfl; exact rfl; assumption)
          all_goals first | (exfalso; omega) | skip
          all_goals simp only [e] at *
          · rename_i p7 c7 _ _
            have hne : M.out[M.out.length - 1] ≠ x := by assumption
            rw [putS_yes (.inr ⟨h0, hne⟩)] at hR
            exact fin (hR p7 c7)
          · have hne : ¬ M.out[M.out.length - 1] ≠ x := by assumption
            rw [putS_no h0 (by simpa using hne)] at hR
            exact fin (hR p6 c6)
end
end Go.AMS

namespace Go.AMS
open Go.AM hiding Kt At WP WL Runs RunsY
open Go.AM.G
set_option linter.unusedVariables false
set_option linter.unusedSimpArgs false
set_option linter.unusedSectionVars false
set_option maxRecDepth 100000
set_option maxHeartbeats 1000000
attribute [local irreducible] AtS AtV AtC AtG FinA Spec Post LP G.At G.WP G.WL pt own fro rdl ro hx mp lrec elt sub

open Go.AM.G.Set
section
theorem r11_begin_spec {pr : Option Addr} {cr nr : Nat} {w : Int} (hn : nr ≤ 1000) (hw : -9223372036854775808 ≤ w ∧ w ≤ 9223372036854775807) : Spec prog1 n_r11_begin [.slice pr nr cr, .int .i64 w] []
    (fun R => ∀ p1 c1 p2 c2 p3 c3 p4 c4 p5 c5, R (.agg #[.slice pr nr cr, .slice p1 nr c1, .slice p2 (List.replicate nr (⟨w, [], 0, false⟩ : Pi8)).length c2, .slice p3 nr c3, .slice p4 nr c4, .slice p5 (nr + 1) c5, .slice none 0 0, .int .i64 0]) [own (kInt .i64) p1 c1 (List.replicate nr 0), own kPi8 p2 c2 (List.replicate nr ⟨w, [], 0, false⟩), own (kInt .i64) p3 c3 (List.replicate nr 0), own kBool p4 c4 (List.replicate nr false), own kBool p5 c5 (List.replicate (nr + 1) false)]) := by
  refine spec_code c_r11_begin rfl ?_; intro n F R hR; unfold F_r11_begin
  repeat' first | apply step | (apply g_op; · repeat first | exact Evs.nil | (apply Evs.cons; exact rfl)) | (refine Br.mk (fun _ => ?_) (fun _ => ?_) <;> try (exfalso; omega)) | (refine Sd.mk ?_ ?_; · ((repeat' apply And.intro) <;> first | omega | trivial | assumption | (simp; done) | (simp; omega))) | (refine Sx.mk ?_ ?_; · omega) | refine Fa.mk (fun _ => ?_) | refine Im.mk (fun _ => ?_) | apply Lw.go | refine g_cond ?_ | refine g_guard ?_ | refine g_keep ?_ | refine g_pass ?_ | refine g_fin ?_ | (apply g_ap; exact rfl; exact rfl; assumption)
  rename_i rb sb hb kb eb tb
  refine at_loopS (ι := Nat × Option Addr × Nat) (E := fun k => [(1, .int .i64 w), (4, .pointer (some ⟨rb, 0, none⟩)), (5, .int .i64 (nr : Int)), (6, .pointer (some ⟨tb, 0, none⟩)), (7, .int .i64 (k.1 : Int))]) (Δ := fun k => own kPi8 k.2.1 k.2.2 (List.replicate k.1 ⟨w, [], 0, false⟩) :: pt tb [.slice pr nr cr, .slice (some ⟨sb, 0, none⟩) nr nr, .slice k.2.1 (List.replicate k.1 (⟨w, [], 0, false⟩ : Pi8)).length k.2.2, .slice (some ⟨hb, 0, none⟩) nr nr, .slice (some ⟨kb, 0, none⟩) nr nr, .slice (some ⟨eb, 0, none⟩) (nr + 1) (nr + 1), .slice none 0 0, .int .i64 0] 0 :: pt rb [.slice none 0 0, .slice none 0 0, .slice none 0 0, .slice none 0 0, .slice none 0 0, .slice none 0 0, .slice none 0 0, .int .i64 0] 0 :: own (kInt .i64) (some ⟨sb, 0, none⟩) nr (List.replicate nr 0) :: own (kInt .i64) (some ⟨hb, 0, none⟩) nr (List.replicate nr 0) :: own kBool (some ⟨kb, 0, none⟩) nr (List.replicate nr false) :: own kBool (some ⟨eb, 0, none⟩) (nr + 1) (List.replicate (nr + 1) false) :: F) (P := fun k => k.1 ≤ nr) (μ := fun k => nr - k.1) (0, none, 0) (Nat.zero_le _) ?_ (hs := by
    (apply Ent.more; · exact ent_nil)
    repeat first | exact Ent.refl _ | (apply Ent.more; · repeat first | exact Ent.keep | exact Ent.here | exact Ent.lend | exact ent_nil | apply Ent.there) | apply Ent.drop)
  rintro ⟨k, pp, pc⟩ hk
  dsimp only at hk ⊢
  have hrl : (List.replicate k (⟨w, [], 0, false⟩ : Pi8)).length = k := List.length_replicate
  rcases Nat.lt_or_ge k nr with hk' | hk'
  · have er : List.replicate (k + 1) (⟨w, [], 0, false⟩ : Pi8) = List.replicate k ⟨w, [], 0, false⟩ ++ [⟨w, [], 0, false⟩] := List.replicate_succ'
    repeat' first | apply step | (apply g_op; · repeat first | exact Evs.nil | (apply Evs.cons; exact rfl)) | (refine Br.mk (fun _ => ?_) (fun _ => ?_) <;> try (exfalso; omega)) | (refine Sd.mk ?_ ?_; · ((repeat' apply And.intro) <;> first | omega | trivial | assumption | (simp; done) | (simp; omega))) | (refine Sx.mk ?_ ?_; · omega) | refine Fa.mk (fun _ => ?_) | refine Im.mk (fun _ => ?_) | apply Lw.go | refine g_cond ?_ | refine g_guard ?_ | refine g_keep ?_ | refine g_pass ?_ | refine g_fin ?_ | (apply g_ap; exact rfl; exact rfl; assumption)
    rename_i pp2 pc2
    exact lp_next (k + 1, pp2, pc2) (by dsimp only; omega) (by dsimp only; omega) (by simp only [er]) (hs := by simp only [er]; repeat first | exact Ent.refl _ | (apply Ent.more; · repeat first | exact Ent.keep | exact Ent.here | exact Ent.lend | exact ent_nil | apply Ent.there) | apply Ent.drop)
  · have hkk : k = nr := by omega
    subst hkk
    repeat' first | apply step | (apply g_op; · repeat first | exact Evs.nil | (apply Evs.cons; exact rfl)) | (refine Br.mk (fun _ => ?_) (fun _ => ?_) <;> try (exfalso; omega)) | (refine Sd.mk ?_ ?_; · ((repeat' apply And.intro) <;> first | omega | trivial | assumption | (simp; done) | (simp; omega))) | (refine Sx.mk ?_ ?_; · omega) | refine Fa.mk (fun _ => ?_) | refine Im.mk (fun _ => ?_) | apply Lw.go | refine g_cond ?_ | refine g_guard ?_ | refine g_keep ?_ | refine g_pass ?_ | refine g_fin ?_ | (apply g_ap; exact rfl; exact rfl; assumption)
    exact fin (hR _ _ _ _ _ _ _ _ _ _)
theorem r11_Sum_spec {p : Option Addr} {c : Nat} {l : List Nat} (hl : l.sum ≤ 1000000) (hn : l.length ≤ 100000) : Spec prog1 n_r11_Sum [.slice p (l.map Int.ofNat).length c] [rdl (kInt .i64) p (l.map Int.ofNat)] (fun R => R (.int .i64 (l.sum : Int)) []) := by
  refine spec_code c_r11_Sum rfl ?_; intro n F R hR; unfold F_r11_Sum
  repeat' first | apply step | (apply g_op; · repeat first | exact Evs.nil | (apply Evs.cons; exact rfl)) | (refine Br.mk (fun _ => ?_) (fun _ => ?_) <;> try (exfalso; omega)) | (refine Sd.mk ?_ ?_; · ((repeat' apply And.intro) <;> first | omega | trivial | assumption | (simp; done) | (simp; omega))) | (refine Sx.mk ?_ ?_; · omega) | refine Fa.mk (fun _ => ?_) | refine Im.mk (fun _ => ?_) | apply Lw.go | refine g_cond ?_ | refine g_guard ?_ | refine g_keep ?_ | refine g_pass ?_ | refine g_fin ?_ | (apply g_ap; exact rfl; exact rfl; assumption)
  have hml : (l.map Int.ofNat).length = l.length := List.length_map ..
  refine at_loopS (ι := Nat) (E := fun k => [(0, .slice p (l.map Int.ofNat).length c), (3, .int .i64 ((l.take k).sum : Int)), (4, .int .i64 (k : Int))]) (Δ := fun k => rdl (kInt .i64) p (l.map Int.ofNat) :: F) (P := fun k => k ≤ l.length) (μ := fun k => l.length - k) 0 (Nat.zero_le _) ?_
  rintro k hk
  try dsimp only
  rcases Nat.lt_or_ge k l.length with hk' | hk'
  · have e1 : (l.take (k + 1)).sum = (l.take k).sum + l[k] := by
      rw [List.take_succ_eq_append_getElem hk', List.sum_append]; simp
    have e2 : (l.take (k + 1)).sum ≤ l.sum := by
      conv => rhs; rw [← List.take_append_drop (k + 1) l, List.sum_append]
      omega
    have ek : (l.map Int.ofNat)[k]'(by omega) = ((l[k] : Nat) : Int) := List.getElem_map ..
    repeat' first | rw [ek] | apply step | (apply g_op; · repeat first | exact Evs.nil | (apply Evs.cons; exact rfl)) | (refine Br.mk (fun _ => ?_) (fun _ => ?_) <;> try (exfalso; omega)) | (refine Sd.mk ?_ ?_; · ((repeat' apply And.intro) <;> first | omega | trivial | assumption | (simp; done) | (simp; omega))) | (refine Sx.mk ?_ ?_; · omega) | refine Fa.mk (fun _ => ?_) | refine Im.mk (fun _ => ?_) | apply Lw.go | refine g_cond ?_ | refine g_guard ?_ | refine g_keep ?_ | refine g_pass ?_ | refine g_fin ?_ | (apply g_ap; exact rfl; exact rfl; assumption)
    exact lp_next (k + 1) (by omega) (by omega) (by rw [e1])
  · have e : l.take k = l := List.take_of_length_le (by omega)
    rw [e]
    repeat' first | apply step | (apply g_op; · repeat first | exact Evs.nil | (apply Evs.cons; exact rfl)) | (refine Br.mk (fun _ => ?_) (fun _ => ?_) <;> try (exfalso; omega)) | (refine Sd.mk ?_ ?_; · ((repeat' apply And.intro) <;> first | omega | trivial | assumption | (simp; done) | (simp; omega))) | (refine Sx.mk ?_ ?_; · omega) | refine Fa.mk (fun _ => ?_) | refine Im.mk (fun _ => ?_) | apply Lw.go | refine g_cond ?_ | refine g_guard ?_ | refine g_keep ?_ | refine g_pass ?_ | refine g_fin ?_ | (apply g_ap; exact rfl; exact rfl; assumption)
    exact fin hR
theorem r11_Exited_spec {v0 v1 v2 v3 v4 v6 v7 : Value} [a0 : Cl v0] [a1 : Cl v1] [a2 : Cl v2] [a3 : Cl v3] [a4 : Cl v4] [a6 : Cl v6] [a7 : Cl v7] {p : Option Addr} {c : Nat} {l : List Bool} (hn : l.length ≤ 100000) : Spec prog1 n_r11_Exited [.agg #[v0, v1, v2, v3, v4, .slice p l.length c, v6, v7]] [rdl kBool p l] (fun R => R (.int .i64 ((l.filter id).length : Int)) []) := by
  refine spec_code c_r11_Exited rfl ?_; intro n F R hR; unfold F_r11_Exited
  repeat' first | apply step | (apply g_op; · repeat first | exact Evs.nil | (apply Evs.cons; exact rfl)) | (refine Br.mk (fun _ => ?_) (fun _ => ?_) <;> try (exfalso; omega)) | (refine Sd.mk ?_ ?_; · ((repeat' apply And.intro) <;> first | omega | trivial | assumption | (simp; done) | (simp; omega))) | (refine Sx.mk ?_ ?_; · omega) | refine Fa.mk (fun _ => ?_) | refine Im.mk (fun _ => ?_) | apply Lw.go | refine g_cond ?_ | refine g_guard ?_ | refine g_keep ?_ | refine g_pass ?_ | refine g_fin ?_ | (apply g_ap; exact rfl; exact rfl; assumption)
  rename_i tb
  refine at_loopS (ι := Nat) (E := fun k => [(1, .pointer (some ⟨tb, 0, none⟩)), (3, .int .i64 (((l.take k).filter id).length : Int)), (4, .int .i64 (k : Int))]) (Δ := fun k => pt tb [v0, v1, v2, v3, v4, .slice p l.length c, v6, v7] 0 :: rdl kBool p l :: F) (P := fun k => k ≤ l.length) (μ := fun k => l.length - k) 0 (Nat.zero_le _) ?_
  rintro k hk
  try dsimp only
  have hfl : ((l.take k).filter id).length ≤ k := Nat.le_trans (List.length_filter_le _ _) (by rw [List.length_take]; omega)
  rcases Nat.lt_or_ge k l.length with hk' | hk'
  · have e1 : ((l.take (k + 1)).filter id).length = ((l.take k).filter id).length + (bif l[k] then 1 else 0) := by
      rw [List.take_succ_eq_append_getElem hk', List.filter_append, List.length_append]
      cases l[k] <;> rfl
    cases hb : l[k] with
    | true =>
      rw [hb] at e1
      repeat' first | rw [hb] | apply step | (apply g_op; · repeat first | exact Evs.nil | (apply Evs.cons; exact rfl)) | (refine Br.mk (fun _ => ?_) (fun _ => ?_) <;> try (exfalso; omega)) | (refine Sd.mk ?_ ?_; · ((repeat' apply And.intro) <;> first | omega | trivial | assumption | (simp; done) | (simp; omega))) | (refine Sx.mk ?_ ?_; · omega) | refine Fa.mk (fun _ => ?_) | refine Im.mk (fun _ => ?_) | apply Lw.go | refine g_cond ?_ | refine g_guard ?_ | refine g_keep ?_ | refine g_pass ?_ | refine g_fin ?_ | (apply g_ap; exact rfl; exact rfl; assumption)
      exact lp_next (k + 1) (by omega) (by omega) (by rw [e1]; rfl)
    | false =>
      rw [hb] at e1
      repeat' first | rw [hb] | apply step | (apply g_op; · repeat first | exact Evs.nil | (apply Evs.cons; exact rfl)) | (refine Br.mk (fun _ => ?_) (fun _ => ?_) <;> try (exfalso; omega)) | (refine Sd.mk ?_ ?_; · ((repeat' apply And.intro) <;> first | omega | trivial | assumption | (simp; done) | (simp; omega))) | (refine Sx.mk ?_ ?_; · omega) | refine Fa.mk (fun _ => ?_) | refine Im.mk (fun _ => ?_) | apply Lw.go | refine g_cond ?_ | refine g_guard ?_ | refine g_keep ?_ | refine g_pass ?_ | refine g_fin ?_ | (apply g_ap; exact rfl; exact rfl; assumption)
      exact lp_next (k + 1) (by omega) (by omega) (by rw [e1]; rfl)
  · have e : l.take k = l := List.take_of_length_le (by omega)
    rw [e]
    repeat' first | apply step | (apply g_op; · repeat first | exact Evs.nil | (apply Evs.cons; exact rfl)) | (refine Br.mk (fun _ => ?_) (fun _ => ?_) <;> try (exfalso; omega)) | (refine Sd.mk ?_ ?_; · ((repeat' apply And.intro) <;> first | omega | trivial | assumption | (simp; done) | (simp; omega))) | (refine Sx.mk ?_ ?_; · omega) | refine Fa.mk (fun _ => ?_) | refine Im.mk (fun _ => ?_) | apply Lw.go | refine g_cond ?_ | refine g_guard ?_ | refine g_keep ?_ | refine g_pass ?_ | refine g_fin ?_ | (apply g_ap; exact rfl; exact rfl; assumption)
    exact fin hR
theorem step_len (M : Ms) : M.step.c.length = M.c.length := by
  unfold Ms.step
  split
  · exact upd_len
  · unfold Ms.put
    split
    · rfl
    · exact upd_len
theorem step_sentL (M : Ms) : M.step.sentL = M.sentL := by
  unfold Ms.step
  split
  · rename_i k h
    exact upd_sentL0 (recv_lt h).1 rfl
  · unfold Ms.put
    split
    · rfl
    · rename_i k h
      exact upd_sentL0 (M := M) (k := k) (f := Ce.off) ((best_spec M.hv M.c.length).2 k h).1 rfl
theorem cstep_same (c : Ce) : c.step.head = c.head ∧ c.step.has = c.has := by
  unfold Ce.step; split <;> exact ⟨rfl, rfl⟩
theorem took_l (s : Scr) : (s.one.took).l = s.l := (one_took s).2.2.1
theorem M0_lists {m : Nat} (rows : List (List Int)) : (M0 rows).sentL = List.replicate rows.length 0 ∧ (M0 rows).pipL m = List.replicate rows.length ⟨m, [], 0, false⟩ ∧ (M0 rows).headL = List.replicate rows.length 0 ∧ (M0 rows).hasL = List.replicate rows.length false ∧ (M0 rows).exL = List.replicate (rows.length + 1) false := by
  have h : ∀ {α : Type} (f : Ce → α) (a : α), (∀ r, f (Ce.new r) = a) → (rows.map Ce.new).map f = List.replicate rows.length a := fun f a hf => by
    rw [List.map_map]
    exact List.eq_replicate_iff.2 ⟨by simp, fun b hb => by obtain ⟨r, _, rfl⟩ := List.mem_map.1 hb; exact hf r⟩
  refine ⟨h _ _ fun _ => rfl, h _ _ fun _ => rfl, h _ _ fun _ => rfl, h _ _ fun _ => rfl, ?_⟩
  show (rows.map Ce.new).map Ce.exited ++ [false] = _
  rw [h Ce.exited false fun _ => rfl, List.replicate_succ']
theorem r11_Run_spec {p q : Option Addr} {c cq : Nat} {rows : List (List Int)} {w : Int} {s : Scr} (hf : rows.length ≤ 20) (hr : ∀ x ∈ rows, x.length ≤ 40) (hw : -9223372036854775808 ≤ w ∧ w ≤ 9223372036854775807) (hs0 : s.steps = 0) (hu0 : s.used ≤ 1000000) :
    Spec prog1 n_r11_Run [.slice p rows.length c, .int .i64 w, .agg #[.slice q s.l.length cq, .int .i64 s.cancel, .int .i64 (s.steps : Int), .int .i64 (s.used : Int)]] [fro (kSl (kInt .i64)) p c rows, rdl (kInt .i64) q s.l] (fun R => (w < 1 ∨ 64 < w → ∀ p1 c1 p2 c2 p3 c3 p4 c4 p5 c5, R (.tuple #[.agg #[.slice none 0 0, .slice p1 0 c1, .slice p2 0 c2, .slice p3 0 c3, .slice p4 0 c4, .slice p5 1 c5, .slice none 0 0, .int .i64 0], .agg #[.slice q s.l.length cq, .int .i64 s.cancel, .int .i64 (s.steps : Int), .int .i64 (s.used : Int)], .int .i64 2]) [own (kInt .i64) p1 c1 [], own kBool p5 c5 [false]]) ∧
      ∀ n : Nat, w = n → 0 < n → n ≤ 64 → ∀ M' s' e, runM n (M0 rows).mu (M0 rows) s = (M', s', e) → ∀ p1 c1 p2 c2 p3 c3 p4 c4 p5 c5 p6 c6, R (.tuple #[.agg #[.slice p rows.length c, .slice p1 M'.sentL.length c1, .slice p2 (M'.pipL n).length c2, .slice p3 M'.headL.length c3, .slice p4 M'.hasL.length c4, .slice p5 M'.exL.length c5, .slice p6 (if e = 0 then M'.out else []).length c6, .int .i64 (s'.steps : Int)], .agg #[.slice q s'.l.length cq, .int .i64 s'.cancel, .int .i64 (s'.steps : Int), .int .i64 (s'.used : Int)], .int .i64 e]) [own (kInt .i64) p1 c1 M'.sentL, own kBool p5 c5 M'.exL, own (kInt .i64) p6 c6 (if e = 0 then M'.out else [])]) := by
  refine spec_code c_r11_Run rfl ?_; intro n F R hR; unfold F_r11_Run
  have hc0 := cnt_le hr
  have hmu0 := M0_mu rows
  repeat' first | apply step | (apply g_op; · repeat first | exact Evs.nil | (apply Evs.cons; exact rfl)) | (refine Br.mk (fun _ => ?_) (fun _ => ?_) <;> try (exfalso; omega)) | (refine Sd.mk ?_ ?_; · ((repeat' apply And.intro) <;> first | omega | trivial | assumption | (simp; done) | (simp; omega))) | (refine Sx.mk ?_ ?_; · omega) | refine Fa.mk (fun _ => ?_) | refine Im.mk (fun _ => ?_) | apply Lw.go | refine g_cond ?_ | refine g_guard ?_ | refine g_keep ?_ | refine g_pass ?_ | refine g_fin ?_ | (apply g_ap; exact rfl; exact rfl; assumption)
  rename_i sbx rbx qbx
  first | refine at_callS (r11_begin_spec (pr := p) (cr := c) (nr := rows.length) (w := w) (by omega) hw) ?_ | refine at_callR (r11_begin_spec (pr := p) (cr := c) (nr := rows.length) (w := w) (by omega) hw) ?_
  intro p1 c1 p2 c2 p3 c3 p4 c4 p5 c5
  repeat' first | apply step | (apply g_op; · repeat first | exact Evs.nil | (apply Evs.cons; exact rfl)) | (refine Br.mk (fun _ => ?_) (fun _ => ?_) <;> try (exfalso; omega)) | (refine Sd.mk ?_ ?_; · ((repeat' apply And.intro) <;> first | omega | trivial | assumption | (simp; done) | (simp; omega))) | (refine Sx.mk ?_ ?_; · omega) | refine Fa.mk (fun _ => ?_) | refine Im.mk (fun _ => ?_) | apply Lw.go | refine g_cond ?_ | refine g_guard ?_ | refine g_keep ?_ | refine g_pass ?_ | refine g_fin ?_ | (apply g_ap; exact rfl; exact rfl; assumption)
  first | refine at_callS (r08_New_spec (w := w)) ?_ | refine at_callR (r08_New_spec (w := w)) ?_
  rename_i x9
  refine ⟨fun h => ?_, fun h => ?_⟩
  · repeat' first | apply step | (apply g_op; · repeat first | exact Evs.nil | (apply Evs.cons; exact rfl)) | (refine Br.mk (fun _ => ?_) (fun _ => ?_) <;> try (exfalso; omega)) | (refine Sd.mk ?_ ?_; · ((repeat' apply And.intro) <;> first | omega | trivial | assumption | (simp; done) | (simp; omega))) | (refine Sx.mk ?_ ?_; · omega) | refine Fa.mk (fun _ => ?_) | refine Im.mk (fun _ => ?_) | apply Lw.go | refine g_cond ?_ | refine g_guard ?_ | refine g_keep ?_ | refine g_pass ?_ | refine g_fin ?_ | (apply g_ap; exact rfl; exact rfl; assumption)
    refine at_opsA3 sbx rbx (fun sz hsz hne => ?_)
    repeat' first | apply step | (apply g_op; · repeat first | exact Evs.nil | (apply Evs.cons; exact rfl)) | (refine Br.mk (fun _ => ?_) (fun _ => ?_) <;> try (exfalso; omega)) | (refine Sd.mk ?_ ?_; · ((repeat' apply And.intro) <;> first | omega | trivial | assumption | (simp; done) | (simp; omega))) | (refine Sx.mk ?_ ?_; · omega) | refine Fa.mk (fun _ => ?_) | refine Im.mk (fun _ => ?_) | apply Lw.go | refine g_cond ?_ | refine g_guard ?_ | refine g_keep ?_ | refine g_pass ?_ | refine g_fin ?_ | (apply g_ap; exact rfl; exact rfl; assumption)
    first | refine at_callS (r11_begin_spec (pr := none) (cr := 0) (nr := 0) (w := 1) (by omega) (by omega)) ?_ | refine at_callR (r11_begin_spec (pr := none) (cr := 0) (nr := 0) (w := 1) (by omega) (by omega)) ?_
    intro p1 c1 p2 c2 p3 c3 p4 c4 p5 c5
    repeat' first | apply step | (apply g_op; · repeat first | exact Evs.nil | (apply Evs.cons; exact rfl)) | (refine Br.mk (fun _ => ?_) (fun _ => ?_) <;> try (exfalso; omega)) | (refine Sd.mk ?_ ?_; · ((repeat' apply And.intro) <;> first | omega | trivial | assumption | (simp; done) | (simp; omega))) | (refine Sx.mk ?_ ?_; · omega) | refine Fa.mk (fun _ => ?_) | refine Im.mk (fun _ => ?_) | apply Lw.go | refine g_cond ?_ | refine g_guard ?_ | refine g_keep ?_ | refine g_pass ?_ | refine g_fin ?_ | (apply g_ap; exact rfl; exact rfl; assumption)
    refine g_ap3 rfl rfl hsz hne ?_
    repeat' first | apply step | (apply g_op; · repeat first | exact Evs.nil | (apply Evs.cons; exact rfl)) | (refine Br.mk (fun _ => ?_) (fun _ => ?_) <;> try (exfalso; omega)) | (refine Sd.mk ?_ ?_; · ((repeat' apply And.intro) <;> first | omega | trivial | assumption | (simp; done) | (simp; omega))) | (refine Sx.mk ?_ ?_; · omega) | refine Fa.mk (fun _ => ?_) | refine Im.mk (fun _ => ?_) | apply Lw.go | refine g_cond ?_ | refine g_guard ?_ | refine g_keep ?_ | refine g_pass ?_ | refine g_fin ?_ | (apply g_ap; exact rfl; exact rfl; assumption)
    exact fin (hR.1 h p1 c1 p2 c2 p3 c3 p4 c4 p5 c5)
  · obtain ⟨m, rfl⟩ : ∃ m : Nat, w = m := ⟨w.toNat, by omega⟩
    have h1 : 0 < m := by omega
    have h2 : m ≤ 64 := by omega
    have ok0 := M0_ok h1 h2 hf hr
    have hR1 := hR.2 m rfl h1 h2
    obtain ⟨z1, z2, z3, z4, z5⟩ := M0_lists (m := m) rows
    repeat' first | apply step | (apply g_op; · repeat first | exact Evs.nil | (apply Evs.cons; exact rfl)) | (refine Br.mk (fun _ => ?_) (fun _ => ?_) <;> try (exfalso; omega)) | (refine Sd.mk ?_ ?_; · ((repeat' apply And.intro) <;> first | omega | trivial | assumption | (simp; done) | (simp; omega))) | (refine Sx.mk ?_ ?_; · omega) | refine Fa.mk (fun _ => ?_) | refine Im.mk (fun _ => ?_) | apply Lw.go | refine g_cond ?_ | refine g_guard ?_ | refine g_keep ?_ | refine g_pass ?_ | refine g_fin ?_ | (apply g_ap; exact rfl; exact rfl; assumption)
    first | refine at_callS (r11_Count_spec (rows := rows) (by omega) (by omega)) ?_ | refine at_callR (r11_Count_spec (rows := rows) (by omega) (by omega)) ?_
    repeat' first | apply step | (apply g_op; · repeat first | exact Evs.nil | (apply Evs.cons; exact rfl)) | (refine Br.mk (fun _ => ?_) (fun _ => ?_) <;> try (exfalso; omega)) | (refine Sd.mk ?_ ?_; · ((repeat' apply And.intro) <;> first | omega | trivial | assumption | (simp; done) | (simp; omega))) | (refine Sx.mk ?_ ?_; · omega) | refine Fa.mk (fun _ => ?_) | refine Im.mk (fun _ => ?_) | apply Lw.go | refine g_cond ?_ | refine g_guard ?_ | refine g_keep ?_ | refine g_pass ?_ | refine g_fin ?_ | (apply g_ap; exact rfl; exact rfl; assumption)
    simp only [List.length_replicate]
    obtain ⟨LI, hLI⟩ : ∃ LI : Ms × Scr × Option Addr × Nat → Prop, ∀ w, LI w ↔ (w.1.ok m ∧ w.1.c.map Ce.row = rows ∧ w.2.1.steps + w.1.mu = (M0 rows).mu ∧ w.2.1.used + w.1.mu ≤ 2000000 ∧ runM m (M0 rows).mu (M0 rows) s = runM m w.1.mu w.1 w.2.1) := ⟨_, fun _ => Iff.rfl⟩
    refine at_loopS (ι := Ms × Scr × Option Addr × Nat) (E := fun w => [(0, .slice p rows.length c), (5, .pointer (some ⟨sbx, 0, none⟩)), (6, .pointer (some ⟨rbx, 0, none⟩)), (7, .pointer (some ⟨qbx, 0, none⟩)), (9, .pointer (some ⟨x9, 0, none⟩)), (10, .int .i64 ((4 * cnt rows + 2 * rows.length + 4 : Nat) : Int)), (11, .int .i64 (w.2.1.steps : Int))]) (Δ := fun w => pt x9 [.slice p rows.length c, .slice p1 w.1.sentL.length c1, .slice p2 (w.1.pipL m).length c2, .slice p3 w.1.headL.length c3, .slice p4 w.1.hasL.length c4, .slice p5 w.1.exL.length c5, .slice w.2.2.1 w.1.out.length w.2.2.2, .int .i64 (w.2.1.steps : Int)] 0 :: pt sbx [.slice q w.2.1.l.length cq, .int .i64 w.2.1.cancel, .int .i64 (w.2.1.steps : Int), .int .i64 (w.2.1.used : Int)] 0 :: pt rbx [.slice none 0 0, .slice none 0 0, .slice none 0 0, .slice none 0 0, .slice none 0 0, .slice none 0 0, .slice none 0 0, .int .i64 0] 0 :: pt qbx [.slice none 0 0, .int .i64 0, .int .i64 0, .int .i64 0] 0 :: own (kInt .i64) p1 c1 w.1.sentL :: own kPi8 p2 c2 (w.1.pipL m) :: own (kInt .i64) p3 c3 w.1.headL :: own kBool p4 c4 w.1.hasL :: own kBool p5 c5 w.1.exL :: own (kInt .i64) w.2.2.1 w.2.2.2 w.1.out :: fro (kSl (kInt .i64)) p c rows :: rdl (kInt .i64) q w.2.1.l :: F) (P := LI) (μ := fun w => w.1.mu) (M0 rows, s, none, 0) ((hLI _).2 ⟨ok0, M0_rows rows, by dsimp only; omega, by dsimp only; omega, rfl⟩) ?_ (he := by dsimp only; rw [hs0]; rfl) (hs := by
      dsimp only
      rw [z1, z2, z3, z4, z5, hs0]
      simp only [List.length_replicate]
      repeat first | exact Ent.refl _ | (apply Ent.more; · repeat first | exact Ent.keep | exact Ent.here | exact Ent.lend | exact ent_nil | apply Ent.there) | apply Ent.drop)
    rintro ⟨M, s1, p6, c6⟩ hL
    obtain ⟨ok, hrow, hst, hus, hrun⟩ := (hLI _).1 hL
    dsimp only at ok hrow hst hus hrun ⊢
    have hrl := rows_len (m := m) hrow
    have l3 := exL_len (M := M)
    have exl : M.exL[rows.length]'(by omega) = M.exited := by
      have : ∀ i (h : i < M.exL.length), i = M.c.length → M.exL[i] = M.exited := fun i h e => by subst e; exact exL_last
      exact this _ _ hrl.symm
    cases hx : M.exited with
    | true =>
      rw [hrun, runM_done hx] at hR1
      repeat' first | rw [exl] | rw [hx] | apply step | (apply g_op; · repeat first | exact Evs.nil | (apply Evs.cons; exact rfl)) | (refine Br.mk (fun _ => ?_) (fun _ => ?_) <;> try (exfalso; omega)) | (refine Sd.mk ?_ ?_; · ((repeat' apply And.intro) <;> first | omega | trivial | assumption | (simp; done) | (simp; omega))) | (refine Sx.mk ?_ ?_; · omega) | refine Fa.mk (fun _ => ?_) | refine Im.mk (fun _ => ?_) | apply Lw.go | refine g_cond ?_ | refine g_guard ?_ | refine g_keep ?_ | refine g_pass ?_ | refine g_fin ?_ | (apply g_ap; exact rfl; exact rfl; assumption)
      refine at_opsA3 sbx rbx (fun sz hsz hne => ?_)
      repeat' first | apply step | (apply g_op; · repeat first | exact Evs.nil | (apply Evs.cons; exact rfl)) | (refine Br.mk (fun _ => ?_) (fun _ => ?_) <;> try (exfalso; omega)) | (refine Sd.mk ?_ ?_; · ((repeat' apply And.intro) <;> first | omega | trivial | assumption | (simp; done) | (simp; omega))) | (refine Sx.mk ?_ ?_; · omega) | refine Fa.mk (fun _ => ?_) | refine Im.mk (fun _ => ?_) | apply Lw.go | refine g_cond ?_ | refine g_guard ?_ | refine g_keep ?_ | refine g_pass ?_ | refine g_fin ?_ | (apply g_ap; exact rfl; exact rfl; assumption)
      refine g_ap3 rfl rfl hsz hne ?_
      repeat' first | apply step | (apply g_op; · repeat first | exact Evs.nil | (apply Evs.cons; exact rfl)) | (refine Br.mk (fun _ => ?_) (fun _ => ?_) <;> try (exfalso; omega)) | (refine Sd.mk ?_ ?_; · ((repeat' apply And.intro) <;> first | omega | trivial | assumption | (simp; done) | (simp; omega))) | (refine Sx.mk ?_ ?_; · omega) | refine Fa.mk (fun _ => ?_) | refine Im.mk (fun _ => ?_) | apply Lw.go | refine g_cond ?_ | refine g_guard ?_ | refine g_keep ?_ | refine g_pass ?_ | refine g_fin ?_ | (apply g_ap; exact rfl; exact rfl; assumption)
      have := hR1 M s1 0 rfl p1 c1 p2 c2 p3 c3 p4 c4 p5 c5 p6 c6
      rw [if_pos rfl] at this
      exact fin this
    | false =>
      have hmp := mu_pos hx
      obtain ⟨f, hfe⟩ : ∃ f, M.mu = f + 1 := ⟨M.mu - 1, by omega⟩
      rw [hrun, hfe] at hR1
      repeat' first | rw [exl] | rw [hx] | apply step | (apply g_op; · repeat first | exact Evs.nil | (apply Evs.cons; exact rfl)) | (refine Br.mk (fun _ => ?_) (fun _ => ?_) <;> try (exfalso; omega)) | (refine Sd.mk ?_ ?_; · ((repeat' apply And.intro) <;> first | omega | trivial | assumption | (simp; done) | (simp; omega))) | (refine Sx.mk ?_ ?_; · omega) | refine Fa.mk (fun _ => ?_) | refine Im.mk (fun _ => ?_) | apply Lw.go | refine g_cond ?_ | refine g_guard ?_ | refine g_keep ?_ | refine g_pass ?_ | refine g_fin ?_ | (apply g_ap; exact rfl; exact rfl; assumption)
      all_goals first | (exfalso; omega) | skip
      first | refine at_callS (r11_ready_spec (pr := p) (p1 := p1) (p2 := p2) (p3 := p3) (p4 := p4) (p5 := p5) (p6 := p6) (cr := c) (c1 := c1) (c2 := c2) (c3 := c3) (c4 := c4) (c5 := c5) (c6 := c6) (st := (s1.steps : Int)) ok hrow) ?_ | refine at_callR (r11_ready_spec (pr := p) (p1 := p1) (p2 := p2) (p3 := p3) (p4 := p4) (p5 := p5) (p6 := p6) (cr := c) (c1 := c1) (c2 := c2) (c3 := c3) (c4 := c4) (c5 := c5) (c6 := c6) (st := (s1.steps : Int)) ok hrow) ?_
      rw [mg_ready]
      intro pg cg
      repeat' first | apply step | (apply g_op; · repeat first | exact Evs.nil | (apply Evs.cons; exact rfl)) | (refine Br.mk (fun _ => ?_) (fun _ => ?_) <;> try (exfalso; omega)) | (refine Sd.mk ?_ ?_; · ((repeat' apply And.intro) <;> first | omega | trivial | assumption | (simp; done) | (simp; omega))) | (refine Sx.mk ?_ ?_; · omega) | refine Fa.mk (fun _ => ?_) | refine Im.mk (fun _ => ?_) | apply Lw.go | refine g_cond ?_ | refine g_guard ?_ | refine g_keep ?_ | refine g_pass ?_ | refine g_fin ?_ | (apply g_ap; exact rfl; exact rfl; assumption)
      have hrlen : ((M.ready m).map Int.ofNat).length ≤ 1000000 := by
        rw [List.length_map]
        have h1 : (M.ready m).length ≤ M.c.length + 1 := by
          unfold Ms.ready
          rw [List.length_append]
          have := List.length_filter_le (fun k => ((M.c[k]?).map (Ce.rdy m)).getD false) (List.range M.c.length)
          rw [List.length_range] at this
          split <;> simp <;> omega
        have := ok.n; omega
      first | refine at_callS (r09_Step_spec (s := s1) (r := (M.ready m).map Int.ofNat) hrlen (by omega) (by omega)) ?_ | refine at_callR (r09_Step_spec (s := s1) (r := (M.ready m).map Int.ofNat) hrlen (by omega) (by omega)) ?_
      by_cases ho : s1.off
      · rw [stepS_off ho]
        rw [runM_off hx ho] at hR1
        dsimp only
        repeat' first | apply step | (apply g_op; · repeat first | exact Evs.nil | (apply Evs.cons; exact rfl)) | (refine Br.mk (fun _ => ?_) (fun _ => ?_) <;> try (exfalso; omega)) | (refine Sd.mk ?_ ?_; · ((repeat' apply And.intro) <;> first | omega | trivial | assumption | (simp; done) | (simp; omega))) | (refine Sx.mk ?_ ?_; · omega) | refine Fa.mk (fun _ => ?_) | refine Im.mk (fun _ => ?_) | apply Lw.go | refine g_cond ?_ | refine g_guard ?_ | refine g_keep ?_ | refine g_pass ?_ | refine g_fin ?_ | (apply g_ap; exact rfl; exact rfl; assumption)
        refine at_opsA3 sbx rbx (fun sz hsz hne => ?_)
        repeat' first | apply step | (apply g_op; · repeat first | exact Evs.nil | (apply Evs.cons; exact rfl)) | (refine Br.mk (fun _ => ?_) (fun _ => ?_) <;> try (exfalso; omega)) | (refine Sd.mk ?_ ?_; · ((repeat' apply And.intro) <;> first | omega | trivial | assumption | (simp; done) | (simp; omega))) | (refine Sx.mk ?_ ?_; · omega) | refine Fa.mk (fun _ => ?_) | refine Im.mk (fun _ => ?_) | apply Lw.go | refine g_cond ?_ | refine g_guard ?_ | refine g_keep ?_ | refine g_pass ?_ | refine g_fin ?_ | (apply g_ap; exact rfl; exact rfl; assumption)
        refine g_ap3 rfl rfl hsz hne ?_
        repeat' first | apply step | (apply g_op; · repeat first | exact Evs.nil | (apply Evs.cons; exact rfl)) | (refine Br.mk (fun _ => ?_) (fun _ => ?_) <;> try (exfalso; omega)) | (refine Sd.mk ?_ ?_; · ((repeat' apply And.intro) <;> first | omega | trivial | assumption | (simp; done) | (simp; omega))) | (refine Sx.mk ?_ ?_; · omega) | refine Fa.mk (fun _ => ?_) | refine Im.mk (fun _ => ?_) | apply Lw.go | refine g_cond ?_ | refine g_guard ?_ | refine g_keep ?_ | refine g_pass ?_ | refine g_fin ?_ | (apply g_ap; exact rfl; exact rfl; assumption)
        have := hR1 M s1 8 rfl p1 c1 p2 c2 p3 c3 p4 c4 p5 c5 none 0
        rw [if_neg (by decide)] at this
        exact fin this
      · obtain ⟨k, hk, hst1, hrn⟩ := runM_on (f := f) ok hx ho
        rw [hst1]
        obtain ⟨a1, a2, a3, a4⟩ := act_ok ok hx hk
        obtain ⟨g1, g2, g3, g4⟩ := one_took s1
        rw [hrn] at hR1
        dsimp only
        rcases mem_ready.1 hk with ⟨hkl, hkr⟩ | ⟨hkl, hkr⟩
        · have eact : M.act k = M.upd k Ce.step := by unfold Ms.act; rw [if_pos hkl]
          repeat' first | apply step | (apply g_op; · repeat first | exact Evs.nil | (apply Evs.cons; exact rfl)) | (refine Br.mk (fun _ => ?_) (fun _ => ?_) <;> try (exfalso; omega)) | (refine Sd.mk ?_ ?_; · ((repeat' apply And.intro) <;> first | omega | trivial | assumption | (simp; done) | (simp; omega))) | (refine Sx.mk ?_ ?_; · omega) | refine Fa.mk (fun _ => ?_) | refine Im.mk (fun _ => ?_) | apply Lw.go | refine g_cond ?_ | refine g_guard ?_ | refine g_keep ?_ | refine g_pass ?_ | refine g_fin ?_ | (apply g_ap; exact rfl; exact rfl; assumption)
          all_goals first | (exfalso; omega) | skip
          first | refine at_callS (r11_send_spec (pr := p) (p1 := p1) (p2 := p2) (p3 := p3) (p4 := p4) (p5 := p5) (p6 := p6) (cr := c) (c1 := c1) (c2 := c2) (c3 := c3) (c4 := c4) (c5 := c5) (c6 := c6) (k := k) (st := ((s1.steps + 1 : Nat) : Int)) ok hrow hkl hkr) ?_ | refine at_callR (r11_send_spec (pr := p) (p1 := p1) (p2 := p2) (p3 := p3) (p4 := p4) (p5 := p5) (p6 := p6) (cr := c) (c1 := c1) (c2 := c2) (c3 := c3) (c4 := c4) (c5 := c5) (c6 := c6) (k := k) (st := ((s1.steps + 1 : Nat) : Int)) ok hrow hkl hkr) ?_
          repeat' first | apply step | (apply g_op; · repeat first | exact Evs.nil | (apply Evs.cons; exact rfl)) | (refine Br.mk (fun _ => ?_) (fun _ => ?_) <;> try (exfalso; omega)) | (refine Sd.mk ?_ ?_; · ((repeat' apply And.intro) <;> first | omega | trivial | assumption | (simp; done) | (simp; omega))) | (refine Sx.mk ?_ ?_; · omega) | refine Fa.mk (fun _ => ?_) | refine Im.mk (fun _ => ?_) | apply Lw.go | refine g_cond ?_ | refine g_guard ?_ | refine g_keep ?_ | refine g_pass ?_ | refine g_fin ?_ | (apply g_ap; exact rfl; exact rfl; assumption)
          have eh : (M.act k).headL = M.headL := by rw [eact]; exact upd_headL0 hkl (cstep_same _).1
          have eb : (M.act k).hasL = M.hasL := by rw [eact]; exact upd_hasL0 hkl (cstep_same _).2
          have eo : (M.act k).out = M.out := by rw [eact]; exact upd_out hkl
          have el : (M.act k).c.length = M.c.length := by rw [eact]; exact upd_len
          rw [← eact]
          refine lp_next (M.act k, s1.one.took, p6, c6) ((hLI _).2 ⟨a1, by rw [a4, hrow], by dsimp only; omega, by dsimp only; omega, ?_⟩) (by dsimp only; omega) (by rw [g1]) (hs := by
            simp only [sentL_len, pipL_len, headL_len, hasL_len, exL_len, el, eh, eb, eo, took_l, g1]
            repeat first | exact Ent.refl _ | (apply Ent.more; · repeat first | exact Ent.keep | exact Ent.here | exact Ent.lend | exact ent_nil | apply Ent.there) | apply Ent.drop)
          dsimp only
          rw [hrun, hfe, hrn]
          congr 1; omega
        · have eact : M.act k = M.step := by unfold Ms.act; rw [if_neg (by omega)]
          subst hkl
          repeat' first | apply step | (apply g_op; · repeat first | exact Evs.nil | (apply Evs.cons; exact rfl)) | (refine Br.mk (fun _ => ?_) (fun _ => ?_) <;> try (exfalso; omega)) | (refine Sd.mk ?_ ?_; · ((repeat' apply And.intro) <;> first | omega | trivial | assumption | (simp; done) | (simp; omega))) | (refine Sx.mk ?_ ?_; · omega) | refine Fa.mk (fun _ => ?_) | refine Im.mk (fun _ => ?_) | apply Lw.go | refine g_cond ?_ | refine g_guard ?_ | refine g_keep ?_ | refine g_pass ?_ | refine g_fin ?_ | (apply g_ap; exact rfl; exact rfl; assumption)
          all_goals first | (exfalso; omega) | skip
          first | refine at_callS (r11_merge_spec (pr := p) (p1 := p1) (p2 := p2) (p3 := p3) (p4 := p4) (p5 := p5) (p6 := p6) (cr := c) (c1 := c1) (c2 := c2) (c3 := c3) (c4 := c4) (c5 := c5) (c6 := c6) (st := ((s1.steps + 1 : Nat) : Int)) ok hx hrow) ?_ | refine at_callR (r11_merge_spec (pr := p) (p1 := p1) (p2 := p2) (p3 := p3) (p4 := p4) (p5 := p5) (p6 := p6) (cr := c) (c1 := c1) (c2 := c2) (c3 := c3) (c4 := c4) (c5 := c5) (c6 := c6) (st := ((s1.steps + 1 : Nat) : Int)) ok hx hrow) ?_
          intro p7 c7
          repeat' first | apply step | (apply g_op; · repeat first | exact Evs.nil | (apply Evs.cons; exact rfl)) | (refine Br.mk (fun _ => ?_) (fun _ => ?_) <;> try (exfalso; omega)) | (refine Sd.mk ?_ ?_; · ((repeat' apply And.intro) <;> first | omega | trivial | assumption | (simp; done) | (simp; omega))) | (refine Sx.mk ?_ ?_; · omega) | refine Fa.mk (fun _ => ?_) | refine Im.mk (fun _ => ?_) | apply Lw.go | refine g_cond ?_ | refine g_guard ?_ | refine g_keep ?_ | refine g_pass ?_ | refine g_fin ?_ | (apply g_ap; exact rfl; exact rfl; assumption)
          have el := step_len M
          have es := step_sentL M
          rw [eact] at a1 a2 a3 a4 hrn hR1
          refine lp_next (M.step, s1.one.took, p7, c7) ((hLI _).2 ⟨a1, by rw [a4, hrow], by dsimp only; omega, by dsimp only; omega, ?_⟩) (by dsimp only; omega) (by rw [g1]) (hs := by
            simp only [sentL_len, pipL_len, headL_len, hasL_len, exL_len, el, es, took_l, g1]
            repeat first | exact Ent.refl _ | (apply Ent.more; · repeat first | exact Ent.keep | exact Ent.here | exact Ent.lend | exact ent_nil | apply Ent.there) | apply Ent.drop)
          dsimp only
          rw [hrun, hfe, hrn]
          congr 1; omega
theorem runM_ok {m : Nat} : ∀ (f : Nat) (M : Ms) (s : Scr), M.ok m → (runM m f M s).1.ok m ∧ (runM m f M s).1.c.map Ce.row = M.c.map Ce.row
  | 0, M, s, ok => ⟨ok, rfl⟩
  | f + 1, M, s, ok => by
    cases hx : M.exited with
    | true => rw [runM_done hx]; exact ⟨ok, rfl⟩
    | false =>
      by_cases ho : s.off
      · rw [runM_off hx ho]; exact ⟨ok, rfl⟩
      · obtain ⟨k, hk, _, hrn⟩ := runM_on (f := f) ok hx ho
        obtain ⟨a1, _, _, a4⟩ := act_ok ok hx hk
        rw [hrn]
        obtain ⟨h1, h2⟩ := runM_ok f (M.act k) s.one.took a1
        exact ⟨h1, by rw [h2, a4]⟩
theorem sentN_eq {m : Nat} (M : Ms) : (M.mg m).sentN (M.mg m).l.length = (M.c.map Ce.sent).sum := by
  unfold Mg.sentN
  rw [List.take_length]
  unfold Ms.mg; dsimp only
  rw [List.map_map]; rfl
theorem sentL_eq (M : Ms) : M.sentL = (M.c.map Ce.sent).map Int.ofNat := by
  unfold Ms.sentL
  rw [List.map_map]; rfl
theorem exN_eq {m : Nat} (M : Ms) : (M.mg m).exN (M.mg m).l.length + (bif M.exited then 1 else 0) = (M.exL.filter id).length := by
  unfold Mg.exN Ms.exL
  rw [List.take_length, List.filter_append, List.length_append]
  unfold Ms.mg; dsimp only
  congr 1
  · rw [List.filter_map, List.filter_map, List.length_map, List.length_map]; rfl
  · cases M.exited <;> rfl
theorem l11_MergePlays_spec {p q : Option Addr} {c cq : Nat} {rows : List (List Int)} {l : List Int} {ca w : Int} (hca : -9223372036854775808 ≤ ca ∧ ca ≤ 9223372036854775807) (hw : -9223372036854775808 ≤ w ∧ w ≤ 9223372036854775807) : Spec prog1 n_l11_MergePlays [.slice p rows.length c, .slice q l.length cq, .int .i64 ca, .int .i64 w] [fro (kSl (kInt .i64)) p c rows, fro (kInt .i64) q cq l] (fun R => R (.bool true) []) := by
  refine spec_code c_l11_MergePlays rfl ?_; intro n F R hR; unfold F_l11_MergePlays
  repeat' first | apply step | (apply g_op; · repeat first | exact Evs.nil | (apply Evs.cons; exact rfl)) | (refine Br.mk (fun _ => ?_) (fun _ => ?_) <;> try (exfalso; omega)) | (refine Sd.mk ?_ ?_; · ((repeat' apply And.intro) <;> first | omega | trivial | assumption | (simp; done) | (simp; omega))) | (refine Sx.mk ?_ ?_; · omega) | refine Fa.mk (fun _ => ?_) | refine Im.mk (fun _ => ?_) | apply Lw.go | refine g_cond ?_ | refine g_guard ?_ | refine g_keep ?_ | refine g_pass ?_ | refine g_fin ?_ | (apply g_ap; exact rfl; exact rfl; assumption)
  first | refine at_callS (r11_Few_spec (rows := rows)) ?_ | refine at_callR (r11_Few_spec (rows := rows)) ?_
  refine ⟨fun hf hr => ?_, ?_⟩
  rotate_left
  · repeat' first | apply step | (apply g_op; · repeat first | exact Evs.nil | (apply Evs.cons; exact rfl)) | (refine Br.mk (fun _ => ?_) (fun _ => ?_) <;> try (exfalso; omega)) | (refine Sd.mk ?_ ?_; · ((repeat' apply And.intro) <;> first | omega | trivial | assumption | (simp; done) | (simp; omega))) | (refine Sx.mk ?_ ?_; · omega) | refine Fa.mk (fun _ => ?_) | refine Im.mk (fun _ => ?_) | apply Lw.go | refine g_cond ?_ | refine g_guard ?_ | refine g_keep ?_ | refine g_pass ?_ | refine g_fin ?_ | (apply g_ap; exact rfl; exact rfl; assumption)
    first | refine at_callS (l11_works_spec) ?_ | refine at_callR (l11_works_spec) ?_
    repeat' first | apply step | (apply g_op; · repeat first | exact Evs.nil | (apply Evs.cons; exact rfl)) | (refine Br.mk (fun _ => ?_) (fun _ => ?_) <;> try (exfalso; omega)) | (refine Sd.mk ?_ ?_; · ((repeat' apply And.intro) <;> first | omega | trivial | assumption | (simp; done) | (simp; omega))) | (refine Sx.mk ?_ ?_; · omega) | refine Fa.mk (fun _ => ?_) | refine Im.mk (fun _ => ?_) | apply Lw.go | refine g_cond ?_ | refine g_guard ?_ | refine g_keep ?_ | refine g_pass ?_ | refine g_fin ?_ | (apply g_ap; exact rfl; exact rfl; assumption)
    exact fin hR
  have hc := cnt_le hr
  have hmu := M0_mu rows
  repeat' first | apply step | (apply g_op; · repeat first | exact Evs.nil | (apply Evs.cons; exact rfl)) | (refine Br.mk (fun _ => ?_) (fun _ => ?_) <;> try (exfalso; omega)) | (refine Sd.mk ?_ ?_; · ((repeat' apply And.intro) <;> first | omega | trivial | assumption | (simp; done) | (simp; omega))) | (refine Sx.mk ?_ ?_; · omega) | refine Fa.mk (fun _ => ?_) | refine Im.mk (fun _ => ?_) | apply Lw.go | refine g_cond ?_ | refine g_guard ?_ | refine g_keep ?_ | refine g_pass ?_ | refine g_fin ?_ | (apply g_ap; exact rfl; exact rfl; assumption)
  · first | refine at_callS (l11_works_spec) ?_ | refine at_callR (l11_works_spec) ?_
    repeat' first | apply step | (apply g_op; · repeat first | exact Evs.nil | (apply Evs.cons; exact rfl)) | (refine Br.mk (fun _ => ?_) (fun _ => ?_) <;> try (exfalso; omega)) | (refine Sd.mk ?_ ?_; · ((repeat' apply And.intro) <;> first | omega | trivial | assumption | (simp; done) | (simp; omega))) | (refine Sx.mk ?_ ?_; · omega) | refine Fa.mk (fun _ => ?_) | refine Im.mk (fun _ => ?_) | apply Lw.go | refine g_cond ?_ | refine g_guard ?_ | refine g_keep ?_ | refine g_pass ?_ | refine g_fin ?_ | (apply g_ap; exact rfl; exact rfl; assumption)
    exact fin hR
  first | refine at_callS (picks_New_spec (l := l) (k := ca) (by omega) hca) ?_ | refine at_callR (picks_New_spec (l := l) (k := ca) (by omega) hca) ?_
  intro sb
  repeat' first | apply step | (apply g_op; · repeat first | exact Evs.nil | (apply Evs.cons; exact rfl)) | (refine Br.mk (fun _ => ?_) (fun _ => ?_) <;> try (exfalso; omega)) | (refine Sd.mk ?_ ?_; · ((repeat' apply And.intro) <;> first | omega | trivial | assumption | (simp; done) | (simp; omega))) | (refine Sx.mk ?_ ?_; · omega) | refine Fa.mk (fun _ => ?_) | refine Im.mk (fun _ => ?_) | apply Lw.go | refine g_cond ?_ | refine g_guard ?_ | refine g_keep ?_ | refine g_pass ?_ | refine g_fin ?_ | (apply g_ap; exact rfl; exact rfl; assumption)
  first | refine at_callS (merge_Run_int_spec (sb := sb) (s := ⟨l, ca, 0, 0⟩) (w := w) hf hr rfl (by simp)) ?_ | refine at_callR (merge_Run_int_spec (sb := sb) (s := ⟨l, ca, 0, 0⟩) (w := w) hf hr rfl (by simp)) ?_
  refine ⟨fun h => ?_, fun m hm h1 h2 M' s' e p' c' hrun => ?_⟩
  · repeat' first | apply step | (apply g_op; · repeat first | exact Evs.nil | (apply Evs.cons; exact rfl)) | (refine Br.mk (fun _ => ?_) (fun _ => ?_) <;> try (exfalso; omega)) | (refine Sd.mk ?_ ?_; · ((repeat' apply And.intro) <;> first | omega | trivial | assumption | (simp; done) | (simp; omega))) | (refine Sx.mk ?_ ?_; · omega) | refine Fa.mk (fun _ => ?_) | refine Im.mk (fun _ => ?_) | apply Lw.go | refine g_cond ?_ | refine g_guard ?_ | refine g_keep ?_ | refine g_pass ?_ | refine g_fin ?_ | (apply g_ap; exact rfl; exact rfl; assumption)
    first | refine at_callS (r11_Run_spec (p := p) (c := c) (q := q) (cq := cq) (s := ⟨l, ca, 0, 0⟩) (w := w) hf hr hw rfl (by simp)) ?_ | refine at_callR (r11_Run_spec (p := p) (c := c) (q := q) (cq := cq) (s := ⟨l, ca, 0, 0⟩) (w := w) hf hr hw rfl (by simp)) ?_
    refine ⟨fun _ p1 c1 p2 c2 p3 c3 p4 c4 p5 c5 => ?_, fun m hm h1 h2 => by exfalso; omega⟩
    repeat' first | apply step | (apply g_op; · repeat first | exact Evs.nil | (apply Evs.cons; exact rfl)) | (refine Br.mk (fun _ => ?_) (fun _ => ?_) <;> try (exfalso; omega)) | (refine Sd.mk ?_ ?_; · ((repeat' apply And.intro) <;> first | omega | trivial | assumption | (simp; done) | (simp; omega))) | (refine Sx.mk ?_ ?_; · omega) | refine Fa.mk (fun _ => ?_) | refine Im.mk (fun _ => ?_) | apply Lw.go | refine g_cond ?_ | refine g_guard ?_ | refine g_keep ?_ | refine g_pass ?_ | refine g_fin ?_ | (apply g_ap; exact rfl; exact rfl; assumption)
    first | refine at_callS (r01_Same_spec (p := none) (q := none) (a := []) (b := []) (by simp)) ?_ | refine at_callR (r01_Same_spec (p := none) (q := none) (a := []) (b := []) (by simp)) ?_
    refine ⟨fun _ => ?_, fun h => absurd rfl h⟩
    repeat' first | apply step | (apply g_op; · repeat first | exact Evs.nil | (apply Evs.cons; exact rfl)) | (refine Br.mk (fun _ => ?_) (fun _ => ?_) <;> try (exfalso; omega)) | (refine Sd.mk ?_ ?_; · ((repeat' apply And.intro) <;> first | omega | trivial | assumption | (simp; done) | (simp; omega))) | (refine Sx.mk ?_ ?_; · omega) | refine Fa.mk (fun _ => ?_) | refine Im.mk (fun _ => ?_) | apply Lw.go | refine g_cond ?_ | refine g_guard ?_ | refine g_keep ?_ | refine g_pass ?_ | refine g_fin ?_ | (apply g_ap; exact rfl; exact rfl; assumption)
    first | refine at_callS (r11_Sum_spec (p := p1) (c := c1) (l := []) (by simp) (by simp)) ?_ | refine at_callR (r11_Sum_spec (p := p1) (c := c1) (l := []) (by simp) (by simp)) ?_
    repeat' first | apply step | (apply g_op; · repeat first | exact Evs.nil | (apply Evs.cons; exact rfl)) | (refine Br.mk (fun _ => ?_) (fun _ => ?_) <;> try (exfalso; omega)) | (refine Sd.mk ?_ ?_; · ((repeat' apply And.intro) <;> first | omega | trivial | assumption | (simp; done) | (simp; omega))) | (refine Sx.mk ?_ ?_; · omega) | refine Fa.mk (fun _ => ?_) | refine Im.mk (fun _ => ?_) | apply Lw.go | refine g_cond ?_ | refine g_guard ?_ | refine g_keep ?_ | refine g_pass ?_ | refine g_fin ?_ | (apply g_ap; exact rfl; exact rfl; assumption)
    first | refine at_callS (r11_Exited_spec (p := p5) (c := c5) (l := [false]) (by simp)) ?_ | refine at_callR (r11_Exited_spec (p := p5) (c := c5) (l := [false]) (by simp)) ?_
    repeat' first | apply step | (apply g_op; · repeat first | exact Evs.nil | (apply Evs.cons; exact rfl)) | (refine Br.mk (fun _ => ?_) (fun _ => ?_) <;> try (exfalso; omega)) | (refine Sd.mk ?_ ?_; · ((repeat' apply And.intro) <;> first | omega | trivial | assumption | (simp; done) | (simp; omega))) | (refine Sx.mk ?_ ?_; · omega) | refine Fa.mk (fun _ => ?_) | refine Im.mk (fun _ => ?_) | apply Lw.go | refine g_cond ?_ | refine g_guard ?_ | refine g_keep ?_ | refine g_pass ?_ | refine g_fin ?_ | (apply g_ap; exact rfl; exact rfl; assumption)
    first | refine at_callS (picks_Script_Steps_spec (b := sb) (s := ⟨l, ca, 0, 0⟩)) ?_ | refine at_callR (picks_Script_Steps_spec (b := sb) (s := ⟨l, ca, 0, 0⟩)) ?_
    repeat' first | apply step | (apply g_op; · repeat first | exact Evs.nil | (apply Evs.cons; exact rfl)) | (refine Br.mk (fun _ => ?_) (fun _ => ?_) <;> try (exfalso; omega)) | (refine Sd.mk ?_ ?_; · ((repeat' apply And.intro) <;> first | omega | trivial | assumption | (simp; done) | (simp; omega))) | (refine Sx.mk ?_ ?_; · omega) | refine Fa.mk (fun _ => ?_) | refine Im.mk (fun _ => ?_) | apply Lw.go | refine g_cond ?_ | refine g_guard ?_ | refine g_keep ?_ | refine g_pass ?_ | refine g_fin ?_ | (apply g_ap; exact rfl; exact rfl; assumption)
    first | refine at_callS (picks_Script_Used_spec (b := sb) (s := ⟨l, ca, 0, 0⟩)) ?_ | refine at_callR (picks_Script_Used_spec (b := sb) (s := ⟨l, ca, 0, 0⟩)) ?_
    repeat' first | apply step | (apply g_op; · repeat first | exact Evs.nil | (apply Evs.cons; exact rfl)) | (refine Br.mk (fun _ => ?_) (fun _ => ?_) <;> try (exfalso; omega)) | (refine Sd.mk ?_ ?_; · ((repeat' apply And.intro) <;> first | omega | trivial | assumption | (simp; done) | (simp; omega))) | (refine Sx.mk ?_ ?_; · omega) | refine Fa.mk (fun _ => ?_) | refine Im.mk (fun _ => ?_) | apply Lw.go | refine g_cond ?_ | refine g_guard ?_ | refine g_keep ?_ | refine g_pass ?_ | refine g_fin ?_ | (apply g_ap; exact rfl; exact rfl; assumption)
    first | refine at_callS (l11_works_spec) ?_ | refine at_callR (l11_works_spec) ?_
    repeat' first | apply step | (apply g_op; · repeat first | exact Evs.nil | (apply Evs.cons; exact rfl)) | (refine Br.mk (fun _ => ?_) (fun _ => ?_) <;> try (exfalso; omega)) | (refine Sd.mk ?_ ?_; · ((repeat' apply And.intro) <;> first | omega | trivial | assumption | (simp; done) | (simp; omega))) | (refine Sx.mk ?_ ?_; · omega) | refine Fa.mk (fun _ => ?_) | refine Im.mk (fun _ => ?_) | apply Lw.go | refine g_cond ?_ | refine g_guard ?_ | refine g_keep ?_ | refine g_pass ?_ | refine g_fin ?_ | (apply g_ap; exact rfl; exact rfl; assumption)
    exact fin hR
    all_goals (exfalso; rename_i h; exact h rfl)
  · have ok0 := M0_ok h1 h2 hf hr
    obtain ⟨ok1, hrow⟩ := runM_ok (M0 rows).mu (M0 rows) ⟨l, ca, 0, 0⟩ ok0
    rw [hrun] at ok1 hrow
    dsimp only at ok1 hrow
    rw [M0_rows] at hrow
    have hsn := sentN_le ok1 (M'.mg m).l.length
    rw [sentN_eq] at hsn
    have hcl := rows_len (m := m) hrow
    have hob := ok1.o
    have hel := exL_len (M := M')
    rw [sentN_eq, exN_eq]
    repeat' first | apply step | (apply g_op; · repeat first | exact Evs.nil | (apply Evs.cons; exact rfl)) | (refine Br.mk (fun _ => ?_) (fun _ => ?_) <;> try (exfalso; omega)) | (refine Sd.mk ?_ ?_; · ((repeat' apply And.intro) <;> first | omega | trivial | assumption | (simp; done) | (simp; omega))) | (refine Sx.mk ?_ ?_; · omega) | refine Fa.mk (fun _ => ?_) | refine Im.mk (fun _ => ?_) | apply Lw.go | refine g_cond ?_ | refine g_guard ?_ | refine g_keep ?_ | refine g_pass ?_ | refine g_fin ?_ | (apply g_ap; exact rfl; exact rfl; assumption)
    first | refine at_callS (r11_Run_spec (p := p) (c := c) (q := q) (cq := cq) (s := ⟨l, ca, 0, 0⟩) (w := w) hf hr hw rfl (by simp)) ?_ | refine at_callR (r11_Run_spec (p := p) (c := c) (q := q) (cq := cq) (s := ⟨l, ca, 0, 0⟩) (w := w) hf hr hw rfl (by simp)) ?_
    refine ⟨fun h => by exfalso; omega, fun m' hm' h1' h2' => ?_⟩
    obtain rfl : m = m' := by omega
    intro M1 s1 e1 hrun1 p1 c1 p2 c2 p3 c3 p4 c4 p5 c5 p6 c6
    rw [hrun] at hrun1
    simp only [Prod.mk.injEq] at hrun1
    obtain ⟨rfl, rfl, rfl⟩ := hrun1
    generalize hoe : (if e = 0 then M'.out else []) = out at *
    have hol : out.length ≤ 1000000 := by
      rw [← hoe]; split
      · omega
      · simp
    repeat' first | apply step | (apply g_op; · repeat first | exact Evs.nil | (apply Evs.cons; exact rfl)) | (refine Br.mk (fun _ => ?_) (fun _ => ?_) <;> try (exfalso; omega)) | (refine Sd.mk ?_ ?_; · ((repeat' apply And.intro) <;> first | omega | trivial | assumption | (simp; done) | (simp; omega))) | (refine Sx.mk ?_ ?_; · omega) | refine Fa.mk (fun _ => ?_) | refine Im.mk (fun _ => ?_) | apply Lw.go | refine g_cond ?_ | refine g_guard ?_ | refine g_keep ?_ | refine g_pass ?_ | refine g_fin ?_ | (apply g_ap; exact rfl; exact rfl; assumption)
    first | refine at_callS (r01_Same_spec (a := out) (b := out) (by omega)) ?_ | refine at_callR (r01_Same_spec (a := out) (b := out) (by omega)) ?_
    refine ⟨fun _ => ?_, fun h => absurd rfl h⟩
    rw [sentL_eq]
    repeat' first | apply step | (apply g_op; · repeat first | exact Evs.nil | (apply Evs.cons; exact rfl)) | (refine Br.mk (fun _ => ?_) (fun _ => ?_) <;> try (exfalso; omega)) | (refine Sd.mk ?_ ?_; · ((repeat' apply And.intro) <;> first | omega | trivial | assumption | (simp; done) | (simp; omega))) | (refine Sx.mk ?_ ?_; · omega) | refine Fa.mk (fun _ => ?_) | refine Im.mk (fun _ => ?_) | apply Lw.go | refine g_cond ?_ | refine g_guard ?_ | refine g_keep ?_ | refine g_pass ?_ | refine g_fin ?_ | (apply g_ap; exact rfl; exact rfl; assumption)
    first | refine at_callS (r11_Sum_spec (p := p1) (c := c1) (l := M'.c.map Ce.sent) hsn (by rw [List.length_map]; omega)) ?_ | refine at_callR (r11_Sum_spec (p := p1) (c := c1) (l := M'.c.map Ce.sent) hsn (by rw [List.length_map]; omega)) ?_
    repeat' first | apply step | (apply g_op; · repeat first | exact Evs.nil | (apply Evs.cons; exact rfl)) | (refine Br.mk (fun _ => ?_) (fun _ => ?_) <;> try (exfalso; omega)) | (refine Sd.mk ?_ ?_; · ((repeat' apply And.intro) <;> first | omega | trivial | assumption | (simp; done) | (simp; omega))) | (refine Sx.mk ?_ ?_; · omega) | refine Fa.mk (fun _ => ?_) | refine Im.mk (fun _ => ?_) | apply Lw.go | refine g_cond ?_ | refine g_guard ?_ | refine g_keep ?_ | refine g_pass ?_ | refine g_fin ?_ | (apply g_ap; exact rfl; exact rfl; assumption)
    first | refine at_callS (r11_Exited_spec (p := p5) (c := c5) (l := M'.exL) (by omega)) ?_ | refine at_callR (r11_Exited_spec (p := p5) (c := c5) (l := M'.exL) (by omega)) ?_
    repeat' first | apply step | (apply g_op; · repeat first | exact Evs.nil | (apply Evs.cons; exact rfl)) | (refine Br.mk (fun _ => ?_) (fun _ => ?_) <;> try (exfalso; omega)) | (refine Sd.mk ?_ ?_; · ((repeat' apply And.intro) <;> first | omega | trivial | assumption | (simp; done) | (simp; omega))) | (refine Sx.mk ?_ ?_; · omega) | refine Fa.mk (fun _ => ?_) | refine Im.mk (fun _ => ?_) | apply Lw.go | refine g_cond ?_ | refine g_guard ?_ | refine g_keep ?_ | refine g_pass ?_ | refine g_fin ?_ | (apply g_ap; exact rfl; exact rfl; assumption)
    first | refine at_callS (picks_Script_Steps_spec (b := sb) (s := s')) ?_ | refine at_callR (picks_Script_Steps_spec (b := sb) (s := s')) ?_
    repeat' first | apply step | (apply g_op; · repeat first | exact Evs.nil | (apply Evs.cons; exact rfl)) | (refine Br.mk (fun _ => ?_) (fun _ => ?_) <;> try (exfalso; omega)) | (refine Sd.mk ?_ ?_; · ((repeat' apply And.intro) <;> first | omega | trivial | assumption | (simp; done) | (simp; omega))) | (refine Sx.mk ?_ ?_; · omega) | refine Fa.mk (fun _ => ?_) | refine Im.mk (fun _ => ?_) | apply Lw.go | refine g_cond ?_ | refine g_guard ?_ | refine g_keep ?_ | refine g_pass ?_ | refine g_fin ?_ | (apply g_ap; exact rfl; exact rfl; assumption)
    first | refine at_callS (picks_Script_Used_spec (b := sb) (s := s')) ?_ | refine at_callR (picks_Script_Used_spec (b := sb) (s := s')) ?_
    repeat' first | apply step | (apply g_op; · repeat first | exact Evs.nil | (apply Evs.cons; exact rfl)) | (refine Br.mk (fun _ => ?_) (fun _ => ?_) <;> try (exfalso; omega)) | (refine Sd.mk ?_ ?_; · ((repeat' apply And.intro) <;> first | omega | trivial | assumption | (simp; done) | (simp; omega))) | (refine Sx.mk ?_ ?_; · omega) | refine Fa.mk (fun _ => ?_) | refine Im.mk (fun _ => ?_) | apply Lw.go | refine g_cond ?_ | refine g_guard ?_ | refine g_keep ?_ | refine g_pass ?_ | refine g_fin ?_ | (apply g_ap; exact rfl; exact rfl; assumption)
    first | refine at_callS (l11_works_spec) ?_ | refine at_callR (l11_works_spec) ?_
    repeat' first | apply step | (apply g_op; · repeat first | exact Evs.nil | (apply Evs.cons; exact rfl)) | (refine Br.mk (fun _ => ?_) (fun _ => ?_) <;> try (exfalso; omega)) | (refine Sd.mk ?_ ?_; · ((repeat' apply And.intro) <;> first | omega | trivial | assumption | (simp; done) | (simp; omega))) | (refine Sx.mk ?_ ?_; · omega) | refine Fa.mk (fun _ => ?_) | refine Im.mk (fun _ => ?_) | apply Lw.go | refine g_cond ?_ | refine g_guard ?_ | refine g_keep ?_ | refine g_pass ?_ | refine g_fin ?_ | (apply g_ap; exact rfl; exact rfl; assumption)
    exact fin hR
end
end Go.AMS

