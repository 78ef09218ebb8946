/- What the functions do, part 1. -/
import Derived.Test.YtdkgalkdcmajjaaCode
import Derived.Test.YtdkgalkdcmajjaaSetLaw
namespace Go.AMS
open Go.AM hiding Kt At WP WL Runs RunsY
open Go.AM.G
set_option linter.unusedVariables false
set_option linter.unusedSimpArgs false
set_option linter.unusedSectionVars false
set_option maxRecDepth 100000
set_option maxHeartbeats 1000000
attribute [local irreducible] AtS AtV AtC AtG FinA Spec Post LP G.At G.WP G.WL pt own fro rdl ro hx mp lrec elt sub

open Go.AM.G.Set
section
/-- A script: picks, where all is cancelled, how many steps there were, how many picks were used. -/
structure Scr where
  l : List Int
  cancel : Int
  steps : Nat
  used : Nat
structure Scr.ok (s : Scr) : Prop where
  hc : -9223372036854775808 ≤ s.cancel ∧ s.cancel ≤ 9223372036854775807
  hs : s.steps ≤ 1000000000000
  hu : s.used ≤ 1000000000000
  hl : s.l.length ≤ 1000000000
section
variable {b : Nat} {s : Scr} {m : Bool}
end
end
end Go.AMS

namespace Go.AMS
open Go.AM hiding Kt At WP WL Runs RunsY
open Go.AM.G
set_option linter.unusedVariables false
set_option linter.unusedSimpArgs false
set_option linter.unusedSectionVars false
set_option maxRecDepth 100000
set_option maxHeartbeats 1000000
attribute [local irreducible] AtS AtV AtC AtG FinA Spec Post LP G.At G.WP G.WL pt own fro rdl ro hx mp lrec elt sub

structure HOp where
  read : Bool
  key : Int
  value : Int
  list : List Int
structure HTx where
  id : Int
  ab : Bool
  ops : List HOp
def mayN (n : Int) : Prop := 0 ≤ n ∧ n ≤ 2147483647
instance (n : Int) : Decidable (mayN n) := by unfold mayN; infer_instance
def mayO (o : HOp) : Prop := if o.read = true then mayN o.key ∧ o.value = 0 ∧ ∀ x ∈ o.list, mayN x else mayN o.key ∧ mayN o.value ∧ o.list = []
instance (o : HOp) : Decidable (mayO o) := by unfold mayO; infer_instance
section
variable {p : Option Addr} {c : Nat} {h : List HTx}
end
end Go.AMS

namespace Go.AMS
open Go.AM hiding Kt At WP WL Runs RunsY
open Go.AM.G
set_option linter.unusedVariables false
set_option linter.unusedSimpArgs false
set_option linter.unusedSectionVars false
set_option maxRecDepth 100000
set_option maxHeartbeats 1000000
attribute [local irreducible] AtS AtV AtC AtG FinA Spec Post LP G.At G.WP G.WL pt own fro rdl ro hx mp lrec elt sub

def prs (l : List HOp) : List (Int × Int) := (l.filter fun o => !o.read).map fun o => (o.key, o.value)
def idsH (h : List HTx) : List Int := h.map HTx.id
def prsH (h : List HTx) : List (Int × Int) := h.flatMap fun t => prs t.ops
def scanO (met : List (Int × Int)) : List HOp → Int
  | [] => 0
  | o :: r => if ¬ mayO o then 2 else if o.read = true then scanO met r else if (o.key, o.value) ∈ met then 6 else scanO (met ++ [(o.key, o.value)]) r
def scanH (ids : List Int) (met : List (Int × Int)) : List HTx → Int
  | [] => 0
  | t :: r => if ¬ mayN t.id then 2 else if t.id ∈ ids then 5 else if scanO met t.ops ≠ 0 then scanO met t.ops else scanH (ids ++ [t.id]) (met ++ prs t.ops) r
/-- Whether a history may be: 0, or an error's number. -/
def chkH (h : List HTx) : Int := scanH [] [] h
theorem prs_snoc (l : List HOp) (o : HOp) : prs (l ++ [o]) = prs l ++ if o.read = true then [] else [(o.key, o.value)] := by
  unfold prs
  rw [List.filter_append, List.map_append]
  congr 1
  cases h : o.read <;> simp [h]
/-- So it is known when all that is to be known of the first ones is known. -/
structure PreO (met : List (Int × Int)) (l : List HOp) (i : Nat) : Prop where
  go : scanO met l = scanO (met ++ prs (l.take i)) (l.drop i)
  ok : ∀ o ∈ l.take i, mayO o
section
variable {met : List (Int × Int)} {l : List HOp} {i : Nat} (hp : PreO met l i) (hi : i < l.length)
include hp hi
theorem PreO.read (h : mayO l[i]) (h2 : l[i].read = true) : PreO met l (i + 1) ∧ prs (l.take (i + 1)) = prs (l.take i) := by
  have e : prs (l.take (i + 1)) = prs (l.take i) := by rw [List.take_succ_eq_append_getElem hi, prs_snoc, if_pos h2, List.append_nil]
  refine ⟨⟨?_, ?_⟩, e⟩
  · rw [hp.go, List.drop_eq_getElem_cons hi, scanO, if_neg (by simpa using h), if_pos h2, e]
  · intro o ho
    rw [List.take_succ_eq_append_getElem hi] at ho
    rcases List.mem_append.1 ho with ho | ho
    · exact hp.ok o ho
    · rw [List.mem_singleton.1 ho]; exact h
end
theorem PreO.all {met : List (Int × Int)} {l : List HOp} (hp : PreO met l l.length) : scanO met l = 0 := by
  rw [hp.go, List.drop_length]; rfl
structure PreH (h : List HTx) (j : Nat) : Prop where
  go : chkH h = scanH (idsH (h.take j)) (prsH (h.take j)) (h.drop j)
  ok : ∀ t ∈ h.take j, mayN t.id ∧ ∀ o ∈ t.ops, mayO o
section
variable {h : List HTx} {j : Nat} (hp : PreH h j) (hj : j < h.length)
include hp hj
theorem PreH.op (h1 : mayN h[j].id) (h2 : h[j].id ∉ idsH (h.take j)) {e : Int} (h3 : scanO (prsH (h.take j)) h[j].ops = e) (he : e ≠ 0) : chkH h = e := by
  rw [hp.go, List.drop_eq_getElem_cons hj, scanH, if_neg (by simpa using h1), if_neg h2, h3, if_pos he]
end
theorem PreH.all {h : List HTx} (hp : PreH h h.length) : chkH h = 0 := by
  rw [hp.go, List.drop_length]; rfl
section
variable {κ β : Type} [DecidableEq κ]
end
section
variable {p : Option Addr} {c : Nat} {h : List HTx}
end
end Go.AMS

namespace Go.AMS
open Go.AM hiding Kt At WP WL Runs RunsY
open Go.AM.G
set_option linter.unusedVariables false
set_option linter.unusedSimpArgs false
set_option linter.unusedSectionVars false
set_option maxRecDepth 100000
set_option maxHeartbeats 1000000
attribute [local irreducible] AtS AtV AtC AtG FinA Spec Post LP G.At G.WP G.WL pt own fro rdl ro hx mp lrec elt sub

open Go.AM.G.Set
structure HRd where
  txn : Int
  op : Int
  key : Int
  list : List Int
  own : List Int
def kHRd : Kind HRd := ⟨5, by decide, fun m cs a => ∃ v0 v1 v2 v3 v4, cs = [v0, v1, v2, v3, v4] ∧ (kInt .i64).rd m [v0] a.txn ∧ (kInt .i64).rd m [v1] a.op ∧ (kInt .i64).rd m [v2] a.key ∧ (kSl (kInt .i64)).rd m [v3] a.list ∧ (kSl (kInt .i64)).rd m [v4] a.own,
  fun s ⟨v0, v1, v2, v3, v4, hc, h0, h1, h2, h3, h4⟩ => ⟨v0, v1, v2, v3, v4, hc, (kInt .i64).mono s h0, (kInt .i64).mono s h1, (kInt .i64).mono s h2, (kSl (kInt .i64)).mono s h3, (kSl (kInt .i64)).mono s h4⟩, fun ⟨v0, v1, v2, v3, v4, hc, h0, h1, h2, h3, h4⟩ => by rw [hc]; rfl,
  fun ⟨v0, v1, v2, v3, v4, hc, h0, h1, h2, h3, h4⟩ => by
    have e0 := (kInt .i64).ok h0
    have e1 := (kInt .i64).ok h1
    have e2 := (kInt .i64).ok h2
    have e3 := (kSl (kInt .i64)).ok h3
    have e4 := (kSl (kInt .i64)).ok h4
    simp only [List.all_cons, List.all_nil, Bool.and_true] at e0 e1 e2 e3 e4
    rw [hc]; simp only [List.all_cons, List.all_nil, Bool.and_true, e0, e1, e2, e3, e4]⟩
instance esz_HRd : Esz kHRd 5 := ⟨rfl⟩
instance cel_HRd : Cel kHRd ((Option Addr × Nat) × (Option Addr × Nat)) (fun a x => [.int .i64 a.txn, .int .i64 a.op, .int .i64 a.key, .slice x.1.1 a.list.length x.1.2, .slice x.2.1 a.own.length x.2.2]) (fun a x => [fro (kInt .i64) x.1.1 x.1.2 a.list, fro (kInt .i64) x.2.1 x.2.2 a.own]) (fun a => (-9223372036854775808 ≤ a.txn ∧ a.txn ≤ 9223372036854775807) ∧ (-9223372036854775808 ≤ a.op ∧ a.op ≤ 9223372036854775807) ∧ (-9223372036854775808 ≤ a.key ∧ a.key ≤ 9223372036854775807) ∧ a.list.length ≤ 140737488351232 ∧ a.own.length ≤ 140737488351232 ∧ True) := ⟨fun ⟨v0, v1, v2, v3, v4, hc, h0, h1, h2, h3, h4⟩ => by
  obtain ⟨q0, b0⟩ := h0; cases q0
  obtain ⟨q1, b1⟩ := h1; cases q1
  obtain ⟨q2, b2⟩ := h2; cases q2
  obtain ⟨w3, q3, s3, b3⟩ := h3; cases q3; obtain ⟨p3, c3, rfl⟩ := s3.form
  obtain ⟨w4, q4, s4, b4⟩ := h4; cases q4; obtain ⟨p4, c4, rfl⟩ := s4.form
  exact ⟨((p3, c3), (p4, c4)), hc, ⟨b0, b1, b2, b3, b4, trivial⟩, sat_fro0 s3 (sat_fro0 s4 (sat_nil0))⟩⟩
instance ofc_HRd {Γ : List HP} {v0 v1 v2 v3 v4 : Value} {a0 : Int} {φ0 : Prop} {a1 : Int} {φ1 : Prop} {a2 : Int} {φ2 : Prop} {a3 : List Int} {φ3 : Prop} {a4 : List Int} {φ4 : Prop} [o0 : OfC Γ (kInt .i64) [v0] a0 φ0] [o1 : OfC Γ (kInt .i64) [v1] a1 φ1] [o2 : OfC Γ (kInt .i64) [v2] a2 φ2] [o3 : OfC Γ (kSl (kInt .i64)) [v3] a3 φ3] [o4 : OfC Γ (kSl (kInt .i64)) [v4] a4 φ4] : OfC Γ kHRd [v0, v1, v2, v3, v4] ⟨a0, a1, a2, a3, a4⟩ (φ0 ∧ φ1 ∧ φ2 ∧ φ3 ∧ φ4) := ⟨fun h _ _ hs => ⟨v0, v1, v2, v3, v4, rfl, o0.rd h.1 hs, o1.rd h.2.1 hs, o2.rd h.2.2.1 hs, o3.rd h.2.2.2.1 hs, o4.rd h.2.2.2.2 hs⟩⟩
instance fld_HRd_txn : Fld kHRd 0 (kInt .i64) (fun a => a.txn) := ⟨fun ⟨v0, v1, v2, v3, v4, hc, h0, h1, h2, h3, h4⟩ => by subst hc; exact h0, by decide⟩
instance fld_HRd_op : Fld kHRd 1 (kInt .i64) (fun a => a.op) := ⟨fun ⟨v0, v1, v2, v3, v4, hc, h0, h1, h2, h3, h4⟩ => by subst hc; exact h1, by decide⟩
instance fld_HRd_key : Fld kHRd 2 (kInt .i64) (fun a => a.key) := ⟨fun ⟨v0, v1, v2, v3, v4, hc, h0, h1, h2, h3, h4⟩ => by subst hc; exact h2, by decide⟩
instance fld_HRd_list : Fld kHRd 3 (kSl (kInt .i64)) (fun a => a.list) := ⟨fun ⟨v0, v1, v2, v3, v4, hc, h0, h1, h2, h3, h4⟩ => by subst hc; exact h3, by decide⟩
instance fld_HRd_own : Fld kHRd 4 (kSl (kInt .i64)) (fun a => a.own) := ⟨fun ⟨v0, v1, v2, v3, v4, hc, h0, h1, h2, h3, h4⟩ => by subst hc; exact h4, by decide⟩
instance ktz_HRd : KTz kHRd := ⟨fun hf ⟨v0, v1, v2, v3, v4, hc, h0, h1, h2, h3, h4⟩ => ⟨v0, v1, v2, v3, v4, hc, (inferInstance : KTz (kInt .i64)).tz hf h0, (inferInstance : KTz (kInt .i64)).tz hf h1, (inferInstance : KTz (kInt .i64)).tz hf h2, (inferInstance : KTz (kSl (kInt .i64))).tz hf h3, (inferInstance : KTz (kSl (kInt .i64))).tz hf h4⟩⟩
structure HWr where
  txn : Int
  op : Int
  key : Int
  value : Int
  ab : Bool
instance : Inhabited HOp := ⟨⟨false, 0, 0, []⟩⟩
/-- A table. -/
structure Tb where
  ids : List Int
  keys : List Int
  wr : List ((Int × Int) × HWr)
  ap : List ((Int × Int) × List Int)
  rd : List (Int × List HRd)
  wt : List (Int × List HWr)
def Tb.fin (T : Tb) : Tb := { T with keys := setL T.keys }
end Go.AMS

namespace Go.AMS
open Go.AM hiding Kt At WP WL Runs RunsY
open Go.AM.G
set_option linter.unusedVariables false
set_option linter.unusedSimpArgs false
set_option linter.unusedSectionVars false
set_option maxRecDepth 100000
set_option maxHeartbeats 1000000
attribute [local irreducible] AtS AtV AtC AtG FinA Spec Post LP G.At G.WP G.WL pt own fro rdl ro hx mp lrec elt sub

open Go.AM.G.Set
section
variable {b : Nat} {T : Tb} {p q : Option Addr} {c d : Nat}
theorem table_Table_is_nil : Spec prog1 n_table_Table_is [.pointer none] [] (fun R => R (.bool false) []) := by
  refine spec_code c_table_Table_is rfl ?_; intro n F R hR; unfold F_table_Table_is
  repeat' first | apply step | (apply g_op; · repeat first | exact Evs.nil | (apply Evs.cons; exact rfl)) | (refine Br.mk (fun _ => ?_) (fun _ => ?_) <;> try (exfalso; omega)) | (refine Sd.mk ?_ ?_; · ((repeat' apply And.intro) <;> first | omega | trivial | assumption | (simp; done) | (simp; omega))) | (refine Sx.mk ?_ ?_; · omega) | refine Fa.mk (fun _ => ?_) | refine Im.mk (fun _ => ?_) | apply Lw.go | refine g_cond ?_ | refine g_guard ?_ | refine g_keep ?_ | refine g_pass ?_ | refine g_fin ?_ | (apply g_ap; exact rfl; exact rfl; assumption)
  all_goals exact fin hR
theorem table_Table_is_spec {m : Bool} {a1 a2 a3 a4 a5 a6 : Value} : Spec prog1 n_table_Table_is [.pointer (some ⟨b, 0, none⟩)] [ro (pt b [.bool m, a1, a2, a3, a4, a5, a6] 0)] (fun R => R (.bool m) []) := by
  refine spec_code c_table_Table_is rfl ?_; intro n F R hR; unfold F_table_Table_is
  repeat' first | apply step | (apply g_op; · repeat first | exact Evs.nil | (apply Evs.cons; exact rfl)) | (refine Br.mk (fun _ => ?_) (fun _ => ?_) <;> try (exfalso; omega)) | (refine Sd.mk ?_ ?_; · ((repeat' apply And.intro) <;> first | omega | trivial | assumption | (simp; done) | (simp; omega))) | (refine Sx.mk ?_ ?_; · omega) | refine Fa.mk (fun _ => ?_) | refine Im.mk (fun _ => ?_) | apply Lw.go | refine g_cond ?_ | refine g_guard ?_ | refine g_keep ?_ | refine g_pass ?_ | refine g_fin ?_ | (apply g_ap; exact rfl; exact rfl; assumption)
  all_goals exact fin hR
abbrev zWr : Value := .agg #[.int .i64 0, .int .i64 0, .int .i64 0, .int .i64 0, .bool false]
abbrev pt0 (b : Nat) : HP := pt b [.bool false, .slice none 0 0, .slice none 0 0, .map none, .map none, .map none, .map none] 0
theorem table_Table_Writer_nil {x y : Int} : Spec prog1 n_table_Table_Writer [.pointer none, .int .i64 x, .int .i64 y] [] (fun R => R (.tuple #[zWr, .bool false]) []) := by
  refine spec_code c_table_Table_Writer rfl ?_; intro n F R hR; unfold F_table_Table_Writer
  repeat' first | apply step | (apply g_op; · repeat first | exact Evs.nil | (apply Evs.cons; exact rfl)) | (refine Br.mk (fun _ => ?_) (fun _ => ?_) <;> try (exfalso; omega)) | (refine Sd.mk ?_ ?_; · ((repeat' apply And.intro) <;> first | omega | trivial | assumption | (simp; done) | (simp; omega))) | (refine Sx.mk ?_ ?_; · omega) | refine Fa.mk (fun _ => ?_) | refine Im.mk (fun _ => ?_) | apply Lw.go | refine g_cond ?_ | refine g_guard ?_ | refine g_keep ?_ | refine g_pass ?_ | refine g_fin ?_ | (apply g_ap; exact rfl; exact rfl; assumption)
  first | refine at_callS (table_Table_is_nil) ?_ | refine at_callR (table_Table_is_nil) ?_
  repeat' first | apply step | (apply g_op; · repeat first | exact Evs.nil | (apply Evs.cons; exact rfl)) | (refine Br.mk (fun _ => ?_) (fun _ => ?_) <;> try (exfalso; omega)) | (refine Sd.mk ?_ ?_; · ((repeat' apply And.intro) <;> first | omega | trivial | assumption | (simp; done) | (simp; omega))) | (refine Sx.mk ?_ ?_; · omega) | refine Fa.mk (fun _ => ?_) | refine Im.mk (fun _ => ?_) | apply Lw.go | refine g_cond ?_ | refine g_guard ?_ | refine g_keep ?_ | refine g_pass ?_ | refine g_fin ?_ | (apply g_ap; exact rfl; exact rfl; assumption)
  exact fin hR
theorem table_Table_Rank_nil {x : Int} : Spec prog1 n_table_Table_Rank [.pointer none, .int .i64 x] [] (fun R => R (.tuple #[.int .i64 0, .bool false]) []) := by
  refine spec_code c_table_Table_Rank rfl ?_; intro n F R hR; unfold F_table_Table_Rank
  repeat' first | apply step | (apply g_op; · repeat first | exact Evs.nil | (apply Evs.cons; exact rfl)) | (refine Br.mk (fun _ => ?_) (fun _ => ?_) <;> try (exfalso; omega)) | (refine Sd.mk ?_ ?_; · ((repeat' apply And.intro) <;> first | omega | trivial | assumption | (simp; done) | (simp; omega))) | (refine Sx.mk ?_ ?_; · omega) | refine Fa.mk (fun _ => ?_) | refine Im.mk (fun _ => ?_) | apply Lw.go | refine g_cond ?_ | refine g_guard ?_ | refine g_keep ?_ | refine g_pass ?_ | refine g_fin ?_ | (apply g_ap; exact rfl; exact rfl; assumption)
  first | refine at_callS (table_Table_is_nil) ?_ | refine at_callR (table_Table_is_nil) ?_
  repeat' first | apply step | (apply g_op; · repeat first | exact Evs.nil | (apply Evs.cons; exact rfl)) | (refine Br.mk (fun _ => ?_) (fun _ => ?_) <;> try (exfalso; omega)) | (refine Sd.mk ?_ ?_; · ((repeat' apply And.intro) <;> first | omega | trivial | assumption | (simp; done) | (simp; omega))) | (refine Sx.mk ?_ ?_; · omega) | refine Fa.mk (fun _ => ?_) | refine Im.mk (fun _ => ?_) | apply Lw.go | refine g_cond ?_ | refine g_guard ?_ | refine g_keep ?_ | refine g_pass ?_ | refine g_fin ?_ | (apply g_ap; exact rfl; exact rfl; assumption)
  exact fin hR
theorem table_Table_IDs_nil : Spec prog1 n_table_Table_IDs [.pointer none] [] (fun R => R (.slice none 0 0) []) := by
  refine spec_code c_table_Table_IDs rfl ?_; intro n F R hR; unfold F_table_Table_IDs
  repeat' first | apply step | (apply g_op; · repeat first | exact Evs.nil | (apply Evs.cons; exact rfl)) | (refine Br.mk (fun _ => ?_) (fun _ => ?_) <;> try (exfalso; omega)) | (refine Sd.mk ?_ ?_; · ((repeat' apply And.intro) <;> first | omega | trivial | assumption | (simp; done) | (simp; omega))) | (refine Sx.mk ?_ ?_; · omega) | refine Fa.mk (fun _ => ?_) | refine Im.mk (fun _ => ?_) | apply Lw.go | refine g_cond ?_ | refine g_guard ?_ | refine g_keep ?_ | refine g_pass ?_ | refine g_fin ?_ | (apply g_ap; exact rfl; exact rfl; assumption)
  first | refine at_callS (table_Table_is_nil) ?_ | refine at_callR (table_Table_is_nil) ?_
  repeat' first | apply step | (apply g_op; · repeat first | exact Evs.nil | (apply Evs.cons; exact rfl)) | (refine Br.mk (fun _ => ?_) (fun _ => ?_) <;> try (exfalso; omega)) | (refine Sd.mk ?_ ?_; · ((repeat' apply And.intro) <;> first | omega | trivial | assumption | (simp; done) | (simp; omega))) | (refine Sx.mk ?_ ?_; · omega) | refine Fa.mk (fun _ => ?_) | refine Im.mk (fun _ => ?_) | apply Lw.go | refine g_cond ?_ | refine g_guard ?_ | refine g_keep ?_ | refine g_pass ?_ | refine g_fin ?_ | (apply g_ap; exact rfl; exact rfl; assumption)
  exact fin hR
theorem table_Table_Keys_nil : Spec prog1 n_table_Table_Keys [.pointer none] [] (fun R => R (.slice none 0 0) []) := by
  refine spec_code c_table_Table_Keys rfl ?_; intro n F R hR; unfold F_table_Table_Keys
  repeat' first | apply step | (apply g_op; · repeat first | exact Evs.nil | (apply Evs.cons; exact rfl)) | (refine Br.mk (fun _ => ?_) (fun _ => ?_) <;> try (exfalso; omega)) | (refine Sd.mk ?_ ?_; · ((repeat' apply And.intro) <;> first | omega | trivial | assumption | (simp; done) | (simp; omega))) | (refine Sx.mk ?_ ?_; · omega) | refine Fa.mk (fun _ => ?_) | refine Im.mk (fun _ => ?_) | apply Lw.go | refine g_cond ?_ | refine g_guard ?_ | refine g_keep ?_ | refine g_pass ?_ | refine g_fin ?_ | (apply g_ap; exact rfl; exact rfl; assumption)
  first | refine at_callS (table_Table_is_nil) ?_ | refine at_callR (table_Table_is_nil) ?_
  repeat' first | apply step | (apply g_op; · repeat first | exact Evs.nil | (apply Evs.cons; exact rfl)) | (refine Br.mk (fun _ => ?_) (fun _ => ?_) <;> try (exfalso; omega)) | (refine Sd.mk ?_ ?_; · ((repeat' apply And.intro) <;> first | omega | trivial | assumption | (simp; done) | (simp; omega))) | (refine Sx.mk ?_ ?_; · omega) | refine Fa.mk (fun _ => ?_) | refine Im.mk (fun _ => ?_) | apply Lw.go | refine g_cond ?_ | refine g_guard ?_ | refine g_keep ?_ | refine g_pass ?_ | refine g_fin ?_ | (apply g_ap; exact rfl; exact rfl; assumption)
  exact fin hR
theorem table_Table_Appends_nil {x y : Int} : Spec prog1 n_table_Table_Appends [.pointer none, .int .i64 x, .int .i64 y] [] (fun R => R (.slice none 0 0) []) := by
  refine spec_code c_table_Table_Appends rfl ?_; intro n F R hR; unfold F_table_Table_Appends
  repeat' first | apply step | (apply g_op; · repeat first | exact Evs.nil | (apply Evs.cons; exact rfl)) | (refine Br.mk (fun _ => ?_) (fun _ => ?_) <;> try (exfalso; omega)) | (refine Sd.mk ?_ ?_; · ((repeat' apply And.intro) <;> first | omega | trivial | assumption | (simp; done) | (simp; omega))) | (refine Sx.mk ?_ ?_; · omega) | refine Fa.mk (fun _ => ?_) | refine Im.mk (fun _ => ?_) | apply Lw.go | refine g_cond ?_ | refine g_guard ?_ | refine g_keep ?_ | refine g_pass ?_ | refine g_fin ?_ | (apply g_ap; exact rfl; exact rfl; assumption)
  first | refine at_callS (table_Table_is_nil) ?_ | refine at_callR (table_Table_is_nil) ?_
  repeat' first | apply step | (apply g_op; · repeat first | exact Evs.nil | (apply Evs.cons; exact rfl)) | (refine Br.mk (fun _ => ?_) (fun _ => ?_) <;> try (exfalso; omega)) | (refine Sd.mk ?_ ?_; · ((repeat' apply And.intro) <;> first | omega | trivial | assumption | (simp; done) | (simp; omega))) | (refine Sx.mk ?_ ?_; · omega) | refine Fa.mk (fun _ => ?_) | refine Im.mk (fun _ => ?_) | apply Lw.go | refine g_cond ?_ | refine g_guard ?_ | refine g_keep ?_ | refine g_pass ?_ | refine g_fin ?_ | (apply g_ap; exact rfl; exact rfl; assumption)
  exact fin hR
theorem table_Table_Writer_zero {x y : Int} : Spec prog1 n_table_Table_Writer [.pointer (some ⟨b, 0, none⟩), .int .i64 x, .int .i64 y] [ro (pt0 b)] (fun R => R (.tuple #[zWr, .bool false]) []) := by
  refine spec_code c_table_Table_Writer rfl ?_; intro n F R hR; unfold F_table_Table_Writer
  repeat' first | apply step | (apply g_op; · repeat first | exact Evs.nil | (apply Evs.cons; exact rfl)) | (refine Br.mk (fun _ => ?_) (fun _ => ?_) <;> try (exfalso; omega)) | (refine Sd.mk ?_ ?_; · ((repeat' apply And.intro) <;> first | omega | trivial | assumption | (simp; done) | (simp; omega))) | (refine Sx.mk ?_ ?_; · omega) | refine Fa.mk (fun _ => ?_) | refine Im.mk (fun _ => ?_) | apply Lw.go | refine g_cond ?_ | refine g_guard ?_ | refine g_keep ?_ | refine g_pass ?_ | refine g_fin ?_ | (apply g_ap; exact rfl; exact rfl; assumption)
  first | refine at_callS (table_Table_is_spec) ?_ | refine at_callR (table_Table_is_spec) ?_
  repeat' first | apply step | (apply g_op; · repeat first | exact Evs.nil | (apply Evs.cons; exact rfl)) | (refine Br.mk (fun _ => ?_) (fun _ => ?_) <;> try (exfalso; omega)) | (refine Sd.mk ?_ ?_; · ((repeat' apply And.intro) <;> first | omega | trivial | assumption | (simp; done) | (simp; omega))) | (refine Sx.mk ?_ ?_; · omega) | refine Fa.mk (fun _ => ?_) | refine Im.mk (fun _ => ?_) | apply Lw.go | refine g_cond ?_ | refine g_guard ?_ | refine g_keep ?_ | refine g_pass ?_ | refine g_fin ?_ | (apply g_ap; exact rfl; exact rfl; assumption)
  exact fin hR
theorem table_Table_Rank_zero {x : Int} : Spec prog1 n_table_Table_Rank [.pointer (some ⟨b, 0, none⟩), .int .i64 x] [ro (pt0 b)] (fun R => R (.tuple #[.int .i64 0, .bool false]) []) := by
  refine spec_code c_table_Table_Rank rfl ?_; intro n F R hR; unfold F_table_Table_Rank
  repeat' first | apply step | (apply g_op; · repeat first | exact Evs.nil | (apply Evs.cons; exact rfl)) | (refine Br.mk (fun _ => ?_) (fun _ => ?_) <;> try (exfalso; omega)) | (refine Sd.mk ?_ ?_; · ((repeat' apply And.intro) <;> first | omega | trivial | assumption | (simp; done) | (simp; omega))) | (refine Sx.mk ?_ ?_; · omega) | refine Fa.mk (fun _ => ?_) | refine Im.mk (fun _ => ?_) | apply Lw.go | refine g_cond ?_ | refine g_guard ?_ | refine g_keep ?_ | refine g_pass ?_ | refine g_fin ?_ | (apply g_ap; exact rfl; exact rfl; assumption)
  first | refine at_callS (table_Table_is_spec) ?_ | refine at_callR (table_Table_is_spec) ?_
  repeat' first | apply step | (apply g_op; · repeat first | exact Evs.nil | (apply Evs.cons; exact rfl)) | (refine Br.mk (fun _ => ?_) (fun _ => ?_) <;> try (exfalso; omega)) | (refine Sd.mk ?_ ?_; · ((repeat' apply And.intro) <;> first | omega | trivial | assumption | (simp; done) | (simp; omega))) | (refine Sx.mk ?_ ?_; · omega) | refine Fa.mk (fun _ => ?_) | refine Im.mk (fun _ => ?_) | apply Lw.go | refine g_cond ?_ | refine g_guard ?_ | refine g_keep ?_ | refine g_pass ?_ | refine g_fin ?_ | (apply g_ap; exact rfl; exact rfl; assumption)
  exact fin hR
theorem table_Table_IDs_zero : Spec prog1 n_table_Table_IDs [.pointer (some ⟨b, 0, none⟩)] [ro (pt0 b)] (fun R => R (.slice none 0 0) []) := by
  refine spec_code c_table_Table_IDs rfl ?_; intro n F R hR; unfold F_table_Table_IDs
  repeat' first | apply step | (apply g_op; · repeat first | exact Evs.nil | (apply Evs.cons; exact rfl)) | (refine Br.mk (fun _ => ?_) (fun _ => ?_) <;> try (exfalso; omega)) | (refine Sd.mk ?_ ?_; · ((repeat' apply And.intro) <;> first | omega | trivial | assumption | (simp; done) | (simp; omega))) | (refine Sx.mk ?_ ?_; · omega) | refine Fa.mk (fun _ => ?_) | refine Im.mk (fun _ => ?_) | apply Lw.go | refine g_cond ?_ | refine g_guard ?_ | refine g_keep ?_ | refine g_pass ?_ | refine g_fin ?_ | (apply g_ap; exact rfl; exact rfl; assumption)
  first | refine at_callS (table_Table_is_spec) ?_ | refine at_callR (table_Table_is_spec) ?_
  repeat' first | apply step | (apply g_op; · repeat first | exact Evs.nil | (apply Evs.cons; exact rfl)) | (refine Br.mk (fun _ => ?_) (fun _ => ?_) <;> try (exfalso; omega)) | (refine Sd.mk ?_ ?_; · ((repeat' apply And.intro) <;> first | omega | trivial | assumption | (simp; done) | (simp; omega))) | (refine Sx.mk ?_ ?_; · omega) | refine Fa.mk (fun _ => ?_) | refine Im.mk (fun _ => ?_) | apply Lw.go | refine g_cond ?_ | refine g_guard ?_ | refine g_keep ?_ | refine g_pass ?_ | refine g_fin ?_ | (apply g_ap; exact rfl; exact rfl; assumption)
  exact fin hR
theorem table_Table_Keys_zero : Spec prog1 n_table_Table_Keys [.pointer (some ⟨b, 0, none⟩)] [ro (pt0 b)] (fun R => R (.slice none 0 0) []) := by
  refine spec_code c_table_Table_Keys rfl ?_; intro n F R hR; unfold F_table_Table_Keys
  repeat' first | apply step | (apply g_op; · repeat first | exact Evs.nil | (apply Evs.cons; exact rfl)) | (refine Br.mk (fun _ => ?_) (fun _ => ?_) <;> try (exfalso; omega)) | (refine Sd.mk ?_ ?_; · ((repeat' apply And.intro) <;> first | omega | trivial | assumption | (simp; done) | (simp; omega))) | (refine Sx.mk ?_ ?_; · omega) | refine Fa.mk (fun _ => ?_) | refine Im.mk (fun _ => ?_) | apply Lw.go | refine g_cond ?_ | refine g_guard ?_ | refine g_keep ?_ | refine g_pass ?_ | refine g_fin ?_ | (apply g_ap; exact rfl; exact rfl; assumption)
  first | refine at_callS (table_Table_is_spec) ?_ | refine at_callR (table_Table_is_spec) ?_
  repeat' first | apply step | (apply g_op; · repeat first | exact Evs.nil | (apply Evs.cons; exact rfl)) | (refine Br.mk (fun _ => ?_) (fun _ => ?_) <;> try (exfalso; omega)) | (refine Sd.mk ?_ ?_; · ((repeat' apply And.intro) <;> first | omega | trivial | assumption | (simp; done) | (simp; omega))) | (refine Sx.mk ?_ ?_; · omega) | refine Fa.mk (fun _ => ?_) | refine Im.mk (fun _ => ?_) | apply Lw.go | refine g_cond ?_ | refine g_guard ?_ | refine g_keep ?_ | refine g_pass ?_ | refine g_fin ?_ | (apply g_ap; exact rfl; exact rfl; assumption)
  exact fin hR
theorem table_Table_Appends_zero {x y : Int} : Spec prog1 n_table_Table_Appends [.pointer (some ⟨b, 0, none⟩), .int .i64 x, .int .i64 y] [ro (pt0 b)] (fun R => R (.slice none 0 0) []) := by
  refine spec_code c_table_Table_Appends rfl ?_; intro n F R hR; unfold F_table_Table_Appends
  repeat' first | apply step | (apply g_op; · repeat first | exact Evs.nil | (apply Evs.cons; exact rfl)) | (refine Br.mk (fun _ => ?_) (fun _ => ?_) <;> try (exfalso; omega)) | (refine Sd.mk ?_ ?_; · ((repeat' apply And.intro) <;> first | omega | trivial | assumption | (simp; done) | (simp; omega))) | (refine Sx.mk ?_ ?_; · omega) | refine Fa.mk (fun _ => ?_) | refine Im.mk (fun _ => ?_) | apply Lw.go | refine g_cond ?_ | refine g_guard ?_ | refine g_keep ?_ | refine g_pass ?_ | refine g_fin ?_ | (apply g_ap; exact rfl; exact rfl; assumption)
  first | refine at_callS (table_Table_is_spec) ?_ | refine at_callR (table_Table_is_spec) ?_
  repeat' first | apply step | (apply g_op; · repeat first | exact Evs.nil | (apply Evs.cons; exact rfl)) | (refine Br.mk (fun _ => ?_) (fun _ => ?_) <;> try (exfalso; omega)) | (refine Sd.mk ?_ ?_; · ((repeat' apply And.intro) <;> first | omega | trivial | assumption | (simp; done) | (simp; omega))) | (refine Sx.mk ?_ ?_; · omega) | refine Fa.mk (fun _ => ?_) | refine Im.mk (fun _ => ?_) | apply Lw.go | refine g_cond ?_ | refine g_guard ?_ | refine g_keep ?_ | refine g_pass ?_ | refine g_fin ?_ | (apply g_ap; exact rfl; exact rfl; assumption)
  exact fin hR
theorem table_goes_table_Read_spec {k : Nat} : Spec prog1 n_table_goes_table_Read [.slice p k c] [] (fun R => ∀ x, R (.func (.func n_table_goes_table_Read_c1) #[] #[.pointer (some ⟨x, 0, none⟩)]) [pt x [.slice p k c] 0]) := by
  refine spec_code c_table_goes_table_Read rfl ?_; intro n F R hR; unfold F_table_goes_table_Read
  repeat' first | apply step | (apply g_op; · repeat first | exact Evs.nil | (apply Evs.cons; exact rfl)) | (refine Br.mk (fun _ => ?_) (fun _ => ?_) <;> try (exfalso; omega)) | (refine Sd.mk ?_ ?_; · ((repeat' apply And.intro) <;> first | omega | trivial | assumption | (simp; done) | (simp; omega))) | (refine Sx.mk ?_ ?_; · omega) | refine Fa.mk (fun _ => ?_) | refine Im.mk (fun _ => ?_) | apply Lw.go | refine g_cond ?_ | refine g_guard ?_ | refine g_keep ?_ | refine g_pass ?_ | refine g_fin ?_ | (apply g_ap; exact rfl; exact rfl; assumption)
  exact fin (hR _)
theorem table_goes_table_Write_spec {k : Nat} : Spec prog1 n_table_goes_table_Write [.slice p k c] [] (fun R => ∀ x, R (.func (.func n_table_goes_table_Write_c1) #[] #[.pointer (some ⟨x, 0, none⟩)]) [pt x [.slice p k c] 0]) := by
  refine spec_code c_table_goes_table_Write rfl ?_; intro n F R hR; unfold F_table_goes_table_Write
  repeat' first | apply step | (apply g_op; · repeat first | exact Evs.nil | (apply Evs.cons; exact rfl)) | (refine Br.mk (fun _ => ?_) (fun _ => ?_) <;> try (exfalso; omega)) | (refine Sd.mk ?_ ?_; · ((repeat' apply And.intro) <;> first | omega | trivial | assumption | (simp; done) | (simp; omega))) | (refine Sx.mk ?_ ?_; · omega) | refine Fa.mk (fun _ => ?_) | refine Im.mk (fun _ => ?_) | apply Lw.go | refine g_cond ?_ | refine g_guard ?_ | refine g_keep ?_ | refine g_pass ?_ | refine g_fin ?_ | (apply g_ap; exact rfl; exact rfl; assumption)
  exact fin (hR _)
abbrev wR := (Option Addr × Nat) × (Option Addr × Nat)
def vaRead (w : wR) : Option HRd → List Value
  | some r => [.agg #[.int .i64 r.txn, .int .i64 r.op, .int .i64 r.key, .slice w.1.1 r.list.length w.1.2, .slice w.2.1 r.own.length w.2.2]]
  | none => [.bool true]
def paRead (w : wR) : Option HRd → List HP
  | some r => [fro (kInt .i64) w.1.1 w.1.2 r.list, fro (kInt .i64) w.2.1 w.2.2 r.own]
  | none => []
theorem table_goes_table_Read_c1_spec {l : List HRd} {x ly : Nat} {A : Nat → HP} {B : AX → HP} (hl : l.length ≤ 1000000000) (hy : ∀ i, i < l.length → ∀ w : wR, YSpec prog1 ly (vaRead w l[i]?) (A i :: paRead w l[i]?) (fun R => R (.bool true) [A (i + 1)] ∧ ∀ x, x ≠ .norm → R (.bool false) [B x])) :
    Spec prog1 n_table_goes_table_Read_c1 [.func (.yield ly) #[] #[], .pointer (some ⟨x, 0, none⟩)] [A 0, pt x [.slice p l.length c] 0, fro kHRd p c l] (fun R => (∀ v, R v [A l.length]) ∧ ∀ x v, x ≠ .norm → R v [B x]) := by
  refine spec_code c_table_goes_table_Read_c1 rfl ?_; intro n F R hR; unfold F_table_goes_table_Read_c1
  repeat' first | apply step | (apply g_op; · repeat first | exact Evs.nil | (apply Evs.cons; exact rfl)) | (refine Br.mk (fun _ => ?_) (fun _ => ?_) <;> try (exfalso; omega)) | (refine Sd.mk ?_ ?_; · ((repeat' apply And.intro) <;> first | omega | trivial | assumption | (simp; done) | (simp; omega))) | (refine Sx.mk ?_ ?_; · omega) | refine Fa.mk (fun _ => ?_) | refine Im.mk (fun _ => ?_) | apply Lw.go | refine g_cond ?_ | refine g_guard ?_ | refine g_keep ?_ | refine g_pass ?_ | refine g_fin ?_ | (apply g_ap; exact rfl; exact rfl; assumption)
  refine at_loopS (ι := Nat) (E := fun j => [(0, .func (.yield ly) #[] #[]), (5, .slice p l.length c), (6, .int .i64 (l.length : Int)), (7, .int .i64 (j : Int))]) (Δ := fun j => A j :: fro kHRd p c l :: F) (P := fun j => j ≤ l.length) (μ := fun j => l.length - j) 0 (Nat.zero_le _) ?_
  rintro j hj
  try dsimp only
  rcases Nat.lt_or_ge j l.length with hlt | hge
  · have hyj := hy j hlt
    rw [List.getElem?_eq_getElem hlt] at hyj
    repeat' first | apply step | (apply g_op; · repeat first | exact Evs.nil | (apply Evs.cons; exact rfl)) | (refine Br.mk (fun _ => ?_) (fun _ => ?_) <;> try (exfalso; omega)) | (refine Sd.mk ?_ ?_; · ((repeat' apply And.intro) <;> first | omega | trivial | assumption | (simp; done) | (simp; omega))) | (refine Sx.mk ?_ ?_; · omega) | refine Fa.mk (fun _ => ?_) | refine Im.mk (fun _ => ?_) | apply Lw.go | refine g_cond ?_ | refine g_guard ?_ | refine g_keep ?_ | refine g_pass ?_ | refine g_fin ?_ | (apply g_ap; exact rfl; exact rfl; assumption)
    rename_i w _ _
    refine at_callY (hyj w) ⟨?_, fun x hx => ?_⟩
    · repeat' first | apply step | (apply g_op; · repeat first | exact Evs.nil | (apply Evs.cons; exact rfl)) | (refine Br.mk (fun _ => ?_) (fun _ => ?_) <;> try (exfalso; omega)) | (refine Sd.mk ?_ ?_; · ((repeat' apply And.intro) <;> first | omega | trivial | assumption | (simp; done) | (simp; omega))) | (refine Sx.mk ?_ ?_; · omega) | refine Fa.mk (fun _ => ?_) | refine Im.mk (fun _ => ?_) | apply Lw.go | refine g_cond ?_ | refine g_guard ?_ | refine g_keep ?_ | refine g_pass ?_ | refine g_fin ?_ | (apply g_ap; exact rfl; exact rfl; assumption)
      exact lp_next (j + 1) (by omega) (by omega)
    · repeat' first | apply step | (apply g_op; · repeat first | exact Evs.nil | (apply Evs.cons; exact rfl)) | (refine Br.mk (fun _ => ?_) (fun _ => ?_) <;> try (exfalso; omega)) | (refine Sd.mk ?_ ?_; · ((repeat' apply And.intro) <;> first | omega | trivial | assumption | (simp; done) | (simp; omega))) | (refine Sx.mk ?_ ?_; · omega) | refine Fa.mk (fun _ => ?_) | refine Im.mk (fun _ => ?_) | apply Lw.go | refine g_cond ?_ | refine g_guard ?_ | refine g_keep ?_ | refine g_pass ?_ | refine g_fin ?_ | (apply g_ap; exact rfl; exact rfl; assumption)
      exact fin (hR.2 x _ hx)
  · have : j = l.length := by omega
    subst this
    repeat' first | apply step | (apply g_op; · repeat first | exact Evs.nil | (apply Evs.cons; exact rfl)) | (refine Br.mk (fun _ => ?_) (fun _ => ?_) <;> try (exfalso; omega)) | (refine Sd.mk ?_ ?_; · ((repeat' apply And.intro) <;> first | omega | trivial | assumption | (simp; done) | (simp; omega))) | (refine Sx.mk ?_ ?_; · omega) | refine Fa.mk (fun _ => ?_) | refine Im.mk (fun _ => ?_) | apply Lw.go | refine g_cond ?_ | refine g_guard ?_ | refine g_keep ?_ | refine g_pass ?_ | refine g_fin ?_ | (apply g_ap; exact rfl; exact rfl; assumption)
    exact fin (hR.1 _)
theorem table_Table_Reads_nil {y : Int} : Spec prog1 n_table_Table_Reads [.pointer none, .int .i64 y] [] (fun R => ∀ x, R (.func (.func n_table_goes_table_Read_c1) #[] #[.pointer (some ⟨x, 0, none⟩)]) [pt x [.slice none 0 0] 0]) := by
  refine spec_code c_table_Table_Reads rfl ?_; intro n F R hR; unfold F_table_Table_Reads
  repeat' first | apply step | (apply g_op; · repeat first | exact Evs.nil | (apply Evs.cons; exact rfl)) | (refine Br.mk (fun _ => ?_) (fun _ => ?_) <;> try (exfalso; omega)) | (refine Sd.mk ?_ ?_; · ((repeat' apply And.intro) <;> first | omega | trivial | assumption | (simp; done) | (simp; omega))) | (refine Sx.mk ?_ ?_; · omega) | refine Fa.mk (fun _ => ?_) | refine Im.mk (fun _ => ?_) | apply Lw.go | refine g_cond ?_ | refine g_guard ?_ | refine g_keep ?_ | refine g_pass ?_ | refine g_fin ?_ | (apply g_ap; exact rfl; exact rfl; assumption)
  first | refine at_callS (table_Table_is_nil) ?_ | refine at_callR (table_Table_is_nil) ?_
  repeat' first | apply step | (apply g_op; · repeat first | exact Evs.nil | (apply Evs.cons; exact rfl)) | (refine Br.mk (fun _ => ?_) (fun _ => ?_) <;> try (exfalso; omega)) | (refine Sd.mk ?_ ?_; · ((repeat' apply And.intro) <;> first | omega | trivial | assumption | (simp; done) | (simp; omega))) | (refine Sx.mk ?_ ?_; · omega) | refine Fa.mk (fun _ => ?_) | refine Im.mk (fun _ => ?_) | apply Lw.go | refine g_cond ?_ | refine g_guard ?_ | refine g_keep ?_ | refine g_pass ?_ | refine g_fin ?_ | (apply g_ap; exact rfl; exact rfl; assumption)
  first | refine at_callS (table_goes_table_Read_spec) ?_ | refine at_callR (table_goes_table_Read_spec) ?_
  intro x
  repeat' first | apply step | (apply g_op; · repeat first | exact Evs.nil | (apply Evs.cons; exact rfl)) | (refine Br.mk (fun _ => ?_) (fun _ => ?_) <;> try (exfalso; omega)) | (refine Sd.mk ?_ ?_; · ((repeat' apply And.intro) <;> first | omega | trivial | assumption | (simp; done) | (simp; omega))) | (refine Sx.mk ?_ ?_; · omega) | refine Fa.mk (fun _ => ?_) | refine Im.mk (fun _ => ?_) | apply Lw.go | refine g_cond ?_ | refine g_guard ?_ | refine g_keep ?_ | refine g_pass ?_ | refine g_fin ?_ | (apply g_ap; exact rfl; exact rfl; assumption)
  exact fin (hR _)
theorem table_Table_Reads_zero {y : Int} : Spec prog1 n_table_Table_Reads [.pointer (some ⟨b, 0, none⟩), .int .i64 y] [ro (pt0 b)] (fun R => ∀ x, R (.func (.func n_table_goes_table_Read_c1) #[] #[.pointer (some ⟨x, 0, none⟩)]) [pt x [.slice none 0 0] 0]) := by
  refine spec_code c_table_Table_Reads rfl ?_; intro n F R hR; unfold F_table_Table_Reads
  repeat' first | apply step | (apply g_op; · repeat first | exact Evs.nil | (apply Evs.cons; exact rfl)) | (refine Br.mk (fun _ => ?_) (fun _ => ?_) <;> try (exfalso; omega)) | (refine Sd.mk ?_ ?_; · ((repeat' apply And.intro) <;> first | omega | trivial | assumption | (simp; done) | (simp; omega))) | (refine Sx.mk ?_ ?_; · omega) | refine Fa.mk (fun _ => ?_) | refine Im.mk (fun _ => ?_) | apply Lw.go | refine g_cond ?_ | refine g_guard ?_ | refine g_keep ?_ | refine g_pass ?_ | refine g_fin ?_ | (apply g_ap; exact rfl; exact rfl; assumption)
  first | refine at_callS (table_Table_is_spec) ?_ | refine at_callR (table_Table_is_spec) ?_
  repeat' first | apply step | (apply g_op; · repeat first | exact Evs.nil | (apply Evs.cons; exact rfl)) | (refine Br.mk (fun _ => ?_) (fun _ => ?_) <;> try (exfalso; omega)) | (refine Sd.mk ?_ ?_; · ((repeat' apply And.intro) <;> first | omega | trivial | assumption | (simp; done) | (simp; omega))) | (refine Sx.mk ?_ ?_; · omega) | refine Fa.mk (fun _ => ?_) | refine Im.mk (fun _ => ?_) | apply Lw.go | refine g_cond ?_ | refine g_guard ?_ | refine g_keep ?_ | refine g_pass ?_ | refine g_fin ?_ | (apply g_ap; exact rfl; exact rfl; assumption)
  first | refine at_callS (table_goes_table_Read_spec) ?_ | refine at_callR (table_goes_table_Read_spec) ?_
  intro x
  repeat' first | apply step | (apply g_op; · repeat first | exact Evs.nil | (apply Evs.cons; exact rfl)) | (refine Br.mk (fun _ => ?_) (fun _ => ?_) <;> try (exfalso; omega)) | (refine Sd.mk ?_ ?_; · ((repeat' apply And.intro) <;> first | omega | trivial | assumption | (simp; done) | (simp; omega))) | (refine Sx.mk ?_ ?_; · omega) | refine Fa.mk (fun _ => ?_) | refine Im.mk (fun _ => ?_) | apply Lw.go | refine g_cond ?_ | refine g_guard ?_ | refine g_keep ?_ | refine g_pass ?_ | refine g_fin ?_ | (apply g_ap; exact rfl; exact rfl; assumption)
  exact fin (hR _)
theorem table_Table_Writes_nil {y : Int} : Spec prog1 n_table_Table_Writes [.pointer none, .int .i64 y] [] (fun R => ∀ x, R (.func (.func n_table_goes_table_Write_c1) #[] #[.pointer (some ⟨x, 0, none⟩)]) [pt x [.slice none 0 0] 0]) := by
  refine spec_code c_table_Table_Writes rfl ?_; intro n F R hR; unfold F_table_Table_Writes
  repeat' first | apply step | (apply g_op; · repeat first | exact Evs.nil | (apply Evs.cons; exact rfl)) | (refine Br.mk (fun _ => ?_) (fun _ => ?_) <;> try (exfalso; omega)) | (refine Sd.mk ?_ ?_; · ((repeat' apply And.intro) <;> first | omega | trivial | assumption | (simp; done) | (simp; omega))) | (refine Sx.mk ?_ ?_; · omega) | refine Fa.mk (fun _ => ?_) | refine Im.mk (fun _ => ?_) | apply Lw.go | refine g_cond ?_ | refine g_guard ?_ | refine g_keep ?_ | refine g_pass ?_ | refine g_fin ?_ | (apply g_ap; exact rfl; exact rfl; assumption)
  first | refine at_callS (table_Table_is_nil) ?_ | refine at_callR (table_Table_is_nil) ?_
  repeat' first | apply step | (apply g_op; · repeat first | exact Evs.nil | (apply Evs.cons; exact rfl)) | (refine Br.mk (fun _ => ?_) (fun _ => ?_) <;> try (exfalso; omega)) | (refine Sd.mk ?_ ?_; · ((repeat' apply And.intro) <;> first | omega | trivial | assumption | (simp; done) | (simp; omega))) | (refine Sx.mk ?_ ?_; · omega) | refine Fa.mk (fun _ => ?_) | refine Im.mk (fun _ => ?_) | apply Lw.go | refine g_cond ?_ | refine g_guard ?_ | refine g_keep ?_ | refine g_pass ?_ | refine g_fin ?_ | (apply g_ap; exact rfl; exact rfl; assumption)
  first | refine at_callS (table_goes_table_Write_spec) ?_ | refine at_callR (table_goes_table_Write_spec) ?_
  intro x
  repeat' first | apply step | (apply g_op; · repeat first | exact Evs.nil | (apply Evs.cons; exact rfl)) | (refine Br.mk (fun _ => ?_) (fun _ => ?_) <;> try (exfalso; omega)) | (refine Sd.mk ?_ ?_; · ((repeat' apply And.intro) <;> first | omega | trivial | assumption | (simp; done) | (simp; omega))) | (refine Sx.mk ?_ ?_; · omega) | refine Fa.mk (fun _ => ?_) | refine Im.mk (fun _ => ?_) | apply Lw.go | refine g_cond ?_ | refine g_guard ?_ | refine g_keep ?_ | refine g_pass ?_ | refine g_fin ?_ | (apply g_ap; exact rfl; exact rfl; assumption)
  exact fin (hR _)
theorem table_Table_Writes_zero {y : Int} : Spec prog1 n_table_Table_Writes [.pointer (some ⟨b, 0, none⟩), .int .i64 y] [ro (pt0 b)] (fun R => ∀ x, R (.func (.func n_table_goes_table_Write_c1) #[] #[.pointer (some ⟨x, 0, none⟩)]) [pt x [.slice none 0 0] 0]) := by
  refine spec_code c_table_Table_Writes rfl ?_; intro n F R hR; unfold F_table_Table_Writes
  repeat' first | apply step | (apply g_op; · repeat first | exact Evs.nil | (apply Evs.cons; exact rfl)) | (refine Br.mk (fun _ => ?_) (fun _ => ?_) <;> try (exfalso; omega)) | (refine Sd.mk ?_ ?_; · ((repeat' apply And.intro) <;> first | omega | trivial | assumption | (simp; done) | (simp; omega))) | (refine Sx.mk ?_ ?_; · omega) | refine Fa.mk (fun _ => ?_) | refine Im.mk (fun _ => ?_) | apply Lw.go | refine g_cond ?_ | refine g_guard ?_ | refine g_keep ?_ | refine g_pass ?_ | refine g_fin ?_ | (apply g_ap; exact rfl; exact rfl; assumption)
  first | refine at_callS (table_Table_is_spec) ?_ | refine at_callR (table_Table_is_spec) ?_
  repeat' first | apply step | (apply g_op; · repeat first | exact Evs.nil | (apply Evs.cons; exact rfl)) | (refine Br.mk (fun _ => ?_) (fun _ => ?_) <;> try (exfalso; omega)) | (refine Sd.mk ?_ ?_; · ((repeat' apply And.intro) <;> first | omega | trivial | assumption | (simp; done) | (simp; omega))) | (refine Sx.mk ?_ ?_; · omega) | refine Fa.mk (fun _ => ?_) | refine Im.mk (fun _ => ?_) | apply Lw.go | refine g_cond ?_ | refine g_guard ?_ | refine g_keep ?_ | refine g_pass ?_ | refine g_fin ?_ | (apply g_ap; exact rfl; exact rfl; assumption)
  first | refine at_callS (table_goes_table_Write_spec) ?_ | refine at_callR (table_goes_table_Write_spec) ?_
  intro x
  repeat' first | apply step | (apply g_op; · repeat first | exact Evs.nil | (apply Evs.cons; exact rfl)) | (refine Br.mk (fun _ => ?_) (fun _ => ?_) <;> try (exfalso; omega)) | (refine Sd.mk ?_ ?_; · ((repeat' apply And.intro) <;> first | omega | trivial | assumption | (simp; done) | (simp; omega))) | (refine Sx.mk ?_ ?_; · omega) | refine Fa.mk (fun _ => ?_) | refine Im.mk (fun _ => ?_) | apply Lw.go | refine g_cond ?_ | refine g_guard ?_ | refine g_keep ?_ | refine g_pass ?_ | refine g_fin ?_ | (apply g_ap; exact rfl; exact rfl; assumption)
  exact fin (hR _)
theorem l12_none_nil {x y : Int} : Spec prog1 n_l12_none [.pointer none, .int .i64 x, .int .i64 y] [] (fun R => R (.bool true) []) := by
  refine spec_code c_l12_none rfl ?_; intro n F R hR; unfold F_l12_none
  repeat' first | apply step | (apply g_op; · repeat first | exact Evs.nil | (apply Evs.cons; exact rfl)) | (refine Br.mk (fun _ => ?_) (fun _ => ?_) <;> try (exfalso; omega)) | (refine Sd.mk ?_ ?_; · ((repeat' apply And.intro) <;> first | omega | trivial | assumption | (simp; done) | (simp; omega))) | (refine Sx.mk ?_ ?_; · omega) | refine Fa.mk (fun _ => ?_) | refine Im.mk (fun _ => ?_) | apply Lw.go | refine g_cond ?_ | refine g_guard ?_ | refine g_keep ?_ | refine g_pass ?_ | refine g_fin ?_ | (apply g_ap; exact rfl; exact rfl; assumption)
  first | refine at_callS (table_Table_Writer_nil) ?_ | refine at_callR (table_Table_Writer_nil) ?_
  repeat' first | apply step | (apply g_op; · repeat first | exact Evs.nil | (apply Evs.cons; exact rfl)) | (refine Br.mk (fun _ => ?_) (fun _ => ?_) <;> try (exfalso; omega)) | (refine Sd.mk ?_ ?_; · ((repeat' apply And.intro) <;> first | omega | trivial | assumption | (simp; done) | (simp; omega))) | (refine Sx.mk ?_ ?_; · omega) | refine Fa.mk (fun _ => ?_) | refine Im.mk (fun _ => ?_) | apply Lw.go | refine g_cond ?_ | refine g_guard ?_ | refine g_keep ?_ | refine g_pass ?_ | refine g_fin ?_ | (apply g_ap; exact rfl; exact rfl; assumption)
  first | refine at_callS (table_Table_Rank_nil) ?_ | refine at_callR (table_Table_Rank_nil) ?_
  repeat' first | apply step | (apply g_op; · repeat first | exact Evs.nil | (apply Evs.cons; exact rfl)) | (refine Br.mk (fun _ => ?_) (fun _ => ?_) <;> try (exfalso; omega)) | (refine Sd.mk ?_ ?_; · ((repeat' apply And.intro) <;> first | omega | trivial | assumption | (simp; done) | (simp; omega))) | (refine Sx.mk ?_ ?_; · omega) | refine Fa.mk (fun _ => ?_) | refine Im.mk (fun _ => ?_) | apply Lw.go | refine g_cond ?_ | refine g_guard ?_ | refine g_keep ?_ | refine g_pass ?_ | refine g_fin ?_ | (apply g_ap; exact rfl; exact rfl; assumption)
  first | refine at_callS (table_Table_Reads_nil) ?_ | refine at_callR (table_Table_Reads_nil) ?_
  intro xr
  repeat' first | apply step | (apply g_op; · repeat first | exact Evs.nil | (apply Evs.cons; exact rfl)) | (refine Br.mk (fun _ => ?_) (fun _ => ?_) <;> try (exfalso; omega)) | (refine Sd.mk ?_ ?_; · ((repeat' apply And.intro) <;> first | omega | trivial | assumption | (simp; done) | (simp; omega))) | (refine Sx.mk ?_ ?_; · omega) | refine Fa.mk (fun _ => ?_) | refine Im.mk (fun _ => ?_) | apply Lw.go | refine g_cond ?_ | refine g_guard ?_ | refine g_keep ?_ | refine g_pass ?_ | refine g_fin ?_ | (apply g_ap; exact rfl; exact rfl; assumption)
  first | refine at_callS (table_Table_Writes_nil) ?_ | refine at_callR (table_Table_Writes_nil) ?_
  intro xw
  repeat' first | apply step | (apply g_op; · repeat first | exact Evs.nil | (apply Evs.cons; exact rfl)) | (refine Br.mk (fun _ => ?_) (fun _ => ?_) <;> try (exfalso; omega)) | (refine Sd.mk ?_ ?_; · ((repeat' apply And.intro) <;> first | omega | trivial | assumption | (simp; done) | (simp; omega))) | (refine Sx.mk ?_ ?_; · omega) | refine Fa.mk (fun _ => ?_) | refine Im.mk (fun _ => ?_) | apply Lw.go | refine g_cond ?_ | refine g_guard ?_ | refine g_keep ?_ | refine g_pass ?_ | refine g_fin ?_ | (apply g_ap; exact rfl; exact rfl; assumption)
  refine at_via (ent_fnil (K := kInt .i64)) ?_
  refine at_via (ent_fnil (K := kHRd)) ?_
  refine at_rfunSD (I := fun _ => fro (kInt .i64) none 0 []) (J := fun _ => noP) (Po := []) 0 (fun i (d : wR) => vaRead d none) (fun i d => paRead d none) (fun ly A B h => table_goes_table_Read_c1_spec (l := []) (by simp) (fun i hi => by simp at hi)) (fun i hi => by omega) (fun i hi => by omega) ?_ (fun _ _ => at_no)
  repeat' first | apply step | (apply g_op; · repeat first | exact Evs.nil | (apply Evs.cons; exact rfl)) | (refine Br.mk (fun _ => ?_) (fun _ => ?_) <;> try (exfalso; omega)) | (refine Sd.mk ?_ ?_; · ((repeat' apply And.intro) <;> first | omega | trivial | assumption | (simp; done) | (simp; omega))) | (refine Sx.mk ?_ ?_; · omega) | refine Fa.mk (fun _ => ?_) | refine Im.mk (fun _ => ?_) | apply Lw.go | refine g_cond ?_ | refine g_guard ?_ | refine g_keep ?_ | refine g_pass ?_ | refine g_fin ?_ | (apply g_ap; exact rfl; exact rfl; assumption)
  first | refine at_callS (table_Table_IDs_nil) ?_ | refine at_callR (table_Table_IDs_nil) ?_
  repeat' first | apply step | (apply g_op; · repeat first | exact Evs.nil | (apply Evs.cons; exact rfl)) | (refine Br.mk (fun _ => ?_) (fun _ => ?_) <;> try (exfalso; omega)) | (refine Sd.mk ?_ ?_; · ((repeat' apply And.intro) <;> first | omega | trivial | assumption | (simp; done) | (simp; omega))) | (refine Sx.mk ?_ ?_; · omega) | refine Fa.mk (fun _ => ?_) | refine Im.mk (fun _ => ?_) | apply Lw.go | refine g_cond ?_ | refine g_guard ?_ | refine g_keep ?_ | refine g_pass ?_ | refine g_fin ?_ | (apply g_ap; exact rfl; exact rfl; assumption)
  first | refine at_callS (table_Table_Keys_nil) ?_ | refine at_callR (table_Table_Keys_nil) ?_
  repeat' first | apply step | (apply g_op; · repeat first | exact Evs.nil | (apply Evs.cons; exact rfl)) | (refine Br.mk (fun _ => ?_) (fun _ => ?_) <;> try (exfalso; omega)) | (refine Sd.mk ?_ ?_; · ((repeat' apply And.intro) <;> first | omega | trivial | assumption | (simp; done) | (simp; omega))) | (refine Sx.mk ?_ ?_; · omega) | refine Fa.mk (fun _ => ?_) | refine Im.mk (fun _ => ?_) | apply Lw.go | refine g_cond ?_ | refine g_guard ?_ | refine g_keep ?_ | refine g_pass ?_ | refine g_fin ?_ | (apply g_ap; exact rfl; exact rfl; assumption)
  first | refine at_callS (table_Table_Appends_nil) ?_ | refine at_callR (table_Table_Appends_nil) ?_
  repeat' first | apply step | (apply g_op; · repeat first | exact Evs.nil | (apply Evs.cons; exact rfl)) | (refine Br.mk (fun _ => ?_) (fun _ => ?_) <;> try (exfalso; omega)) | (refine Sd.mk ?_ ?_; · ((repeat' apply And.intro) <;> first | omega | trivial | assumption | (simp; done) | (simp; omega))) | (refine Sx.mk ?_ ?_; · omega) | refine Fa.mk (fun _ => ?_) | refine Im.mk (fun _ => ?_) | apply Lw.go | refine g_cond ?_ | refine g_guard ?_ | refine g_keep ?_ | refine g_pass ?_ | refine g_fin ?_ | (apply g_ap; exact rfl; exact rfl; assumption)
  · exact fin hR
  · rename_i hz
    exact absurd ⟨rfl, rfl, rfl, rfl, rfl⟩ hz
theorem l12_none_zero {x y : Int} : Spec prog1 n_l12_none [.pointer (some ⟨b, 0, none⟩), .int .i64 x, .int .i64 y] [ro (pt0 b)] (fun R => R (.bool true) []) := by
  refine spec_code c_l12_none rfl ?_; intro n F R hR; unfold F_l12_none
  repeat' first | apply step | (apply g_op; · repeat first | exact Evs.nil | (apply Evs.cons; exact rfl)) | (refine Br.mk (fun _ => ?_) (fun _ => ?_) <;> try (exfalso; omega)) | (refine Sd.mk ?_ ?_; · ((repeat' apply And.intro) <;> first | omega | trivial | assumption | (simp; done) | (simp; omega))) | (refine Sx.mk ?_ ?_; · omega) | refine Fa.mk (fun _ => ?_) | refine Im.mk (fun _ => ?_) | apply Lw.go | refine g_cond ?_ | refine g_guard ?_ | refine g_keep ?_ | refine g_pass ?_ | refine g_fin ?_ | (apply g_ap; exact rfl; exact rfl; assumption)
  first | refine at_callS (table_Table_Writer_zero) ?_ | refine at_callR (table_Table_Writer_zero) ?_
  repeat' first | apply step | (apply g_op; · repeat first | exact Evs.nil | (apply Evs.cons; exact rfl)) | (refine Br.mk (fun _ => ?_) (fun _ => ?_) <;> try (exfalso; omega)) | (refine Sd.mk ?_ ?_; · ((repeat' apply And.intro) <;> first | omega | trivial | assumption | (simp; done) | (simp; omega))) | (refine Sx.mk ?_ ?_; · omega) | refine Fa.mk (fun _ => ?_) | refine Im.mk (fun _ => ?_) | apply Lw.go | refine g_cond ?_ | refine g_guard ?_ | refine g_keep ?_ | refine g_pass ?_ | refine g_fin ?_ | (apply g_ap; exact rfl; exact rfl; assumption)
  first | refine at_callS (table_Table_Rank_zero) ?_ | refine at_callR (table_Table_Rank_zero) ?_
  repeat' first | apply step | (apply g_op; · repeat first | exact Evs.nil | (apply Evs.cons; exact rfl)) | (refine Br.mk (fun _ => ?_) (fun _ => ?_) <;> try (exfalso; omega)) | (refine Sd.mk ?_ ?_; · ((repeat' apply And.intro) <;> first | omega | trivial | assumption | (simp; done) | (simp; omega))) | (refine Sx.mk ?_ ?_; · omega) | refine Fa.mk (fun _ => ?_) | refine Im.mk (fun _ => ?_) | apply Lw.go | refine g_cond ?_ | refine g_guard ?_ | refine g_keep ?_ | refine g_pass ?_ | refine g_fin ?_ | (apply g_ap; exact rfl; exact rfl; assumption)
  first | refine at_callS (table_Table_Reads_zero) ?_ | refine at_callR (table_Table_Reads_zero) ?_
  intro xr
  repeat' first | apply step | (apply g_op; · repeat first | exact Evs.nil | (apply Evs.cons; exact rfl)) | (refine Br.mk (fun _ => ?_) (fun _ => ?_) <;> try (exfalso; omega)) | (refine Sd.mk ?_ ?_; · ((repeat' apply And.intro) <;> first | omega | trivial | assumption | (simp; done) | (simp; omega))) | (refine Sx.mk ?_ ?_; · omega) | refine Fa.mk (fun _ => ?_) | refine Im.mk (fun _ => ?_) | apply Lw.go | refine g_cond ?_ | refine g_guard ?_ | refine g_keep ?_ | refine g_pass ?_ | refine g_fin ?_ | (apply g_ap; exact rfl; exact rfl; assumption)
  first | refine at_callS (table_Table_Writes_zero) ?_ | refine at_callR (table_Table_Writes_zero) ?_
  intro xw
  repeat' first | apply step | (apply g_op; · repeat first | exact Evs.nil | (apply Evs.cons; exact rfl)) | (refine Br.mk (fun _ => ?_) (fun _ => ?_) <;> try (exfalso; omega)) | (refine Sd.mk ?_ ?_; · ((repeat' apply And.intro) <;> first | omega | trivial | assumption | (simp; done) | (simp; omega))) | (refine Sx.mk ?_ ?_; · omega) | refine Fa.mk (fun _ => ?_) | refine Im.mk (fun _ => ?_) | apply Lw.go | refine g_cond ?_ | refine g_guard ?_ | refine g_keep ?_ | refine g_pass ?_ | refine g_fin ?_ | (apply g_ap; exact rfl; exact rfl; assumption)
  refine at_via (ent_fnil (K := kInt .i64)) ?_
  refine at_via (ent_fnil (K := kHRd)) ?_
  refine at_rfunSD (I := fun _ => fro (kInt .i64) none 0 []) (J := fun _ => noP) (Po := []) 0 (fun i (d : wR) => vaRead d none) (fun i d => paRead d none) (fun ly A B h => table_goes_table_Read_c1_spec (l := []) (by simp) (fun i hi => by simp at hi)) (fun i hi => by omega) (fun i hi => by omega) ?_ (fun _ _ => at_no)
  repeat' first | apply step | (apply g_op; · repeat first | exact Evs.nil | (apply Evs.cons; exact rfl)) | (refine Br.mk (fun _ => ?_) (fun _ => ?_) <;> try (exfalso; omega)) | (refine Sd.mk ?_ ?_; · ((repeat' apply And.intro) <;> first | omega | trivial | assumption | (simp; done) | (simp; omega))) | (refine Sx.mk ?_ ?_; · omega) | refine Fa.mk (fun _ => ?_) | refine Im.mk (fun _ => ?_) | apply Lw.go | refine g_cond ?_ | refine g_guard ?_ | refine g_keep ?_ | refine g_pass ?_ | refine g_fin ?_ | (apply g_ap; exact rfl; exact rfl; assumption)
  first | refine at_callS (table_Table_IDs_zero) ?_ | refine at_callR (table_Table_IDs_zero) ?_
  repeat' first | apply step | (apply g_op; · repeat first | exact Evs.nil | (apply Evs.cons; exact rfl)) | (refine Br.mk (fun _ => ?_) (fun _ => ?_) <;> try (exfalso; omega)) | (refine Sd.mk ?_ ?_; · ((repeat' apply And.intro) <;> first | omega | trivial | assumption | (simp; done) | (simp; omega))) | (refine Sx.mk ?_ ?_; · omega) | refine Fa.mk (fun _ => ?_) | refine Im.mk (fun _ => ?_) | apply Lw.go | refine g_cond ?_ | refine g_guard ?_ | refine g_keep ?_ | refine g_pass ?_ | refine g_fin ?_ | (apply g_ap; exact rfl; exact rfl; assumption)
  first | refine at_callS (table_Table_Keys_zero) ?_ | refine at_callR (table_Table_Keys_zero) ?_
  repeat' first | apply step | (apply g_op; · repeat first | exact Evs.nil | (apply Evs.cons; exact rfl)) | (refine Br.mk (fun _ => ?_) (fun _ => ?_) <;> try (exfalso; omega)) | (refine Sd.mk ?_ ?_; · ((repeat' apply And.intro) <;> first | omega | trivial | assumption | (simp; done) | (simp; omega))) | (refine Sx.mk ?_ ?_; · omega) | refine Fa.mk (fun _ => ?_) | refine Im.mk (fun _ => ?_) | apply Lw.go | refine g_cond ?_ | refine g_guard ?_ | refine g_keep ?_ | refine g_pass ?_ | refine g_fin ?_ | (apply g_ap; exact rfl; exact rfl; assumption)
  first | refine at_callS (table_Table_Appends_zero) ?_ | refine at_callR (table_Table_Appends_zero) ?_
  repeat' first | apply step | (apply g_op; · repeat first | exact Evs.nil | (apply Evs.cons; exact rfl)) | (refine Br.mk (fun _ => ?_) (fun _ => ?_) <;> try (exfalso; omega)) | (refine Sd.mk ?_ ?_; · ((repeat' apply And.intro) <;> first | omega | trivial | assumption | (simp; done) | (simp; omega))) | (refine Sx.mk ?_ ?_; · omega) | refine Fa.mk (fun _ => ?_) | refine Im.mk (fun _ => ?_) | apply Lw.go | refine g_cond ?_ | refine g_guard ?_ | refine g_keep ?_ | refine g_pass ?_ | refine g_fin ?_ | (apply g_ap; exact rfl; exact rfl; assumption)
  · exact fin hR
  · rename_i hz
    exact absurd ⟨rfl, rfl, rfl, rfl, rfl⟩ hz
end
end Go.AMS

namespace Go.AMS
open Go.AM hiding Kt At WP WL Runs RunsY
open Go.AM.G
set_option linter.unusedVariables false
set_option linter.unusedSimpArgs false
set_option linter.unusedSectionVars false
set_option maxRecDepth 100000
set_option maxHeartbeats 1000000
attribute [local irreducible] AtS AtV AtC AtG FinA Spec Post LP G.At G.WP G.WL pt own fro rdl ro hx mp lrec elt sub

section
theorem l12_works_spec : Spec prog1 n_l12_works [] [] (fun R => R (.bool true) []) := closed_spec c_l12_works
theorem l12_TableNone_spec {x y : Int} : Spec prog1 n_l12_TableNone [.int .i64 x, .int .i64 y] [] (fun R => R (.bool true) []) := by
  refine spec_code c_l12_TableNone rfl ?_; intro n F R hR; unfold F_l12_TableNone
  repeat' first | apply step | (apply g_op; · repeat first | exact Evs.nil | (apply Evs.cons; exact rfl)) | (refine Br.mk (fun _ => ?_) (fun _ => ?_) <;> try (exfalso; omega)) | (refine Sd.mk ?_ ?_; · ((repeat' apply And.intro) <;> first | omega | trivial | assumption | (simp; done) | (simp; omega))) | (refine Sx.mk ?_ ?_; · omega) | refine Fa.mk (fun _ => ?_) | refine Im.mk (fun _ => ?_) | apply Lw.go | refine g_cond ?_ | refine g_guard ?_ | refine g_keep ?_ | refine g_pass ?_ | refine g_fin ?_ | (apply g_ap; exact rfl; exact rfl; assumption)
  first | refine at_callS (l12_none_nil) ?_ | refine at_callR (l12_none_nil) ?_
  repeat' first | apply step | (apply g_op; · repeat first | exact Evs.nil | (apply Evs.cons; exact rfl)) | (refine Br.mk (fun _ => ?_) (fun _ => ?_) <;> try (exfalso; omega)) | (refine Sd.mk ?_ ?_; · ((repeat' apply And.intro) <;> first | omega | trivial | assumption | (simp; done) | (simp; omega))) | (refine Sx.mk ?_ ?_; · omega) | refine Fa.mk (fun _ => ?_) | refine Im.mk (fun _ => ?_) | apply Lw.go | refine g_cond ?_ | refine g_guard ?_ | refine g_keep ?_ | refine g_pass ?_ | refine g_fin ?_ | (apply g_ap; exact rfl; exact rfl; assumption)
  rename_i b
  first | refine at_callS (l12_none_zero (b := b)) ?_ | refine at_callR (l12_none_zero (b := b)) ?_
  repeat' first | apply step | (apply g_op; · repeat first | exact Evs.nil | (apply Evs.cons; exact rfl)) | (refine Br.mk (fun _ => ?_) (fun _ => ?_) <;> try (exfalso; omega)) | (refine Sd.mk ?_ ?_; · ((repeat' apply And.intro) <;> first | omega | trivial | assumption | (simp; done) | (simp; omega))) | (refine Sx.mk ?_ ?_; · omega) | refine Fa.mk (fun _ => ?_) | refine Im.mk (fun _ => ?_) | apply Lw.go | refine g_cond ?_ | refine g_guard ?_ | refine g_keep ?_ | refine g_pass ?_ | refine g_fin ?_ | (apply g_ap; exact rfl; exact rfl; assumption)
  first | refine at_callS (l12_works_spec) ?_ | refine at_callR (l12_works_spec) ?_
  repeat' first | apply step | (apply g_op; · repeat first | exact Evs.nil | (apply Evs.cons; exact rfl)) | (refine Br.mk (fun _ => ?_) (fun _ => ?_) <;> try (exfalso; omega)) | (refine Sd.mk ?_ ?_; · ((repeat' apply And.intro) <;> first | omega | trivial | assumption | (simp; done) | (simp; omega))) | (refine Sx.mk ?_ ?_; · omega) | refine Fa.mk (fun _ => ?_) | refine Im.mk (fun _ => ?_) | apply Lw.go | refine g_cond ?_ | refine g_guard ?_ | refine g_keep ?_ | refine g_pass ?_ | refine g_fin ?_ | (apply g_ap; exact rfl; exact rfl; assumption)
  exact fin hR
end
end Go.AMS

