/- The abstract machine's operations, as rules that rewrite. -/
import Derived.Test.YtdkgalkdcmajjaaGreatAmLogic
namespace Go.AM
set_option linter.unusedVariables false
set_option linter.unusedSimpArgs false
variable {call : CallT} {d : Bool} {i : AI} {l : List AI} {e : Env} {h : Heap} {v : Value}

def nocall : CallT := fun _ _ _ => none

/-- The rest, behind one. -/
def seqE (x : Option (Env × Heap)) (d : Bool) (l : List AI) : Option (Env × Heap) :=
  match x with
  | some (e, h) => evL nocall d l e h
  | none => none
def putI (x : Option (Value × Heap)) (e : Env) (d : Option Nat) : Option (Env × Heap) :=
  match x with
  | some (v, h) => some (put e d v, h)
  | none => none
def condI (w : Option Bool) (op : AOp) (dst : Option Nat) (e : Env) (h : Heap) : Option (Env × Heap) :=
  match w with
  | some true => putI (opV nocall op e h) e dst
  | some false => some (put e dst undef, h)
  | none => none
def backI (x : Option (Env × Heap)) (n : Nat) : Option (Env × Heap) :=
  match x with
  | some (e, h) => some (e, h.withProt n)
  | none => none

theorem nil_ev : evL nocall d [] e h = some (e, h) := rfl
theorem cons_in {dst : Option Nat} {op : AOp} {g : Option (Nat × Bool)} {b : Bool} : evL nocall false (⟨dst, op, g, b⟩ :: l) e h = seqE (condI (wanted e g) op dst e h) false l := by
  simp only [evL, cond_false, evI, seqE]
  cases hw : wanted e g with
  | none => rfl
  | some w => cases w with
    | false => rfl
    | true => simp only [condI, putI]; cases opV nocall op e h <;> rfl
theorem cons_bar {dst : Option Nat} {op : AOp} {g : Option (Nat × Bool)} : evL nocall true (⟨dst, op, g, true⟩ :: l) e h = seqE (condI (wanted e g) op dst e h) true l := by
  simp only [evL, cond_true, evID, evI, seqE]
  cases hw : wanted e g with
  | none => rfl
  | some w => cases w with
    | false => rfl
    | true => simp only [condI, putI]; cases opV nocall op e h <;> rfl
theorem cons_open {dst : Option Nat} {op : AOp} {g : Option (Nat × Bool)} : evL nocall true (⟨dst, op, g, false⟩ :: l) e h = seqE (backI (condI (wanted e g) op dst e (h.withProt h.size)) h.prot) true l := by
  simp only [evL, cond_true, cond_false, evID, evI, seqE]
  cases hw : wanted e g with
  | none => rfl
  | some w => cases w with
    | false => rfl
    | true => simp only [condI, putI, backI]; cases opV nocall op e (h.withProt h.size) <;> rfl
theorem seqE_some : seqE (some (e, h)) d l = evL nocall d l e h := rfl
theorem putI_some {dst : Nat} : putI (some (v, h)) e (some dst) = some ((dst, v) :: e, h) := rfl
theorem putI_none : putI (some (v, h)) e none = some (e, h) := rfl
theorem put_s {k : Nat} : put e (some k) v = (k, v) :: e := rfl
theorem put_n : put e none v = e := rfl
theorem condI_true {op : AOp} {dst : Option Nat} : condI (some true) op dst e h = putI (opV nocall op e h) e dst := rfl
theorem condI_false {op : AOp} {dst : Nat} : condI (some false) op (some dst) e h = some ((dst, undef) :: e, h) := rfl
theorem condI_false0 {op : AOp} : condI (some false) op none e h = some (e, h) := rfl
theorem backI_some {n : Nat} : backI (some (e, h)) n = some (e, h.withProt n) := rfl
theorem wp_wp {n m : Nat} : (h.withProt n).withProt m = h.withProt m := rfl
theorem wp_self : h.withProt h.prot = h := rfl
theorem wp_push {n m : Nat} {o : AObj} : ((h.withProt n).push o).withProt m = (h.withProt m).push o := rfl
theorem wp_cell {n b o : Nat} : (h.withProt n).cell b o = h.cell b o := rfl
theorem wp_rd {n b o m : Nat} : (h.withProt n).rd b o m = h.rd b o m := rfl
theorem wp_get {n b : Nat} : (h.withProt n).get b = h.get b := rfl
theorem wp_size {n : Nat} : (h.withProt n).size = h.size := rfl
theorem wp_prot {n : Nat} : (h.withProt n).prot = n := rfl

theorem wanted_none : wanted e none = some true := rfl
/-- What a guard says. -/
def wantB (v : Option Value) (b : Bool) : Option Bool :=
  match v with
  | some (.bool x) => some (x == b)
  | some _ => some false
  | none => none
theorem wanted_some {s : Nat} {b : Bool} : wanted e (some (s, b)) = wantB (Env.get e s) b := rfl
theorem wantB_bool {x b : Bool} : wantB (some (.bool x)) b = some (x == b) := rfl
theorem wantB_undef {b : Bool} : wantB (some undef) b = some false := rfl

theorem get_same {k : Nat} {r : Env} : Env.get ((k, v) :: r) k = some v := by simp [Env.get]
theorem get_ne {k t : Nat} {r : Env} (hk : (k == t) = false) : Env.get ((k, v) :: r) t = Env.get r t := by simp only [Env.get, hk, cond_false]
theorem ev_tmp {t : Nat} : ev e (.tmp t) = Env.get e t := rfl
theorem ev_const : ev e (.const v) = some v := rfl
theorem ev_func {f : FuncId} : ev e (.func f) = some (.func (.func f) #[] #[]) := rfl
theorem keep_nil : keepE e [] = [] := rfl
def keepC (x : Option Value) (t : Nat) (r : Env) : Env :=
  match x with
  | some v => (t, v) :: r
  | none => r
theorem keep_cons {t : Nat} {r : List Nat} : keepE e (t :: r) = keepC (Env.get e t) t (keepE e r) := rfl
theorem keepC_some {t : Nat} {r : Env} : keepC (some v) t r = (t, v) :: r := rfl
theorem evs_nil : evs e [] = some [] := rfl
theorem evs_cons {x : Operand} {r : List Operand} : evs e (x :: r) = (ev e x).bind fun v => (evs e r).map (v :: ·) := rfl
theorem arg_nil {k : Nat} : argEnv k [] = [] := rfl
theorem arg_cons {k : Nat} {r : List Value} : argEnv k (v :: r) = (k, v) :: argEnv (k + 1) r := rfl

theorem bq_t {b : Bool} : (b == true) = b := by cases b <;> rfl
theorem bq_f {b : Bool} : (b == false) = !b := by cases b <;> rfl
theorem bq_t2 {b : Bool} : (true == b) = b := by cases b <;> rfl
theorem bq_f2 {b : Bool} : (false == b) = !b := by cases b <;> rfl
section ops
variable {x y z a b c : Operand}
theorem op_mv : opV nocall (.mv x) e h = (ev e x).map (·, h) := rfl
def pickV (c : Option Value) (a b : Option Value) : Option Value :=
  match c with
  | some (.bool true) => a
  | some (.bool false) => b
  | _ => none
theorem op_pick : opV nocall (.pick c a b) e h = (pickV (ev e c) (ev e a) (ev e b)).map (·, h) := by
  simp only [opV, aop, pickV]
  generalize ev e c = p
  cases p with
  | none => rfl
  | some p => cases p <;> first | rfl | (rename_i b0; cases b0 <;> rfl)
theorem pick_true {a b : Option Value} : pickV (some (.bool true)) a b = a := rfl
theorem pick_false {a b : Option Value} : pickV (some (.bool false)) a b = b := rfl
theorem op_alloc {z : List Value} : opV nocall (.alloc z) e h = some (.pointer (some ⟨h.size, 0, none⟩), h.push (.cells z (some 0))) := rfl
theorem op_box : opV nocall (.box x) e h = (ev e x).bind fun v => some (.pointer (some ⟨h.size, 0, none⟩), h.push (.cells (vcells v) (some 0))) := by
  simp only [opV, aop]
  cases ev e x <;> rfl
def binO (op : BinOp) (x y : Option Value) : Option Value :=
  match x, y with
  | some a, some b => binV op a b
  | _, _ => none
theorem op_bin {op : BinOp} : opV nocall (.bin op x y) e h = (binO op (ev e x) (ev e y)).map (·, h) := by
  simp only [opV, aop, binO]
  cases ev e x <;> cases ev e y <;> rfl
theorem bin_some {op : BinOp} {p q : Value} : binO op (some p) (some q) = binV op p q := rfl
section nums
variable {k k' : IntKind} {p q : Int}
theorem b_add : binV .add (.int k p) (.int k q) = some (.int k (k.wrap (p + q))) := by simp [binV, ibin]
theorem b_sub : binV .sub (.int k p) (.int k q) = some (.int k (k.wrap (p - q))) := by simp [binV, ibin]
theorem b_mul : binV .mul (.int k p) (.int k q) = some (.int k (k.wrap (p * q))) := by simp [binV, ibin]
theorem b_quo : binV .quo (.int k p) (.int k q) = if q = 0 then none else some (.int k (k.wrap (p.tdiv q))) := by simp [binV, ibin]
theorem b_rem : binV .rem (.int k p) (.int k q) = if q = 0 then none else some (.int k (p.tmod q)) := by simp [binV, ibin]
theorem b_eql : binV .eql (.int k p) (.int k q) = some (.bool (p == q)) := by simp [binV, ibin]
theorem b_neq : binV .neq (.int k p) (.int k q) = some (.bool (p != q)) := by simp [binV, ibin]
theorem b_lss : binV .lss (.int k p) (.int k q) = some (.bool (decide (p < q))) := by simp [binV, ibin]
theorem b_leq : binV .leq (.int k p) (.int k q) = some (.bool (decide (p ≤ q))) := by simp [binV, ibin]
theorem b_gtr : binV .gtr (.int k p) (.int k q) = some (.bool (decide (p > q))) := by simp [binV, ibin]
theorem b_geq : binV .geq (.int k p) (.int k q) = some (.bool (decide (p ≥ q))) := by simp [binV, ibin]
theorem b_shl : binV .shl (.int k p) (.int k' q) = if q < 0 then none else some (.int k (k.wrap (p * 2 ^ (Nat.min q.toNat k.bits)))) := rfl
theorem b_shr : binV .shr (.int k p) (.int k' q) = if q < 0 then none else some (.int k (p.fdiv (2 ^ (Nat.min q.toNat k.bits)))) := rfl
theorem b_and : binV .and (.int k p) (.int k q) = some (.int k (k.wrap (BitVec.ofInt k.bits p &&& BitVec.ofInt k.bits q).toNat)) := by simp [binV, ibin, ibits]
theorem b_or : binV .or (.int k p) (.int k q) = some (.int k (k.wrap (BitVec.ofInt k.bits p ||| BitVec.ofInt k.bits q).toNat)) := by simp [binV, ibin, ibits]
theorem b_seq {s t : ByteArray} : binV .eql (.string s) (.string t) = some (.bool (s.toList == t.toList)) := rfl
theorem b_sneq {s t : ByteArray} : binV .neq (.string s) (.string t) = some (.bool !(s.toList == t.toList)) := rfl
theorem b_sadd {s t : ByteArray} : binV .add (.string s) (.string t) = if ((s.size + t.size : Nat) : Int) > 9223372036854775807 then none else some (.string (s ++ t)) := rfl
theorem b_slss {s t : ByteArray} : binV .lss (.string s) (.string t) = some (.bool (Op.bytesLess s.toList t.toList)) := rfl
end nums
def unO (op : UnOp) (x : Option Value) : Option Value := x.bind (unV op)
theorem op_un {op : UnOp} : opV nocall (.un op x) e h = (unO op (ev e x)).map (·, h) := by
  simp only [opV, aop, unO]
  cases ev e x <;> rfl
theorem un_not {p : Bool} : unO .not (some (.bool p)) = some (.bool !p) := rfl
theorem un_neg {k : IntKind} {p : Int} : unO .neg (some (.int k p)) = some (.int k (k.wrap (0 - p))) := rfl
def eqO (k : Nat) (neg : Bool) (x y : Option Value) : Option Value :=
  match x, y with
  | some a, some b => (eq1 k a b).map fun r => .bool (bif neg then !r else r)
  | _, _ => none
theorem op_eqv {k : Nat} {neg : Bool} : opV nocall (.eqv k neg x y) e h = (eqO k neg (ev e x) (ev e y)).map (·, h) := by
  simp only [opV, aop, eqO]
  cases ev e x with
  | none => rfl
  | some p => cases ev e y with
    | none => rfl
    | some q => simp only; cases eq1 k p q <;> rfl
theorem eq_bool {neg p q : Bool} : eqO 0 neg (some (.bool p)) (some (.bool q)) = some (.bool (bif neg then !(p == q) else (p == q))) := rfl
theorem eq_ptr0 {neg : Bool} {q : Option Addr} : eqO 1 neg (some (.pointer none)) (some (.pointer q)) = some (.bool (bif neg then !q.isNone else q.isNone)) := by cases q <;> rfl
theorem eq_ptr {neg : Bool} {p : Option Addr} : eqO 1 neg (some (.pointer p)) (some (.pointer none)) = some (.bool (bif neg then !p.isNone else p.isNone)) := by cases p <;> rfl
theorem eq_sl {neg : Bool} {p : Option Addr} {n c n' c' : Nat} : eqO 2 neg (some (.slice p n c)) (some (.slice none n' c')) = some (.bool (bif neg then !p.isNone else p.isNone)) := by cases p <;> rfl
theorem eq_map {neg : Bool} {p : Option Nat} : eqO 3 neg (some (.map p)) (some (.map none)) = some (.bool (bif neg then !p.isNone else p.isNone)) := by cases p <;> rfl
theorem eq_func {neg : Bool} {f : Fn} {p q : Array Value} : eqO 4 neg (some (.func f p q)) (some .nilFunc) = some (.bool (bif neg then !false else false)) := rfl
theorem eq_func0 {neg : Bool} : eqO 4 neg (some .nilFunc) (some .nilFunc) = some (.bool (bif neg then !true else true)) := rfl
def convO (k : IntKind) (x : Option Value) : Option Value :=
  match x with
  | some (.int _ n) => some (.int k (k.wrap n))
  | _ => none
theorem op_conv {k : IntKind} : opV nocall (.conv k x) e h = (convO k (ev e x)).map (·, h) := by
  simp only [opV, aop, convO]
  generalize ev e x = p
  cases p with
  | none => rfl
  | some p => cases p <;> rfl
theorem conv_int {k k' : IntKind} {n : Int} : convO k (some (.int k' n)) = some (.int k (k.wrap n)) := rfl
def lenSO (x : Option Value) : Option Value :=
  match x with
  | some (.string s) => some (.int .i64 s.size)
  | _ => none
def lenLO (x : Option Value) : Option Value :=
  match x with
  | some (.slice _ n _) => some (.int .i64 n)
  | _ => none
theorem op_lenS : opV nocall (.len 0 x) e h = (lenSO (ev e x)).map (·, h) := by
  simp only [opV, aop, lenSO]
  generalize ev e x = p
  cases p with
  | none => rfl
  | some p => cases p <;> rfl
theorem op_lenL : opV nocall (.len 1 x) e h = (lenLO (ev e x)).map (·, h) := by
  simp only [opV, aop, lenLO]
  generalize ev e x = p
  cases p with
  | none => rfl
  | some p => cases p <;> rfl
theorem len_str {s : ByteArray} : lenSO (some (.string s)) = some (.int .i64 s.size) := rfl
theorem len_sl {p : Option Addr} {n c : Nat} : lenLO (some (.slice p n c)) = some (.int .i64 n) := rfl
def iaddrO (esz : Nat) (x i : Option Value) : Option Value :=
  match x, i with
  | some (.slice (some ⟨b, o, none⟩) len _), some (.int _ i) => if 0 ≤ i ∧ i < len then some (.pointer (some ⟨b, o + i.toNat * esz, none⟩)) else none
  | _, _ => none
theorem op_iaddr {esz : Nat} : opV nocall (.iaddr esz x y) e h = (iaddrO esz (ev e x) (ev e y)).map (·, h) := by
  simp only [opV, aop, iaddrO]
  generalize ev e x = p
  generalize ev e y = q
  cases p with
  | none => rfl
  | some p =>
    cases p with
    | slice a len c =>
      cases a with
      | none => rfl
      | some a =>
        obtain ⟨b, o, s⟩ := a
        cases s with
        | some s => rfl
        | none =>
          cases q with
          | none => rfl
          | some q =>
            cases q with
            | int k n => simp only; split <;> rfl
            | _ => rfl
    | _ => rfl
theorem iaddr_nat {esz b o n c i : Nat} {k : IntKind} (hi : i < n) : iaddrO esz (some (.slice (some ⟨b, o, none⟩) n c)) (some (.int k (i : Int))) = some (.pointer (some ⟨b, o + i * esz, none⟩)) := by
  simp only [iaddrO]
  rw [if_pos ⟨by omega, by omega⟩]
  simp
def load1O (h : Heap) (x : Option Value) : Option Value :=
  match x with
  | some (.pointer (some ⟨b, o, none⟩)) => h.cell b o
  | _ => none
theorem op_load1 : opV nocall (.load1 x) e h = (load1O h (ev e x)).map (·, h) := by
  simp only [opV, aop, load1O]
  generalize ev e x = p
  cases p with
  | none => rfl
  | some p =>
    cases p with
    | pointer a =>
      cases a with
      | none => rfl
      | some a =>
        obtain ⟨b, o, s⟩ := a
        cases s with
        | some s => rfl
        | none => rfl
    | _ => rfl
theorem load1_ptr {b o : Nat} : load1O h (some (.pointer (some ⟨b, o, none⟩))) = h.cell b o := rfl
def loadNO (h : Heap) (n : Nat) (x : Option Value) : Option Value :=
  match x with
  | some (.pointer (some ⟨b, o, none⟩)) => (h.rd b o n).map fun c => .agg c.toArray
  | _ => none
theorem op_loadN {n : Nat} : opV nocall (.loadN n x) e h = (loadNO h n (ev e x)).map (·, h) := by
  simp only [opV, aop, loadNO]
  generalize ev e x = p
  cases p with
  | none => rfl
  | some p =>
    cases p with
    | pointer a =>
      cases a with
      | none => rfl
      | some a =>
        obtain ⟨b, o, s⟩ := a
        cases s with
        | some s => rfl
        | none => simp only; cases h.rd b o n <;> rfl
    | _ => rfl
theorem loadN_ptr {n b o : Nat} : loadNO h n (some (.pointer (some ⟨b, o, none⟩))) = (h.rd b o n).map fun c => .agg c.toArray := rfl
def nilcO (x : Option Value) : Option Value :=
  match x with
  | some (.pointer (some a)) => some (.pointer (some a))
  | some (.func (.func f) x y) => some (.func (.func f) x y)
  | some (.func (.yield l) x y) => some (.func (.yield l) x y)
  | _ => none
theorem op_nilc : opV nocall (.nilc x) e h = (nilcO (ev e x)).map (·, h) := by
  simp only [opV, aop, nilcO]
  generalize ev e x = p
  cases p with
  | none => rfl
  | some p =>
    cases p with
    | pointer a => cases a <;> rfl
    | func f p q => cases f <;> rfl
    | _ => rfl
theorem nilc_ptr {a : Addr} : nilcO (some (.pointer (some a))) = some (.pointer (some a)) := rfl
theorem nilc_fn {f : FuncId} {p q : Array Value} : nilcO (some (.func (.func f) p q)) = some (.func (.func f) p q) := rfl
theorem nilc_yield {l : Nat} {p q : Array Value} : nilcO (some (.func (.yield l) p q)) = some (.func (.yield l) p q) := rfl
def faddrO (off : Nat) (x : Option Value) : Option Value :=
  match x with
  | some (.pointer (some ⟨b, o, none⟩)) => some (.pointer (some ⟨b, o + off, none⟩))
  | _ => none
theorem op_faddr {off : Nat} : opV nocall (.faddr off x) e h = (faddrO off (ev e x)).map (·, h) := by
  simp only [opV, aop, faddrO]
  generalize ev e x = p
  cases p with
  | none => rfl
  | some p =>
    cases p with
    | pointer a =>
      cases a with
      | none => rfl
      | some a =>
        obtain ⟨b, o, s⟩ := a
        cases s with
        | some s => rfl
        | none => rfl
    | _ => rfl
theorem faddr_ptr {off b o : Nat} : faddrO off (some (.pointer (some ⟨b, o, none⟩))) = some (.pointer (some ⟨b, o + off, none⟩)) := rfl
def extractO (i : Nat) (x : Option Value) : Option Value :=
  match x with
  | some (.tuple vs) => vs.toList[i]?
  | _ => none
theorem op_extract {i : Nat} : opV nocall (.extract i x) e h = (extractO i (ev e x)).map (·, h) := by
  simp only [opV, aop, extractO]
  generalize ev e x = p
  cases p with
  | none => rfl
  | some p => cases p <;> rfl
theorem extract_0 {a : Value} {r : List Value} : extractO 0 (some (.tuple (a :: r).toArray)) = some a := rfl
theorem extract_1 {a b : Value} {r : List Value} : extractO 1 (some (.tuple (a :: b :: r).toArray)) = some b := rfl
theorem extract_2 {a b c : Value} {r : List Value} : extractO 2 (some (.tuple (a :: b :: c :: r).toArray)) = some c := rfl
theorem extract_3 {a b c d : Value} {r : List Value} : extractO 3 (some (.tuple (a :: b :: c :: d :: r).toArray)) = some d := rfl
def storeO (n : Nat) (a x : Option Value) (h : Heap) : Option (Value × Heap) :=
  match a, x with
  | some (.pointer (some ⟨b, o, none⟩)), some v => if (vcells v).length = n then (h.wr b o (vcells v)).map fun h' => (undef, h') else none
  | _, _ => none
theorem op_store {n : Nat} : opV nocall (.store n x y) e h = storeO n (ev e x) (ev e y) h := rfl
theorem store_ptr {n b o : Nat} : storeO n (some (.pointer (some ⟨b, o, none⟩))) (some v) h = if (vcells v).length = n then (h.wr b o (vcells v)).map fun h' => (undef, h') else none := rfl
def slcO (esz : Nat) (x : Option Value) (lo hi : Option Int) : Option Value :=
  match x with
  | some (.slice p len _) => match lo, hi with
    | some lo, some hi => if 0 ≤ lo ∧ lo ≤ hi ∧ hi ≤ len then
        match p with
        | none => some (.slice none 0 0)
        | some ⟨b, o, none⟩ => some (.slice (some ⟨b, o + lo.toNat * esz, none⟩) (hi.toNat - lo.toNat) (hi.toNat - lo.toNat))
        | _ => none
      else none
    | _, _ => none
  | _ => none
theorem op_slc {esz : Nat} {lo hi : Option Operand} : opV nocall (.slc esz x lo hi) e h = (match ev e x with
    | some (.slice p len c) => slcO esz (some (.slice p len c)) (boundI e 0 lo) (boundI e len hi)
    | _ => none).map (·, h) := by
  simp only [opV, aop, slcO]
  generalize ev e x = p
  cases p with
  | none => rfl
  | some p =>
    cases p with
    | slice a len c =>
      simp only
      cases boundI e 0 lo with
      | none => rfl
      | some lo => cases boundI e len hi with
        | none => rfl
        | some hi =>
          simp only
          split
          · cases a with
            | none => rfl
            | some a => obtain ⟨b, o, s⟩ := a; cases s <;> rfl
          · rfl
    | _ => rfl
theorem bound_none {d : Nat} : boundI e d none = some (d : Int) := rfl
def boundV (x : Option Value) : Option Int :=
  match x with
  | some (.int _ n) => some n
  | _ => none
theorem bound_some {d : Nat} : boundI e d (some x) = boundV (ev e x) := by
  simp only [boundI, boundV]
  generalize ev e x = p
  cases p with
  | none => rfl
  | some p => cases p <;> rfl
theorem bound_int {k : IntKind} {n : Int} : boundV (some (.int k n)) = some n := rfl
/-- A part of a list. -/
def part (esz : Nat) (p : Option Addr) (i n : Nat) : Value :=
  match p with
  | none => .slice none 0 0
  | some a => .slice (some ⟨a.block, a.off + i * esz, none⟩) n n
theorem slc_nat {esz : Nat} {p : Option Addr} {n c i j : Nat} (hp : ∀ a, p = some a → a.spot = none) (h1 : i ≤ j) (h2 : j ≤ n) : slcO esz (some (.slice p n c)) (some (i : Int)) (some (j : Int)) = some (part esz p i (j - i)) := by
  simp only [slcO]
  rw [if_pos ⟨by omega, by omega, by omega⟩]
  cases p with
  | none => rfl
  | some a =>
    obtain ⟨b, o, s⟩ := a
    have := hp _ rfl
    simp only at this; subst this
    simp [part]
theorem op_bslice {esz len : Nat} {z : List Value} {ps : List (Nat × Nat × Operand)} : opV nocall (.bslice esz len z ps) e h = ((evps e ps).bind (fillA z)).map fun c => (.slice (some ⟨h.size, 0, none⟩) len len, h.push (.cells c (some esz))) := by
  simp only [opV, aop]
  cases evps e ps with
  | none => rfl
  | some vs => rfl
theorem evps_nil : evps e [] = some [] := rfl
theorem evps_cons {o s : Nat} {r : List (Nat × Nat × Operand)} : evps e ((o, s, x) :: r) = (ev e x).bind fun v => (evps e r).map ((o, s, v) :: ·) := rfl
theorem fill_nil {z : List Value} : fillA z [] = some z := rfl
/-- What append does. -/
def appendO (esz bytes : Nat) (s x : Option Value) (h : Heap) : Option (Value × Heap) :=
  match s, x with
  | some s, some x => opV nocall (.append esz bytes (.const s) (.const x)) [] h
  | _, _ => none
theorem op_append {esz bytes : Nat} : opV nocall (.append esz bytes x y) e h = appendO esz bytes (ev e x) (ev e y) h := by
  unfold appendO
  cases hx : ev e x with
  | none => simp only [opV, aop, hx]
  | some s =>
    cases hy : ev e y with
    | none => simp only [opV, aop, hx, hy]
    | some q => simp only [opV, aop, hx, hy, ev_const]
theorem append_none {esz bytes : Nat} {p q : Option Addr} {n c c' : Nat} : appendO esz bytes (some (.slice p n c)) (some (.slice q 0 c')) h = some (.slice p n c, h) := by
  simp [appendO, opV, aop, ev]
/-- To a slice of one's own. -/
theorem append_own {esz bytes : Nat} {b qb qo n c m c' : Nat} {old new : List Value} (hm : m ≠ 0) (h1 : (n + m) * bytes ≤ limit) (h2 : n + m ≤ limit) (hr : h.rd qb qo (m * esz) = some new) (hc : new.all cellOk = true)
    (hg : h.get b = some (.cells old (some esz))) (hl : old.length = n * esz) (hp : h.prot ≤ b) (hz : 0 < esz) :
    appendO esz bytes (some (.slice (some ⟨b, 0, none⟩) n c)) (some (.slice (some ⟨qb, qo, none⟩) m c')) h = some (.slice (some ⟨h.size, 0, none⟩) (n + m) (n + m), (h.set b .dead).push (.cells (old ++ new) (some esz))) := by
  simp only [appendO, opV, aop, ev]
  rw [if_neg hm, if_pos ⟨h1, h2⟩]
  simp only [hr, hc, if_true, hg]
  rw [if_pos ⟨trivial, hl, hp, hz⟩]
/-- To none. -/
theorem append_nil' {esz bytes : Nat} {qb qo m c' : Nat} {new : List Value} (hm : m ≠ 0) (h1 : (0 + m) * bytes ≤ limit) (h2 : 0 + m ≤ limit) (hr : h.rd qb qo (m * esz) = some new) (hc : new.all cellOk = true) :
    appendO esz bytes (some (.slice none 0 0)) (some (.slice (some ⟨qb, qo, none⟩) m c')) h = some (.slice (some ⟨h.size, 0, none⟩) m m, h.push (.cells new (some esz))) := by
  simp only [appendO, opV, aop, ev]
  rw [if_neg hm, if_pos ⟨h1, h2⟩]
  simp only [hr, hc, if_true]
end ops

/-- All rules together. -/
theorem evr :
    (type_of% @nil_ev) ∧
    (type_of% @cons_in) ∧
    (type_of% @cons_bar) ∧
    (type_of% @cons_open) ∧
    (type_of% @seqE_some) ∧
    (type_of% @putI_some) ∧
    (type_of% @putI_none) ∧
    (type_of% @put_s) ∧
    (type_of% @put_n) ∧
    (type_of% @condI_true) ∧
    (type_of% @condI_false) ∧
    (type_of% @condI_false0) ∧
    (type_of% @backI_some) ∧
    (type_of% @wp_wp) ∧
    (type_of% @wp_self) ∧
    (type_of% @wp_push) ∧
    (type_of% @wp_cell) ∧
    (type_of% @wp_rd) ∧
    (type_of% @wp_get) ∧
    (type_of% @wp_size) ∧
    (type_of% @wp_prot) ∧
    (type_of% @wanted_none) ∧
    (type_of% @wanted_some) ∧
    (type_of% @wantB_bool) ∧
    (type_of% @wantB_undef) ∧
    (type_of% @get_same) ∧
    (type_of% @get_ne) ∧
    (type_of% @ev_tmp) ∧
    (type_of% @ev_const) ∧
    (type_of% @ev_func) ∧
    (type_of% @keep_nil) ∧
    (type_of% @keep_cons) ∧
    (type_of% @keepC_some) ∧
    (type_of% @evs_nil) ∧
    (type_of% @evs_cons) ∧
    (type_of% @arg_nil) ∧
    (type_of% @arg_cons) ∧
    (type_of% @op_mv) ∧
    (type_of% @op_pick) ∧
    (type_of% @pick_true) ∧
    (type_of% @pick_false) ∧
    (type_of% @op_alloc) ∧
    (type_of% @op_box) ∧
    (type_of% @op_bin) ∧
    (type_of% @bin_some) ∧
    (type_of% @b_add) ∧
    (type_of% @b_sub) ∧
    (type_of% @b_mul) ∧
    (type_of% @b_quo) ∧
    (type_of% @b_rem) ∧
    (type_of% @b_eql) ∧
    (type_of% @b_neq) ∧
    (type_of% @b_lss) ∧
    (type_of% @b_leq) ∧
    (type_of% @b_gtr) ∧
    (type_of% @b_geq) ∧
    (type_of% @b_seq) ∧
    (type_of% @b_sneq) ∧
    (type_of% @op_un) ∧
    (type_of% @un_not) ∧
    (type_of% @un_neg) ∧
    (type_of% @op_eqv) ∧
    (type_of% @eq_bool) ∧
    (type_of% @eq_ptr0) ∧
    (type_of% @eq_ptr) ∧
    (type_of% @eq_sl) ∧
    (type_of% @eq_map) ∧
    (type_of% @eq_func) ∧
    (type_of% @eq_func0) ∧
    (type_of% @op_conv) ∧
    (type_of% @conv_int) ∧
    (type_of% @op_lenS) ∧
    (type_of% @op_lenL) ∧
    (type_of% @len_str) ∧
    (type_of% @len_sl) ∧
    (type_of% @op_iaddr) ∧
    (type_of% @iaddr_nat) ∧
    (type_of% @op_load1) ∧
    (type_of% @load1_ptr) ∧
    (type_of% @op_loadN) ∧
    (type_of% @loadN_ptr) ∧
    (type_of% @op_nilc) ∧
    (type_of% @nilc_ptr) ∧
    (type_of% @nilc_fn) ∧
    (type_of% @nilc_yield) ∧
    (type_of% @op_faddr) ∧
    (type_of% @faddr_ptr) ∧
    (type_of% @op_extract) ∧
    (type_of% @extract_0) ∧
    (type_of% @extract_1) ∧
    (type_of% @extract_2) ∧
    (type_of% @extract_3) ∧
    (type_of% @op_store) ∧
    (type_of% @store_ptr) ∧
    (type_of% @op_slc) ∧
    (type_of% @bound_none) ∧
    (type_of% @bound_some) ∧
    (type_of% @bound_int) ∧
    (type_of% @op_bslice) ∧
    (type_of% @evps_nil) ∧
    (type_of% @evps_cons) ∧
    (type_of% @fill_nil) ∧
    (type_of% @op_append) ∧
    (type_of% @append_none) ∧
    (type_of% @Option.map_some) ∧
    (type_of% @Option.bind_some) ∧
    (type_of% @bq_t) ∧
    (type_of% @bq_f) ∧
    (type_of% @bq_t2) ∧
    (type_of% @bq_f2) ∧
    (type_of% @Bool.not_true) ∧
    (type_of% @Bool.not_false) ∧
    (type_of% @decide_true) ∧
    (type_of% @decide_false) ∧
    (type_of% @cond_true) ∧
    (type_of% @cond_false) ∧
    (type_of% @Nat.zero_add) ∧
    (type_of% @eq_self) :=
  ⟨@nil_ev, @cons_in, @cons_bar, @cons_open, @seqE_some, @putI_some, @putI_none, @put_s, @put_n, @condI_true, @condI_false, @condI_false0, @backI_some, @wp_wp, @wp_self, @wp_push, @wp_cell, @wp_rd, @wp_get, @wp_size, @wp_prot, @wanted_none, @wanted_some, @wantB_bool, @wantB_undef, @get_same, @get_ne, @ev_tmp, @ev_const, @ev_func, @keep_nil, @keep_cons, @keepC_some, @evs_nil, @evs_cons, @arg_nil, @arg_cons, @op_mv, @op_pick, @pick_true, @pick_false, @op_alloc, @op_box, @op_bin, @bin_some, @b_add, @b_sub, @b_mul, @b_quo, @b_rem, @b_eql, @b_neq, @b_lss, @b_leq, @b_gtr, @b_geq, @b_seq, @b_sneq, @op_un, @un_not, @un_neg, @op_eqv, @eq_bool, @eq_ptr0, @eq_ptr, @eq_sl, @eq_map, @eq_func, @eq_func0, @op_conv, @conv_int, @op_lenS, @op_lenL, @len_str, @len_sl, @op_iaddr, @iaddr_nat, @op_load1, @load1_ptr, @op_loadN, @loadN_ptr, @op_nilc, @nilc_ptr, @nilc_fn, @nilc_yield, @op_faddr, @faddr_ptr, @op_extract, @extract_0, @extract_1, @extract_2, @extract_3, @op_store, @store_ptr, @op_slc, @bound_none, @bound_some, @bound_int, @op_bslice, @evps_nil, @evps_cons, @fill_nil, @op_append, @append_none, @Option.map_some, @Option.bind_some, @bq_t, @bq_f, @bq_t2, @bq_f2, @Bool.not_true, @Bool.not_false, @decide_true, @decide_false, @cond_true, @cond_false, @Nat.zero_add, @eq_self⟩

section
variable {prog : AProg} {ro : Option Nat} {e' : Env} {h' : Heap} {Q : Pst} {k : List Kt}
/-- Operations without calls. -/
theorem at_ev (hl : evL nocall d l e h = some (e', h')) (hw : At prog ro k .norm e' h' Q) : At prog ro (.c (.ops d l) :: k) .norm e h Q := at_all hl hw
/-- The same, behind a call. -/
theorem at_evr (hl : evL nocall d l e h = some (e', h')) (hw : At prog ro k .norm e' h' Q) : At prog ro (.o d l :: k) .norm e h Q := at_rest hl hw
/-- The same, ahead of a call. -/
theorem at_evn (n : Nat) (hl : evL nocall d (l.take n) e h = some (e', h')) (hw : At prog ro (.o d (l.drop n) :: k) .norm e' h' Q) : At prog ro (.o d l :: k) .norm e h Q := by
  have := at_run (prog := prog) (ro := ro) (k := k) (Q := Q) (r := l.drop n) hl hw
  rwa [List.take_append_drop] at this
end
end Go.AM
