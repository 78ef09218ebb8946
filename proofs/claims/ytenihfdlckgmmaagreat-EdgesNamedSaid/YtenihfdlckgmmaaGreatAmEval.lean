/- A part of the abstract machine, or of what is proved of the program by it. -/
import Derived.Test.YtenihfdlckgmmaaGreatAmLogic
namespace Go.AM
set_option linter.unusedVariables false
set_option linter.unusedSimpArgs false
variable {call:CallT} {d:Bool} {i:AI} {l:List AI} {e:Env} {h:Heap} {v:Value}

theorem put_s {k:Nat}:put e (some k) v=(k,v)::e:=rfl
theorem put_n:put e none v=e:=rfl
theorem get_same {k:Nat} {r:Env}:Env.get ((k,v)::r) k=some v:=by simp [Env.get]
theorem get_ne {k t:Nat} {r:Env} (hk:(k == t)=false):Env.get ((k,v)::r) t=Env.get r t:=by simp only [Env.get,hk,cond_false]
theorem keep_nil:keepE e []=[]:=rfl
def keepC (x:Option Value) (t:Nat) (r:Env):Env :=
  match x with
  | some v=>(t,v)::r
  | none=>r
theorem keep_cons {t:Nat} {r:List Nat}:keepE e (t::r)=keepC (Env.get e t) t (keepE e r):=rfl
theorem keepC_some {t:Nat} {r:Env}:keepC (some v) t r=(t,v)::r:=rfl
theorem arg_nil {k:Nat}:argEnv k []=[]:=rfl
theorem arg_cons {k:Nat} {r:List Value}:argEnv k (v::r)=(k,v)::argEnv (k + 1) r:=rfl

section ops
variable {x y z a b c:Operand}
section nums
variable {k k':IntKind} {p q:Int}
theorem b_add:binV .add (.int k p) (.int k q)=some (.int k (k.wrap (p + q))):=by simp [binV,ibin]
theorem b_sub:binV .sub (.int k p) (.int k q)=some (.int k (k.wrap (p - q))):=by simp [binV,ibin]
theorem b_mul:binV .mul (.int k p) (.int k q)=some (.int k (k.wrap (p * q))):=by simp [binV,ibin]
theorem b_quo:binV .quo (.int k p) (.int k q)=if q=0 then none else some (.int k (k.wrap (p.tdiv q))):=by simp [binV,ibin]
theorem b_rem:binV .rem (.int k p) (.int k q)=if q=0 then none else some (.int k (p.tmod q)):=by simp [binV,ibin]
theorem b_eql:binV .eql (.int k p) (.int k q)=some (.bool (p == q)):=by simp [binV,ibin]
theorem b_neq:binV .neq (.int k p) (.int k q)=some (.bool (p != q)):=by simp [binV,ibin]
theorem b_lss:binV .lss (.int k p) (.int k q)=some (.bool (decide (p < q))):=by simp [binV,ibin]
theorem b_leq:binV .leq (.int k p) (.int k q)=some (.bool (decide (p≤q))):=by simp [binV,ibin]
theorem b_gtr:binV .gtr (.int k p) (.int k q)=some (.bool (decide (p > q))):=by simp [binV,ibin]
theorem b_geq:binV .geq (.int k p) (.int k q)=some (.bool (decide (p ≥ q))):=by simp [binV,ibin]
theorem b_shr:binV .shr (.int k p) (.int k' q)=if q < 0 then none else some (.int k (p.fdiv (2 ^ (Nat.min q.toNat k.bits)))):=rfl
theorem b_seq {s t:ByteArray}:binV .eql (.string s) (.string t)=some (.bool (s.toList == t.toList)):=rfl
theorem b_sneq {s t:ByteArray}:binV .neq (.string s) (.string t)=some (.bool !(s.toList == t.toList)):=rfl
theorem b_sadd {s t:ByteArray}:binV .add (.string s) (.string t)=if ((s.size + t.size:Nat):Int) > 9223372036854775807 then none else some (.string (s++t)):=rfl
end nums
/-- A part of a list. -/
def part (esz:Nat) (p:Option Addr) (i n:Nat):Value :=
  match p with
  | none=>.slice none 0 0
  | some a=>.slice (some ⟨a.block,a.off + i * esz,none⟩) n n
end ops

section
variable {prog:AProg} {ro:Option Nat} {e':Env} {h':Heap} {Q:Pst} {k:List Kt}
end
end Go.AM

