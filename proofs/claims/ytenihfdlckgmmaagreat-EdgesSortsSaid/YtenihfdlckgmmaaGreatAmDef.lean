/- A part of the abstract machine, or of what is proved of the program by it. -/
import GoSem.Step
import GoSem.Core.View
namespace Go.AM
set_option linter.unusedSimpArgs false
set_option linter.unusedVariables false

inductive Tr (α:Type) where
  | nil
  | node (o:Option α) (l r:Tr α)

def Tr.get {α:Type}:Tr α→Nat→Option α
  | .nil,_=>none
  | .node o l r,n=>match n with
    | 0=>o
    | n + 1=>bif n % 2 == 0 then l.get (n / 2) else r.get (n / 2)

def Tr.setF {α:Type}:Nat→Tr α→Nat→α→Tr α
  | 0,t,_,_=>t
  | f + 1,t,n,x =>
    let (o,l,r):=match t with
      | .nil=>(none,.nil,.nil)
      | .node o l r=>(o,l,r)
    match n with
    | 0=>.node (some x) l r
    | n + 1=>bif n % 2 == 0 then .node o (setF f l (n / 2) x) r else .node o l (setF f r (n / 2) x)

def Tr.set {α:Type} (t:Tr α) (n:Nat) (x:α):Tr α:=Tr.setF (n + 1) t n x

theorem Tr.get_nil {α:Type} (n:Nat):(Tr.nil:Tr α).get n=none:=by cases n <;> rfl

theorem Tr.get_node_nil {α:Type} (m:Nat):(Tr.node none Tr.nil Tr.nil:Tr α).get m=none:=by
  cases m with
  | zero=>rfl
  | succ m=>simp only [Tr.get,Tr.get_nil];cases (m % 2 == 0) <;> rfl

theorem Tr.get_setF {α:Type}:∀ (f:Nat) (t:Tr α) (n m:Nat) (x:α),n < f→(Tr.setF f t n x).get m=if m=n then some x else t.get m:=by
  intro f
  induction f with
  | zero=>intro t n m x h;omega
  | succ f ih =>
    intro t n m x h
    have key:∀ (o:Option α) (l r:Tr α),(Tr.setF (f + 1) (.node o l r) n x).get m=if m=n then some x else (Tr.node o l r).get m:=by
      intro o l r
      cases n with
      | zero =>
        cases m with
        | zero=>simp [Tr.get,Tr.setF]
        | succ m=>simp [Tr.get,Tr.setF]
      | succ n =>
        rw [Tr.setF]
        cases hn:(n % 2 == 0) with
        | true =>
          simp only [cond_true]
          cases m with
          | zero=>simp [Tr.get]
          | succ m =>
            simp only [Tr.get]
            cases hm:(m % 2 == 0) with
            | true =>
              simp only [cond_true,ih _ _ _ _ (show n / 2 < f by omega)]
              simp at hn hm
              by_cases q:m=n
              · subst q;simp
              · have:m / 2≠n / 2:=by omega
                simp [q,this]
            | false =>
              simp at hn hm
              have q:m≠n:=by omega
              simp [q]
        | false =>
          simp only [cond_false]
          cases m with
          | zero=>simp [Tr.get]
          | succ m =>
            simp only [Tr.get]
            cases hm:(m % 2 == 0) with
            | true =>
              simp at hn hm
              have q:m≠n:=by omega
              simp [q]
            | false =>
              simp only [cond_false,ih _ _ _ _ (show n / 2 < f by omega)]
              simp at hn hm
              by_cases q:m=n
              · subst q;simp
              · have:m / 2≠n / 2:=by omega
                simp [q,this]
    cases t with
    | nil =>
      have:=key none .nil .nil
      rw [Tr.get_node_nil] at this
      rw [Tr.get_nil]
      exact this
    | node o l r=>exact key o l r

theorem Tr.get_set {α:Type} (t:Tr α) (n m:Nat) (x:α):(t.set n x).get m=if m=n then some x else t.get m:=Tr.get_setF _ _ _ _ _ (Nat.lt_succ_self n)

abbrev Env:=List (Nat × Value)

/-- A key's shape: a scalar of a kind (0 bool, 1 number, 2 text), or a struct of such. -/
inductive KS where
  | one (k:Nat)
  | many (ks:List Nat)

inductive AOp where
  | mv (x:Operand)
  | pick (c a b:Operand)
  | alloc (z:List Value)
  | box (x:Operand)
  | build (z:List Value) (ps:List (Nat × Nat × Operand))
  | bslice (esz len:Nat) (z:List Value) (ps:List (Nat × Nat × Operand))
  | load1 (a:Operand)
  | loadN (n:Nat) (a:Operand)
  | store (n:Nat) (a x:Operand)
  | nilc (x:Operand)
  | bin (op:BinOp) (x y:Operand)
  | eqv (k:Nat) (neg:Bool) (x y:Operand)
  | eqA (ks:List Nat) (neg:Bool) (x y:Operand)
  | un (op:UnOp) (x:Operand)
  | conv (k:IntKind) (x:Operand)
  | convS (x:Operand)
  | convSB (x:Operand)
  | convBS (x:Operand)
  | mkf (fn:FuncId) (first captured:List Operand)
  | mkmap
  | mkslice (esz bytes:Nat) (z:List Value) (l c:Operand)
  | slc (esz:Nat) (x:Operand) (lo hi:Option Operand)
  | slcS (x:Operand) (lo hi:Option Operand)
  | slcV (len esz:Nat) (x:Operand) (lo hi:Option Operand)
  | faddr (off:Nat) (x:Operand)
  | field1 (off:Nat) (x:Operand)
  | fieldN (off n:Nat) (x:Operand)
  | iaddr (esz:Nat) (x i:Operand)
  | iaddrA (len esz:Nat) (x i:Operand)
  | idxS (x i:Operand)
  | idxA1 (len:Nat) (x i:Operand)
  | idxAN (len esz:Nat) (x i:Operand)
  | lookup (s:KS) (z:Value) (ok:Bool) (m k:Operand)
  | mapupd (s:KS) (m k v:Operand)
  | mapent (s:KS) (z:Value) (m k:Operand)
  | entst (m t v:Operand)
  | extract (i:Nat) (x:Operand)
  | len (k:Nat) (x:Operand)
  | append (esz bytes:Nat) (s x:Operand)
  | appS (bytes:Nat) (s x:Operand)
  | copy (esz:Nat) (d s:Operand)
  | clear (z:List Value) (x:Operand)
  | max (l:List Operand)
  | min (l:List Operand)
  | call (f:Operand) (args:List Operand)

structure AI where
  dst:Option Nat
  op:AOp
  guard:Option (Nat × Bool)
  bar:Bool

inductive ACode where
  | skip
  | ops (draw:Bool) (l:List AI)
  | opsA (ap:List (Nat × Nat)) (l:List AI)
  | opsK (ks ap:List (Nat × Nat)) (l:List AI)
  | seq (a b:ACode)
  | cond (c:Operand) (t e:ACode)
  | block (id:Nat) (b:ACode)
  | loop (b:ACode)
  | rfun (f:Operand) (ps:List Nat) (asg body:ACode)
  | exit (id:Nat)
  | ret
  | keep (l:List Nat)

inductive AX where
  | norm
  | exit (id:Nat)
  | ret
  deriving DecidableEq

inductive LSt where
  | ready|busy|done
  deriving DecidableEq

structure ARec where
  ps:List Nat
  asg:ACode
  body:ACode
  env:Env
  st:LSt
  pend:Option AX

inductive AObj where
  | cells (c:List Value) (own:Option Nat)
  | map (es:List (Value × Value))
  | loop (r:ARec)
  | dead

structure Heap where
  size:Nat
  objs:Tr AObj
  prot:Nat

namespace Heap
def get (h:Heap) (b:Nat):Option AObj:=h.objs.get b
def push (h:Heap) (o:AObj):Heap:=⟨h.size + 1,h.objs.set h.size o,h.prot⟩
def set (h:Heap) (b:Nat) (o:AObj):Heap:=⟨h.size,h.objs.set b o,h.prot⟩
def withProt (h:Heap) (n:Nat):Heap:=⟨h.size,h.objs,n⟩
def empty:Heap:=⟨0,.nil,0⟩

theorem get_push (h:Heap) (o:AObj) (b:Nat):(h.push o).get b=if b=h.size then some o else h.get b:=Tr.get_set _ _ _ _
theorem get_set (h:Heap) (o:AObj) (b c:Nat):(h.set c o).get b=if b=c then some o else h.get b:=Tr.get_set _ _ _ _
@[simp] theorem size_push (h:Heap) (o:AObj):(h.push o).size=h.size + 1:=rfl
@[simp] theorem size_set (h:Heap) (b:Nat) (o:AObj):(h.set b o).size=h.size:=rfl
@[simp] theorem prot_push (h:Heap) (o:AObj):(h.push o).prot=h.prot:=rfl
@[simp] theorem prot_set (h:Heap) (b:Nat) (o:AObj):(h.set b o).prot=h.prot:=rfl
@[simp] theorem get_withProt (h:Heap) (n b:Nat):(h.withProt n).get b=h.get b:=rfl
@[simp] theorem size_withProt (h:Heap) (n:Nat):(h.withProt n).size=h.size:=rfl
@[simp] theorem prot_withProt (h:Heap) (n:Nat):(h.withProt n).prot=n:=rfl

/-- A cell of which nothing is known. -/
def isJ:Value→Bool
  | .chan none=>true
  | _=>false

/-- The cells of a block from a place on. -/
def rd (h:Heap) (b o n:Nat):Option (List Value) :=
  match h.get b with
  | some (.cells c _)=>if o + n≤c.length∧((c.drop o).take n).all (fun v=>!isJ v)=true then some ((c.drop o).take n) else none
  | _=>none

def cell (h:Heap) (b o:Nat):Option Value :=
  match h.get b with
  | some (.cells c _)=>match c[o]? with
    | some v=>bif isJ v then none else some v
    | none=>none
  | _=>none
end Heap

/-- May a cell hold it? -/
def cellOk:Value→Bool
  | .agg _|.tuple _=>false
  | _=>true

/-- Cells written over others. -/
def splice (c:List Value) (o:Nat) (vs:List Value):List Value:=c.take o++vs++c.drop (o + vs.length)

def Heap.wr (h:Heap) (b o:Nat) (vs:List Value):Option Heap :=
  match h.get b with
  | some (.cells c (some z))=>if h.prot≤b∧o + vs.length≤c.length∧vs.all cellOk=true then some (h.set b (.cells (splice c o vs) (some z))) else none
  | _=>none

def vcells:Value→List Value
  | .agg cs=>cs.toList
  | v=>[v]

def Env.get:Env→Nat→Option Value
  | [],_=>none
  | (k,v)::r,t=>bif k == t then some v else Env.get r t

def ev (e:Env):Operand→Option Value
  | .tmp t=>Env.get e t
  | .const v=>some v
  | .global _=>none
  | .func f=>some (.func (.func f) #[] #[])

def evs (e:Env):List Operand→Option (List Value)
  | []=>some []
  | x::r=>(ev e x).bind fun v=>(evs e r).map (v::·)

def put (e:Env):Option Nat→Value→Env
  | none,_=>e
  | some d,v=>(d,v)::e

/-- A string's bytes, as cells. -/
def bytesL (s:ByteArray):List Value:=s.data.toList.map fun b=>.int .u8 b.toNat
def keepE (e:Env):List Nat→Env
  | []=>[]
  | t::r=>match Env.get e t with
    | some v=>(t,v)::keepE e r
    | none=>keepE e r

def ibits (op:BinOp) (k:IntKind) (a b:Int):Option Value :=
  let x:=BitVec.ofInt k.bits a
  let y:=BitVec.ofInt k.bits b
  match op with
  | .and=>some (.int k (k.wrap (x &&& y).toNat))
  | .or=>some (.int k (k.wrap (x ||| y).toNat))
  | .xor=>some (.int k (k.wrap (x ^^^ y).toNat))
  | .andNot=>some (.int k (k.wrap (x &&& ~~~y).toNat))
  | _=>none

def ibin (op:BinOp) (k:IntKind) (a b:Int):Option Value :=
  match op with
  | .add=>some (.int k (k.wrap (a + b)))
  | .sub=>some (.int k (k.wrap (a - b)))
  | .mul=>some (.int k (k.wrap (a * b)))
  | .quo=>if b=0 then none else some (.int k (k.wrap (a.tdiv b)))
  | .rem=>if b=0 then none else some (.int k (a.tmod b))
  | .eql=>some (.bool (a == b))
  | .neq=>some (.bool (a != b))
  | .lss=>some (.bool (decide (a < b)))
  | .leq=>some (.bool (decide (a≤b)))
  | .gtr=>some (.bool (decide (a > b)))
  | .geq=>some (.bool (decide (a ≥ b)))
  | _=>ibits op k a b

def sbin (op:BinOp) (x y:ByteArray):Option Value :=
  match op with
  | .add=>if ((x.size + y.size:Nat):Int) > 9223372036854775807 then none else some (.string (x++y))
  | .eql=>some (.bool (x.toList == y.toList))
  | .neq=>some (.bool !(x.toList == y.toList))
  | .lss=>some (.bool (Op.bytesLess x.toList y.toList))
  | .leq=>some (.bool (Op.bytesLess x.toList y.toList || x.toList == y.toList))
  | .gtr=>some (.bool !(Op.bytesLess x.toList y.toList || x.toList == y.toList))
  | .geq=>some (.bool !(Op.bytesLess x.toList y.toList))
  | _=>none

def binV (op:BinOp) (x y:Value):Option Value :=
  match x,y with
  | .int k a,.int k' b =>
    match op with
    | .shl=>if b < 0 then none else some (.int k (k.wrap (a * 2 ^ (Nat.min b.toNat k.bits))))
    | .shr=>if b < 0 then none else some (.int k (a.fdiv (2 ^ (Nat.min b.toNat k.bits))))
    | _=>if k=k' then ibin op k a b else none
  | .string a,.string b=>sbin op a b
  | _,_=>none

/-- Equality of what is no struct: of bools (0), and of pointers, slices, maps and functions with nil (1 to 4). -/
def eq1:Nat→Value→Value→Option Bool
  | 0,.bool a,.bool b=>some (a == b)
  | 1,.pointer none,.pointer b=>some b.isNone
  | 1,.pointer (some _),.pointer none=>some false
  | 2,.slice none _ _,.slice b _ _=>some b.isNone
  | 2,.slice (some _) _ _,.slice none _ _=>some false
  | 3,.map none,.map b=>some b.isNone
  | 3,.map (some _),.map none=>some false
  | 4,.nilFunc,.nilFunc=>some true
  | 4,.nilFunc,.func _ _ _=>some false
  | 4,.func _ _ _,.nilFunc=>some false
  | _,_,_=>none

def eqs:Nat→Value→Value→Option Bool
  | 0,.bool a,.bool b=>some (a == b)
  | 1,.int k a,.int k' b=>if k=k' then some (a == b) else none
  | 2,.string a,.string b=>some (a.toList == b.toList)
  | _,_,_=>none

/-- Cells that are numbers, bools and texts, one by one. -/
def eqCells:List Nat→List Value→List Value→Option Bool
  | [],[],[]=>some true
  | k::ks,x::xs,y::ys=>(eqs k x y).bind fun b=>(eqCells ks xs ys).map fun c=>b && c
  | _,_,_=>none

/-- Equality of a map's keys. -/
def eqK (s:KS) (x y:Value):Option Bool :=
  match s with
  | .one k=>eqs k x y
  | .many ks=>match x,y with
    | .agg x,.agg y=>eqCells ks x.toList y.toList
    | _,_=>none

def unV (op:UnOp) (x:Value):Option Value :=
  match op,x with
  | .neg,.int k n=>some (.int k (k.wrap (0 - n)))
  | .xor,.int k n=>ibits .xor k (if k.signed then -1 else k.max) n
  | .not,.bool b=>some (.bool !b)
  | _,_=>none

def minmaxF (mx:Bool) (k:IntKind):Int→List Value→Option Value
  | acc,[]=>some (.int k acc)
  | acc,.int k' b::r=>if k=k' then minmaxF mx k (bif mx then (if b > acc then b else acc) else (if b < acc then b else acc)) r else none
  | _,_=>none

def minmax (mx:Bool):List Value→Option Value
  | .int k a::r=>minmaxF mx k a r
  | _=>none

/-- Parts laid into cells. -/
def fillA (z:List Value):List (Nat × Nat × Value)→Option (List Value)
  | []=>some z
  | (off,size,v)::r=>if (vcells v).length=size∧off + size≤z.length then fillA (splice z off (vcells v)) r else none

def evps (e:Env):List (Nat × Nat × Operand)→Option (List (Nat × Nat × Value))
  | []=>some []
  | (o,s,x)::r=>(ev e x).bind fun v=>(evps e r).map ((o,s,v)::·)

/-- A place in a map. -/
def findM (s:KS) (k:Value):List (Value × Value)→Option (Option Value)
  | []=>some none
  | (k',v)::r=>match eqK s k k' with
    | some true=>some (some v)
    | some false=>findM s k r
    | none=>none

def updM (s:KS) (k v:Value):List (Value × Value)→Option (List (Value × Value))
  | []=>some [(k,v)]
  | (k',v')::r=>match eqK s k k' with
    | some true=>some ((k,v)::r)
    | some false=>(updM s k v r).map ((k',v')::·)
    | none=>none

/-- The entry of a key, laid where there is none: its place, its value, and the entries. -/
def entM (s:KS) (k z:Value):List (Value × Value)→Option (Nat × Value × List (Value × Value))
  | []=>some (0,z,[(k,z)])
  | (k',v')::r=>match eqK s k k' with
    | some true=>some (0,v',(k,v')::r)
    | some false=>(entM s k z r).map fun (i,v,r')=>(i + 1,v,(k',v')::r')
    | none=>none

def scal:Value→Bool
  | .bool _|.int _ _|.string _=>true
  | _=>false

/-- Has a key its shape? -/
def keyOk (s:KS) (x:Value):Bool:=(eqK s x x).isSome

def boundI (e:Env) (d:Nat):Option Operand→Option Int
  | none=>some d
  | some x=>match ev e x with
    | some (.int _ n)=>some n
    | _=>none

def limit:Nat:=1099511627776

/-- Cells that are bytes. -/
def u8s:List Value→Option (List Int)
  | []=>some []
  | .int .u8 n::r=>(u8s r).map (n::·)
  | _=>none
/-- A text of bytes. -/
def textOf (ns:List Int):ByteArray:=ns.foldl (fun r n=>r.push (UInt8.ofNat n.toNat)) ByteArray.empty
/-- Cells put behind a row. -/
def appTo (esz bytes:Nat) (p:Option Addr) (n c m:Nat) (new:List Value) (h:Heap):Option (Value × Heap) :=
  if m=0 then some (.slice p n c,h)
  else if (n + m) * bytes≤limit∧n + m≤limit then
    match p with
    | none=>if n=0 then some (.slice (some ⟨h.size,0,none⟩) m m,h.push (.cells new (some esz))) else none
    | some ⟨b,0,none⟩=>match h.get b with
      | some (.cells old (some z))=>if z=esz∧old.length=n * esz∧h.prot≤b∧0 < esz then
          some (.slice (some ⟨h.size,0,none⟩) (n + m) (n + m),(h.set b .dead).push (.cells (old++new) (some esz))) else none
      | _=>none
    | _=>none
  else none

def aop (op:AOp) (e:Env) (h:Heap):Option (Value × Heap) :=
  match op with
  | .mv x=>(ev e x).map (·,h)
  | .pick c a b=>match ev e c with
    | some (.bool true)=>(ev e a).map (·,h)
    | some (.bool false)=>(ev e b).map (·,h)
    | _=>none
  | .alloc z=>some (.pointer (some ⟨h.size,0,none⟩),h.push (.cells z (some 0)))
  | .box x=>match ev e x with
    | some v=>some (.pointer (some ⟨h.size,0,none⟩),h.push (.cells (vcells v) (some 0)))
    | none=>none
  | .build z ps=>(evps e ps).bind fun vs=>(fillA z vs).map fun c=>(.agg c.toArray,h)
  | .bslice esz len z ps=>(evps e ps).bind fun vs=>(fillA z vs).map fun c=>(.slice (some ⟨h.size,0,none⟩) len len,h.push (.cells c (some esz)))
  | .load1 a=>match ev e a with
    | some (.pointer (some ⟨b,o,none⟩))=>(h.cell b o).map (·,h)
    | _=>none
  | .loadN n a=>match ev e a with
    | some (.pointer (some ⟨b,o,none⟩))=>(h.rd b o n).map fun c=>(.agg c.toArray,h)
    | _=>none
  | .store n a x=>match ev e a,ev e x with
    | some (.pointer (some ⟨b,o,none⟩)),some v=>if (vcells v).length=n then (h.wr b o (vcells v)).map fun h'=>(undef,h') else none
    | _,_=>none
  | .nilc x=>match ev e x with
    | some (.pointer (some a))=>some (.pointer (some a),h)
    | some (.func (.func f) x y)=>some (.func (.func f) x y,h)
    | some (.func (.yield l) x y)=>some (.func (.yield l) x y,h)
    | _=>none
  | .bin op x y=>match ev e x,ev e y with
    | some a,some b=>(binV op a b).map (·,h)
    | _,_=>none
  | .eqv k neg x y=>match ev e x,ev e y with
    | some a,some b=>(eq1 k a b).map fun r=>(.bool (bif neg then !r else r),h)
    | _,_=>none
  | .eqA ks neg x y=>match ev e x,ev e y with
    | some (.agg a),some (.agg b)=>(eqCells ks a.toList b.toList).map fun r=>(.bool (bif neg then !r else r),h)
    | _,_=>none
  | .un op x=>match ev e x with
    | some a=>(unV op a).map (·,h)
    | _=>none
  | .conv k x=>match ev e x with
    | some (.int _ n)=>some (.int k (k.wrap n),h)
    | _=>none
  | .convS x=>match ev e x with
    | some (.string s)=>some (.string s,h)
    | _=>none
  | .convSB x=>match ev e x with
    | some (.string s)=>some (.slice (some ⟨h.size,0,none⟩) s.size s.size,h.push (.cells (bytesL s) (some 1)))
    | _=>none
  | .convBS x=>match ev e x with
    | some (.slice p n _)=>if n=0 then some (.string .empty,h) else match p with
      | some ⟨b,o,none⟩=>match h.rd b o n with
        | some cs=>(u8s cs).map fun ns=>(.string (textOf ns),h)
        | none=>none
      | _=>none
    | _=>none
  | .mkf fn a b=>(evs e a).bind fun x=>(evs e b).map fun y=>(.func (.func fn) x.toArray y.toArray,h)
  | .mkmap=>some (.map (some h.size),h.push (.map []))
  | .mkslice esz bytes z l c=>match ev e l,ev e c with
    | some (.int _ l),some (.int _ c) =>
      if 0≤l∧l≤c∧c.toNat * bytes≤limit∧c.toNat≤limit then some (.slice (some ⟨h.size,0,none⟩) l.toNat c.toNat,h.push (.cells ((List.replicate l.toNat z).flatten) (some esz))) else none
    | _,_=>none
  | .slc esz x lo hi=>match ev e x with
    | some (.slice p len _)=>match boundI e 0 lo,boundI e len hi with
      | some lo,some hi=>if 0≤lo∧lo≤hi∧hi≤len then
          match p with
          | none=>some (.slice none 0 0,h)
          | some ⟨b,o,none⟩=>some (.slice (some ⟨b,o + lo.toNat * esz,none⟩) (hi.toNat - lo.toNat) (hi.toNat - lo.toNat),h)
          | _=>none
        else none
      | _,_=>none
    | _=>none
  | .slcS x lo hi=>match ev e x with
    | some (.string s)=>match boundI e 0 lo,boundI e s.size hi with
      | some lo,some hi=>if 0≤lo∧lo≤hi∧hi≤s.size then some (.string (s.extract lo.toNat hi.toNat),h) else none
      | _,_=>none
    | _=>none
  | .slcV len esz x lo hi=>match ev e x with
    | some (.pointer (some ⟨b,o,none⟩))=>match h.get b with
      | some (.cells c (some z))=>match boundI e 0 lo,boundI e len hi with
        | some lo,some hi=>if 0≤lo∧lo≤hi∧hi≤len∧o + len * esz≤c.length∧z≤esz then
            some (.slice (some ⟨b,o + lo.toNat * esz,none⟩) (hi.toNat - lo.toNat) (hi.toNat - lo.toNat),h)
          else none
        | _,_=>none
      | _=>none
    | _=>none
  | .faddr off x=>match ev e x with
    | some (.pointer (some ⟨b,o,none⟩))=>some (.pointer (some ⟨b,o + off,none⟩),h)
    | _=>none
  | .field1 off x=>match ev e x with
    | some (.agg cs)=>(cs.toList[off]?).map (·,h)
    | _=>none
  | .fieldN off n x=>match ev e x with
    | some (.agg cs)=>if off + n≤cs.toList.length then some (.agg ((cs.toList.drop off).take n).toArray,h) else none
    | _=>none
  | .iaddr esz x i=>match ev e x,ev e i with
    | some (.slice (some ⟨b,o,none⟩) len _),some (.int _ i)=>if 0≤i∧i < len then some (.pointer (some ⟨b,o + i.toNat * esz,none⟩),h) else none
    | _,_=>none
  | .iaddrA len esz x i=>match ev e x,ev e i with
    | some (.pointer (some ⟨b,o,none⟩)),some (.int _ i)=>if 0≤i∧i < len then some (.pointer (some ⟨b,o + i.toNat * esz,none⟩),h) else none
    | _,_=>none
  | .idxS x i=>match ev e x,ev e i with
    | some (.string s),some (.int _ i)=>if 0≤i then (s[i.toNat]?).map fun b=>(.int .u8 b.toNat,h) else none
    | _,_=>none
  | .idxA1 len x i=>match ev e x,ev e i with
    | some (.agg cs),some (.int _ i)=>if 0≤i∧i < len then (cs.toList[i.toNat]?).map (·,h) else none
    | _,_=>none
  | .idxAN len esz x i=>match ev e x,ev e i with
    | some (.agg cs),some (.int _ i)=>if 0≤i∧i < len∧i.toNat * esz + esz≤cs.toList.length then some (.agg ((cs.toList.drop (i.toNat * esz)).take esz).toArray,h) else none
    | _,_=>none
  | .lookup s z ok m k=>match ev e m,ev e k with
    | some (.map r),some k =>
      if keyOk s k=true then
        match (match r with|none=>some []|some r=>match h.get r with|some (.map es)=>some es|_=>none) with
        | some es=>match findM s k es with
          | some (some v)=>some (bif ok then .tuple #[v,.bool true] else v,h)
          | some none=>some (bif ok then .tuple #[z,.bool false] else z,h)
          | none=>none
        | none=>none
      else none
    | _,_=>none
  | .mapupd s m k v=>match ev e m,ev e k,ev e v with
    | some (.map (some r)),some k,some v=>match h.get r with
      | some (.map es)=>if h.prot≤r∧keyOk s k=true then (updM s k v es).map fun es'=>(undef,h.set r (.map es')) else none
      | _=>none
    | _,_,_=>none
  | .mapent s z m k=>match ev e m,ev e k with
    | some (.map (some r)),some k=>match h.get r with
      | some (.map es)=>if h.prot≤r∧keyOk s k=true then (entM s k z es).map fun (i,v,es')=>(.tuple #[v,.int .i64 i],h.set r (.map es')) else none
      | _=>none
    | _,_=>none
  | .entst m t v=>match ev e m,ev e t,ev e v with
    | some (.map (some r)),some (.int .i64 (.ofNat n)),some u=>match h.get r with
      | some (.map es)=>match es[n]? with
        | some x=>if h.prot≤r then some (undef,h.set r (.map (es.set n (x.1,u)))) else none
        | none=>none
      | _=>none
    | _,_,_=>none
  | .extract i x=>match ev e x with
    | some (.tuple vs)=>(vs.toList[i]?).map (·,h)
    | _=>none
  | .len k x=>match k,ev e x with
    | 0,some (.string s)=>some (.int .i64 s.size,h)
    | 1,some (.slice _ n _)=>some (.int .i64 n,h)
    | 2,some (.map none)=>some (.int .i64 0,h)
    | 2,some (.map (some r))=>match h.get r with
      | some (.map es)=>some (.int .i64 es.length,h)
      | _=>none
    | _,_=>none
  | .append esz bytes s x=>match ev e s,ev e x with
    | some (.slice p n c),some (.slice q m c') =>
      if m=0 then some (.slice p n c,h)
      else if (n + m) * bytes≤limit∧n + m≤limit then
        match q with
        | some ⟨qb,qo,none⟩=>match h.rd qb qo (m * esz) with
          | some new=>if new.all cellOk=true then match p with
            | none=>if n=0 then some (.slice (some ⟨h.size,0,none⟩) m m,h.push (.cells new (some esz))) else none
            | some ⟨b,0,none⟩=>match h.get b with
              | some (.cells old (some z))=>if z=esz∧old.length=n * esz∧h.prot≤b∧0 < esz then
                  some (.slice (some ⟨h.size,0,none⟩) (n + m) (n + m),(h.set b .dead).push (.cells (old++new) (some esz))) else none
              | _=>none
            | some ⟨_,_,some _⟩=>if n=0 then some (.slice (some ⟨h.size,0,none⟩) m m,h.push (.cells new (some esz))) else none
            | _=>none
            else none
          | none=>none
        | _=>none
      else none
    | _,_=>none
  | .appS bytes s x=>match ev e s,ev e x with
    | some (.slice p n c),some (.string u)=>appTo 1 bytes p n c u.size (bytesL u) h
    | _,_=>none
  | .copy esz d s=>match ev e d,ev e s with
    | some (.slice p n _),some (.slice q m _) =>
      if Nat.min m n=0 then some (.int .i64 0,h)
      else match p,q with
        | some ⟨b,o,none⟩,some ⟨qb,qo,none⟩=>match h.rd qb qo (Nat.min m n * esz) with
          | some c=>(h.wr b o c).map fun h'=>(.int .i64 (Nat.min m n),h')
          | none=>none
        | _,_=>none
    | _,_=>none
  | .clear z x=>match ev e x with
    | some (.slice p n _)=>if n=0 then some (.tuple #[],h) else match p with
      | some ⟨b,o,none⟩=>(h.wr b o ((List.replicate n z).flatten)).map fun h'=>(.tuple #[],h')
      | _=>none
    | _=>none
  | .max l=>(evs e l).bind fun vs=>(minmax true vs).map (·,h)
  | .min l=>(evs e l).bind fun vs=>(minmax false vs).map (·,h)
  | .call _ _=>none

/-- Is an operation done? -/
def wanted (e:Env):Option (Nat × Bool)→Option Bool
  | none=>some true
  | some (s,b)=>match Env.get e s with
    | some (.bool x)=>some (x == b)
    | some _=>some false
    | none=>none

abbrev CallT:=Fn→List Value→Heap→Option (Value × Heap)

def opV (call:CallT) (op:AOp) (e:Env) (h:Heap):Option (Value × Heap) :=
  match op with
  | .call f args=>match ev e f,evs e args with
    | some (.func fn first captured),some vs=>call fn (first.toList++vs++captured.toList) h
    | _,_=>none
  | op=>aop op e h

def evI (call:CallT) (i:AI) (e:Env) (h:Heap):Option (Env × Heap) :=
  match wanted e i.guard with
  | some true=>(opV call i.op e h).map fun (v,h')=>(put e i.dst v,h')
  | some false=>some (put e i.dst undef,h)
  | none=>none

/-- One that stands in a region whose order is open: it writes nothing that was there, unless its place is fixed. -/
def evID (call:CallT) (i:AI) (e:Env) (h:Heap):Option (Env × Heap) :=
  bif i.bar then evI call i e h else (evI call i e (h.withProt h.size)).map fun (e',h')=>(e',h'.withProt h.prot)

def evL (call:CallT) (draw:Bool):List AI→Env→Heap→Option (Env × Heap)
  | [],e,h=>some (e,h)
  | i::r,e,h=>match (bif draw then evID call i e h else evI call i e h) with
    | some (e',h')=>evL call draw r e' h'
    | none=>none

def loopN (f:Env→Heap→Option (AX × Env × Heap)):Nat→Env→Heap→Option (AX × Env × Heap)
  | 0,_,_=>none
  | n + 1,e,h=>match f e h with
    | some (.norm,e',h')=>loopN f n e' h'
    | r=>r

/-- Are what the ones point to and what the others point to unlike blocks, and the ones there from the beginning? -/
def apartE (n:Nat) (e:Env):List (Nat × Nat)→Bool
  | []=>true
  | (a,b)::r=>(match Env.get e a with
      | some (.pointer (some p))=>decide (p.block < n) && (match Env.get e b with
        | some (.pointer (some q))=>p.block != q.block
        | some (.slice (some q) _ _)=>p.block != q.block
        | _=>true)
      | _=>true) && apartE n e r

/-- Cells that are the same. -/
def veq:Value→Value→Bool
  | .bool a,.bool b=>a == b
  | .int k a,.int k' b=>decide (k=k') && a == b
  | .pointer a,.pointer b=>decide (a=b)
  | .slice p a b,.slice p' a' b'=>decide (p=p') && a == a' && b == b'
  | .map a,.map b=>decide (a=b)
  | .nilFunc,.nilFunc=>true
  | .func (.func k) a b,.func (.func k') a' b'=>k == k' && a.toList.isEmpty && a'.toList.isEmpty && b.toList.isEmpty && b'.toList.isEmpty
  | _,_=>false
def veqL:List Value→List Value→Bool
  | [],[]=>true
  | a::l,b::r=>veq a b && veqL l r
  | _,_=>false
def sameObj:Option AObj→Option AObj→Bool
  | some (.cells c w),some (.cells c' w')=>decide (w=w') && veqL c c'
  | _,_=>false
/-- Is what a slot points to there from the beginning, and the same? -/
def sameAt (m:Nat) (e:Env) (t:Nat) (h h':Heap):Bool:=match Env.get e t with
  | some (.pointer (some p))=>decide (p.block < m) && sameObj (h.get p.block) (h'.get p.block)
  | _=>true
/-- Do some of the operations leave as it is what some slots point to? -/
def keepsE (call:CallT) (l:List AI) (e:Env) (h:Heap):List (Nat × Nat)→Bool
  | []=>true
  | (j,t)::r=>(match evL call true (l.take j) e h,evL call true (l.take (j + 1)) e h with
    | some (e1,h1),some (_,h2)=>sameAt h.size e1 t h1 h2
    | _,_=>false) && keepsE call l e h r

/-- In a round of a loop: is its record there? -/
def roOk (h:Heap):Option Nat→Bool
  | none=>true
  | some l=>match h.get l with
    | some (.loop _)=>true
    | _=>false

def evC (call:CallT) (n:Nat) (ro:Option Nat):ACode→Env→Heap→Option (AX × Env × Heap)
  | .skip,e,h=>some (.norm,e,h)
  | .ops d l,e,h=>(evL call d l e h).map fun (e',h')=>(.norm,e',h')
  | .opsA ap l,e,h=>match evL call true l e h with
    | some (e',h')=>bif apartE h.size e' ap then some (.norm,e',h') else none
    | none=>none
  | .opsK ks ap l,e,h=>match evL call true l e h with
    | some (e',h')=>bif keepsE call l e h ks && apartE h.size e' ap then some (.norm,e',h') else none
    | none=>none
  | .seq a b,e,h=>match evC call n ro a e h with
    | some (.norm,e',h')=>evC call n ro b e' h'
    | r=>r
  | .cond c t f,e,h=>match ev e c with
    | some (.bool true)=>evC call n ro t e h
    | some (.bool false)=>evC call n ro f e h
    | _=>none
  | .block id b,e,h=>match evC call n ro b e h with
    | some (.exit i,e',h')=>bif i == id then some (.norm,e',h') else some (.exit i,e',h')
    | r=>r
  | .loop b,e,h=>loopN (evC call n ro b) n e h
  | .exit id,e,h=>some (.exit id,e,h)
  | .ret,e,h=>some (.ret,e,h)
  | .keep l,e,h=>some (.norm,keepE e l,h)
  | .rfun f ps asg body,e,h=>match ev e f with
    | some (.func (.func k) first captured) =>
      if h.prot≤h.size∧roOk h ro=true then
        match call (.func k) (first.toList++[.func (.yield h.size) #[] #[]]++captured.toList) (h.push (.loop ⟨ps,asg,body,e,.ready,none⟩)) with
        | some (_,h')=>match h'.get h.size with
          | some (.loop r)=>if r.st=.busy then none else some (r.pend.getD .norm,e,h'.set h.size .dead)
          | _=>none
        | none=>none
      else none
    | _=>none

inductive ARes where
  | tmp (t:Nat)
  | cell1 (a:Nat)
  | cellN (a n:Nat)

structure AFn where
  np:Nat
  res:List ARes
  body:ACode

def resV (e:Env) (h:Heap):ARes→Option Value
  | .tmp t=>Env.get e t
  | .cell1 a=>match Env.get e a with
    | some (.pointer (some ⟨b,o,none⟩))=>h.cell b o
    | _=>none
  | .cellN a n=>match Env.get e a with
    | some (.pointer (some ⟨b,o,none⟩))=>(h.rd b o n).map fun c=>.agg c.toArray
    | _=>none

def resL (e:Env) (h:Heap):List ARes→Option (List Value)
  | []=>some []
  | r::l=>(resV e h r).bind fun v=>(resL e h l).map (v::·)

def tupV:List Value→Value
  | [v]=>v
  | l=>.tuple l.toArray

def argEnv:Nat→List Value→Env
  | _,[]=>[]
  | k,v::r=>(k,v)::argEnv (k + 1) r

inductive ADef where
  | code (f:AFn)
  | oracle (o:List Value→Heap→Option (Value × Heap))

abbrev AProg:=FuncId→Option ADef

/-- The loop's variables, laid ahead. -/
def bindPs:List Nat→List Value→Env→Env
  | p::ps,v::vs,e=>bindPs ps vs ((p,v)::e)
  | _,_,e=>e

def runF (call:CallT) (n:Nat) (f:AFn) (args:List Value) (h:Heap):Option (Value × Heap) :=
  if args.length=f.np then
    match evC call n none f.body (argEnv 0 args) h with
    | some (.exit _,_,_)=>none
    | some (_,e,h')=>(resL e h' f.res).map fun vs=>(tupV vs,h')
    | none=>none
  else none

def runY (call:CallT) (n:Nat) (l:Nat) (args:List Value) (h:Heap):Option (Value × Heap) :=
  match h.get l with
  | some (.loop r) =>
    if r.st=.ready∧h.prot≤l∧args.length=r.ps.length then
      match evC call n (some l) r.asg (bindPs r.ps args r.env) h with
      | some (.norm,e1,h1)=>match h1.get l with
        | some (.loop r1)=>if r1.st=.ready∧h1.prot≤l then
            match evC call n (some l) r.body e1 (h1.set l (.loop { r1 with st:=.busy })) with
            | some (x,_,h3)=>match h3.get l with
              | some (.loop r3)=>match x with
                | .norm=>some (.bool true,h3.set l (.loop { r3 with st:=.ready,pend:=none }))
                | x=>some (.bool false,h3.set l (.loop { r3 with st:=.done,pend:=some x }))
              | _=>none
            | none=>none
          else none
        | _=>none
      | _=>none
    else none
  | _=>none

def callV (prog:AProg):Nat→CallT
  | 0,_,_,_=>none
  | n + 1,.func k,args,h=>match prog k with
    | some (.code f)=>runF (callV prog n) n f args h
    | some (.oracle o)=>o args h
    | none=>none
  | n + 1,.yield l,args,h=>runY (callV prog n) n l args h
  | _ + 1,_,_,_=>none

end Go.AM


namespace Go.AM
set_option linter.unusedSimpArgs false
set_option linter.unusedVariables false

/-- An operation that touches no heap. -/
def HeapFree (op:AOp) (e:Env):Prop:=∃ p:Option Value,∀ h,aop op e h=p.map (·,h)

/-- Which ones do? -/
def touches:AOp→Bool
  | .alloc _|.box _|.convSB _|.convBS _|.slcV ..|.appS ..|.bslice ..|.load1 _|.loadN ..|.store ..|.mkmap|.mkslice ..|.lookup ..|.mapupd ..|.mapent ..|.entst ..|.len ..|.append ..|.copy ..|.clear ..|.call ..=>true
  | _=>false

theorem heapFree {op:AOp} {e:Env} (ht:touches op=false):HeapFree op e:=by
  refine ⟨(aop op e Heap.empty).map (·.1),fun h=>?_⟩
  cases op <;> first|(exact Bool.noConfusion ht)|skip
  case mv x=>simp only [aop];cases ev e x <;> rfl
  case pick c a b => simp only [aop]; repeat' split
                     all_goals first|rfl|(cases ev e a <;> rfl)|(cases ev e b <;> rfl)
  case build z ps=>simp only [aop];cases evps e ps with
    | none=>rfl
    | some vs=>simp only [Option.bind_some];cases fillA z vs <;> rfl
  case nilc x => simp only [aop]; repeat' split
                 all_goals rfl
  case bin op x y => simp only [aop]; repeat' split
                     all_goals first|rfl|(rename_i a b _ _;cases binV op a b <;> rfl)
  case eqv k neg x y => simp only [aop]; repeat' split
                        all_goals first|rfl|(rename_i a b _ _;cases eq1 k a b <;> rfl)
  case eqA ks neg x y => simp only [aop]; repeat' split
                         all_goals first|rfl|(rename_i a b _ _;cases eqCells ks a.toList b.toList <;> rfl)
  case un op x => simp only [aop]; repeat' split
                  all_goals first|rfl|(rename_i a _;cases unV op a <;> rfl)
  case conv k x => simp only [aop]; repeat' split
                   all_goals rfl
  case convS x => simp only [aop]; repeat' split
                  all_goals rfl
  case mkf fn a b=>simp only [aop];cases evs e a with
    | none=>rfl
    | some x=>simp only [Option.bind_some];cases evs e b <;> rfl
  case slc esz x lo hi => simp only [aop]; repeat' split
                          all_goals rfl
  case slcS x lo hi => simp only [aop]; repeat' split
                       all_goals rfl
  case faddr off x => simp only [aop]; repeat' split
                      all_goals rfl
  case field1 off x => simp only [aop]; repeat' split
                       all_goals first|rfl|(rename_i cs _;cases cs.toList[off]? <;> rfl)
  case fieldN off n x => simp only [aop]; repeat' split
                         all_goals rfl
  case iaddr esz x i => simp only [aop]; repeat' split
                        all_goals rfl
  case iaddrA len esz x i => simp only [aop]; repeat' split
                             all_goals rfl
  case idxS x i => simp only [aop]; repeat' split
                   all_goals first|rfl|(rename_i s k i _ _ _;cases s[i.toNat]? <;> rfl)
  case idxA1 len x i => simp only [aop]; repeat' split
                        all_goals first|rfl|(rename_i cs k i _ _ _;cases cs.toList[i.toNat]? <;> rfl)
  case idxAN len esz x i => simp only [aop]; repeat' split
                            all_goals rfl
  case extract i x => simp only [aop]; repeat' split
                      all_goals first|rfl|(rename_i vs _;cases vs.toList[i]? <;> rfl)
  case max l=>simp only [aop];cases evs e l with
    | none=>rfl
    | some vs=>simp only [Option.bind_some];cases minmax true vs <;> rfl
  case min l=>simp only [aop];cases evs e l with
    | none=>rfl
    | some vs=>simp only [Option.bind_some];cases minmax false vs <;> rfl

end Go.AM

