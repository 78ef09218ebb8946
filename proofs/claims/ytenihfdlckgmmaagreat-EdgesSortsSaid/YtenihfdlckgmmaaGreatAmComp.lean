/- A part of the abstract machine, or of what is proved of the program by it. -/
import Derived.Test.YtenihfdlckgmmaaGreatAmDef
namespace Go.AM
set_option linter.unusedVariables false

/-- A constant without an address. -/
def closedV:Nat→Value→Bool
  | d + 1,.agg cs=>cs.toList.all (closedV d)
  | d + 1,.tuple cs=>cs.toList.all (closedV d)
  | _,.bool _|_,.int _ _|_,.string _|_,.pointer none|_,.nilFunc|_,.nilIface|_,.map none=>true
  | _,.slice none n c=>n == 0 && c == 0
  | _,_=>false

def okO:Operand→Bool
  | .tmp _|.func _=>true
  | .const v=>closedV 3 v
  | .global _=>false

def isAggT (P:Program) (t:TypeId):Option Bool :=
  match P.underlying t with
  | some (.struct _)|some (.array _ _)=>some true
  | some _=>some false
  | none=>none

def sizeT (P:Program) (t:TypeId):Option Nat:=(P.info? t).map (·.size)

def zeroT (P:Program) (t:TypeId):Option Value :=
  match P.info? t with
  | some i=>match i.zero with
    | some z=>if closedV 3 z && (vcells z).length == i.size then some z else none
    | none=>none
  | none=>none

def skindT (P:Program) (t:TypeId):Option Nat :=
  match P.underlying t with
  | some .bool=>some 0
  | some (.int _)=>some 1
  | some .string=>some 2
  | _=>none

def flatFrom (P:Program):Nat→List Field→Option (List Nat)
  | _,[]=>some []
  | j,f::r=>match skindT P f.type with
    | some k => if f.name != "_" && f.offset == j then (flatFrom P (j + 1) r).map (k :: ·) else none
    | none=>none

/-- A struct of fields of one cell each, numbers, bools and texts: their kinds. -/
def flatT (P:Program) (t:TypeId):Option (List Nat) :=
  match P.underlying t with
  | some (.struct fs)=>if P.stoodInHeld t then none else flatFrom P 0 fs.toList
  | _=>none

def keyT (P:Program) (t:TypeId):Option KS :=
  match skindT P t with
  | some k=>some (.one k)
  | none=>(flatT P t).map .many

def kindT (P:Program) (t:TypeId):Option Nat :=
  match P.underlying t with
  | some .bool=>some 0
  | some (.pointer _)=>some 1
  | some (.slice _)=>some 2
  | some (.map _ _)=>some 3
  | some (.func _ _ _)=>some 4
  | _=>none

def compParts (place:Nat→Option (Nat × Nat)):List (Nat × Operand)→Option (List (Nat × Nat × Operand))
  | []=>some []
  | (i,x)::r=>match place i with
    | some (o,s)=>if okO x then (compParts place r).map ((o,s,x)::·) else none
    | none=>none

def compFields (P:Program):List Field→Option (List (Nat × Nat))
  | []=>some []
  | f::r=>match sizeT P f.type with
    | some s=>(compFields P r).map ((f.offset,s)::·)
    | none=>none

/-- A row without room: none that stands in a block. -/
def noRoom:Value:=.slice (some ⟨0,0,some 0⟩) 0 0
def compOp (P:Program) (nr:Bool) (o:Op):Option AOp :=
  match o with
  | .move x|.assign x=>if okO x then some (.mv x) else none
  | .pick c a b=>if okO c && okO a && okO b then some (.pick c a b) else none
  | .alloc t=>(zeroT P t).map fun z=>.alloc (vcells z)
  | .box t x=>if okO x then some (.box x) else none
  | .build t ps=>match zeroT P t,P.underlying t with
    | some z,some (.struct fs)=>match compFields P fs.toList with
      | some pl=>(compParts (fun i=>pl[i]?) ps.toList).map fun q=>.build (vcells z) q
      | none=>none
    | some z,some (.array _ e)=>match sizeT P e with
      | some s=>(compParts (fun i=>some (i * s,s)) ps.toList).map fun q=>.build (vcells z) q
      | none=>none
    | _,_=>none
  | .buildSlice t len ps=>match P.underlying t with
    | some (.slice e)=>match sizeT P e,zeroT P e with
      | some s,some z=>if len * s≤2 ^ 24 then (compParts (fun i=>some (i * s,s)) ps.toList).map fun q=>bif nr && len == 0 && q.isEmpty then .mv (.const noRoom) else .bslice s len ((List.replicate len (vcells z)).flatten) q else none
      | _,_=>none
    | _=>none
  | .load t a=>if okO a then match isAggT P t,sizeT P t with
    | some true,some n=>some (.loadN n a)
    | some false,some _=>some (.load1 a)
    | _,_=>none else none
  | .store t a x=>if okO a && okO x then (sizeT P t).map fun n=>.store n a x else none
  | .nilCheck x=>if okO x then some (.nilc x) else none
  | .binOp op t x y _=>if okO x && okO y then
      match P.underlying t with
      | some (.int _)|some .string=>some (.bin op x y)
      | _=>match kindT P t with
        | some k=>match op with
          | .eql=>some (.eqv k false x y)
          | .neq=>some (.eqv k true x y)
          | _=>none
        | none=>match flatT P t with
          | some n=>if P.eqGuardType P.depth t then none else match op with
            | .eql=>some (.eqA n false x y)
            | .neq=>some (.eqA n true x y)
            | _=>none
          | none=>none
    else none
  | .unOp op t x=>if okO x then some (.un op x) else none
  | .convert s d x=>if okO x then match P.underlying s,P.underlying d with
    | some (.int _),some (.int k)=>some (.conv k x)
    | some .string,some .string=>some (.convS x)
    | some .string,some (.slice el)=>match P.underlying el with
      | some (.int .u8)=>some (.convSB x)
      | _=>none
    | some (.slice el),some .string=>match P.underlying el with
      | some (.int .u8)=>some (.convBS x)
      | _=>none
    | _,_=>none else none
  | .makeFunc (.func f) a b=>if a.toList.all okO && b.toList.all okO then some (.mkf f a.toList b.toList) else none
  | .makeMap t none=>some .mkmap
  | .makeSlice t l c=>match P.underlying t with
    | some (.slice e)=>match P.info? e,zeroT P e with
      | some i,some z=>if okO l && okO c then some (.mkslice i.size i.bytes (vcells z) l c) else none
      | _,_=>none
    | _=>none
  | .slice t x lo hi none=>if okO x && lo.all okO && hi.all okO then match P.underlying t with
      | some .string=>some (.slcS x lo hi)
      | some (.slice e)=>(sizeT P e).map fun s=>.slc s x lo hi
      | some (.array n e)=>(sizeT P e).map fun s=>.slcV n s x lo hi
      | _=>none
    else none
  | .fieldAddr t x f=>if okO x then match P.underlying t with
    | some (.struct fs)=>match fs[f]? with
      | some f=>match sizeT P f.type with
        | some (s + 1)=>some (.faddr f.offset x)
        | _=>none
      | none=>none
    | _=>none else none
  | .field t x f=>if okO x then match P.underlying t with
    | some (.struct fs)=>match fs[f]? with
      | some f=>match isAggT P f.type,sizeT P f.type with
        | some true,some s=>some (.fieldN f.offset s x)
        | some false,some _=>some (.field1 f.offset x)
        | _,_=>none
      | none=>none
    | _=>none else none
  | .indexAddr t x i=>if okO x && okO i then match P.underlying t with
    | some (.array n e)=>(sizeT P e).map fun s=>.iaddrA n s x i
    | some (.slice e)=>(sizeT P e).map fun s=>.iaddr s x i
    | _=>none else none
  | .index t x i=>if okO x && okO i then match P.underlying t with
    | some .string=>some (.idxS x i)
    | some (.array n e)=>match isAggT P e,sizeT P e with
      | some true,some s=>some (.idxAN n s x i)
      | some false,some 1=>some (.idxA1 n x i)
      | _,_=>none
    | _=>none else none
  | .lookup t m k ok=>if okO m && okO k then match P.underlying t with
    | some (.map kt e)=>match zeroT P e with
      | some z=>(keyT P kt).map fun s=>.lookup s z ok m k
      | none=>none
    | _=>none else none
  | .mapUpdate t m k v|.insert t m k v=>if okO m && okO k && okO v then match P.underlying t with
    | some (.map kt _)=>(keyT P kt).map fun s=>.mapupd s m k v
    | _=>none else none
  | .mapEntry t m k=>if okO m && okO k then match P.underlying t with
    | some (.map kt e)=>match zeroT P e with
      | some z=>(keyT P kt).map fun s=>.mapent s z m k
      | none=>none
    | _=>none else none
  | .entryStore t m s v=>if okO m && okO s && okO v then some (.entst m s v) else none
  | .extract x i=>if okO x then some (.extract i x) else none
  | .call ⟨.value f,args,_⟩=>if okO f && args.toList.all okO then some (.call f args.toList) else none
  | .call ⟨.builtin b,args,ts⟩=>if args.toList.all okO then match b,args.toList,ts.toList with
    | .len,[x],[t]=>match P.underlying t with
      | some .string=>some (.len 0 x)
      | some (.slice _)=>some (.len 1 x)
      | some (.map _ _)=>some (.len 2 x)
      | _=>none
    | .append,[s,x],[t,u]=>match P.underlying t,P.underlying u with
      | some (.slice e),some (.slice _)=>match P.info? e,zeroT P e with
        | some i,some _=>some (.append i.size i.bytes s x)
        | _,_=>none
      | some (.slice e),some .string=>match P.info? e,zeroT P e with
        | some i,some _=>if i.size=1 then some (.appS i.bytes s x) else none
        | _,_=>none
      | _,_=>none
    | .copy,[d,s],t::_=>match P.underlying t with
      | some (.slice e)=>(sizeT P e).map fun n=>.copy n d s
      | _=>none
    | .clear,[x],[t]=>match P.underlying t with
      | some (.slice e)=>(zeroT P e).map fun z=>.clear (vcells z) x
      | _=>none
    | .max,l,_=>some (.max l)
    | .min,l,_=>some (.min l)
    | _,_,_=>none
    else none
  | _=>none

def readsOf (ops:Array Oper) (o:Oper):List Tmp :=
  (o.op.operands.toList.filterMap fun|.tmp t=>some t|_=>none) ++
  (match o.guard with
   | some (g,_)=>((ops[g]?).bind (·.dst)).toList
   | none=>[])

/-- What must come ahead of each operation, through others too. -/
def beforeL (ops:List Oper):List (List Nat) :=
  ops.foldl (fun acc o=>acc++[(o.after.toList.flatMap fun e=>if Region.binds .any e then e.on::(acc.getD e.on []) else []).eraseDups]) []

def edgesOk (ops:Array Oper):Bool :=
  let b:=beforeL ops.toList
  ops.toList.zipIdx.all fun (o,j) =>
    (o.after.toList.all fun e=>!Region.binds .any e || decide (e.on < j)) &&
    (match o.guard with
     | some (g,_)=>decide (g < j) && ((ops[g]?).bind (·.dst)).isSome
     | none=>true) &&
    ((b.getD j []).all fun i=>o.after.toList.any fun e=>Region.binds .any e && (e.on == i || (b.getD e.on []).contains i)) &&
    (List.range j).all fun i =>
      match ops[i]? with
      | some p =>
        (match p.dst with
         | some d=>!((readsOf ops o).contains d || o.dst == some d)
         | none=>true) &&
        (match o.dst with
         | some d=>!((readsOf ops p).contains d)
         | none=>true) || (b.getD j []).contains i
      | none=>false

def barOf (b:List (List Nat)) (n j:Nat):Bool :=
  (List.range n).all fun i=>if i < j then (b.getD j []).contains i else if j < i then (b.getD i []).contains j else true

def AOp.opnds:AOp→List Operand
  | .mv x|.box x|.load1 x|.loadN _ x|.nilc x|.un _ x|.conv _ x|.convS x|.convSB x|.convBS x|.faddr _ x|.field1 _ x|.fieldN _ _ x|.extract _ x|.len _ x|.clear _ x=>[x]
  | .pick c a b=>[c,a,b]
  | .alloc _|.mkmap=>[]
  | .build _ ps|.bslice _ _ _ ps=>ps.map (·.2.2)
  | .store _ a x|.bin _ a x|.eqv _ _ a x|.eqA _ _ a x|.mkslice _ _ _ a x|.iaddr _ a x|.iaddrA _ _ a x|.idxS a x|.idxA1 _ a x|.idxAN _ _ a x|.lookup _ _ _ a x|.append _ _ a x|.appS _ a x|.copy _ a x=>[a,x]
  | .mkf _ a b=>a++b
  | .slc _ x lo hi|.slcS x lo hi|.slcV _ _ x lo hi=>x::(lo.toList++hi.toList)
  | .mapupd _ m k v=>[m,k,v]
  | .mapent _ _ m k=>[m,k]
  | .entst m t v=>[m,t,v]
  | .max l|.min l=>l
  | .call f as=>f::as

/-- The slots that an operation looks at. -/
def AI.reads (i:AI):List Nat:=(i.op.opnds.filterMap fun|.tmp t=>some t|_=>none)++(i.guard.map (·.1)).toList

def dstOk (N:Nat):Option Nat→Bool
  | some d=>decide (d < N)
  | none=>true

/-- The slot with the row that an append is of. -/
def appBase (o:Oper):Option Nat:=match o.op with
  | .call ⟨.builtin .append,args,_⟩=>match args.toList with
    | [.tmp t,_]=>some t
    | _=>none
  | _=>none
/-- Is it a row without anything, to which something is appended twice, beside a row of things that are written out? -/
def wantsNo (ops:Array Oper) (o:Oper):Bool:=match o.dst with
  | some d=>ops.toList.any (fun p=>appBase p == some d && (match p.dst with
      | some d2=>ops.toList.any fun q=>appBase q == some d2
      | none=>false)) && ops.toList.any (fun b=>match b.op with
      | .buildSlice _ len _=>len != 0
      | _=>false)
  | none=>false
def compAI (P:Program) (N:Nat) (ops:Array Oper) (bar:Bool) (o:Oper):Option AI :=
  if dstOk N o.dst then
    match compOp P (wantsNo ops o) o.op with
    | some op=>match o.guard with
      | none=>some ⟨o.dst,op,none,bar⟩
      | some (g,w)=>match (ops[g]?).bind (·.dst) with
        | some d=>some ⟨o.dst,op,some (d,w),bar⟩
        | none=>none
    | none=>none
  else none

/-- What is looked at is what the model's operations look at. -/
def readsOk (ops:Array Oper) (l:List AI):Bool :=
  l.zipIdx.all fun (i,j)=>match ops[j]? with
    | some o=>i.reads.all fun t=>(readsOf ops o).contains t
    | none=>false

def compL (P:Program) (N:Nat) (ops:Array Oper) (bars:Nat→Bool):Nat→List Oper→Option (List AI)
  | _,[]=>some []
  | j,o::r=>match compAI P N ops (bars j) o with
    | some i=>(compL P N ops bars (j + 1) r).map (i::·)
    | none=>none

def compR (P:Program) (N:Nat) (ops:Array Oper) (draw:Bool):Option (List AI) :=
  if draw then
    if edgesOk ops && P.follows .mixedOrders then
      match compL P N ops (barOf (beforeL ops.toList) ops.size) 0 ops.toList with
      | some l=>if readsOk ops l then some l else none
      | none=>none
    else none
  else compL P N ops (fun _=>false) 0 ops.toList

/-- What neither writes nor makes anything. -/
def soft:AOp→Bool
  | .alloc _|.box _|.convSB _|.convBS _|.slcV ..|.appS ..|.bslice ..|.store ..|.mkmap|.mkslice ..|.lookup ..|.mapupd ..|.mapent ..|.entst ..|.append ..|.copy ..|.clear ..|.call ..=>false
  | .len k _=>k != 2
  | .load1 (.tmp _)|.loadN _ (.tmp _)=>true
  | .load1 _|.loadN ..=>false
  | _=>true
/-- The slot with the address that is loaded from, or stored to. -/
def ldSlot:AOp→Option Nat
  | .load1 (.tmp t)|.loadN _ (.tmp t)=>some t
  | _=>none
def stSlot:AOp→Option Nat
  | .store _ (.tmp t) _=>some t
  | _=>none
def isStore:AOp→Bool
  | .store ..=>true
  | _=>false

def unord (b:List (List Nat)) (i j:Nat):Bool:=i != j && !(if i < j then (b.getD j []).contains i else (b.getD i []).contains j)

/-- One that has its place among all but what neither writes nor makes anything; where that loads, it is a store. -/
def hardOf (b:List (List Nat)) (l:List AI) (j:Nat):Bool :=
  match l[j]? with
  | some o=>!soft o.op && l.zipIdx.all fun (p,i)=>!unord b i j || (soft p.op && ((ldSlot p.op).isNone || (stSlot o.op).isSome))
  | none=>false

def setBars (f:Nat→Bool):Nat→List AI→List AI
  | _,[]=>[]
  | j,i::r=>{ i with bar:=f j }::setBars f (j + 1) r

/-- Nobody writes a slot from a place on. -/
def late (l:List AI) (i t:Nat):Bool:=l.zipIdx.all fun (p,q)=>decide (q < i) || p.dst != some t

def apOf (b:List (List Nat)) (l:List AI):List (Nat × Nat) :=
  l.zipIdx.flatMap fun (o,j)=>l.zipIdx.filterMap fun (p,i)=>match ldSlot p.op,stSlot o.op with
    | some tl,some ta=>if unord b i j && hardOf b l j then some (tl,ta) else none
    | _,_=>none
def apOk (b:List (List Nat)) (l:List AI):Bool :=
  l.zipIdx.all fun (o,j)=>l.zipIdx.all fun (p,i)=>match ldSlot p.op,stSlot o.op with
    | some tl,some ta=>!(unord b i j && hardOf b l j) || (late l i tl && late l j ta)
    | _,_=>true

def compRA (P:Program) (N:Nat) (ops:Array Oper):Option (List (Nat × Nat) × List AI) :=
  if edgesOk ops && P.follows .mixedOrders then
    match compL P N ops (fun _=>false) 0 ops.toList with
    | some l=>if readsOk ops l && apOk (beforeL ops.toList) l then some (apOf (beforeL ops.toList) l,setBars (hardOf (beforeL ops.toList) l) 0 l) else none
    | none=>none
  else none

/-- Functions that write what they are handed, and that are called where the order is open. -/
def writers : List String := ["(*coroner/pipe.Pipe[int]).Recv", "coroner/merge.put[int]", "coroner/serial.step"]
def callsK (P:Program) (ops:Array Oper):Bool:=ops.toList.any fun o=>match o.op with
  | .call ⟨.value (.func k),_,_⟩=>match P.funcs[k]? with
    | some f=>writers.contains f.name
    | none=>false
  | _=>false
def isCall:AOp→Bool
  | .call ..|.append ..|.appS ..|.copy ..|.clear ..|.mapupd ..|.mapent ..|.entst ..=>true
  | _=>false
def isWr:AOp→Bool
  | .call ..=>false
  | op=>isCall op
/-- The slot with the row that is appended to. -/
def baseSlot:AOp→Option Nat
  | .append _ _ (.tmp t) _=>some t
  | _=>none
/-- The like, where calls have their places too. -/
def hardOfK (b:List (List Nat)) (l:List AI) (j:Nat):Bool :=
  match l[j]? with
  | some o=>!soft o.op && l.zipIdx.all fun (p,i)=>!unord b i j || (soft p.op && match ldSlot p.op with
    | some t=>(stSlot o.op).isSome || (isCall o.op && decide (i < j) && late l i t) || (match baseSlot o.op with
      | some ta=>decide (j < i) && late l i t && late l j ta
      | none=>false)
    | none=>true)
  | none=>false
def apOfK (b:List (List Nat)) (l:List AI):List (Nat × Nat) :=
  l.zipIdx.flatMap fun (o,j)=>l.zipIdx.filterMap fun (p,i)=>match ldSlot p.op,stSlot o.op with
    | some tl,some ta=>if unord b i j && hardOfK b l j then some (tl,ta) else none
    | some tl,none=>match baseSlot o.op with
      | some ta=>if decide (j < i) && unord b i j && hardOfK b l j then some (tl,ta) else none
      | none=>none
    | _,_=>none
def apOkK (b:List (List Nat)) (l:List AI):Bool :=
  l.zipIdx.all fun (o,j)=>l.zipIdx.all fun (p,i)=>match ldSlot p.op,stSlot o.op with
    | some tl,some ta=>!(unord b i j && hardOfK b l j) || (late l i tl && late l j ta)
    | _,_=>true
def ksOf (b:List (List Nat)) (l:List AI):List (Nat × Nat) :=
  l.zipIdx.flatMap fun (o,j)=>l.zipIdx.filterMap fun (p,i)=>match ldSlot p.op with
    | some tl=>if isCall o.op && unord b i j && hardOfK b l j then some (j,tl) else none
    | none=>none
def compRK (P:Program) (N:Nat) (ops:Array Oper):Option (List (Nat × Nat) × List (Nat × Nat) × List AI) :=
  if edgesOk ops && P.follows .mixedOrders then
    match compL P N ops (fun _=>false) 0 ops.toList with
    | some l=>if readsOk ops l && apOkK (beforeL ops.toList) l then some (ksOf (beforeL ops.toList) l,apOfK (beforeL ops.toList) l,setBars (hardOfK (beforeL ops.toList) l) 0 l) else none
    | none=>none
  else none

def compC (P:Program) (N:Nat):Code→Option ACode
  | .skip=>some .skip
  | .region _ ops draw=>match compR P N ops draw with
    | some l=>if draw && (callsK P ops || l.any fun i=>!i.bar && isWr i.op) then (compRK P N ops).map fun (ks,ap,l)=>.opsK ks ap l
      else if draw && l.any (fun i=>!i.bar && isStore i.op) then (compRA P N ops).map fun (ap,l)=>.opsA ap l else some (.ops draw l)
    | none=>none
  | .seq a b=>match compC P N a,compC P N b with
    | some x,some y=>some (.seq x y)
    | _,_=>none
  | .cond c t e=>if okO c then match compC P N t,compC P N e with
    | some x,some y=>some (.cond c x y)
    | _,_=>none else none
  | .block id b=>(compC P N b).map (.block id)
  | .loop b=>(compC P N b).map .loop
  | .rangeFunc f ps asg body=>if okO f && ps.toList.all (fun t=>decide (t < N)) then match compC P N asg,compC P N body with
    | some x,some y=>some (.rfun f ps.toList x y)
    | _,_=>none else none
  | .exit id=>some (.exit id)
  | .ret=>some .ret
  | .label _=>some .skip
  | .scope b=>(compC P N b).map fun x=>.cond (.const (.bool true)) x .skip
  | _=>none

/-- Without what is dropped. -/
def erase:ACode→ACode
  | .seq a b=>match a,b with
    | .keep _,b=>erase b
    | a,.keep _=>erase a
    | a,b=>.seq (erase a) (erase b)
  | .cond c t e=>.cond c (erase t) (erase e)
  | .block id b=>.block id (erase b)
  | .loop b=>.loop (erase b)
  | .rfun f ps a b=>.rfun f ps (erase a) (erase b)
  | c=>c

def compRes (P:Program):List ResultVar→Option (List ARes)
  | []=>some []
  | .tmp t::r=>(compRes P r).map (.tmp t::·)
  | .cell a t::r=>match isAggT P t,sizeT P t with
    | some true,some n=>(compRes P r).map (.cellN a n::·)
    | some false,some _=>(compRes P r).map (.cell1 a::·)
    | _,_=>none

/-- A function, read: but for what is dropped. -/
def compF (P:Program) (fn:Func):Option AFn :=
  if fn.name == "runtime.NumGoroutine" then none
  else match fn.body with
    | some c=>match compC P fn.ntmps c,compRes P fn.results.toList with
      | some b,some r=>if fn.params.size + fn.nfree≤fn.ntmps then some ⟨fn.params.size + fn.nfree,r,b⟩ else none
      | _,_=>none
    | none=>none

/-- 'f' is function k of the program, read. -/
def Is (P:Program) (k:FuncId) (f:AFn):Prop:=(P.funcs[k]?).bind (compF P)=some { f with body:=erase f.body }

end Go.AM

