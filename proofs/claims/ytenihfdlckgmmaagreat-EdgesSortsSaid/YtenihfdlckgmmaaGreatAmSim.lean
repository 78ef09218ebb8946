/- A part of the abstract machine, or of what is proved of the program by it. -/
import Derived.Test.YtenihfdlckgmmaaGreatAmComp
import Derived.OrdersIn
import Derived.RangeFuncLeaves
import Derived.Laws.World
import Derived.Lib.TrailingZeros
namespace Go.AM
set_option linter.unusedVariables false
set_option linter.unusedSimpArgs false

structure BI where
  blk:Nat
  size:Nat
  esz:Nat

abbrev Inj:=Nat→Option BI

def Le (ι κ:Inj):Prop:=∀ b i,ι b=some i→κ b=some i
theorem Le.rfl (ι:Inj):Le ι ι:=fun _ _ h=>h
theorem Le.trans {ι κ μ:Inj} (h:Le ι κ) (k:Le κ μ):Le ι μ:=fun b i e=>k b i (h b i e)

/-- An abstract value, and the model's. -/
inductive V (ι:Inj):Value→Value→Prop where
  | bool (b:Bool):V ι (.bool b) (.bool b)
  | int (k:IntKind) (n:Int):V ι (.int k n) (.int k n)
  | str (s:ByteArray):V ι (.string s) (.string s)
  | ptr0:V ι (.pointer none) (.pointer none)
  | ptr {b o:Nat} {i:BI} (h:ι b=some i):V ι (.pointer (some ⟨b,o,none⟩)) (.pointer (some ⟨i.blk,o,none⟩))
  | sl0:V ι (.slice none 0 0) (.slice none 0 0)
  | sl {b o n c c':Nat} {i:BI} (h:ι b=some i) (hc:n≤c') (hs:o=0→c' * i.esz≤i.size) :
      V ι (.slice (some ⟨b,o,none⟩) n c) (.slice (some ⟨i.blk,o,none⟩) n c')
  | sle {a a':Addr} {c:Nat}:V ι (.slice (some a) 0 c) (.slice (some a') 0 0)
  | map0:V ι (.map none) (.map none)
  | map {b:Nat} {i:BI} (h:ι b=some i):V ι (.map (some b)) (.map (some i.blk))
  | nilFunc:V ι .nilFunc .nilFunc
  | nilIface:V ι .nilIface .nilIface
  | fn {k:FuncId} {f f' c c':List Value} (hf:f.length=f'.length) (hf':∀ (j:Nat) (a b:Value),f[j]? = some a→f'[j]? = some b→V ι a b)
      (hc:c.length=c'.length) (hc':∀ (j:Nat) (a b:Value),c[j]? = some a→c'[j]? = some b→V ι a b) :
      V ι (.func (.func k) f.toArray c.toArray) (.func (.func k) f'.toArray c'.toArray)
  | yield {l:Nat} {i:BI} (h:ι l=some i):V ι (.func (.yield l) #[] #[]) (.func (.yield i.blk) #[] #[])
  | agg {l l':List Value} (hl:l.length=l'.length) (h:∀ (j:Nat) (a b:Value),l[j]? = some a→l'[j]? = some b→V ι a b):V ι (.agg l.toArray) (.agg l'.toArray)
  | tup {l l':List Value} (hl:l.length=l'.length) (h:∀ (j:Nat) (a b:Value),l[j]? = some a→l'[j]? = some b→V ι a b):V ι (.tuple l.toArray) (.tuple l'.toArray)

def VL (ι:Inj) (l l':List Value):Prop:=l.length=l'.length∧∀ (j:Nat) (a b:Value),l[j]? = some a→l'[j]? = some b→V ι a b

theorem V.mono {ι κ:Inj} (h:Le ι κ) {a b:Value} (v:V ι a b):V κ a b:=by
  induction v with
  | bool b=>exact .bool b
  | int k n=>exact .int k n
  | str s=>exact .str s
  | ptr0=>exact .ptr0
  | ptr e=>exact .ptr (h _ _ e)
  | sl0=>exact .sl0
  | sl e hc hs=>exact .sl (h _ _ e) hc hs
  | sle=>exact .sle
  | map0=>exact .map0
  | map e=>exact .map (h _ _ e)
  | nilFunc=>exact .nilFunc
  | nilIface=>exact .nilIface
  | fn hf _ hc _ ih1 ih2=>exact .fn hf ih1 hc ih2
  | yield e=>exact .yield (h _ _ e)
  | agg hl _ ih=>exact .agg hl ih
  | tup hl _ ih=>exact .tup hl ih

theorem VL.mono {ι κ:Inj} (h:Le ι κ) {a b:List Value} (v:VL ι a b):VL κ a b:=⟨v.1,fun j x y hx hy=>(v.2 j x y hx hy).mono h⟩
theorem VL.nil (ι:Inj):VL ι [] []:=⟨rfl,fun _ _ _ h=>by simp at h⟩
theorem VL.cons {ι:Inj} {a b:Value} {l l':List Value} (h:V ι a b) (t:VL ι l l'):VL ι (a::l) (b::l'):=by
  refine ⟨by simp [t.1],fun j x y hx hy=>?_⟩
  cases j with
  | zero=>simp at hx hy;subst hx;subst hy;exact h
  | succ j=>simp at hx hy;exact t.2 j x y hx hy
theorem VL.inv {ι:Inj} {a:Value} {l l':List Value} (h:VL ι (a::l) l'):∃ b r,l'=b::r∧V ι a b∧VL ι l r:=by
  cases l' with
  | nil=>exact absurd h.1 (by simp)
  | cons b r=>exact ⟨b,r,rfl,h.2 0 _ _ rfl rfl,by have:=h.1;simp at this;exact this,fun j x y hx hy=>h.2 (j + 1) x y (by simpa using hx) (by simpa using hy)⟩
theorem VL.nil_inv {ι:Inj} {l':List Value} (h:VL ι [] l'):l'=[]:=List.length_eq_zero_iff.1 h.1.symm
theorem VL.get {ι:Inj} {l l':List Value} (h:VL ι l l') {j:Nat} {a:Value} (e:l[j]? = some a):∃ b,l'[j]? = some b∧V ι a b:=by
  have hj:j < l'.length:=by rw [← h.1];exact (List.getElem?_eq_some_iff.1 e).1
  exact ⟨l'[j],List.getElem?_eq_getElem hj,h.2 j _ _ e (List.getElem?_eq_getElem hj)⟩
theorem VL.append {ι:Inj} {a b c d:List Value} (h:VL ι a b) (k:VL ι c d):VL ι (a++c) (b++d):=by
  refine ⟨by simp [h.1,k.1],fun j x y hx hy=>?_⟩
  by_cases hj:j < a.length
  · rw [List.getElem?_append_left hj] at hx
    rw [List.getElem?_append_left (h.1 ▸ hj)] at hy
    exact h.2 j x y hx hy
  · rw [List.getElem?_append_right (by omega)] at hx
    rw [List.getElem?_append_right (by have:=h.1;omega),← h.1] at hy
    exact k.2 _ x y hx hy
theorem VL.take {ι:Inj} {a b:List Value} (h:VL ι a b) (n:Nat):VL ι (a.take n) (b.take n):=by
  refine ⟨by simp [h.1],fun j x y hx hy=>?_⟩
  rw [List.getElem?_take] at hx hy
  split at hx
  · exact h.2 j x y hx (by simpa [*] using hy)
  · simp at hx
theorem VL.drop {ι:Inj} {a b:List Value} (h:VL ι a b) (n:Nat):VL ι (a.drop n) (b.drop n):=by
  refine ⟨by simp [h.1],fun j x y hx hy=>?_⟩
  rw [List.getElem?_drop] at hx hy
  exact h.2 _ x y hx hy
theorem VL.splice {ι:Inj} {a b c d:List Value} (h:VL ι a b) (k:VL ι c d) (o:Nat):VL ι (splice a o c) (splice b o d):=by
  unfold AM.splice
  rw [k.1]
  exact ((h.take o).append k).append (h.drop _)
theorem VL.single {ι:Inj} {a b:Value} (h:V ι a b):VL ι [a] [b]:=VL.cons h (VL.nil ι)
theorem VL.replicate {ι:Inj} {a b:List Value} (h:VL ι a b) (n:Nat):VL ι (List.replicate n a).flatten (List.replicate n b).flatten:=by
  induction n with
  | zero=>exact VL.nil ι
  | succ n ih=>simp only [List.replicate_succ,List.flatten_cons];exact h.append ih

/-- The beginning of the model's cells. -/
def VP (ι:Inj) (l l':List Value):Prop:=l.length≤l'.length∧VL ι l (l'.take l.length)

theorem VP.of {ι:Inj} {l l':List Value} (h:VL ι l l'):VP ι l l':=⟨by rw [h.1];exact Nat.le_refl _,by rw [h.1,List.take_length];exact h⟩
theorem VP.mono {ι κ:Inj} (h:Le ι κ) {a b:List Value} (v:VP ι a b):VP κ a b:=⟨v.1,v.2.mono h⟩
theorem VP.get {ι:Inj} {l l':List Value} (h:VP ι l l') {j:Nat} {a:Value} (e:l[j]? = some a):∃ b,l'[j]? = some b∧V ι a b:=by
  obtain ⟨b,hb,hv⟩:=h.2.get e
  rw [List.getElem?_take] at hb
  split at hb
  · exact ⟨b,hb,hv⟩
  · simp at hb
theorem VP.sub {ι:Inj} {l l':List Value} (h:VP ι l l') (o n:Nat) (hn:o + n≤l.length):VL ι ((l.drop o).take n) ((l'.drop o).take n):=by
  have h1:=(h.2.drop o).take n
  rw [List.drop_take,List.take_take] at h1
  rwa [Nat.min_eq_left (by omega)] at h1
/-- The like, but for what is not known. -/
def VJ (ι:Inj) (l l':List Value):Prop:=l.length≤l'.length∧∀ (j:Nat) (a b:Value),l[j]? = some a→l'[j]? = some b→Heap.isJ a=false→V ι a b
theorem VP.toJ {ι:Inj} {l l':List Value} (h:VP ι l l'):VJ ι l l':=⟨h.1,fun j a b ha hb _=>by
  obtain ⟨b',h1,h2⟩:=h.get ha
  rw [hb] at h1;cases h1;exact h2⟩
theorem VJ.mono {ι κ:Inj} (h:Le ι κ) {a b:List Value} (v:VJ ι a b):VJ κ a b:=⟨v.1,fun j x y hx hy hj=>(v.2 j x y hx hy hj).mono h⟩
theorem VJ.get {ι:Inj} {l l':List Value} (h:VJ ι l l') {j:Nat} {a:Value} (e:l[j]? = some a) (hj:Heap.isJ a=false):∃ b,l'[j]? = some b∧V ι a b:=by
  have hlt:j < l.length:=(List.getElem?_eq_some_iff.1 e).1
  have:=h.1
  exact ⟨l'[j],List.getElem?_eq_getElem (by omega),h.2 j _ _ e (List.getElem?_eq_getElem (by omega)) hj⟩
theorem VJ.sub {ι:Inj} {l l':List Value} (h:VJ ι l l') (o n:Nat) (hn:o + n≤l.length) (hj:((l.drop o).take n).all (fun v=>!Heap.isJ v)=true):VL ι ((l.drop o).take n) ((l'.drop o).take n):=by
  have:=h.1
  refine ⟨by simp;omega,fun j a b ha hb=>?_⟩
  have hja:=List.all_eq_true.1 hj a (List.mem_of_getElem? ha)
  rw [List.getElem?_take] at ha hb
  split at ha
  · rename_i hlt
    rw [if_pos hlt] at hb
    rw [List.getElem?_drop] at ha hb
    exact h.2 _ _ _ ha hb (by simpa using hja)
  · cases ha
def VPo (own:Option Nat) (ι:Inj) (l l':List Value):Prop :=
  match own with
  | some _=>VP ι l l'
  | none=>VJ ι l l'
theorem VPo.mono {own:Option Nat} {ι κ:Inj} (h:Le ι κ) {a b:List Value} (v:VPo own ι a b):VPo own κ a b:=by
  cases own with
  | none=>exact VJ.mono h v
  | some z=>exact VP.mono h v
theorem VPo.toJ {own:Option Nat} {ι:Inj} {a b:List Value} (v:VPo own ι a b):VJ ι a b:=by
  cases own with
  | none=>exact v
  | some z=>exact VP.toJ v
theorem VP.splice {ι:Inj} {l l' c d:List Value} (h:VP ι l l') (k:VL ι c d) (o:Nat) (hn:o + c.length≤l.length):VP ι (AM.splice l o c) (AM.splice l' o d):=by
  have hl:(AM.splice l o c).length=l.length:=by simp [AM.splice];omega
  have hl':(AM.splice l' o d).length=l'.length:=by have:=h.1;have:=k.1;simp [AM.splice];omega
  refine ⟨by rw [hl,hl'];exact h.1,?_⟩
  have h2:=h.2.splice k o
  rw [hl]
  have e:AM.splice (l'.take l.length) o d=(AM.splice l' o d).take l.length:=by
    have:=h.1;have:=k.1
    unfold AM.splice
    rw [List.take_append,List.take_append]
    simp only [List.length_append,List.length_take]
    rw [List.take_take,List.take_take,Nat.min_eq_left (by omega),Nat.min_eq_right (by omega)]
    rw [List.take_of_length_le (l:=d) (by omega),List.drop_take]
    congr 2
    omega
  rw [← e];exact h2

theorem V.agg' {ι:Inj} {l l':List Value} (h:VL ι l l'):V ι (.agg l.toArray) (.agg l'.toArray):=.agg h.1 h.2
theorem V.tup' {ι:Inj} {l l':List Value} (h:VL ι l l'):V ι (.tuple l.toArray) (.tuple l'.toArray):=.tup h.1 h.2
theorem V.undef {ι:Inj}:V ι Go.undef Go.undef:=.tup (l:=[]) (l':=[]) rfl (fun _ _ _ h=>by simp at h)

theorem V.closed {ι:Inj}:∀ (d:Nat) (v:Value),closedV d v=true→V ι v v:=by
  intro d
  induction d with
  | zero =>
    intro v h
    cases v with
    | bool b=>exact .bool b
    | int k n=>exact .int k n
    | string s=>exact .str s
    | pointer a=>cases a with
      | none=>exact .ptr0
      | some a=>simp [closedV] at h
    | slice a n c=>cases a with
      | none=>simp [closedV] at h;obtain ⟨rfl,rfl⟩:=h;exact .sl0
      | some a=>simp [closedV] at h
    | map r=>cases r with
      | none=>exact .map0
      | some a=>simp [closedV] at h
    | nilFunc=>exact .nilFunc
    | nilIface=>exact .nilIface
    | _=>simp [closedV] at h
  | succ d ih =>
    intro v h
    cases v with
    | bool b=>exact .bool b
    | int k n=>exact .int k n
    | string s=>exact .str s
    | pointer a=>cases a with
      | none=>exact .ptr0
      | some a=>simp [closedV] at h
    | slice a n c=>cases a with
      | none=>simp [closedV] at h;obtain ⟨rfl,rfl⟩:=h;exact .sl0
      | some a=>simp [closedV] at h
    | map r=>cases r with
      | none=>exact .map0
      | some a=>simp [closedV] at h
    | nilFunc=>exact .nilFunc
    | nilIface=>exact .nilIface
    | agg cs =>
      simp only [closedV,List.all_eq_true] at h
      refine V.agg (l:=cs.toList) (l':=cs.toList) rfl (fun j a b ha hb=>?_)
      rw [ha] at hb;cases hb
      exact ih a (h a (List.mem_of_getElem? ha))
    | tuple cs =>
      simp only [closedV,List.all_eq_true] at h
      refine V.tup (l:=cs.toList) (l':=cs.toList) rfl (fun j a b ha hb=>?_)
      rw [ha] at hb;cases hb
      exact ih a (h a (List.mem_of_getElem? ha))
    | _=>simp [closedV] at h

theorem VL.closed {ι:Inj} (v:Value) (d:Nat) (h:closedV (d + 1) v=true):VL ι (vcells v) (vcells v):=by
  cases v with
  | agg cs =>
    simp only [closedV,List.all_eq_true] at h
    refine ⟨rfl,fun j a b ha hb=>?_⟩
    simp only [vcells] at ha hb
    rw [ha] at hb;cases hb
    exact V.closed d a (h a (List.mem_of_getElem? ha))
  | _=>exact VL.single (V.closed (d + 1) _ h)

theorem vcells_eq (v:Value):vcells v=v.cells.toList:=by cases v <;> rfl

theorem V.cells {ι:Inj} {a b:Value} (h:V ι a b):VL ι (vcells a) (vcells b):=by
  cases h with
  | agg hl h=>exact ⟨hl,h⟩
  | tup hl h=>exact VL.single (.tup hl h)
  | fn a b c d=>exact VL.single (.fn a b c d)
  | bool b=>exact VL.single (.bool b)
  | int k n=>exact VL.single (.int k n)
  | str s=>exact VL.single (.str s)
  | ptr0=>exact VL.single .ptr0
  | ptr e=>exact VL.single (.ptr e)
  | sl0=>exact VL.single .sl0
  | sl e hc hs=>exact VL.single (.sl e hc hs)
  | sle=>exact VL.single .sle
  | map0=>exact VL.single .map0
  | map e=>exact VL.single (.map e)
  | nilFunc=>exact VL.single .nilFunc
  | nilIface=>exact VL.single .nilIface
  | yield e=>exact VL.single (.yield e)

theorem V.cellOk {ι:Inj} {a b:Value} (h:V ι a b) (k:cellOk a=true):cellOk b=true:=by
  cases h <;> first|rfl|(simp [AM.cellOk] at k)

theorem VL.cellOk {ι:Inj} {a b:List Value} (h:VL ι a b) (k:a.all AM.cellOk=true):b.all AM.cellOk=true:=by
  simp only [List.all_eq_true] at k ⊢
  intro x hx
  obtain ⟨j,hj⟩:=List.getElem?_of_mem hx
  have hlt:j < a.length:=by rw [h.1];exact (List.getElem?_eq_some_iff.1 hj).1
  exact (h.2 j a[j] x (List.getElem?_eq_getElem hlt) hj).cellOk (k _ (List.getElem_mem hlt))

theorem V.scal {ι:Inj} {a b:Value} (h:V ι a b) (k:scal a=true):b=a:=by
  cases h <;> first|rfl|(simp [AM.scal] at k)

theorem VL.scal {ι:Inj} {a b:List Value} (h:VL ι a b) (k:a.all AM.scal=true):b=a:=by
  simp only [List.all_eq_true] at k
  apply List.ext_getElem? 
  intro j
  by_cases hlt:j < a.length
  · have hb:j < b.length:=h.1 ▸ hlt
    rw [List.getElem?_eq_getElem hlt,List.getElem?_eq_getElem hb]
    exact congrArg some ((h.2 j _ _ (List.getElem?_eq_getElem hlt) (List.getElem?_eq_getElem hb)).scal (k _ (List.getElem_mem hlt)))
  · have:=h.1
    rw [List.getElem?_eq_none (by omega:a.length≤j),List.getElem?_eq_none (by omega:b.length≤j)]

theorem eqs_scal {k:Nat} {x y:Value} {r:Bool} (hr:eqs k x y=some r):scal x=true∧scal y=true:=by
  unfold eqs at hr
  split at hr <;> first|exact ⟨rfl,rfl⟩|cases hr

theorem eqCells_scal {ks:List Nat} {x y:List Value} {r:Bool} (hr:eqCells ks x y=some r):x.all scal=true∧y.all scal=true:=by
  induction ks generalizing x y r with
  | nil=>cases x <;> cases y <;> simp_all [eqCells]
  | cons k ks ih =>
    cases x with
    | nil=>simp [eqCells] at hr
    | cons a x =>
      cases y with
      | nil=>simp [eqCells] at hr
      | cons b y =>
        simp only [eqCells] at hr
        cases h1:eqs k a b with
        | none=>simp [h1] at hr
        | some q =>
          cases h2:eqCells ks x y with
          | none=>simp [h1,h2] at hr
          | some q2 =>
            have:=eqs_scal h1
            have:=ih h2
            simp_all

theorem V.key {ι:Inj} {s:KS} {a b:Value} (h:V ι a b) (k:keyOk s a=true):b=a:=by
  unfold keyOk at k
  cases hk:eqK s a a with
  | none=>simp [hk] at k
  | some r =>
    cases s with
    | one q=>exact h.scal (eqs_scal hk).1
    | many ks =>
      cases h with
      | @agg l l' hl hv =>
        have:=(eqCells_scal (show eqCells ks l.toArray.toList l.toArray.toList=some r from hk)).1
        rw [VL.scal ⟨hl,hv⟩ (by simpa using this)]
      | _=>simp [eqK] at hk

def owned (h:Heap) (b:Nat):Prop :=
  match h.get b with
  | some (.cells _ (some _))|some (.map _)|some (.loop _)=>True
  | _=>False

def live (h:Heap) (b:Nat):Prop :=
  match h.get b with
  | some .dead|none=>False
  | _=>True

theorem owned.live {h:Heap} {b:Nat} (k:owned h b):live h b:=by
  unfold owned at k;unfold AM.live
  split <;> simp_all

def VM (ι:Inj) (es:List (Value × Value)) (ces:List MapEntry):Prop :=
  es.length=ces.length∧∀ (j:Nat) (x:Value × Value) (y:MapEntry),es[j]? = some x→ces[j]? = some y→x.1=y.key∧V ι x.2 y.val
/-- Each entry was born at its place. -/
def Born (n k:Nat) (ces:List MapEntry):Prop:=k=n∧∀ (j:Nat) (y:MapEntry),ces[j]? = some y→y.born=j

theorem VM.mono {ι κ:Inj} (h:Le ι κ) {a b} (v:VM ι a b):VM κ a b:=⟨v.1,fun j x y hx hy=>⟨(v.2 j x y hx hy).1,(v.2 j x y hx hy).2.mono h⟩⟩

def FR (N:Nat) (ι:Inj) (e:Env) (t:Array Value):Prop:=t.size=N∧∀ s v,Env.get e s=some v→∃ v',t[s]? = some v'∧V ι v v'

theorem FR.mono {N:Nat} {ι κ:Inj} (h:Le ι κ) {e:Env} {t:Array Value} (f:FR N ι e t):FR N κ e t :=
  ⟨f.1,fun s v hv=>let ⟨v',h1,h2⟩:=f.2 s v hv;⟨v',h1,h2.mono h⟩⟩

theorem Env.get_cons (k:Nat) (v:Value) (r:Env) (t:Nat):Env.get ((k,v)::r) t=if k=t then some v else Env.get r t:=by
  simp only [Env.get]
  by_cases h:k=t
  · simp [h]
  · have:(k == t)=false:=by simp [h]
    simp [h,this]

theorem FR.set {N:Nat} {ι:Inj} {e:Env} {t:Array Value} (f:FR N ι e t) {d:Nat} (hd:d < N) {v v':Value} (hv:V ι v v'):FR N ι ((d,v)::e) (t.setIfInBounds d v'):=by
  refine ⟨by simp [f.1],fun s x hx=>?_⟩
  rw [Env.get_cons] at hx
  split at hx
  · rename_i e0;subst e0;cases hx
    exact ⟨v',by rw [Array.getElem?_setIfInBounds];simp [f.1,hd],hv⟩
  · rename_i e0
    obtain ⟨y,hy,hv⟩:=f.2 s x hx
    exact ⟨y,by rw [Array.getElem?_setIfInBounds_ne e0];exact hy,hv⟩

theorem FR.put {N:Nat} {ι:Inj} {e:Env} {a:Act} (f:FR N ι e a.tmps) {d:Option Nat} (hd:∀ x,d=some x→x < N) {v v':Value} (hv:V ι v v'):FR N ι (put e d v) (a.put d v').tmps:=by
  cases d with
  | none=>exact f
  | some d=>exact f.set (hd d rfl) hv

theorem FR.keep {N:Nat} {ι:Inj} {e:Env} {t:Array Value} (f:FR N ι e t) (l:List Nat):FR N ι (keepE e l) t:=by
  refine ⟨f.1,?_⟩
  induction l with
  | nil=>intro s v h;simp [keepE,Env.get] at h
  | cons x r ih =>
    intro s v h
    simp only [keepE] at h
    split at h
    · rename_i u hu
      rw [Env.get_cons] at h
      split at h
      · rename_i e0;subst e0;cases h;exact f.2 _ _ hu
      · exact ih s v h
    · exact ih s v h

theorem FR.ev {N:Nat} {ι:Inj} {e:Env} {a:Act} (f:FR N ι e a.tmps) {x:Operand} (hx:okO x=true) {v:Value} (h:ev e x=some v):V ι v (a.eval x):=by
  cases x with
  | tmp t =>
    obtain ⟨v',h1,h2⟩:=f.2 t v h
    simp only [Act.eval,Array.getD_eq_getD_getElem?,h1,Option.getD_some];exact h2
  | const c=>simp only [AM.ev,Option.some.injEq] at h;subst h;exact V.closed 3 _ hx
  | global g=>simp [AM.ev] at h
  | func k=>simp only [AM.ev,Option.some.injEq] at h;subst h;exact .fn (f:=[]) (f':=[]) (c:=[]) (c':=[]) rfl (fun _ _ _ h=>by simp at h) rfl (fun _ _ _ h=>by simp at h)

theorem FR.evs {N:Nat} {ι:Inj} {e:Env} {a:Act} (f:FR N ι e a.tmps) {l:List Operand} (hl:l.all okO=true) {vs:List Value} (h:evs e l=some vs):VL ι vs (l.map a.eval):=by
  induction l generalizing vs with
  | nil=>simp only [AM.evs,Option.some.injEq] at h;subst h;exact VL.nil ι
  | cons x r ih =>
    simp only [List.all_cons,Bool.and_eq_true] at hl
    simp only [AM.evs] at h
    cases hx:AM.ev e x with
    | none=>simp [hx] at h
    | some v =>
      simp only [hx,Option.bind_some] at h
      cases hr:AM.evs e r with
      | none=>simp [hr] at h
      | some us =>
        simp only [hr,Option.map_some,Option.some.injEq] at h;subst h
        exact VL.cons (f.ev hl.1 hx) (ih hl.2 hr)

def stC:LSt→LoopState
  | .ready=>.ready
  | .busy=>.busy
  | .done=>.done

def axC:AX→Option Code
  | .norm=>none
  | .exit id=>some (.exit id)
  | .ret=>some .ret

def LoopRel (P:Program) (ι:Inj) (r:ARec) (L:Loop):Prop :=
  L.params.toList=r.ps∧∃ N,compC P N L.assign=some (erase r.asg)∧compC P N L.body=some (erase r.body)∧FR N ι r.env L.tmps∧(∀ t ∈ r.ps,t < N)∧L.state=stC r.st∧L.pending=r.pend.bind axC

theorem LoopRel.mono {P:Program} {ι κ:Inj} (h:Le ι κ) {r:ARec} {L:Loop} (k:LoopRel P ι r L):LoopRel P κ r L :=
  ⟨k.1,let ⟨N,a,b,c,d⟩:=k.2;⟨N,a,b,c.mono h,d⟩⟩

/-- None of so many cells is frozen. -/
def Thaw (fz:Nat × Nat) (n:Nat):Prop:=∀ o,o < n→(decide (fz.1≤o) && decide (o < fz.2))=false
theorem Thaw.zero (n:Nat):Thaw (0,0) n:=fun o _=>by simp
/-- An abstract object, and the model's. -/
def ObjRel (P:Program) (ι:Inj) (i:BI):AObj→Obj→Prop
  | .cells c own,O=>∃ C T fz,O=.cells C T fz∧C.size=i.size∧VPo own ι c C.toList∧(∀ z,own=some z→Thaw fz C.size∧i.esz=z)
  | .map es,O=>∃ ces k,O=.map ces k∧VM ι es ces.toList∧Born es.length k ces.toList
  | .loop r,O=>∃ L,O=.loop L∧LoopRel P ι r L
  | .dead,_=>True

theorem ObjRel.mono {P:Program} {ι κ:Inj} (h:Le ι κ) {i:BI} {o:AObj} {O:Obj} (k:ObjRel P ι i o O):ObjRel P κ i o O:=by
  cases o with
  | cells c own=>obtain ⟨C,T,fz,h1,h2,h3,h4⟩:=k;exact ⟨C,T,fz,h1,h2,h3.mono h,h4⟩
  | map es=>obtain ⟨ces,q,h1,h2,h3⟩:=k;exact ⟨ces,q,h1,h2.mono h,h3⟩
  | loop r=>obtain ⟨L,h1,h2⟩:=k;exact ⟨L,h1,h2.mono h⟩
  | dead=>trivial

/-- The blocks that stand where they stand in the world: the library's table. -/
def pinned (P:Program) (b:Nat):Bool:=match P.globals[b]? with
  | some g => g.name == "math/bits.deBruijn64tab"
  | none=>false
/-- No table is laid. -/
def noPin (P : Program) : Bool := P.globals.toList.all fun g => g.name != "math/bits.deBruijn64tab"
theorem noPin_no {P:Program} (h:noPin P=true) (b:Nat):pinned P b=false:=by
  unfold pinned
  split
  · rename_i g hg
    have:=List.all_eq_true.1 h g (Array.mem_toList_iff.2 (Array.mem_of_getElem? hg))
    simpa using this
  · rfl

/-- The table's cells. -/
def TabO:Obj→Prop
  | .cells C _ _=>∀ j,j < 64→C[j]? = some (.int .u8 (Go.Lib.deBruijn64tab.getD j 0))
  | _=>False
def TabIn (w:World) (b:Nat):Prop:=∃ O,w.heap[b]? = some O∧TabO O
theorem TabIn.lt {w:World} {b:Nat} (h:TabIn w b):b < w.heap.size:=by obtain ⟨O,h,_⟩:=h;exact (Array.getElem?_eq_some_iff.1 h).1
theorem TabIn.of {w w':World} {b:Nat} (h:TabIn w b) (e:w'.heap[b]? = w.heap[b]?):TabIn w' b:=by obtain ⟨O,h1,h2⟩:=h;exact ⟨O,by rw [e];exact h1,h2⟩
/-- The table stands in its block, and no block of one's own stands there. -/
def PinOk (ι:Inj) (h:Heap) (w:World) (b:Nat):Prop:=TabIn w b∧∀ c i,ι c=some i→owned h c→i.blk≠b

structure Sim (P:Program) (ι:Inj) (h:Heap) (w:World):Prop where
  dom:∀ b i,ι b=some i→b < h.size∧i.blk < w.heap.size
  obj:∀ b i o,ι b=some i→h.get b=some o→∃ O,w.heap[i.blk]? = some O∧ObjRel P ι i o O
  inj:∀ b b' i i',b≠b'→ι b=some i→ι b'=some i'→owned h b→live h b'→i.blk≠i'.blk
  pin:∀ b,pinned P b=true→PinOk ι h w b

theorem Sim.congr {P:Program} {ι:Inj} {h:Heap} {w w':World} (s:Sim P ι h w) (e:w'.heap=w.heap):Sim P ι h w' :=
  ⟨fun b i hb=>by rw [e];exact s.dom b i hb,fun b i o hb ho=>by rw [e];exact s.obj b i o hb ho,s.inj,fun b hb=>⟨(s.pin b hb).1.of (by rw [e]),(s.pin b hb).2⟩⟩

theorem Sim.cells {P:Program} {ι:Inj} {h:Heap} {w:World} (s:Sim P ι h w) {b:Nat} {i:BI} {c:List Value} {own:Option Nat} (hb:ι b=some i) (ho:h.get b=some (.cells c own)) :
    ∃ C T fz,w.heap[i.blk]? = some (.cells C T fz)∧C.size=i.size∧VPo own ι c C.toList∧(∀ z,own=some z→Thaw fz C.size∧i.esz=z):=by
  obtain ⟨O,h1,C,T,fz,h2,h3⟩:=s.obj b i _ hb ho
  exact ⟨C,T,fz,by rw [h1,h2],h3⟩

/-- What a run leaves as it was. -/
structure Fr (ι:Inj) (h:Heap) (w w':World):Prop where
  os:w'.os=w.os
  tape:w'.tape=w.tape
  output:w'.output=w.output
  size:w.heap.size≤w'.heap.size
  block:∀ B,B < w.heap.size→(∀ b i,ι b=some i→owned h b→h.prot≤b→i.blk≠B)→w'.heap[B]? = w.heap[B]?
  drawn:w.drawn≤w'.drawn

structure Rel (P:Program) (ι:Inj) (h:Heap) (w:World) (ι':Inj) (h':Heap) (w':World):Prop where
  le:Le ι ι'
  sim:Sim P ι' h' w'
  fr:Fr ι h w w'
  new:∀ b i,ι' b=some i→ι b=none→h.size≤b∧(w.heap.size≤i.blk∨∃ b0 i0,ι b0=some i0∧owned h b0∧h.prot≤b0∧i0.blk=i.blk)
  own:∀ b,b < h.size→owned h' b→owned h b
  prot:h'.prot=h.prot
  keep:∀ b,b < h.prot→b < h.size→h'.get b=h.get b
  hsize:h.size≤h'.size

theorem Rel.refl {P:Program} {ι:Inj} {h:Heap} {w:World} (s:Sim P ι h w):Rel P ι h w ι h w :=
  ⟨Le.rfl ι,s,⟨rfl,rfl,rfl,Nat.le_refl _,fun _ _ _=>rfl,Nat.le_refl _⟩,(fun b i e e'=>by rw [e] at e';cases e'),fun _ _ h=>h,rfl,fun _ _ _=>rfl,Nat.le_refl _⟩

theorem Rel.trans {P:Program} {ι κ μ:Inj} {h h1 h2:Heap} {w w1 w2:World} (s:Sim P ι h w) (r:Rel P ι h w κ h1 w1) (q:Rel P κ h1 w1 μ h2 w2):Rel P ι h w μ h2 w2:=by
  refine ⟨r.le.trans q.le,q.sim,⟨q.fr.os.trans r.fr.os,q.fr.tape.trans r.fr.tape,q.fr.output.trans r.fr.output,Nat.le_trans r.fr.size q.fr.size,fun B hB hno=>?_,Nat.le_trans r.fr.drawn q.fr.drawn⟩,(fun b i e e0=>?_),(fun b hb ho=>?_),q.prot.trans r.prot,(fun b hb hb'=>?_),Nat.le_trans r.hsize q.hsize⟩
  · rw [q.fr.block B (Nat.lt_of_lt_of_le hB r.fr.size) ?_,r.fr.block B hB hno]
    intro b i e ho hp
    cases hi:ι b with
    | some i0 =>
      have:=r.le b i0 hi
      rw [this] at e;cases e
      exact hno b i hi (r.own b (s.dom b i hi).1 ho) (by rw [← r.prot];exact hp)
    | none =>
      obtain ⟨_,hn|⟨b0,i0,h0,ho0,hp0,e0⟩⟩:=r.new b i e hi
      · omega
      · rw [← e0];exact hno b0 i0 h0 ho0 hp0
  · cases hk:κ b with
    | some i1 =>
      have:=q.le b i1 hk
      rw [this] at e;cases e
      exact r.new b i hk e0
    | none =>
      obtain ⟨hs,hn⟩:=q.new b i e hk
      refine ⟨Nat.le_trans r.hsize hs,?_⟩
      rcases hn with hn|⟨b0,i0,h0,ho0,hp0,e1⟩
      · exact .inl (Nat.le_trans r.fr.size hn)
      · cases hi:ι b0 with
        | some i2 =>
          have:=r.le b0 i2 hi
          rw [this] at h0;cases h0
          exact .inr ⟨b0,i0,hi,r.own b0 (s.dom b0 i0 hi).1 ho0,by rw [← r.prot];exact hp0,e1⟩
        | none =>
          obtain ⟨_,hn|⟨b3,i3,h3,ho3,hp3,e3⟩⟩:=r.new b0 i0 h0 hi
          · exact .inl (by omega)
          · exact .inr ⟨b3,i3,h3,ho3,hp3,by omega⟩
  · exact r.own b hb (q.own b (Nat.lt_of_lt_of_le hb r.hsize) ho)
  · rw [q.keep b (by rw [r.prot];exact hb) (Nat.lt_of_lt_of_le hb' r.hsize),r.keep b hb hb']


/-- The same, but for what the abstract machine does not look at. -/
theorem Rel.congr {P:Program} {ι κ:Inj} {h h':Heap} {w w' w'':World} (r:Rel P ι h w κ h' w') (e:w''.heap=w'.heap) (ho:w''.os=w'.os) (ht:w''.tape=w'.tape) (hp:w''.output=w'.output) (hd:w'.drawn≤w''.drawn:=by first|exact Nat.le_refl _|assumption):Rel P ι h w κ h' w'' :=
  ⟨r.le,r.sim.congr e,⟨ho.trans r.fr.os,ht.trans r.fr.tape,hp.trans r.fr.output,by rw [e];exact r.fr.size,fun B h1 h2=>by rw [e];exact r.fr.block B h1 h2,Nat.le_trans r.fr.drawn hd⟩,r.new,r.own,r.prot,r.keep,r.hsize⟩

def upd (ι:Inj) (b:Nat) (i:BI):Inj:=fun c=>if c=b then some i else ι c

theorem upd_le {ι:Inj} {b:Nat} {i:BI} (h:ι b=none):Le ι (upd ι b i):=by
  intro c j e
  unfold upd
  split
  · rename_i e0;subst e0;rw [h] at e;cases e
  · exact e
theorem upd_same (ι:Inj) (b:Nat) (i:BI):upd ι b i b=some i:=by simp [upd]
theorem upd_ne {ι:Inj} {b c:Nat} {i:BI} (h:c≠b):upd ι b i c=ι c:=by simp [upd,h]

theorem Sim.none {P:Program} {ι:Inj} {h:Heap} {w:World} (s:Sim P ι h w) {b:Nat} (hb:h.size≤b):ι b=none:=by
  cases e:ι b with
  | none=>rfl
  | some i=>have:=(s.dom b i e).1;omega

theorem heap_alloc_get (w:World) (O:Obj) (k:Nat):(w.alloc O).heap[k]? = if k=w.heap.size then some O else w.heap[k]?:=by
  show (w.heap.push O)[k]? = _
  rw [Array.getElem?_push]

theorem owned_push {h:Heap} {o:AObj} {b:Nat} (hb:b≠h.size):owned (h.push o) b ↔ owned h b:=by
  unfold owned;rw [Heap.get_push,if_neg hb]
theorem live_push {h:Heap} {o:AObj} {b:Nat} (hb:b≠h.size):live (h.push o) b ↔ live h b:=by
  unfold live;rw [Heap.get_push,if_neg hb]
theorem owned_set {h:Heap} {o:AObj} {b c:Nat} (hb:b≠c):owned (h.set c o) b ↔ owned h b:=by
  unfold owned;rw [Heap.get_set,if_neg hb]
theorem live_set {h:Heap} {o:AObj} {b c:Nat} (hb:b≠c):live (h.set c o) b ↔ live h b:=by
  unfold live;rw [Heap.get_set,if_neg hb]

/-- A new block. -/
theorem Rel.push {P:Program} {ι:Inj} {h:Heap} {w w':World} (s:Sim P ι h w) {o:AObj} {O:Obj} {i:BI} (hi:i.blk=w.heap.size)
    (ho:ObjRel P (upd ι h.size i) i o O) (hw:w'.heap=w.heap.push O) (hos:w'.os=w.os) (ht:w'.tape=w.tape) (hp:w'.output=w.output) (hdr:w.drawn≤w'.drawn:=by first|exact Nat.le_refl _|assumption):Rel P ι h w (upd ι h.size i) (h.push o) w':=by
  have hn:=s.none (Nat.le_refl h.size)
  have hle:=upd_le (i:=i) hn
  have hget:∀ k,w'.heap[k]? = if k=w.heap.size then some O else w.heap[k]?:=fun k=>by rw [hw,Array.getElem?_push]
  have hsz:w'.heap.size=w.heap.size + 1:=by rw [hw];simp
  refine ⟨hle,⟨fun b j e=>?_,fun b j x e hx=>?_,fun b b' j j' hne e e' hob hlb=>?_,fun b hb=>⟨(s.pin b hb).1.of (by have:=(s.pin b hb).1.lt;rw [hget,if_neg (by omega)]),fun c j e ho=>by
    have hlt:=(s.pin b hb).1.lt
    by_cases hc:c=h.size
    · subst hc;rw [upd_same] at e;cases e;omega
    · rw [upd_ne hc] at e;exact (s.pin b hb).2 c j e ((owned_push hc).1 ho)⟩⟩,⟨hos,ht,hp,by omega,fun B hB _=>by rw [hget,if_neg (by omega)],hdr⟩,(fun b j e e0=>?_),(fun b hb hob=>(owned_push (by omega)).1 hob),rfl,
    (fun b _ hb=>by rw [Heap.get_push,if_neg (by omega)]),by simp⟩
  · by_cases hb:b=h.size
    · subst hb;rw [upd_same] at e;cases e;exact ⟨by simp,by omega⟩
    · rw [upd_ne hb] at e;have:=s.dom b j e;exact ⟨by simp;omega,by omega⟩
  · by_cases hb:b=h.size
    · subst hb;rw [upd_same] at e;cases e
      rw [Heap.get_push,if_pos rfl] at hx;cases hx
      exact ⟨O,by rw [hget,if_pos hi],ho⟩
    · rw [upd_ne hb] at e
      rw [Heap.get_push,if_neg hb] at hx
      obtain ⟨O',h1,h2⟩:=s.obj b j x e hx
      exact ⟨O',by rw [hget,if_neg (by have:=(s.dom b j e).2;omega)];exact h1,h2.mono hle⟩
  · by_cases hb:b=h.size
    · have hb':b'≠h.size:=fun q=>hne (hb.trans q.symm)
      rw [hb,upd_same] at e;cases e
      rw [upd_ne hb'] at e'
      have:=(s.dom b' j' e').2;omega
    · rw [upd_ne hb] at e
      by_cases hb':b'=h.size
      · rw [hb',upd_same] at e';cases e'
        have:=(s.dom b j e).2;omega
      · rw [upd_ne hb'] at e'
        exact s.inj b b' j j' hne e e' ((owned_push hb).1 hob) ((live_push hb').1 hlb)
  · by_cases hb:b=h.size
    · subst hb;rw [upd_same] at e;cases e;exact ⟨Nat.le_refl _,.inl (by omega)⟩
    · rw [upd_ne hb] at e;rw [e] at e0;cases e0

/-- A block of one's own, written. -/
theorem Rel.set {P:Program} {ι:Inj} {h:Heap} {w w':World} (s:Sim P ι h w) {b:Nat} {i:BI} {o:AObj} {O:Obj} (hb:ι b=some i) (hown:owned h b) (hprot:h.prot≤b)
    (ho:ObjRel P ι i o O) (hw:w'.heap=w.heap.setIfInBounds i.blk O) (hos:w'.os=w.os) (ht:w'.tape=w.tape) (hp:w'.output=w.output) (hdr:w.drawn≤w'.drawn:=by first|exact Nat.le_refl _|assumption):Rel P ι h w ι (h.set b o) w':=by
  have hsz:w'.heap.size=w.heap.size:=by rw [hw];simp
  have hd:=s.dom b i hb
  refine ⟨Le.rfl ι,⟨fun c j e=>?_,fun c j x e hx=>?_,fun c c' j j' hne e e' hob hlb=>?_,fun B hB=>⟨(s.pin B hB).1.of (by rw [hw,Array.getElem?_setIfInBounds_ne ((s.pin B hB).2 b i hb hown)]),fun c j e ho=>by
    by_cases hc:c=b
    · subst hc;exact (s.pin B hB).2 c j e hown
    · exact (s.pin B hB).2 c j e ((owned_set hc).1 ho)⟩⟩,⟨hos,ht,hp,by omega,fun B hB hno=>?_,hdr⟩,(fun c j e e0=>by rw [e] at e0;cases e0),(fun c hc hob=>?_),rfl,
    (fun c hc _=>by rw [Heap.get_set,if_neg (by omega)]),by simp⟩
  · have:=s.dom c j e;exact ⟨by simp;omega,by omega⟩
  · by_cases hc:c=b
    · subst hc;rw [hb] at e;cases e
      rw [Heap.get_set,if_pos rfl] at hx;cases hx
      exact ⟨O,by rw [hw,Array.getElem?_setIfInBounds];simp [hd.2],ho⟩
    · rw [Heap.get_set,if_neg hc] at hx
      obtain ⟨O',h1,h2⟩:=s.obj c j x e hx
      cases x with
      | dead=>exact ⟨(w'.heap[j.blk]?).getD (.deferred none),by
          have:j.blk < w'.heap.size:=by have:=(s.dom c j e).2;omega
          rw [Array.getElem?_eq_getElem this];rfl,trivial⟩
      | _ =>
        refine ⟨O',?_,h2⟩
        have hne:i.blk≠j.blk:=s.inj b c i j (fun q=>hc q.symm) hb e hown (by unfold live;rw [hx];trivial)
        rw [hw,Array.getElem?_setIfInBounds_ne hne];exact h1
  · have hlive:live h c':=by
      by_cases hc':c'=b
      · subst hc';exact hown.live
      · exact (live_set hc').1 hlb
    have howned:owned h c:=by
      by_cases hc:c=b
      · subst hc;exact hown
      · exact (owned_set hc).1 hob
    exact s.inj c c' j j' hne e e' howned hlive
  · rw [hw,Array.getElem?_setIfInBounds_ne (hno b i hb hown hprot)]
  · by_cases hc':c=b
    · subst hc';exact hown
    · exact (owned_set hc').1 hob

/-- A block that is given up. -/
theorem Rel.kill {P:Program} {ι:Inj} {h:Heap} {w:World} (s:Sim P ι h w) {b:Nat} (hprot:h.prot≤b):Rel P ι h w ι (h.set b .dead) w:=by
  have hno:¬ owned (h.set b .dead) b:=by unfold owned;rw [Heap.get_set,if_pos rfl];exact id
  have hnl:¬ live (h.set b .dead) b:=by unfold live;rw [Heap.get_set,if_pos rfl];exact id
  refine ⟨Le.rfl ι,⟨s.dom,fun c j x e hx=>?_,fun c c' j j' hne e e' hob hlb=>?_,fun B hB=>⟨(s.pin B hB).1,fun c j e ho=>(s.pin B hB).2 c j e ((owned_set (fun q=>by subst q;exact hno ho)).1 ho)⟩⟩,⟨rfl,rfl,rfl,Nat.le_refl _,fun _ _ _=>rfl,Nat.le_refl _⟩,(fun c j e e0=>by rw [e] at e0;cases e0),(fun c hc hob=>?_),rfl,
    (fun c hc _=>by rw [Heap.get_set,if_neg (by omega)]),Nat.le_refl _⟩
  · by_cases hc:c=b
    · subst hc
      rw [Heap.get_set,if_pos rfl] at hx;cases hx
      exact ⟨_,Array.getElem?_eq_getElem (s.dom c j e).2,trivial⟩
    · rw [Heap.get_set,if_neg hc] at hx;exact s.obj c j x e hx
  · have hc:c≠b:=fun q=>by subst q;exact hno hob
    have hc':c'≠b:=fun q=>by subst q;exact hnl hlb
    exact s.inj c c' j j' hne e e' ((owned_set hc).1 hob) ((live_set hc').1 hlb)
  · have hc:c≠b:=fun q=>by subst q;exact hno hob
    exact (owned_set hc).1 hob

/-- A row that grows in its place: its abstract block is given up, another one takes the model's. -/
theorem Rel.move {P:Program} {ι:Inj} {h:Heap} {w w':World} (s:Sim P ι h w) {b:Nat} {i:BI} {o:AObj} {O:Obj} (hb:ι b=some i) (hown:owned h b) (hprot:h.prot≤b)
    (ho:ObjRel P (upd ι h.size i) i o O) (hw:w'.heap=w.heap.setIfInBounds i.blk O) (hos:w'.os=w.os) (ht:w'.tape=w.tape) (hp:w'.output=w.output) (hdr:w.drawn≤w'.drawn:=by first|exact Nat.le_refl _|assumption) :
    Rel P ι h w (upd ι h.size i) ((h.set b .dead).push o) w':=by
  have hn:=s.none (Nat.le_refl h.size)
  have hle:=upd_le (i:=i) hn
  have hsz:w'.heap.size=w.heap.size:=by rw [hw];simp
  have hd:=s.dom b i hb
  have hget:∀ c,((h.set b .dead).push o).get c=if c=h.size then some o else if c=b then some .dead else h.get c:=fun c=>by
    rw [Heap.get_push,Heap.get_set];rfl
  have hbs:b≠h.size:=by omega
  have hob':∀ c,c≠h.size→owned ((h.set b .dead).push o) c→c≠b∧owned h c:=fun c hc hk=>by
    unfold owned at hk;rw [hget,if_neg hc] at hk
    by_cases q:c=b
    · rw [if_pos q] at hk;exact hk.elim
    · rw [if_neg q] at hk;exact ⟨q,hk⟩
  have hlb':∀ c,c≠h.size→live ((h.set b .dead).push o) c→c≠b∧live h c:=fun c hc hk=>by
    unfold live at hk;rw [hget,if_neg hc] at hk
    by_cases q:c=b
    · rw [if_pos q] at hk;exact hk.elim
    · rw [if_neg q] at hk;exact ⟨q,hk⟩
  refine ⟨hle,⟨fun c j e=>?_,fun c j x e hx=>?_,fun c c' j j' hne e e' hob hlb=>?_,fun B hB=>⟨(s.pin B hB).1.of (by rw [hw,Array.getElem?_setIfInBounds_ne ((s.pin B hB).2 b i hb hown)]),fun c j e ho=>by
    by_cases hc:c=h.size
    · subst hc;rw [upd_same] at e;cases e;exact (s.pin B hB).2 b i hb hown
    · rw [upd_ne hc] at e;exact (s.pin B hB).2 c j e (hob' c hc ho).2⟩⟩,⟨hos,ht,hp,by omega,fun B hB hno=>?_,hdr⟩,(fun c j e e0=>?_),(fun c hc hob=>(hob' c (by omega) hob).2),rfl,
    (fun c hc hc'=>by rw [hget,if_neg (by omega),if_neg (by omega)]),by simp⟩
  · by_cases hc:c=h.size
    · subst hc;rw [upd_same] at e;cases e;exact ⟨by simp,by omega⟩
    · rw [upd_ne hc] at e;have:=s.dom c j e;exact ⟨by simp;omega,by omega⟩
  · by_cases hc:c=h.size
    · subst hc;rw [upd_same] at e;cases e
      rw [hget,if_pos rfl] at hx;cases hx
      exact ⟨O,by rw [hw,Array.getElem?_setIfInBounds];simp [hd.2],ho⟩
    · rw [upd_ne hc] at e
      rw [hget,if_neg hc] at hx
      have hlt:j.blk < w'.heap.size:=by have:=(s.dom c j e).2;omega
      by_cases q:c=b
      · rw [if_pos q] at hx;cases hx;exact ⟨_,Array.getElem?_eq_getElem hlt,trivial⟩
      · rw [if_neg q] at hx
        obtain ⟨O',h1,h2⟩:=s.obj c j x e hx
        cases x with
        | dead=>exact ⟨_,Array.getElem?_eq_getElem hlt,trivial⟩
        | _ =>
          refine ⟨O',?_,h2.mono hle⟩
          have hne:i.blk≠j.blk:=s.inj b c i j (fun q'=>q q'.symm) hb e hown (by unfold live;rw [hx];trivial)
          rw [hw,Array.getElem?_setIfInBounds_ne hne];exact h1
  · by_cases hc:c=h.size
    · have hc':c'≠h.size:=fun q=>hne (hc.trans q.symm)
      rw [hc,upd_same] at e;cases e
      rw [upd_ne hc'] at e'
      obtain ⟨q,hl⟩:=hlb' c' hc' hlb
      exact s.inj b c' i j' (fun z=>q z.symm) hb e' hown hl
    · rw [upd_ne hc] at e
      obtain ⟨q,ho1⟩:=hob' c hc hob
      by_cases hc':c'=h.size
      · rw [hc',upd_same] at e';cases e'
        exact s.inj c b j i q e hb ho1 hown.live
      · rw [upd_ne hc'] at e'
        exact s.inj c c' j j' hne e e' ho1 (hlb' c' hc' hlb).2
  · rw [hw,Array.getElem?_setIfInBounds_ne (hno b i hb hown hprot)]
  · by_cases hc:c=h.size
    · subst hc;rw [upd_same] at e;cases e;exact ⟨Nat.le_refl _,.inr ⟨b,i,hb,hown,hprot,rfl⟩⟩
    · rw [upd_ne hc] at e;rw [e] at e0;cases e0

/-- The model has one more block. -/
theorem Rel.other {P:Program} {ι:Inj} {h:Heap} {w:World} (hS:Sim P ι h w) (O:Obj) {w':World} (hw:w'.heap=w.heap.push O) (h1:w'.os=w.os) (h2:w'.tape=w.tape) (h3:w'.output=w.output) (hd:w.drawn≤w'.drawn:=by first|exact Nat.le_refl _|assumption):Rel P ι h w ι h w':=by
  have hget:∀ k,k < w.heap.size→w'.heap[k]? = w.heap[k]?:=fun k hk=>by rw [hw,Array.getElem?_push,if_neg (by omega)]
  have hsz:w'.heap.size=w.heap.size + 1:=by rw [hw];simp
  refine ⟨Le.rfl ι,⟨fun b i e=>⟨(hS.dom b i e).1,by have:=(hS.dom b i e).2;omega⟩,fun b i o e ho=>?_,hS.inj,fun B hB=>⟨(hS.pin B hB).1.of (hget B (hS.pin B hB).1.lt),(hS.pin B hB).2⟩⟩,⟨h1,h2,h3,by omega,fun B hB _=>hget B hB,hd⟩,(fun b i e e0=>by rw [e] at e0;cases e0),fun _ _ h=>h,rfl,fun _ _ _=>rfl,Nat.le_refl _⟩
  obtain ⟨O',k1,k2⟩:=hS.obj b i o e ho
  exact ⟨O',by rw [hget _ (hS.dom b i e).2];exact k1,k2⟩

end Go.AM

