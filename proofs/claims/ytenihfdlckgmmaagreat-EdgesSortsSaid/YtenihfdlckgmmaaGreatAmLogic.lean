/- A part of the abstract machine, or of what is proved of the program by it. -/
import Derived.Test.YtenihfdlckgmmaaGreatAmExt
import Derived.Test.YtenihfdlckgmmaaGreatAmCall
import Derived.KernelRfl
namespace Go.AM
set_option linter.unusedVariables false
set_option linter.unusedSimpArgs false

inductive Kt where
  | c (b:ACode)
  | o (d:Bool) (l:List AI)
  | blk (id:Nat)

abbrev Pst:=AX→Env→Heap→Prop

section
variable {prog:AProg} {ro:Option Nat} {e e':Env} {h h':Heap} {Q:Pst} {k:List Kt}

/-- A call ends so. -/
def Runs (prog:AProg) (f:FuncId) (args:List Value) (h:Heap) (Q:Value→Heap→Prop):Prop :=
  ∃ n v h',callV prog n (.func f) args h=some (v,h')∧Q v h'

def RunsY (prog:AProg) (l:Nat) (args:List Value) (h:Heap) (Q:Value→Heap→Prop):Prop :=
  ∃ n v h',callV prog n (.yield l) args h=some (v,h')∧Q v h'

def WP (prog:AProg) (ro:Option Nat) (c:ACode) (e:Env) (h:Heap) (Q:Pst):Prop :=
  ∃ n x e' h',evC (callV prog n) n ro c e h=some (x,e',h')∧Q x e' h'

def WL (prog:AProg) (d:Bool) (l:List AI) (e:Env) (h:Heap) (Q:Env→Heap→Prop):Prop :=
  ∃ n e' h',evL (callV prog n) d l e h=some (e',h')∧Q e' h'

def At (prog:AProg) (ro:Option Nat):List Kt→AX→Env→Heap→Pst→Prop
  | [],x,e,h,Q=>Q x e h
  | .c b::k,.norm,e,h,Q=>WP prog ro b e h (fun x e h=>At prog ro k x e h Q)
  | .o d l::k,.norm,e,h,Q=>WL prog d l e h (fun e h=>At prog ro k .norm e h Q)
  | .blk id::k,.exit i,e,h,Q=>At prog ro k (if i=id then .norm else .exit i) e h Q
  | _::k,x,e,h,Q=>At prog ro k x e h Q

theorem Runs.mono {f:FuncId} {args:List Value} {R R':Value→Heap→Prop} (hr:Runs prog f args h R) (h':∀ v h,R v h→R' v h):Runs prog f args h R' :=
  let ⟨n,v,g,h1,h2⟩:=hr;⟨n,v,g,h1,h' _ _ h2⟩

theorem WP.mono {c:ACode} {Q':Pst} (hw:WP prog ro c e h Q) (hq:∀ x e h,Q x e h→Q' x e h):WP prog ro c e h Q' :=
  let ⟨n,x,e',h',h1,h2⟩:=hw;⟨n,x,e',h',h1,hq _ _ _ h2⟩

theorem up {n m:Nat} (hnm:n≤m) {c:ACode} {r} (hr:evC (callV prog n) n ro c e h=some r):evC (callV prog m) m ro c e h=some r:=evC_mono (callV_mono prog hnm) hnm hr

theorem WP.seq {a b:ACode} (hw:WP prog ro a e h (fun x e h=>match x with|.norm=>WP prog ro b e h Q|x=>Q x e h)):WP prog ro (.seq a b) e h Q:=by
  obtain ⟨n,x,e1,h1,hr,hq⟩:=hw
  cases x with
  | norm =>
    obtain ⟨m,x,e2,h2,hr2,hq2⟩:=hq
    refine ⟨Nat.max n m,x,e2,h2,?_,hq2⟩
    simp only [evC]
    rw [up (Nat.le_max_left n m) hr]
    exact up (Nat.le_max_right n m) hr2
  | exit i=>exact ⟨n,.exit i,e1,h1,by simp only [evC];rw [hr],hq⟩
  | ret=>exact ⟨n,.ret,e1,h1,by simp only [evC];rw [hr],hq⟩

theorem at_seq {a b:ACode} (hw:At prog ro (.c a::.c b::k) .norm e h Q):At prog ro (.c (.seq a b)::k) .norm e h Q:=by
  refine WP.seq (WP.mono hw ?_)
  intro x e h hq
  cases x <;> exact hq

theorem at_ops {d:Bool} {l:List AI} (hw:At prog ro (.o d l::k) .norm e h Q):At prog ro (.c (.ops d l)::k) .norm e h Q:=by
  obtain ⟨n,e1,h1,hr,hq⟩:=hw
  exact ⟨n,.norm,e1,h1,by simp only [evC,hr,Option.map_some],hq⟩

theorem at_block {id:Nat} {b:ACode} (hw:At prog ro (.c b::.blk id::k) .norm e h Q):At prog ro (.c (.block id b)::k) .norm e h Q:=by
  obtain ⟨n,x,e1,h1,hr,hq⟩:=hw
  cases x with
  | norm=>exact ⟨n,.norm,e1,h1,by simp only [evC];rw [hr],hq⟩
  | ret=>exact ⟨n,.ret,e1,h1,by simp only [evC];rw [hr],hq⟩
  | exit i =>
    by_cases hi:i=id
    · subst hi
      refine ⟨n,.norm,e1,h1,by simp only [evC];rw [hr];simp,?_⟩
      simpa [At] using hq
    · refine ⟨n,.exit i,e1,h1,by simp only [evC];rw [hr];simp only;rw [show (i == id)=false by simpa using hi];rfl,?_⟩
      simpa [At,hi] using hq

theorem at_skip (hw:At prog ro k .norm e h Q):At prog ro (.c .skip::k) .norm e h Q:=⟨0,.norm,e,h,rfl,hw⟩
theorem at_exit {id:Nat} (hw:At prog ro k (.exit id) e h Q):At prog ro (.c (.exit id)::k) .norm e h Q:=⟨0,.exit id,e,h,rfl,hw⟩
theorem at_ret (hw:At prog ro k .ret e h Q):At prog ro (.c .ret::k) .norm e h Q:=⟨0,.ret,e,h,rfl,hw⟩
theorem at_keep {l:List Nat} (hw:At prog ro k .norm (keepE e l) h Q):At prog ro (.c (.keep l)::k) .norm e h Q:=⟨0,.norm,keepE e l,h,rfl,hw⟩
theorem at_kp {l:List Nat} (he:keepE e l=e') (hw:At prog ro k .norm e' h Q):At prog ro (.c (.keep l)::k) .norm e h Q:=at_keep (by rw [he];exact hw)
theorem at_blk {id:Nat} (hw:At prog ro k .norm e h Q):At prog ro (.blk id::k) .norm e h Q:=hw
theorem at_blk_exit {id:Nat} (hw:At prog ro k .norm e h Q):At prog ro (.blk id::k) (.exit id) e h Q:=by simpa [At] using hw
theorem at_blk_pass {id i:Nat} (hne:i≠id) (hw:At prog ro k (.exit i) e h Q):At prog ro (.blk id::k) (.exit i) e h Q:=by simpa [At,hne] using hw
theorem at_c_exit {i:Nat} {b:ACode} (hw:At prog ro k (.exit i) e h Q):At prog ro (.c b::k) (.exit i) e h Q:=hw
theorem at_c_ret {b:ACode} (hw:At prog ro k .ret e h Q):At prog ro (.c b::k) .ret e h Q:=hw
theorem at_o_ret {d:Bool} {l:List AI} (hw:At prog ro k .ret e h Q):At prog ro (.o d l::k) .ret e h Q:=hw
theorem at_blk_ret {id:Nat} (hw:At prog ro k .ret e h Q):At prog ro (.blk id::k) .ret e h Q:=hw

theorem at_cond {c:Operand} {t f:ACode} {b:Bool} (hc:ev e c=some (.bool b)) (ht:b=true→At prog ro (.c t::k) .norm e h Q) (hf:b=false→At prog ro (.c f::k) .norm e h Q):At prog ro (.c (.cond c t f)::k) .norm e h Q:=by
  cases b with
  | true=>obtain ⟨n,x,e1,h1,hr,hq⟩:=ht rfl;exact ⟨n,x,e1,h1,by simp only [evC];rw [hc];exact hr,hq⟩
  | false=>obtain ⟨n,x,e1,h1,hr,hq⟩:=hf rfl;exact ⟨n,x,e1,h1,by simp only [evC];rw [hc];exact hr,hq⟩

theorem at_nil {d:Bool} (hw:At prog ro k .norm e h Q):At prog ro (.o d []::k) .norm e h Q:=⟨0,e,h,rfl,hw⟩

/-- A call. -/
theorem at_call {d:Bool} {i:AI} {r:List AI} {f:Operand} {as:List Operand} {fn:FuncId} {first captured:Array Value} {vs:List Value} (hop:i.op=.call f as) (hb:d=true→i.bar=true) (hg:wanted e i.guard=some true) (hf:ev e f=some (.func (.func fn) first captured)) (hvs:evs e as=some vs)
    (hc:Runs prog fn (first.toList++vs++captured.toList) h (fun v h'=>At prog ro (.o d r::k) .norm (put e i.dst v) h' Q)):At prog ro (.o d (i::r)::k) .norm e h Q:=by
  obtain ⟨n,v,h1,hr,m,e2,h2,hr2,hq⟩:=hc
  refine ⟨Nat.max n m,e2,h2,?_,hq⟩
  have h3:evI (callV prog (Nat.max n m)) i e h=some (put e i.dst v,h1):=by
    unfold evI
    rw [hg]
    simp only [opV,hop,hf,hvs]
    rw [callV_mono prog (Nat.le_max_left n m) _ _ _ _ hr];rfl
  have h4:(bif d then evID (callV prog (Nat.max n m)) i e h else evI (callV prog (Nat.max n m)) i e h)=some (put e i.dst v,h1):=by
    cases d with
    | false=>exact h3
    | true=>simp only [cond_true,evID,hb rfl];exact h3
  simp only [evL]
  rw [h4]
  exact evL_mono (callV_mono prog (Nat.le_max_right n m)) hr2

/-- A loop, by a law that holds at its head, and a number that falls. -/
theorem at_loop {b:ACode} (I:Nat→Env→Heap→Prop) {m:Nat} (h0:I m e h) (round:∀ m e h,I m e h→At prog ro [.c b] .norm e h (fun x e' h'=>match x with
    | .norm=>∃ j,j < m∧I j e' h'
    | x=>At prog ro k x e' h' Q)):At prog ro (.c (.loop b)::k) .norm e h Q:=by
  have key:∀ m e h,I m e h→∃ n x e' h',loopN (evC (callV prog n) n ro b) n e h=some (x,e',h')∧At prog ro k x e' h' Q:=by
    intro m
    induction m using Nat.strongRecOn with
    | _ m ih =>
      intro e h hI
      obtain ⟨n,x,e1,h1,hr,hq⟩:=round m e h hI
      cases x with
      | norm =>
        obtain ⟨j,hj,hI'⟩:=hq
        obtain ⟨n2,x2,e2,h2,hr2,hq2⟩:=ih j hj e1 h1 hI'
        refine ⟨Nat.max n n2 + 1,x2,e2,h2,?_,hq2⟩
        simp only [loopN]
        rw [up (Nat.le_succ_of_le (Nat.le_max_left n n2)) hr]
        exact loopN_mono (fun e h r hr=>up (Nat.le_succ_of_le (Nat.le_max_right n n2)) hr) (Nat.le_max_right n n2) hr2
      | exit i =>
        refine ⟨n + 1,.exit i,e1,h1,?_,hq⟩
        simp only [loopN]
        rw [up (Nat.le_succ n) hr]
      | ret =>
        refine ⟨n + 1,.ret,e1,h1,?_,hq⟩
        simp only [loopN]
        rw [up (Nat.le_succ n) hr]
  obtain ⟨n,x,e',h',hr,hq⟩:=key m e h h0
  exact ⟨n,x,e',h',hr,hq⟩

/-- The same, with what holds behind it. -/
theorem at_loop2 {b:ACode} (I:Nat→Env→Heap→Prop) (O:AX→Env→Heap→Prop) {m:Nat} (h0:I m e h) (round:∀ m e h,I m e h→At prog ro [.c b] .norm e h (fun x e' h'=>match x with
    | .norm=>∃ j,j < m∧I j e' h'
    | x=>O x e' h')) (out:∀ x e h,O x e h→At prog ro k x e h Q):At prog ro (.c (.loop b)::k) .norm e h Q:=by
  refine at_loop I h0 (fun m e h hI=>?_)
  refine WP.mono (round m e h hI) ?_
  intro x e h hq
  cases x with
  | norm=>exact hq
  | exit i=>exact out _ _ _ hq
  | ret=>exact out _ _ _ hq

/-- A call, by the body. -/
theorem runs_code {fn:FuncId} {f:AFn} {args:List Value} {R:Value→Heap→Prop} (hp:prog fn=some (.code f)) (hn:args.length=f.np)
    (hw:At prog none [.c f.body] .norm (argEnv 0 args) h (fun x e h=>(∀ i,x≠.exit i)∧∃ vs,resL e h f.res=some vs∧R (tupV vs) h)):Runs prog fn args h R:=by
  obtain ⟨n,x,e1,h1,hr,hne,vs,hvs,hq⟩:=hw
  refine ⟨n + 1,tupV vs,h1,?_,hq⟩
  simp only [callV,hp,runF,hn,if_true]
  rw [hr]
  cases x with
  | exit i=>exact absurd rfl (hne i)
  | norm=>simp [hvs]
  | ret=>simp [hvs]

theorem runs_oracle {fn:FuncId} {o:List Value→Heap→Option (Value × Heap)} {args:List Value} {R:Value→Heap→Prop} {v:Value} (hp:prog fn=some (.oracle o)) (hr:o args h=some (v,h')) (hq:R v h'):Runs prog fn args h R :=
  ⟨1,v,h',by simp only [callV,hp];exact hr,hq⟩

end
end Go.AM


namespace Go.AM
set_option linter.unusedVariables false
set_option linter.unusedSimpArgs false
variable {call:CallT} {d:Bool} {i:AI} {l:List AI} {e:Env} {h:Heap} {v:Value}

theorem put_s {k:Nat}:put e (some k) v=(k,v)::e:=rfl
theorem put_n:put e none v=e:=rfl
theorem get_same {k:Nat} {r:Env}:Env.get ((k,v)::r) k=some v:=by simp [Env.get]
theorem get_ne {k t:Nat} {r:Env} (hk:(k == t)=false):Env.get ((k,v)::r) t=Env.get r t:=by simp only [Env.get,hk,cond_false]
theorem keep_nil:keepE e []=[]:=rfl
def keepC (x:Option Value) (t:Nat) (r:Env):Env :=
  match x with
  | some v=>(t,v)::r
  | none=>r
theorem keep_cons {t:Nat} {r:List Nat}:keepE e (t::r)=keepC (Env.get e t) t (keepE e r):=rfl
theorem keepC_some {t:Nat} {r:Env}:keepC (some v) t r=(t,v)::r:=rfl
theorem arg_nil {k:Nat}:argEnv k []=[]:=rfl
theorem arg_cons {k:Nat} {r:List Value}:argEnv k (v::r)=(k,v)::argEnv (k + 1) r:=rfl

section ops
variable {x y z a b c:Operand}
section nums
variable {k k':IntKind} {p q:Int}
theorem b_add:binV .add (.int k p) (.int k q)=some (.int k (k.wrap (p + q))):=by simp [binV,ibin]
theorem b_sub:binV .sub (.int k p) (.int k q)=some (.int k (k.wrap (p - q))):=by simp [binV,ibin]
theorem b_mul:binV .mul (.int k p) (.int k q)=some (.int k (k.wrap (p * q))):=by simp [binV,ibin]
theorem b_quo:binV .quo (.int k p) (.int k q)=if q=0 then none else some (.int k (k.wrap (p.tdiv q))):=by simp [binV,ibin]
theorem b_rem:binV .rem (.int k p) (.int k q)=if q=0 then none else some (.int k (p.tmod q)):=by simp [binV,ibin]
theorem b_eql:binV .eql (.int k p) (.int k q)=some (.bool (p == q)):=by simp [binV,ibin]
theorem b_neq:binV .neq (.int k p) (.int k q)=some (.bool (p != q)):=by simp [binV,ibin]
theorem b_lss:binV .lss (.int k p) (.int k q)=some (.bool (decide (p < q))):=by simp [binV,ibin]
theorem b_leq:binV .leq (.int k p) (.int k q)=some (.bool (decide (p≤q))):=by simp [binV,ibin]
theorem b_gtr:binV .gtr (.int k p) (.int k q)=some (.bool (decide (p > q))):=by simp [binV,ibin]
theorem b_geq:binV .geq (.int k p) (.int k q)=some (.bool (decide (p ≥ q))):=by simp [binV,ibin]
theorem b_shr:binV .shr (.int k p) (.int k' q)=if q < 0 then none else some (.int k (p.fdiv (2 ^ (Nat.min q.toNat k.bits)))):=rfl
theorem b_seq {s t:ByteArray}:binV .eql (.string s) (.string t)=some (.bool (s.toList == t.toList)):=rfl
theorem b_sneq {s t:ByteArray}:binV .neq (.string s) (.string t)=some (.bool !(s.toList == t.toList)):=rfl
theorem b_sadd {s t:ByteArray}:binV .add (.string s) (.string t)=if ((s.size + t.size:Nat):Int) > 9223372036854775807 then none else some (.string (s++t)):=rfl
end nums
/-- A part of a list. -/
def part (esz:Nat) (p:Option Addr) (i n:Nat):Value :=
  match p with
  | none=>.slice none 0 0
  | some a=>.slice (some ⟨a.block,a.off + i * esz,none⟩) n n
end ops

section
variable {prog:AProg} {ro:Option Nat} {e':Env} {h':Heap} {Q:Pst} {k:List Kt}
end
end Go.AM


namespace Go.AM
set_option linter.unusedVariables false
set_option linter.unusedSimpArgs false
variable {P:Program}

theorem sim_empty (W:World) (hpin:∀ b,pinned P b=true→TabIn W b):Sim P (fun _=>none) Heap.empty W :=
  ⟨fun b i h=>(by cases h),fun b i o h=>(by cases h),fun b b' i i' _ h=>(by cases h),fun b hb=>⟨hpin b hb,fun c i h=>(by cases h)⟩⟩

/-- What a call without arguments answers, whatever there is. -/
def closedO (v:Value):List Value→Heap→Option (Value × Heap):=fun args h =>
  match args with
  | []=>some (v,h)
  | _=>none

theorem closed_ok {prog:AProg} (hp:ProgOk P prog) {k:FuncId} {n:Nat} {v:Value} {h:Heap} (hv:scal v=true) (hr:callV prog n (.func k) [] Heap.empty=some (v,h)):OracleOk P k (closedO v):=by
  obtain ⟨h1,h2⟩:=(callV_sound hp n).fn k [] Heap.empty v h hr
  refine ⟨h1,fun args g u g' hq=>?_,fun args g u g' hq ι w cargs hS hc=>?_⟩
  · unfold closedO at hq
    split at hq
    · cases hq;exact Ext.refl _
    · cases hq
  · unfold closedO at hq
    split at hq
    · cases hq
      obtain rfl:=hc.nil_inv
      refine (h2 (fun _=>none) w [] (sim_empty w (fun b hb=>(hS.pin b hb).1)) (VL.nil _)).mono ?_
      rintro e w' ⟨v',ι',rfl,hvv,hrel⟩
      obtain rfl:=hvv.scal hv
      have hblk:∀ B,B < w.heap.size→w'.heap[B]? = w.heap[B]?:=fun B hB=>hrel.fr.block B hB (fun b i hb=>by cases hb)
      refine ⟨v',ι,rfl,V.of_scal hv,Le.rfl ι,⟨fun b i hb=>⟨(hS.dom b i hb).1,Nat.lt_of_lt_of_le (hS.dom b i hb).2 hrel.fr.size⟩,fun b i o hb ho=>?_,hS.inj,fun B hB=>⟨(hS.pin B hB).1.of (hblk B (hS.pin B hB).1.lt),(hS.pin B hB).2⟩⟩,
        ⟨hrel.fr.os,hrel.fr.tape,hrel.fr.output,hrel.fr.size,fun B hB _=>hblk B hB,hrel.fr.drawn⟩,(fun b i hb h0=>by rw [hb] at h0;cases h0),fun _ _ h=>h,rfl,fun _ _ _=>rfl,Nat.le_refl _⟩
      obtain ⟨O,k1,k2⟩:=hS.obj b i o hb ho
      exact ⟨O,by rw [hblk _ (hS.dom b i hb).2];exact k1,k2⟩
    · cases hq
end Go.AM

