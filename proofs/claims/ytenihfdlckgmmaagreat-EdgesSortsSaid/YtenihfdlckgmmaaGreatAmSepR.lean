/- A part of the abstract machine, or of what is proved of the program by it. -/
import Derived.Test.YtenihfdlckgmmaaGreatAmSep
namespace Go.AMS
open Go.AM hiding Kt At WP WL Runs RunsY
open Go.AM.G
set_option linter.unusedVariables false
set_option linter.unusedSectionVars false
set_option linter.unusedSimpArgs false

section
variable {prog:AProg} {rr:Option Nat} {e e':Env} {Q:Pst} {k:List Kt} {x y z:Operand} {ax:AX} {n:Nat} {Γ Δ F Γ':List HP} {d bar:Bool} {r:List AI} {t:Nat} {dst:Option Nat} {u v v1 v2 v3:Value} {vs:List Value} {op:AOp} {h h':Heap}

class App (A F:List HP) (R:outParam (List HP)):Prop where
  eq:A++F=R
instance app_nil:App [] F F:=⟨rfl⟩
instance app_cons {P:HP} {A R:List HP} [a:App A F R]:App (P::A) F (P::R):=⟨by rw [List.cons_append,a.eq]⟩
instance (priority:=2000) s_app {A R:List HP} [a:App A F R]:Step (AtS n prog rr k ax e (A++F) Q) (AtS n prog rr k ax e R Q):=⟨by rw [a.eq];exact id⟩
instance (priority:=2000) s_rds0:Step (AtS n prog rr k ax e (Rds []++F) Q) (AtS n prog rr k ax e F Q):=⟨id⟩
instance (priority:=2000) s_put {a:Nat}:Step (AtS n prog rr k ax (put e (some a) v) Γ Q) (AtS n prog rr k ax ((a,v)::e) Γ Q):=⟨id⟩
instance (priority:=2000) s_putn:Step (AtS n prog rr k ax (put e none v) Γ Q) (AtS n prog rr k ax e Γ Q):=⟨id⟩
class ArgE (vs:List Value) (e:outParam Env):Prop where
  eq:argEnv 0 vs=e
instance ar0:ArgE [] []:=⟨rfl⟩
instance ar1 {a:Value}:ArgE [a] [(0,a)]:=⟨rfl⟩
instance ar2 {a b:Value}:ArgE [a,b] [(0,a),(1,b)]:=⟨rfl⟩
instance ar3 {a b c:Value}:ArgE [a,b,c] [(0,a),(1,b),(2,c)]:=⟨rfl⟩
instance ar4 {a b c d:Value}:ArgE [a,b,c,d] [(0,a),(1,b),(2,c),(3,d)]:=⟨rfl⟩
instance ar5 {a b c d e:Value}:ArgE [a,b,c,d,e] [(0,a),(1,b),(2,c),(3,d),(4,e)]:=⟨rfl⟩
instance ar6 {a b c d e f:Value}:ArgE [a,b,c,d,e,f] [(0,a),(1,b),(2,c),(3,d),(4,e),(5,f)]:=⟨rfl⟩
instance ar7 {a b c d e f g:Value}:ArgE [a,b,c,d,e,f,g] [(0,a),(1,b),(2,c),(3,d),(4,e),(5,f),(6,g)]:=⟨rfl⟩
instance (priority:=2000) s_arg [a:ArgE vs e']:Step (AtS n prog rr k ax (argEnv 0 vs) Γ Q) (AtS n prog rr k ax e' Γ Q):=⟨by rw [a.eq];exact id⟩

instance s_seq {a b:ACode}:Step (AtS n prog rr (.c (.seq a b)::k) .norm e Γ Q) (AtS n prog rr (.c a::.c b::k) .norm e Γ Q):=⟨fun w h s=>at_seq (w h s)⟩
instance s_ops {l:List AI}:Step (AtS n prog rr (.c (.ops d l)::k) .norm e Γ Q) (AtS n prog rr (.o d l::k) .norm e Γ Q):=⟨fun w h s=>at_ops (w h s)⟩
instance s_nil:Step (AtS n prog rr (.o d []::k) .norm e Γ Q) (AtS n prog rr k .norm e Γ Q):=⟨fun w h s=>at_nil (w h s)⟩
instance s_skip:Step (AtS n prog rr (.c .skip::k) .norm e Γ Q) (AtS n prog rr k .norm e Γ Q):=⟨fun w h s=>at_skip (w h s)⟩
instance s_block {id:Nat} {b:ACode}:Step (AtS n prog rr (.c (.block id b)::k) .norm e Γ Q) (AtS n prog rr (.c b::.blk id::k) .norm e Γ Q):=⟨fun w h s=>at_block (w h s)⟩
instance s_exit {id:Nat}:Step (AtS n prog rr (.c (.exit id)::k) .norm e Γ Q) (AtS n prog rr k (.exit id) e Γ Q):=⟨fun w h s=>at_exit (w h s)⟩
instance s_ret:Step (AtS n prog rr (.c .ret::k) .norm e Γ Q) (AtS n prog rr k .ret e Γ Q):=⟨fun w h s=>at_ret (w h s)⟩
instance s_blk {id:Nat}:Step (AtS n prog rr (.blk id::k) .norm e Γ Q) (AtS n prog rr k .norm e Γ Q):=⟨fun w h s=>at_blk (w h s)⟩
instance s_blk_ret {id:Nat}:Step (AtS n prog rr (.blk id::k) .ret e Γ Q) (AtS n prog rr k .ret e Γ Q):=⟨fun w h s=>at_blk_ret (w h s)⟩
instance s_c_ret {b:ACode}:Step (AtS n prog rr (.c b::k) .ret e Γ Q) (AtS n prog rr k .ret e Γ Q):=⟨fun w h s=>at_c_ret (w h s)⟩
instance s_o_ret {l:List AI}:Step (AtS n prog rr (.o d l::k) .ret e Γ Q) (AtS n prog rr k .ret e Γ Q):=⟨fun w h s=>at_o_ret (w h s)⟩
instance s_c_exit {b:ACode} {i:Nat}:Step (AtS n prog rr (.c b::k) (.exit i) e Γ Q) (AtS n prog rr k (.exit i) e Γ Q):=⟨fun w h s=>at_c_exit (w h s)⟩
instance (priority:=1100) s_blk_exit {id:Nat}:Step (AtS n prog rr (.blk id::k) (.exit id) e Γ Q) (AtS n prog rr k .norm e Γ Q):=⟨fun w h s=>at_blk_exit (w h s)⟩
theorem g_pass {id i:Nat} (w:AtS n prog rr k (.exit i) e Γ Q) (hne:(i == id)=false:=by rfl):AtS n prog rr (.blk id::k) (.exit i) e Γ Q:=fun h s=>at_blk_pass hne (w h s)
theorem g_keep {l:List Nat} (w:AtS n prog rr k .norm e' Γ Q) (he:keepE e l=e':=by simp only [keep_cons,keep_nil,keepC_some,keepC_none,get_same,get_ne,get_nil,put_s,put_n,arg_cons,arg_nil,Nat.reduceBEq,Nat.reduceAdd] <;> rfl):AtS n prog rr (.c (.keep l)::k) .norm e Γ Q:=fun h s=>at_kp he (w h s)

/-- A test whose bool is known. -/
def AtC (n:Nat) (prog:AProg) (rr:Option Nat) (v:Value) (a b:ACode) (k:List Kt) (e:Env) (Γ:List HP) (Q:Pst):Prop:=∀ c,ev e c=some v→AtS n prog rr (.c (.cond c a b)::k) .norm e Γ Q
theorem g_cond {a b:ACode} (w:AtC n prog rr v a b k e Γ Q) (hc:ev e x=some v:=by rfl):AtS n prog rr (.c (.cond x a b)::k) .norm e Γ Q:=w x hc
instance s_true {a b:ACode}:Step (AtC n prog rr (.bool true) a b k e Γ Q) (AtS n prog rr (.c a::k) .norm e Γ Q):=⟨fun w c hc h s=>at_true hc (w h s)⟩
instance s_false {a b:ACode}:Step (AtC n prog rr (.bool false) a b k e Γ Q) (AtS n prog rr (.c b::k) .norm e Γ Q):=⟨fun w c hc h s=>at_false hc (w h s)⟩
instance s_not {a b:ACode} {c:Bool}:Step (AtC n prog rr (.bool !c) a b k e Γ Q) (AtC n prog rr (.bool c) b a k e Γ Q):=⟨fun w x hc h s=>at_cond hc (fun hb=>by
    have:=w (.const (.bool c)) rfl h s
    obtain rfl:c=false:=by simpa using hb
    intro H hH
    obtain ⟨m,x,e1,H1,h1,hr,hq⟩:=this H hH
    exact ⟨m,x,e1,H1,h1,by simp only [evC,ev] at hr;exact hr,hq⟩) (fun hb=>by
    have:=w (.const (.bool c)) rfl h s
    obtain rfl:c=true:=by simpa using hb
    intro H hH
    obtain ⟨m,x,e1,H1,h1,hr,hq⟩:=this H hH
    exact ⟨m,x,e1,H1,h1,by simp only [evC,ev] at hr;exact hr,hq⟩)⟩
instance (priority:=500) s_case {a b:ACode} {c:Bool}:Step (AtC n prog rr (.bool c) a b k e Γ Q) (Br (c=true) (AtS n prog rr (.c a::k) .norm e Γ Q) (AtS n prog rr (.c b::k) .norm e Γ Q)) :=
  ⟨fun w x hc h s=>at_cond hc (fun hb=>w.t hb h s) (fun hb=>w.f (by simp [hb]) h s)⟩

/-- A guard whose bool is known. -/
def AtG (n:Nat) (prog:AProg) (rr:Option Nat) (d:Bool) (v:Value) (b:Bool) (dst:Option Nat) (op:AOp) (bar:Bool) (r:List AI) (k:List Kt) (e:Env) (Γ:List HP) (Q:Pst):Prop:=∀ s,Env.get e s=some v→AtS n prog rr (.o d (⟨dst,op,some (s,b),bar⟩::r)::k) .norm e Γ Q
theorem g_guard {s:Nat} {b:Bool} (w:AtG n prog rr d v b dst op bar r k e Γ Q) (hc:Env.get e s=some v:=by rfl):AtS n prog rr (.o d (⟨dst,op,some (s,b),bar⟩::r)::k) .norm e Γ Q:=w s hc
instance sg_tt:Step (AtG n prog rr d (.bool true) true dst op bar r k e Γ Q) (AtS n prog rr (.o d (⟨dst,op,none,bar⟩::r)::k) .norm e Γ Q):=⟨fun w c hc h s=>at_guard_t hc (w h s)⟩
instance sg_ff:Step (AtG n prog rr d (.bool false) false dst op bar r k e Γ Q) (AtS n prog rr (.o d (⟨dst,op,none,bar⟩::r)::k) .norm e Γ Q):=⟨fun w c hc h s=>at_guard_t hc (w h s)⟩
instance sg_ft:Step (AtG n prog rr d (.bool false) true dst op bar r k e Γ Q) (AtS n prog rr (.o d r::k) .norm (put e dst undef) Γ Q):=⟨fun w c hc h s=>at_guard_f hc (w h s)⟩
instance sg_tf:Step (AtG n prog rr d (.bool true) false dst op bar r k e Γ Q) (AtS n prog rr (.o d r::k) .norm (put e dst undef) Γ Q):=⟨fun w c hc h s=>at_guard_f hc (w h s)⟩
instance sg_u {b:Bool}:Step (AtG n prog rr d undef b dst op bar r k e Γ Q) (AtS n prog rr (.o d r::k) .norm (put e dst undef) Γ Q):=⟨fun w c hc h s=>at_guard_u hc (w h s)⟩
instance (priority:=500) sg_case {b c:Bool}:Step (AtG n prog rr d (.bool c) b dst op bar r k e Γ Q) (Br (c=b) (AtS n prog rr (.o d (⟨dst,op,none,bar⟩::r)::k) .norm e Γ Q) (AtS n prog rr (.o d r::k) .norm (put e dst undef) Γ Q)) :=
  ⟨fun w s hc h hs=>by
    by_cases q:c=b
    · subst q;exact at_guard_t hc (w.t rfl h hs)
    · have:c=!b:=by cases b <;> cases c <;> simp_all
      subst this;exact at_guard_f hc (w.f (by simp) h hs)⟩

inductive Evs (e:Env):List Operand→List Value→Prop where
  | nil:Evs e [] []
  | cons {x:Operand} {l:List Operand} {v:Value} {vs:List Value} (h:ev e x=some v) (t:Evs e l vs):Evs e (x::l) (v::vs)
theorem Evs.a {l:List Operand} (h:Evs e (x::l) (v::vs)):ev e x=some v:=by cases h;assumption
theorem Evs.tl {l:List Operand} (h:Evs e (x::l) (v::vs)):Evs e l vs:=by cases h;assumption
theorem Evs.b {l:List Operand} (h:Evs e (x::y::l) (u::v::vs)):ev e y=some v:=h.tl.a
theorem Evs.c {l:List Operand} (h:Evs e (x::y::z::l) (u::v::v1::vs)):ev e z=some v1:=h.tl.tl.a
theorem Evs.evs {l:List Operand} (h:Evs e l vs):evs e l=some vs:=by
  induction h with
  | nil=>rfl
  | cons h _ ih=>simp only [AM.evs,h,ih,Option.bind_some,Option.map_some]
def AtV (n:Nat) (prog:AProg) (rr:Option Nat) (d bar:Bool) (dst:Option Nat) (op:AOp) (vs:List Value) (r:List AI) (k:List Kt) (e:Env) (Γ:List HP) (Q:Pst):Prop :=
  Evs e op.opnds vs→AtS n prog rr (.o d (⟨dst,op,none,bar⟩::r)::k) .norm e Γ Q
theorem g_op (h:Evs e op.opnds vs) (w:AtV n prog rr d bar dst op vs r k e Γ Q):AtS n prog rr (.o d (⟨dst,op,none,bar⟩::r)::k) .norm e Γ Q:=w h

theorem go1 (hv:∀ h,Sat n Γ h→∀ m,aop op e (h.withProt m)=some (v,h.withProt m)) (w:AtS n prog rr (.o d r::k) .norm ((t,v)::e) Γ Q):AtS n prog rr (.o d (⟨some t,op,none,bar⟩::r)::k) .norm e Γ Q :=
  fun h s=>at_one (opD_same (hv h s)) (w h s)
/-- What comes new into being. -/
theorem go_new {ob:AObj} {P:Nat→HP} {vf:Nat→Value} (hv:∀ h,Sat n Γ h→∀ m,aop op e (h.withProt m)=some (vf h.size,(h.withProt m).push ob)) (hp:∀ (h:Heap) b,h.get b=some ob→b < h.size→(P b).has h (·=b)) (w:∀ b,AtS n prog rr (.o d r::k) .norm ((t,vf b)::e) (P b::Γ) Q) :
    AtS n prog rr (.o d (⟨some t,op,none,bar⟩::r)::k) .norm e Γ Q:=fun h s=>by
  refine at_one (opD_push (hv h s)) (w h.size _ ⟨?_,s.prot,by have:=s.le;simp;omega⟩)
  obtain ⟨S,h1,h2⟩:=s.s
  have hb:=h1.inb
  refine ⟨_,⟨(·=h.size),S,hp _ _ (by rw [Heap.get_push,if_pos rfl]) (by simp),h1.loc (St.push _ _) (fun b q=>by rw [Heap.get_push,if_neg (by have:=hb b q;omega)]),fun b q1 q2=>by have:=hb b q2;rw [show b=h.size from q1] at this;omega,fun b=>Iff.rfl⟩,fun b q=>?_⟩
  rcases q with q|q
  · rw [show b=h.size from q];exact s.le
  · exact h2 b q

class Plus (a b:Nat) (c:outParam Nat):Prop where
  eq:a + b=c
instance (priority:=1100) plus0 {b:Nat}:Plus 0 b b:=⟨Nat.zero_add b⟩
instance plus1 {a b:Nat}:Plus a b (a + b):=⟨rfl⟩
class Nth (l:List Value) (i:Nat) (v:outParam Value):Prop where
  eq:l[i]? = some v
instance nth0 {l:List Value}:Nth (v::l) 0 v:=⟨rfl⟩
instance nth1 {l:List Value} {i:Nat} [a:Nth l i v]:Nth (u::l) (i + 1) v:=⟨by rw [List.getElem?_cons_succ];exact a.eq⟩
/-- What may stand in a cell. -/
class Cl (v:Value):Prop where
  ok:cellOk v=true
  nj:Heap.isJ v=false
  vc:vcells v=[v]
instance cl_int {ki:IntKind} {i:Int}:Cl (.int ki i):=⟨rfl,rfl,rfl⟩
instance cl_bool {b:Bool}:Cl (.bool b):=⟨rfl,rfl,rfl⟩
instance cl_str {b:ByteArray}:Cl (.string b):=⟨rfl,rfl,rfl⟩
instance cl_ptr {b:Option Addr}:Cl (.pointer b):=⟨rfl,rfl,rfl⟩
instance cl_sl {b:Option Addr} {i j:Nat}:Cl (.slice b i j):=⟨rfl,rfl,rfl⟩
instance cl_map {b:Option Nat}:Cl (.map b):=⟨rfl,rfl,rfl⟩
instance cl_nf:Cl .nilFunc:=⟨rfl,rfl,rfl⟩
instance cl_f {f:Fn} {a b:Array Value}:Cl (.func f a b):=⟨rfl,rfl,rfl⟩
class Cls (l:List Value) (i:Nat):Prop where
  len:l.length=i
  ok:l.all cellOk=true
  nj:l.all (fun v=>!Heap.isJ v)=true
instance cls0:Cls [] 0:=⟨rfl,rfl,rfl⟩
instance cls1 {l:List Value} {i:Nat} [a:Cl v] [b:Cls l i]:Cls (v::l) (i + 1):=⟨by rw [List.length_cons,b.len],by rw [List.all_cons,a.ok,b.ok];rfl,by rw [List.all_cons,a.nj,b.nj];rfl⟩
/-- A value's cells. -/
class Vcs (v:Value) (i:Nat) (cs:outParam (List Value)):Prop where
  eq:vcells v=cs
  c:Cls cs i
instance vcs1 [a:Cl v]:Vcs v 1 [v]:=⟨a.vc,inferInstance⟩
instance vcsN {cs:List Value} {i:Nat} [c:Cls cs i]:Vcs (.agg (List.toArray cs)) i cs:=⟨rfl,c⟩
class Vc0 (v:Value) (cs:outParam (List Value)):Prop where
  eq:vcells v=cs
instance vc01 [a:Cl v]:Vc0 v [v]:=⟨a.vc⟩
instance vc0N {cs:List Value}:Vc0 (.agg (List.toArray cs)) cs:=⟨rfl⟩
/-- Cells laid over cells. -/
class Spl (cs:List Value) (o:Nat) (vs:List Value) (cs':outParam (List Value)):Prop where
  eq:splice cs o vs=cs'
  le:o + vs.length≤cs.length
instance spl0 {cs:List Value}:Spl cs 0 [] cs:=⟨by simp [splice],by simp⟩
instance spl1 {cs cs':List Value} [a:Spl cs 0 vs cs']:Spl (u::cs) 0 (v::vs) (v::cs'):=⟨by
    have:=a.eq
    simp only [splice,List.take_zero,List.nil_append,Nat.zero_add,List.length_cons,List.drop_succ_cons,List.cons_append] at *
    rw [this],by have:=a.le;simp only [List.length_cons] at *;omega⟩
instance spl2 {cs cs':List Value} {o:Nat} [a:Spl cs o vs cs']:Spl (u::cs) (o + 1) vs (u::cs'):=⟨by
    have:=a.eq
    simp only [splice] at *
    rw [List.take_succ_cons,show o + 1 + vs.length=(o + vs.length) + 1 by omega,List.drop_succ_cons,List.cons_append,List.cons_append,this],by have:=a.le;simp only [List.length_cons] at *;omega⟩
/-- Some cells of many. -/
class Mid (cs:List Value) (o i:Nat) (cs':outParam (List Value)):Prop where
  eq:(cs.drop o).take i=cs'
  le:o + i≤cs.length
instance mid0 {cs:List Value}:Mid cs 0 0 []:=⟨by simp,by simp⟩
instance mid1 {cs cs':List Value} {i:Nat} [a:Mid cs 0 i cs']:Mid (u::cs) 0 (i + 1) (u::cs'):=⟨by have:=a.eq;simp only [List.drop_zero] at *;rw [List.take_succ_cons,this],by have:=a.le;simp only [List.length_cons];omega⟩
instance mid2 {cs cs':List Value} {o i:Nat} [a:Mid cs o i cs']:Mid (u::cs) (o + 1) i cs':=⟨by rw [List.drop_succ_cons];exact a.eq,by have:=a.le;simp only [List.length_cons];omega⟩

/-- A block that can be read. -/
class LkP (Γ:List HP) (b:Nat) (cs:outParam (List Value)):Prop where
  get:∀ {h:Heap} {S:Nat→Prop},SatS Γ h S→b < h.size∧∃ w,h.get b=some (.cells cs w)
instance lkp_pt {b q:Nat} {cs:List Value}:LkP (pt b cs q::Γ) b cs:=⟨fun ⟨s,s',h1,_⟩=>⟨h1.2.1,_,h1.1⟩⟩
instance lkp_ro {b q:Nat} {cs:List Value}:LkP (ro (pt b cs q)::Γ) b cs:=⟨fun ⟨s,s',⟨⟨s1,h1,_⟩,_⟩,_⟩=>⟨h1.2.1,_,h1.1⟩⟩
instance (priority:=900) lkp_tl {P:HP} {b:Nat} {cs:List Value} [a:LkP Γ b cs]:LkP (P::Γ) b cs:=⟨fun ⟨s,s',_,h2,_⟩=>a.get h2⟩
/-- One of one's own, and the rest. -/
class LkW (Γ:List HP) (b:Nat) (cs:outParam (List Value)) (q:outParam Nat) (F:outParam (List HP)):Prop where
  ent:Ent Γ (pt b cs q::F)
instance lkw_hd {b q:Nat} {cs:List Value}:LkW (pt b cs q::Γ) b cs q Γ:=⟨.refl _⟩
instance (priority:=900) lkw_tl {P:HP} {b q:Nat} {cs:List Value} [a:LkW Γ b cs q F]:LkW (P::Γ) b cs q (P::F):=⟨a.ent.there⟩
/-- A loaded part, rewritten. -/
theorem sat_wr {b q o:Nat} {cs cs':List Value} (hs:Sat n (pt b cs q::F) h) (he:splice cs o vs=cs'):Sat n (pt b cs' q::F) (h.set b (.cells cs' (some q))):=by
  obtain ⟨⟨S,⟨s,s',⟨h1,h2,rfl⟩,h3,h4,h5⟩,h6⟩,hp,hn⟩:=hs
  have hb:n≤b:=h6 b ((h5 b).2 (.inl rfl))
  refine ⟨⟨S,⟨(·=b),s',⟨by rw [Heap.get_set,if_pos rfl],h2,rfl⟩,h3.loc (.set _ (by rw [hp];exact hb) (fun c q=>by rw [h1] at q;cases q)) (fun x hx=>by rw [Heap.get_set,if_neg (fun e=>h4 x e hx)]),h4,h5⟩,h6⟩,hp,hn⟩

instance v_mv:Step (AtV n prog rr d bar (some t) (.mv x) [v] r k e Γ Q) (AtS n prog rr (.o d r::k) .norm ((t,v)::e) Γ Q):=⟨fun w hE=>go1 (fun h _ m=>by simp only [aop,hE.a];rfl) w⟩
instance v_pickt:Step (AtV n prog rr d bar (some t) (.pick x y z) [.bool true,u,v] r k e Γ Q) (AtS n prog rr (.o d r::k) .norm ((t,u)::e) Γ Q):=⟨fun w hE=>go1 (fun h _ m=>by simp only [aop,hE.a,hE.b];rfl) w⟩
instance v_pickf:Step (AtV n prog rr d bar (some t) (.pick x y z) [.bool false,u,v] r k e Γ Q) (AtS n prog rr (.o d r::k) .norm ((t,v)::e) Γ Q):=⟨fun w hE=>go1 (fun h _ m=>by simp only [aop,hE.a,hE.c];rfl) w⟩
instance (priority:=500) v_pick {c:Bool}:Step (AtV n prog rr d bar (some t) (.pick x y z) [.bool c,u,v] r k e Γ Q) (Br (c=true) (AtS n prog rr (.o d r::k) .norm ((t,u)::e) Γ Q) (AtS n prog rr (.o d r::k) .norm ((t,v)::e) Γ Q)) :=
  ⟨fun w hE=>by
    cases c with
    | true=>exact go1 (fun h _ m=>by simp only [aop,hE.a,hE.b];rfl) (w.t rfl)
    | false=>exact go1 (fun h _ m=>by simp only [aop,hE.a,hE.c];rfl) (w.f (by simp))⟩
instance v_nilc {a:Addr}:Step (AtV n prog rr d bar (some t) (.nilc x) [.pointer (some a)] r k e Γ Q) (AtS n prog rr (.o d r::k) .norm ((t,.pointer (some a))::e) Γ Q):=⟨fun w hE=>go1 (fun h _ m=>by simp only [aop,hE.a]) w⟩
instance v_nilf {f:FuncId} {a b:Array Value}:Step (AtV n prog rr d bar (some t) (.nilc x) [.func (.func f) a b] r k e Γ Q) (AtS n prog rr (.o d r::k) .norm ((t,.func (.func f) a b)::e) Γ Q):=⟨fun w hE=>go1 (fun h _ m=>by simp only [aop,hE.a]) w⟩
instance v_nily {f:Nat} {a b:Array Value}:Step (AtV n prog rr d bar (some t) (.nilc x) [.func (.yield f) a b] r k e Γ Q) (AtS n prog rr (.o d r::k) .norm ((t,.func (.yield f) a b)::e) Γ Q):=⟨fun w hE=>go1 (fun h _ m=>by simp only [aop,hE.a]) w⟩

theorem bin1 {o:BinOp} {b:Value} (hE:Evs e (AOp.opnds (.bin o x y)) [u,v]) (hb:binV o u v=some b) (w:AtS n prog rr (.o d r::k) .norm ((t,b)::e) Γ Q):AtS n prog rr (.o d (⟨some t,.bin o x y,none,bar⟩::r)::k) .norm e Γ Q :=
  go1 (fun h _ m=>by simp only [aop,hE.a,hE.b,hb];rfl) w
section
variable {ki:IntKind} {p q:Int}
abbrev BrB (n:Nat) (prog:AProg) (rr:Option Nat) (d:Bool) (r:List AI) (k:List Kt) (t:Nat) (e:Env) (Γ:List HP) (Q:Pst) (c:Prop):Prop:=Br c (AtS n prog rr (.o d r::k) .norm ((t,.bool true)::e) Γ Q) (AtS n prog rr (.o d r::k) .norm ((t,.bool false)::e) Γ Q)
theorem brB {o:BinOp} {c:Prop} (hE:Evs e (AOp.opnds (.bin o x y)) [u,v]) (ht:c→binV o u v=some (.bool true)) (hf:¬ c→binV o u v=some (.bool false)) (w:BrB n prog rr d r k t e Γ Q c):AtS n prog rr (.o d (⟨some t,.bin o x y,none,bar⟩::r)::k) .norm e Γ Q:=by
  by_cases hc:c
  · exact bin1 hE (ht hc) (w.t hc)
  · exact bin1 hE (hf hc) (w.f hc)
instance v_lss:Step (AtV n prog rr d bar (some t) (.bin .lss x y) [.int ki p,.int ki q] r k e Γ Q) (BrB n prog rr d r k t e Γ Q (p < q)):=⟨fun w hE=>brB hE (fun c=>by rw [b_lss,decide_eq_true c]) (fun c=>by rw [b_lss,decide_eq_false c]) w⟩
instance v_leq:Step (AtV n prog rr d bar (some t) (.bin .leq x y) [.int ki p,.int ki q] r k e Γ Q) (BrB n prog rr d r k t e Γ Q (p≤q)):=⟨fun w hE=>brB hE (fun c=>by rw [b_leq,decide_eq_true c]) (fun c=>by rw [b_leq,decide_eq_false c]) w⟩
instance v_gtr:Step (AtV n prog rr d bar (some t) (.bin .gtr x y) [.int ki p,.int ki q] r k e Γ Q) (BrB n prog rr d r k t e Γ Q (q < p)):=⟨fun w hE=>brB hE (fun c=>by rw [b_gtr,decide_eq_true c]) (fun c=>by rw [b_gtr,decide_eq_false c]) w⟩
instance v_geq:Step (AtV n prog rr d bar (some t) (.bin .geq x y) [.int ki p,.int ki q] r k e Γ Q) (BrB n prog rr d r k t e Γ Q (q≤p)):=⟨fun w hE=>brB hE (fun c=>by rw [b_geq,decide_eq_true c]) (fun c=>by rw [b_geq,decide_eq_false c]) w⟩
instance v_eql:Step (AtV n prog rr d bar (some t) (.bin .eql x y) [.int ki p,.int ki q] r k e Γ Q) (BrB n prog rr d r k t e Γ Q (p=q)):=⟨fun w hE=>brB hE (fun c=>by rw [b_eql,beq_iff_eq.2 c]) (fun c=>by rw [b_eql,beq_eq_false_iff_ne.2 c]) w⟩
instance v_neq:Step (AtV n prog rr d bar (some t) (.bin .neq x y) [.int ki p,.int ki q] r k e Γ Q) (BrB n prog rr d r k t e Γ Q (p≠q)):=⟨fun w hE=>brB hE (fun c=>by rw [b_neq,bne,beq_eq_false_iff_ne.2 c];rfl) (fun c=>by rw [b_neq,bne,beq_iff_eq.2 (by simpa using c)];rfl) w⟩
/-- A number that is not below 0. -/
class IsN (p:Int) (i:outParam Nat):Prop where
  eq:p=(i:Int)
instance isn_c {i:Nat}:IsN (i:Int) i:=⟨rfl⟩
instance isn_0:IsN 0 0:=⟨rfl⟩
instance isn_1:IsN 1 1:=⟨rfl⟩
instance isn_2:IsN 2 2:=⟨rfl⟩
instance isn_3:IsN 3 3:=⟨rfl⟩
instance isn_4:IsN 4 4:=⟨rfl⟩
instance isn_5:IsN 5 5:=⟨rfl⟩
instance isn_6:IsN 6 6:=⟨rfl⟩
instance isn_7:IsN 7 7:=⟨rfl⟩
instance isn_8:IsN 8 8:=⟨rfl⟩
instance isn_64:IsN 64 64:=⟨rfl⟩
instance (priority:=1050) v_addN {i j:Nat} [a:IsN p i] [b:IsN q j]:Step (AtV n prog rr d bar (some t) (.bin .add x y) [.int .i64 p,.int .i64 q] r k e Γ Q) (Sd (i + j≤9223372036854775807) (AtS n prog rr (.o d r::k) .norm ((t,.int .i64 ((i + j:Nat):Int))::e) Γ Q)) :=
  ⟨fun w hE=>bin1 hE (by have:=w.c;have h1:=a.eq;have h2:=b.eq;subst h1;subst h2;rw [b_add,w64 (by omega) (by omega)];rfl) w.a⟩
instance v_add:Step (AtV n prog rr d bar (some t) (.bin .add x y) [.int .i64 p,.int .i64 q] r k e Γ Q) (Sd (-9223372036854775808≤p + q∧p + q≤9223372036854775807) (AtS n prog rr (.o d r::k) .norm ((t,.int .i64 (p + q))::e) Γ Q)) :=
  ⟨fun w hE=>bin1 hE (by rw [b_add,w64 w.c.1 w.c.2]) w.a⟩
instance v_sub:Step (AtV n prog rr d bar (some t) (.bin .sub x y) [.int .i64 p,.int .i64 q] r k e Γ Q) (Sd (-9223372036854775808≤p - q∧p - q≤9223372036854775807) (AtS n prog rr (.o d r::k) .norm ((t,.int .i64 (p - q))::e) Γ Q)) :=
  ⟨fun w hE=>bin1 hE (by rw [b_sub,w64 w.c.1 w.c.2]) w.a⟩
instance (priority:=1050) v_mulN {i:Nat} {j:Nat} [a:IsN p i] [b:IsN q j]:Step (AtV n prog rr d bar (some t) (.bin .mul x y) [.int .i64 p,.int .i64 q] r k e Γ Q) (Sd (i * j≤9223372036854775807) (AtS n prog rr (.o d r::k) .norm ((t,.int .i64 ((i * j:Nat):Int))::e) Γ Q)) :=
  ⟨fun w hE=>bin1 hE (by
    have:=w.c
    have h1:=a.eq;have h2:=b.eq;subst h1;subst h2
    have e1:(i:Int) * (j:Int)=((i * j:Nat):Int):=by simp
    rw [b_mul,e1,w64 (by omega) (by omega)]) w.a⟩
instance v_mul:Step (AtV n prog rr d bar (some t) (.bin .mul x y) [.int .i64 p,.int .i64 q] r k e Γ Q) (Sd (-9223372036854775808≤p * q∧p * q≤9223372036854775807) (AtS n prog rr (.o d r::k) .norm ((t,.int .i64 (p * q))::e) Γ Q)) :=
  ⟨fun w hE=>bin1 hE (by rw [b_mul,w64 w.c.1 w.c.2]) w.a⟩
/-- Division of what is not below 0. -/
instance (priority:=1050) v_quoN {i:Nat}:Step (AtV n prog rr d bar (some t) (.bin .quo x y) [.int .i64 (i:Int),.int .i64 q] r k e Γ Q) (Sd (0 < q∧i≤9223372036854775807) (AtS n prog rr (.o d r::k) .norm ((t,.int .i64 ((i / q.toNat:Nat):Int))::e) Γ Q)) :=
  ⟨fun w hE=>bin1 hE (by
    obtain ⟨h1,h2⟩:=w.c
    have e1:((i / q.toNat:Nat):Int)=(i:Int).tdiv q:=by
      rw [Int.tdiv_eq_ediv_of_nonneg (by omega),Int.natCast_ediv,Int.toNat_of_nonneg (by omega)]
    have h3:i / q.toNat≤i:=Nat.div_le_self _ _
    rw [b_quo,if_neg (by omega),← e1]
    clear e1
    generalize i / q.toNat=j at *
    rw [w64 (by omega) (by omega)]) w.a⟩
instance v_quo:Step (AtV n prog rr d bar (some t) (.bin .quo x y) [.int .i64 p,.int .i64 q] r k e Γ Q) (Sd (q≠0∧-9223372036854775808≤p.tdiv q∧p.tdiv q≤9223372036854775807) (AtS n prog rr (.o d r::k) .norm ((t,.int .i64 (p.tdiv q))::e) Γ Q)) :=
  ⟨fun w hE=>bin1 hE (by rw [b_quo,if_neg w.c.1,w64 w.c.2.1 w.c.2.2]) w.a⟩
instance (priority:=1050) v_remN {i:Nat}:Step (AtV n prog rr d bar (some t) (.bin .rem x y) [.int ki (i:Int),.int ki q] r k e Γ Q) (Sd (0 < q) (AtS n prog rr (.o d r::k) .norm ((t,.int ki ((i % q.toNat:Nat):Int))::e) Γ Q)) :=
  ⟨fun w hE=>bin1 hE (by
    have h1:=w.c
    have e1:((i % q.toNat:Nat):Int)=(i:Int).tmod q:=by
      rw [Int.tmod_eq_emod_of_nonneg (by omega),Int.natCast_emod,Int.toNat_of_nonneg (by omega)]
    rw [b_rem,if_neg (by omega),← e1]) w.a⟩
instance (priority:=1080) v_remNN {i j:Nat} [a:IsN p i] [b:IsN q j]:Step (AtV n prog rr d bar (some t) (.bin .rem x y) [.int ki p,.int ki q] r k e Γ Q) (Sd (0 < j) (AtS n prog rr (.o d r::k) .norm ((t,.int ki ((i % j:Nat):Int))::e) Γ Q)) :=
  ⟨fun w hE=>bin1 hE (by
    have h1:=w.c
    have h2:=a.eq;have h3:=b.eq;subst h2;subst h3
    have e1:((i % j:Nat):Int)=(i:Int).tmod (j:Int):=by
      rw [Int.tmod_eq_emod_of_nonneg (by omega),Int.natCast_emod]
    rw [b_rem,if_neg (by omega),← e1]) w.a⟩
instance v_rem:Step (AtV n prog rr d bar (some t) (.bin .rem x y) [.int ki p,.int ki q] r k e Γ Q) (Sd (q≠0) (AtS n prog rr (.o d r::k) .norm ((t,.int ki (p.tmod q))::e) Γ Q)) :=
  ⟨fun w hE=>bin1 hE (by rw [b_rem,if_neg w.c]) w.a⟩
instance v_neg:Step (AtV n prog rr d bar (some t) (.un .neg x) [.int .i64 p] r k e Γ Q) (Sd (-9223372036854775808 < p∧p≤9223372036854775808) (AtS n prog rr (.o d r::k) .norm ((t,.int .i64 (-p))::e) Γ Q)):=⟨fun w hE=>go1 (fun h _ m=>by
    have:=w.c
    simp only [aop,hE.a,unV,Int.zero_sub,Option.map_some]
    rw [w64 (x:=-p) (by omega) (by omega)]) w.a⟩
instance v_conv:Step (AtV n prog rr d bar (some t) (.conv .i64 x) [.int ki p] r k e Γ Q) (Sd (-9223372036854775808≤p∧p≤9223372036854775807) (AtS n prog rr (.o d r::k) .norm ((t,.int .i64 p)::e) Γ Q)):=⟨fun w hE=>go1 (fun h _ m=>by simp only [aop,hE.a,w64 w.c.1 w.c.2]) w.a⟩
instance v_max:Step (AtV n prog rr d bar (some t) (.max [x,y]) [.int ki p,.int ki q] r k e Γ Q) (Br (p < q) (AtS n prog rr (.o d r::k) .norm ((t,.int ki q)::e) Γ Q) (AtS n prog rr (.o d r::k) .norm ((t,.int ki p)::e) Γ Q)):=⟨fun w hE=>by
    have h1:=hE.a;have h2:=hE.b
    by_cases c:p < q
    · exact go1 (fun h _ m=>by simp only [aop,AM.evs,h1,h2,Option.bind_some,Option.map_some,minmax,minmaxF,if_true,cond_true];rw [if_pos c]) (w.t c)
    · exact go1 (fun h _ m=>by simp only [aop,AM.evs,h1,h2,Option.bind_some,Option.map_some,minmax,minmaxF,if_true,cond_true];rw [if_neg (show ¬ q > p from c)]) (w.f c)⟩
instance v_min:Step (AtV n prog rr d bar (some t) (.min [x,y]) [.int ki p,.int ki q] r k e Γ Q) (Br (q < p) (AtS n prog rr (.o d r::k) .norm ((t,.int ki q)::e) Γ Q) (AtS n prog rr (.o d r::k) .norm ((t,.int ki p)::e) Γ Q)):=⟨fun w hE=>by
    have h1:=hE.a;have h2:=hE.b
    by_cases c:q < p
    · exact go1 (fun h _ m=>by simp only [aop,AM.evs,h1,h2,Option.bind_some,Option.map_some,minmax,minmaxF,if_true,cond_false];rw [if_pos c]) (w.t c)
    · exact go1 (fun h _ m=>by simp only [aop,AM.evs,h1,h2,Option.bind_some,Option.map_some,minmax,minmaxF,if_true,cond_false];rw [if_neg c]) (w.f c)⟩
end
section
variable {s1 s2:ByteArray}
instance v_seql:Step (AtV n prog rr d bar (some t) (.bin .eql x y) [.string s1,.string s2] r k e Γ Q) (BrB n prog rr d r k t e Γ Q (s1.toList=s2.toList)):=⟨fun w hE=>brB hE (fun c=>by rw [b_seq,beq_iff_eq.2 c]) (fun c=>by rw [b_seq,beq_eq_false_iff_ne.2 c]) w⟩
instance v_sneq:Step (AtV n prog rr d bar (some t) (.bin .neq x y) [.string s1,.string s2] r k e Γ Q) (BrB n prog rr d r k t e Γ Q (s1.toList≠s2.toList)):=⟨fun w hE=>brB hE (fun c=>by rw [b_sneq,beq_eq_false_iff_ne.2 c];rfl) (fun c=>by rw [b_sneq,beq_iff_eq.2 (by simpa using c)];rfl) w⟩
instance v_sadd:Step (AtV n prog rr d bar (some t) (.bin .add x y) [.string s1,.string s2] r k e Γ Q) (Sd (s1.size + s2.size≤9223372036854775807) (AtS n prog rr (.o d r::k) .norm ((t,.string (s1++s2))::e) Γ Q)):=⟨fun w hE=>bin1 hE (by have:=w.c;rw [b_sadd,if_neg (by omega)]) w.a⟩
instance v_lenS:Step (AtV n prog rr d bar (some t) (.len 0 x) [.string s1] r k e Γ Q) (AtS n prog rr (.o d r::k) .norm ((t,.int .i64 s1.size)::e) Γ Q):=⟨fun w hE=>go1 (fun h _ m=>by simp only [aop,hE.a]) w⟩
end
instance v_lenL {p:Option Addr} {i c:Nat}:Step (AtV n prog rr d bar (some t) (.len 1 x) [.slice p i c] r k e Γ Q) (AtS n prog rr (.o d r::k) .norm ((t,.int .i64 i)::e) Γ Q):=⟨fun w hE=>go1 (fun h _ m=>by simp only [aop,hE.a]) w⟩
instance v_nott:Step (AtV n prog rr d bar (some t) (.un .not x) [.bool true] r k e Γ Q) (AtS n prog rr (.o d r::k) .norm ((t,.bool false)::e) Γ Q):=⟨fun w hE=>go1 (fun h _ m=>by simp only [aop,hE.a];rfl) w⟩
instance v_notf:Step (AtV n prog rr d bar (some t) (.un .not x) [.bool false] r k e Γ Q) (AtS n prog rr (.o d r::k) .norm ((t,.bool true)::e) Γ Q):=⟨fun w hE=>go1 (fun h _ m=>by simp only [aop,hE.a];rfl) w⟩
instance (priority:=500) v_not {c:Bool}:Step (AtV n prog rr d bar (some t) (.un .not x) [.bool c] r k e Γ Q) (AtS n prog rr (.o d r::k) .norm ((t,.bool !c)::e) Γ Q):=⟨fun w hE=>go1 (fun h _ m=>by simp only [aop,hE.a];rfl) w⟩
theorem eqv1 {i:Nat} {neg b:Bool} (hE:Evs e (AOp.opnds (.eqv i neg x y)) [u,v]) (hb:eq1 i u v=some b) (w:AtS n prog rr (.o d r::k) .norm ((t,.bool (bif neg then !b else b))::e) Γ Q):AtS n prog rr (.o d (⟨some t,.eqv i neg x y,none,bar⟩::r)::k) .norm e Γ Q :=
  go1 (fun h _ m=>by simp only [aop,hE.a,hE.b,hb,Option.map_some]) w
instance e_pn0 {p:Addr}:Step (AtV n prog rr d bar (some t) (.eqv 1 false x y) [.pointer (some p),.pointer none] r k e Γ Q) (AtS n prog rr (.o d r::k) .norm ((t,.bool false)::e) Γ Q):=⟨fun w hE=>eqv1 (b:=false) hE rfl w⟩
instance e_pn1 {p:Addr}:Step (AtV n prog rr d bar (some t) (.eqv 1 true x y) [.pointer (some p),.pointer none] r k e Γ Q) (AtS n prog rr (.o d r::k) .norm ((t,.bool true)::e) Γ Q):=⟨fun w hE=>eqv1 (b:=false) hE rfl w⟩
instance e_nn0:Step (AtV n prog rr d bar (some t) (.eqv 1 false x y) [.pointer none,.pointer none] r k e Γ Q) (AtS n prog rr (.o d r::k) .norm ((t,.bool true)::e) Γ Q):=⟨fun w hE=>eqv1 (b:=true) hE rfl w⟩
instance e_nn1:Step (AtV n prog rr d bar (some t) (.eqv 1 true x y) [.pointer none,.pointer none] r k e Γ Q) (AtS n prog rr (.o d r::k) .norm ((t,.bool false)::e) Γ Q):=⟨fun w hE=>eqv1 (b:=true) hE rfl w⟩
instance e_f0 {f:Fn} {a b:Array Value}:Step (AtV n prog rr d bar (some t) (.eqv 4 false x y) [.func f a b,.nilFunc] r k e Γ Q) (AtS n prog rr (.o d r::k) .norm ((t,.bool false)::e) Γ Q):=⟨fun w hE=>eqv1 (b:=false) hE rfl w⟩
instance e_f1 {f:Fn} {a b:Array Value}:Step (AtV n prog rr d bar (some t) (.eqv 4 true x y) [.func f a b,.nilFunc] r k e Γ Q) (AtS n prog rr (.o d r::k) .norm ((t,.bool true)::e) Γ Q):=⟨fun w hE=>eqv1 (b:=false) hE rfl w⟩
instance e_f2:Step (AtV n prog rr d bar (some t) (.eqv 4 false x y) [.nilFunc,.nilFunc] r k e Γ Q) (AtS n prog rr (.o d r::k) .norm ((t,.bool true)::e) Γ Q):=⟨fun w hE=>eqv1 (b:=true) hE rfl w⟩
instance e_f3:Step (AtV n prog rr d bar (some t) (.eqv 4 true x y) [.nilFunc,.nilFunc] r k e Γ Q) (AtS n prog rr (.o d r::k) .norm ((t,.bool false)::e) Γ Q):=⟨fun w hE=>eqv1 (b:=true) hE rfl w⟩
instance e_s0 {p:Option Addr} {a b a' b':Nat}:Step (AtV n prog rr d bar (some t) (.eqv 2 false x y) [.slice p a b,.slice none a' b'] r k e Γ Q) (BrB n prog rr d r k t e Γ Q (p=none)):=⟨fun w hE=>by
    cases p with
    | none=>exact eqv1 (b:=true) hE rfl (w.t rfl)
    | some p=>exact eqv1 (b:=false) hE rfl (w.f (by simp))⟩
instance e_s1 {p:Option Addr} {a b a' b':Nat}:Step (AtV n prog rr d bar (some t) (.eqv 2 true x y) [.slice p a b,.slice none a' b'] r k e Γ Q) (BrB n prog rr d r k t e Γ Q (p≠none)):=⟨fun w hE=>by
    cases p with
    | none=>exact eqv1 (b:=true) hE rfl (w.f (by simp))
    | some p=>exact eqv1 (b:=false) hE rfl (w.t (by simp))⟩
instance e_b0 {a b:Bool}:Step (AtV n prog rr d bar (some t) (.eqv 0 false x y) [.bool a,.bool b] r k e Γ Q) (BrB n prog rr d r k t e Γ Q (a=b)):=⟨fun w hE=>by
    by_cases c:a=b
    · exact eqv1 (b:=true) hE (by simp [eq1,c]) (w.t c)
    · exact eqv1 (b:=false) hE (by simp [eq1,c]) (w.f c)⟩
instance e_b1 {a b:Bool}:Step (AtV n prog rr d bar (some t) (.eqv 0 true x y) [.bool a,.bool b] r k e Γ Q) (BrB n prog rr d r k t e Γ Q (a≠b)):=⟨fun w hE=>by
    by_cases c:a=b
    · exact eqv1 (b:=true) hE (by simp [eq1,c]) (w.f (by simp [c]))
    · exact eqv1 (b:=false) hE (by simp [eq1,c]) (w.t c)⟩

instance v_field {i:Nat} {cs:List Value} [a:Nth cs i v]:Step (AtV n prog rr d bar (some t) (.field1 i x) [.agg (List.toArray cs)] r k e Γ Q) (AtS n prog rr (.o d r::k) .norm ((t,v)::e) Γ Q):=⟨fun w hE=>go1 (fun h _ m=>by simp only [aop,hE.a,a.eq];rfl) w⟩
instance v_fieldN {i j:Nat} {cs cs':List Value} [a:Mid cs i j cs']:Step (AtV n prog rr d bar (some t) (.fieldN i j x) [.agg (List.toArray cs)] r k e Γ Q) (AtS n prog rr (.o d r::k) .norm ((t,.agg (List.toArray cs'))::e) Γ Q):=⟨fun w hE=>go1 (fun h _ m=>by simp only [aop,hE.a];rw [if_pos a.le,a.eq]) w⟩
instance v_extract {i:Nat} {cs:List Value} [a:Nth cs i v]:Step (AtV n prog rr d bar (some t) (.extract i x) [.tuple (List.toArray cs)] r k e Γ Q) (AtS n prog rr (.o d r::k) .norm ((t,v)::e) Γ Q):=⟨fun w hE=>go1 (fun h _ m=>by simp only [aop,hE.a,a.eq];rfl) w⟩
instance v_faddr {b o f o':Nat} [a:Plus o f o']:Step (AtV n prog rr d bar (some t) (.faddr f x) [.pointer (some ⟨b,o,none⟩)] r k e Γ Q) (AtS n prog rr (.o d r::k) .norm ((t,.pointer (some ⟨b,o',none⟩))::e) Γ Q):=⟨fun w hE=>go1 (fun h _ m=>by simp only [aop,hE.a,a.eq]) w⟩
/-- Parts laid into cells. -/
class Fill (z:List Value) (ps:List (Nat × Nat × Operand)) (vs:List Value) (cs:outParam (List Value)):Prop where
  fill:fillA z ((ps.zip vs).map fun q=>(q.1.1,q.1.2.1,q.2))=some cs
instance fill0 {cs:List Value}:Fill cs [] [] cs:=⟨rfl⟩
instance fill1 {cs cs1 cs2 vv:List Value} {o s:Nat} {ps:List (Nat × Nat × Operand)} [a:Vcs v s vv] [b:Spl cs o vv cs1] [c:Fill cs1 ps vs cs2]:Fill cs ((o,s,x)::ps) (v::vs) cs2:=⟨by
    have h1:=c.fill
    simp only [List.zip_cons_cons,List.map_cons,fillA,a.eq,b.eq]
    rw [if_pos ⟨a.c.len,by rw [← a.c.len];exact b.le⟩]
    exact h1⟩
theorem evps_of:∀ {ps:List (Nat × Nat × Operand)} {vs:List Value},Evs e (ps.map (·.2.2)) vs→evps e ps=some ((ps.zip vs).map fun q=>(q.1.1,q.1.2.1,q.2))
  | [],vs,h=>by cases h;rfl
  | (o,s,x)::ps,vs,h=>by
    cases h with
    | cons h1 h2=>simp only [evps,h1,evps_of h2,Option.bind_some,Option.map_some,List.zip_cons_cons,List.map_cons]
instance v_build {zs cs:List Value} {ps:List (Nat × Nat × Operand)} [a:Fill zs ps vs cs]:Step (AtV n prog rr d bar (some t) (.build zs ps) vs r k e Γ Q) (AtS n prog rr (.o d r::k) .norm ((t,.agg (List.toArray cs))::e) Γ Q):=⟨fun w hE=>go1 (fun h _ m=>by
    simp only [aop,evps_of (show Evs e (ps.map (·.2.2)) vs from hE),a.fill,Option.bind_some,Option.map_some]) w⟩
instance v_alloc {zs:List Value}:Step (AtV n prog rr d bar (some t) (.alloc zs) [] r k e Γ Q) (Fa fun b=>AtS n prog rr (.o d r::k) .norm ((t,.pointer (some ⟨b,0,none⟩))::e) (pt b zs 0::Γ) Q) :=
  ⟨fun w hE=>go_new (ob:=.cells zs (some 0)) (P:=fun b=>pt b zs 0) (vf:=fun b=>.pointer (some ⟨b,0,none⟩)) (fun h _ m=>by simp only [aop];rfl) (fun h b h1 h2=>⟨h1,h2,rfl⟩) w.a⟩
instance v_box {cs:List Value} [a:Vc0 v cs]:Step (AtV n prog rr d bar (some t) (.box x) [v] r k e Γ Q) (Fa fun b=>AtS n prog rr (.o d r::k) .norm ((t,.pointer (some ⟨b,0,none⟩))::e) (pt b cs 0::Γ) Q) :=
  ⟨fun w hE=>go_new (ob:=.cells cs (some 0)) (P:=fun b=>pt b cs 0) (vf:=fun b=>.pointer (some ⟨b,0,none⟩)) (fun h _ m=>by simp only [aop,hE.a,a.eq];rfl) (fun h b h1 h2=>⟨h1,h2,rfl⟩) w.a⟩
instance v_bslice {zs cs:List Value} {z l:Nat} {ps:List (Nat × Nat × Operand)} [a:Fill zs ps vs cs]:Step (AtV n prog rr d bar (some t) (.bslice z l zs ps) vs r k e Γ Q) (Fa fun b=>AtS n prog rr (.o d r::k) .norm ((t,.slice (some ⟨b,0,none⟩) l l)::e) (pt b cs z::Γ) Q) :=
  ⟨fun w hE=>go_new (ob:=.cells cs (some z)) (P:=fun b=>pt b cs z) (vf:=fun b=>.slice (some ⟨b,0,none⟩) l l) (fun h _ m=>by
    simp only [aop,evps_of (show Evs e (ps.map (·.2.2)) vs from hE),a.fill,Option.bind_some,Option.map_some];rfl) (fun h b h1 h2=>⟨h1,h2,rfl⟩) w.a⟩
instance v_mkmap:Step (AtV n prog rr d bar (some t) .mkmap [] r k e Γ Q) (Fa fun b=>AtS n prog rr (.o d r::k) .norm ((t,.map (some b))::e) (mp b []::Γ) Q) :=
  ⟨fun w hE=>go_new (ob:=.map []) (P:=fun b=>mp b []) (vf:=fun b=>.map (some b)) (fun h _ m=>by simp only [aop];rfl) (fun h b h1 h2=>⟨h1,h2,rfl⟩) w.a⟩
instance v_mkf {f:FuncId} {b:List Operand}:Step (AtV n prog rr d bar (some t) (.mkf f [] b) vs r k e Γ Q) (AtS n prog rr (.o d r::k) .norm ((t,.func (.func f) #[] (List.toArray vs))::e) Γ Q):=⟨fun w hE=>go1 (fun h _ m=>by
    simp only [aop,AM.evs,(show Evs e b vs from hE).evs,Option.bind_some,Option.map_some]) w⟩

theorem cell_eq {b o:Nat} {cs:List Value} {w:Option Nat} (h1:h.get b=some (.cells cs w)) (h2:cs[o]? = some v) (h3:Heap.isJ v=false):h.cell b o=some v:=by
  unfold Heap.cell;rw [h1];simp only [h2,h3,cond_false]
instance v_load {b o:Nat} {cs:List Value} [l:LkP Γ b cs] [a:Nth cs o v] [c:Cl v]:Step (AtV n prog rr d bar (some t) (.load1 x) [.pointer (some ⟨b,o,none⟩)] r k e Γ Q) (AtS n prog rr (.o d r::k) .norm ((t,v)::e) Γ Q):=⟨fun w hE=>go1 (fun h s m=>by
    obtain ⟨S,h1,_⟩:=s.s
    obtain ⟨_,w,h2⟩:=l.get h1
    simp only [aop,hE.a]
    rw [show (h.withProt m).cell b o=h.cell b o from rfl,cell_eq h2 a.eq c.nj];rfl) w⟩
instance v_loadN {b o i:Nat} {cs cs':List Value} [l:LkP Γ b cs] [a:Mid cs o i cs'] [c:Cls cs' i]:Step (AtV n prog rr d bar (some t) (.loadN i x) [.pointer (some ⟨b,o,none⟩)] r k e Γ Q) (AtS n prog rr (.o d r::k) .norm ((t,.agg (List.toArray cs'))::e) Γ Q):=⟨fun w hE=>go1 (fun h s m=>by
    obtain ⟨S,h1,_⟩:=s.s
    obtain ⟨_,w,h2⟩:=l.get h1
    have h3:h.rd b o i=some cs':=by unfold Heap.rd;rw [h2];simp only [a.eq];rw [if_pos ⟨a.le,c.nj⟩]
    simp only [aop,hE.a]
    rw [show (h.withProt m).rd b o i=h.rd b o i from rfl,h3];rfl) w⟩
class Ord (d bar:Bool):Prop where
  eq:(d && !bar)=false
instance ord_f:Ord false bar:=⟨rfl⟩
instance ord_t:Ord d true:=⟨by simp⟩
instance v_store {b o i q:Nat} {cs cs' vv:List Value} [od:Ord d bar] [l:LkW Γ b cs q F] [a:Vcs v i vv] [c:Spl cs o vv cs']:Step (AtV n prog rr d bar dst (.store i x y) [.pointer (some ⟨b,o,none⟩),v] r k e Γ Q) (AtS n prog rr (.o d r::k) .norm (put e dst undef) (pt b cs' q::F) Q):=⟨fun w hE h s=>by
    have s1:=l.ent.sat s
    have s2:=sat_wr s1 c.eq
    refine at_one (v:=undef) (h':=h.set b (.cells cs' (some q))) (opD_eq od.eq ?_) (w _ s2)
    obtain ⟨⟨S,⟨t1,t2,⟨k1,k2,rfl⟩,k3,k4,k5⟩,k6⟩,hp,hn⟩:=s1
    simp only [aop,hE.a,hE.b,a.eq]
    rw [if_pos a.c.len,wr_get k1 (by rw [hp];exact k6 b ((k5 b).2 (.inl rfl))) c.le a.c.ok,c.eq];rfl⟩
end
end Go.AMS

