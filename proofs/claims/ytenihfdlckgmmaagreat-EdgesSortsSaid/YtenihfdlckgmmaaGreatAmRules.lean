/- A part of the abstract machine, or of what is proved of the program by it. -/
import Derived.Test.YtenihfdlckgmmaaGreatAmKinds
namespace Go.AM.G
open Go.AM hiding Kt At WP WL Runs RunsY
set_option linter.unusedVariables false
set_option linter.unusedSectionVars false
set_option linter.unusedSimpArgs false

section
variable {prog:AProg} {ro:Option Nat} {e e':Env} {h h':Heap} {Q:Pst} {k:List Kt} {d bar:Bool} {r:List AI} {t:Nat} {x y z:Operand} {v u:Value} {α:Type} {K:Kind α} {m:M} {l:List α}

theorem wp_eq {h h1:Heap} (e:h1.prot=h.prot):h1.withProt h.prot=h1:=by rw [← e];rfl
theorem get_nil {t:Nat}:Env.get [] t=none:=rfl
theorem keepC_none {t:Nat} {r:Env}:keepC none t r=r:=rfl
theorem opD_eq {op:AOp} (hb:(d && !bar)=false) (hv:aop op e h=some (v,h')):opD (d && !bar) op e h=some (v,h'):=by rw [hb];exact hv
theorem opD_same {op:AOp} {o:Bool} (hv:∀ n,aop op e (h.withProt n)=some (v,h.withProt n)):opD o op e h=some (v,h):=by
  cases o with
  | false=>exact hv h.prot
  | true=>simp only [opD,cond_true,hv,Option.map_some];rfl
theorem opD_push {op:AOp} {o:Bool} {ob:AObj} (hv:∀ n,aop op e (h.withProt n)=some (v,(h.withProt n).push ob)):opD o op e h=some (v,h.push ob):=by
  cases o with
  | false=>exact hv h.prot
  | true=>simp only [opD,cond_true,hv,Option.map_some];rfl

section
variable {ki:IntKind} {p q:Int}
end
section
variable {s u:ByteArray}
end
class EqV (f:α→Value):Prop where
  eq:∀ a b,(a=b→binV .eql (f a) (f b)=some (.bool true))∧(a≠b→binV .eql (f a) (f b)=some (.bool false))
instance {ki:IntKind}:EqV (Value.int ki):=⟨fun a b=>⟨fun c=>by rw [b_eql,beq_iff_eq.2 c],fun c=>by rw [b_eql,beq_eq_false_iff_ne.2 c]⟩⟩
theorem cells_replicate {zs:List Value} {a:α} (ha:K.rd m zs a):∀ n,Cells K m ((List.replicate n zs).flatten) (List.replicate n a)
  | 0=>rfl
  | n + 1=>⟨zs,_,rfl,ha,cells_replicate ha n⟩
theorem Ow.back {n p:Nat} {v:Value} (w:Ow K m n h v l) (hp:p≤n):Ow K m n (h.withProt p) v l:=by
  rcases w with h0|⟨b,c,cs,q0,q1,q2,q3,q4,q5⟩
  · exact .inl h0
  · exact .inr ⟨b,c,cs,q0,q1,q2,Nat.le_trans hp q1,q4,q5⟩
theorem Ow.pos {n:Nat} {v:Value} (o:Ow K m n h v l) (hl:l≠[]):∃ b c,v=.slice (some ⟨b,0,none⟩) l.length c∧n≤b∧b < h.size:=by
  rcases o with ⟨_,h0⟩|⟨b,c,cs,h0,h1,h2,_⟩
  · exact absurd h0 hl
  · exact ⟨b,c,h0,h1,h2⟩
theorem wr_get {b o z:Nat} {c vs:List Value} (hg:h.get b=some (.cells c (some z))) (hp:h.prot≤b) (hn:o + vs.length≤c.length) (hok:vs.all cellOk=true):h.wr b o vs=some (h.set b (.cells (splice c o vs) (some z))):=by
  unfold Heap.wr;simp only [hg];rw [if_pos ⟨hp,hn,hok⟩]
theorem at_cl {dst:Option Nat} {f:Operand} {as:List Operand} {fn:FuncId} {first captured:Array Value} {vs args:List Value} (hb:(d && !bar)=false) (hf:ev e f=some (.func (.func fn) first captured)) (hvs:evs e as=some vs) (ha:first.toList++vs++captured.toList=args)
    (hc:Runs prog fn args h (fun v h'=>St h h'→h'.prot=h.prot→At prog ro (.o d r::k) .norm (put e dst v) h' Q)):At prog ro (.o d (⟨dst,.call f as,none,bar⟩::r)::k) .norm e h Q:=by
  subst ha
  have hc':=hc.mono (R':=fun v h'=>At prog ro (.o d r::k) .norm (put e dst v) h' Q) (fun v h' s p q=>q s p)
  cases d with
  | false =>
    cases bar with
    | false=>exact at_call0 hf hvs hc'
    | true=>exact at_call hf hvs hc'
  | true =>
    cases bar with
    | true=>exact at_call hf hvs hc'
    | false=>cases hb
/-- One whose place is open: it leaves all as it is. -/
theorem at_clO {dst:Option Nat} {f:Operand} {as:List Operand} {fn:FuncId} {first captured:Array Value} {vs args:List Value} (hf:ev e f=some (.func (.func fn) first captured)) (hvs:evs e as=some vs) (ha:first.toList++vs++captured.toList=args)
    (hc:Runs prog fn args (h.withProt h.size) (fun v h'=>Old h (h'.withProt h.prot)→At prog ro (.o true r::k) .norm (put e dst v) (h'.withProt h.prot) Q)):At prog ro (.o true (⟨dst,.call f as,none,false⟩::r)::k) .norm e h Q:=by
  subst ha
  intro H hH
  obtain ⟨n,v,H1,h1,hr,hp,hl,hs,hp',hq⟩:=hc (H.withProt H.size) hH.wp
  have hold:=Old.of hs
  obtain ⟨m,e2,H2,h2,hr2,hp2,hl2,hs2,hq2⟩:=hq hold (H1.withProt H.prot) ⟨hl.size,hH.prot,hl.obj⟩
  refine ⟨Nat.max n m,e2,H2,h2,?_,hp2,hl2,hold.st.trans hs2,hq2⟩
  have h3:evI (callV prog (Nat.max n m)) ⟨dst,.call f as,none,false⟩ e (H.withProt H.size)=some (put e dst v,H1):=by
    unfold evI
    simp only [wanted,opV,hf,hvs]
    rw [callV_mono prog (Nat.le_max_left n m) _ _ _ _ hr];rfl
  simp only [evL,cond_true,evID,cond_false,h3,Option.map_some]
  exact evL_mono (callV_mono prog (Nat.le_max_right n m)) hr2

end
end Go.AM.G

