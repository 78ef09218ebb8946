/- A part of the abstract machine, or of what is proved of the program by it. -/
import Derived.Test.YtenihfdlckgmmaaGreatAmRules
namespace Go.AM.G
open Go.AM hiding Kt At WP WL Runs RunsY
set_option linter.unusedVariables false
set_option linter.unusedSectionVars false
set_option linter.unusedSimpArgs false
section
variable {prog:AProg} {ro:Option Nat} {e e':Env} {Q:Pst} {k:List Kt} {g h h' H:Heap}

theorem Less.loop (k:Less g h) {b:Nat} {r:ARec} (hg:g.get b=some (.loop r)):h.get b=some (.loop r):=by
  rcases k.obj b with e|⟨c,z,e,_⟩
  · rw [← e];exact hg
  · rw [hg] at e;cases e
theorem Less.rec0 (k:Less g h) (hr:roOk g ro=true):roOk h ro=true:=by
  unfold roOk at *
  cases ro with
  | none=>rfl
  | some l =>
    simp only at *
    split at hr
    · rename_i r hg
      rw [k.loop hg]
    · cases hr
theorem St.around {o d:AObj} {h1:Heap} (hs:St (h.push o) h1):St h (h1.set h.size d):=by
  refine ⟨?_,fun b hb=>?_⟩
  · have:=hs.size
    simp at this ⊢
    omega
  · have hne:b≠h.size:=by have:=hb.1;omega
    have hg:(h.push o).get b=h.get b:=by rw [Heap.get_push,if_neg hne]
    have hf:frz (h.push o) b:=⟨by have:=hb.1;simp;omega,by rw [hg];exact hb.2⟩
    obtain ⟨h2,h3⟩:=hs.fr b hf
    have h4:(h1.set h.size d).get b=h.get b:=by rw [Heap.get_set,if_neg hne,h3,hg]
    refine ⟨⟨h2.1,?_⟩,h4⟩
    rcases h2.2 with h5|⟨c,h5⟩
    · exact .inl h5
    · exact .inr ⟨c,by rw [h4,← hg,← h3,h5]⟩

/-- The loop's record lies in a new block while the function runs. -/
theorem at_rfun {f:Operand} {ps:List Nat} {asg body:ACode} {fn:FuncId} {first cap:Array Value} (hf:ev e f=some (.func (.func fn) first cap)) (hps:h.prot≤h.size) (hro:roOk h ro=true)
    (hc:Runs prog fn (first.toList++[.func (.yield h.size) #[] #[]]++cap.toList) (h.push (.loop ⟨ps,asg,body,e,.ready,none⟩)) (fun v h'=>∃ r,h'.get h.size=some (.loop r)∧r.st≠.busy∧(h'.prot=h.prot→St h (h'.set h.size .dead)→At prog ro k (r.pend.getD .norm) e (h'.set h.size .dead) Q))) :
    At prog ro (.c (.rfun f ps asg body)::k) .norm e h Q:=by
  intro H hH
  obtain ⟨n,v,H1,h1,hr,hp,hl,hs,hp',r,hg,hst,hq⟩:=hc (H.push _) (hH.push _)
  refine ⟨n,r.pend.getD .norm,e,H1.set h.size .dead,h1.set h.size .dead,?_,hp,hl.set _ _,hs.around,hq hp' hs.around⟩
  rw [hH.size] at hr ⊢
  simp only [evC,hf]
  rw [if_pos ⟨by rw [← hH.size];exact Nat.le_trans hH.prot hps,hH.rec0 hro⟩]
  rw [hr]
  simp only
  have hg':=hl.loop hg
  rw [hH.size] at hg'
  rw [hg']
  simp only [if_neg hst]

theorem St.beside {l:Nat} {o:AObj} {r:ARec} {h1:Heap} (hs:St h h1) (hg:h.get l=some (.loop r)) (hp:h.prot≤l):St h (h1.set l o):=by
  refine ⟨hs.size,fun b hb=>?_⟩
  have hne:b≠l:=by
    rintro rfl
    rcases hb.2 with h2|⟨c,h2⟩
    · omega
    · rw [hg] at h2;cases h2
  obtain ⟨h2,h3⟩:=hs.fr b hb
  have h4:(h1.set l o).get b=h.get b:=by rw [Heap.get_set,if_neg hne,h3]
  refine ⟨⟨h2.1,?_⟩,h4⟩
  rcases h2.2 with h5|⟨c,h5⟩
  · exact .inl h5
  · exact .inr ⟨c,by rw [h4,← h3,h5]⟩
theorem St.same {h1:Heap} (hs:St h h1):St h (h1.withProt h.prot):=by
  refine ⟨hs.size,fun b hb=>?_⟩
  have h2:=(hs.fr b hb).2
  refine ⟨⟨Nat.lt_of_lt_of_le hb.1 hs.size,?_⟩,h2⟩
  rcases hb.2 with h3|⟨c,h3⟩
  · exact .inl h3
  · exact .inr ⟨c,by rw [Heap.get_withProt,h2,h3]⟩

/-- A round. -/
theorem runsY_round {l:Nat} {args:List Value} {R:Value→Heap→Prop} {r:ARec} (hg:h.get l=some (.loop r)) (hr:r.st=.ready) (hp:h.prot≤l) (hn:args.length=r.ps.length)
    (hw:At prog (some l) [.c r.asg] .norm (bindPs r.ps args r.env) h (fun x e1 h1=>x=.norm∧∃ r1,h1.get l=some (.loop r1)∧r1.st=.ready∧h1.prot≤l ∧
      At prog (some l) [.c r.body] .norm e1 (h1.set l (.loop { r1 with st:=.busy })) (fun x e3 h3=>∃ r3,h3.get l=some (.loop r3)∧(x=.norm→R (.bool true) ((h3.set l (.loop { r3 with st:=.ready,pend:=none })).withProt h.prot)) ∧
        (x≠.norm→R (.bool false) ((h3.set l (.loop { r3 with st:=.done,pend:=some x })).withProt h.prot))))):RunsY prog l args h R:=by
  intro H hH
  obtain ⟨n,x,e1,H1,h1,hr1,hp1,hl1,hs1,rfl,r1,hg1,hst1,hpl1,hb⟩:=hw H hH
  obtain ⟨n2,x,e3,H3,h3,hr3,hp3,hl3,hs3,r3,hg3,hqn,hqe⟩:=hb _ (hl1.set l _)
  have hs13:St h h3:=((hs1.beside hg hp).trans hs3:St h h3)
  have up1:=up (Nat.le_max_left n n2) hr1
  have up3:=up (Nat.le_max_right n n2) hr3
  have hpH:H3.prot=H.prot:=hp3.trans hp1
  have run:∀ v H4,(match x with
      | .norm=>some (.bool true,H3.set l (.loop { r3 with st:=.ready,pend:=none }))
      | x=>some (.bool false,H3.set l (.loop { r3 with st:=.done,pend:=some x })))=some (v,H4)→callV prog (Nat.max n n2 + 1) (.yield l) args H=some (v,H4):=by
    intro v H4 hx
    simp only [callV,runY]
    rw [hH.loop hg]
    simp only
    rw [if_pos ⟨hr,Nat.le_trans hH.prot hp,hn⟩]
    rw [up1]
    simp only
    rw [hl1.loop hg1]
    simp only
    rw [if_pos ⟨hst1,by rw [hp1];exact Nat.le_trans hH.prot hp⟩]
    rw [up3]
    simp only
    rw [hl3.loop hg3]
    exact hx
  by_cases hx:x=.norm
  · subst hx
    exact ⟨_,_,_,(h3.set l (.loop { r3 with st:=.ready,pend:=none })).withProt h.prot,run _ _ rfl,hpH,⟨(hl3.set l _).size,by show H3.prot≤h.prot;rw [hpH];exact hH.prot,(hl3.set l _).obj⟩,(hs13.beside hg hp).same,rfl,hqn rfl⟩
  · refine ⟨_,_,H3.set l (.loop { r3 with st:=.done,pend:=some x }),(h3.set l (.loop { r3 with st:=.done,pend:=some x })).withProt h.prot,run _ _ ?_,hpH,⟨(hl3.set l _).size,by show H3.prot≤h.prot;rw [hpH];exact hH.prot,(hl3.set l _).obj⟩,(hs13.beside hg hp).same,rfl,hqe hx⟩
    cases x with
    | norm=>exact absurd rfl hx
    | exit i=>rfl
    | ret=>rfl

theorem RunsY.mono {l:Nat} {args:List Value} {R R':Value→Heap→Prop} (hr:RunsY prog l args h R) (hq:∀ v h',St h h'→h'.prot=h.prot→R v h'→R' v h'):RunsY prog l args h R':=fun H hH =>
  let ⟨n,v,H',h',h1,h2,h3,h4,h5,h6⟩:=hr H hH;⟨n,v,H',h',h1,h2,h3,h4,h5,hq _ _ h4 h5 h6⟩
/-- A call of the loop's body. -/
theorem at_clY {d bar:Bool} {r:List AI} {dst:Option Nat} {f:Operand} {as:List Operand} {l:Nat} {first captured:Array Value} {vs args:List Value} (hb:(d && !bar)=false) (hf:ev e f=some (.func (.yield l) first captured)) (hvs:evs e as=some vs) (ha:first.toList++vs++captured.toList=args)
    (hc:RunsY prog l args h (fun v h'=>St h h'→h'.prot=h.prot→At prog ro (.o d r::k) .norm (put e dst v) h' Q)):At prog ro (.o d (⟨dst,.call f as,none,bar⟩::r)::k) .norm e h Q:=by
  subst ha
  have hc':=hc.mono (R':=fun v h'=>At prog ro (.o d r::k) .norm (put e dst v) h' Q) (fun v h' s p q=>q s p)
  cases d with
  | false =>
    cases bar with
    | false=>exact at_yield0 hf hvs hc'
    | true=>exact at_yield hf hvs hc'
  | true =>
    cases bar with
    | true=>exact at_yield hf hvs hc'
    | false=>cases hb
end
end Go.AM.G

