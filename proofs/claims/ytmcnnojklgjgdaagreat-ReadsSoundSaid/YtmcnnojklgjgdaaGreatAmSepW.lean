/- A part of the abstract machine, or of what is proved of the program by it. -/
import Derived.Test.YtmcnnojklgjgdaaGreatAmSepZ
import Derived.Test.YtmcnnojklgjgdaaGreatAmSepT
namespace Go.AMS
open Go.AM hiding Kt At WP WL Runs RunsY
open Go.AM.G
set_option linter.unusedVariables false
set_option linter.unusedSectionVars false
set_option linter.unusedSimpArgs false
section
variable {prog:AProg} {rr:Option Nat} {e e':Env} {Q:Pst} {k:List Kt} {x y z:Operand} {ax:AX} {n:Nat} {Γ Δ F Γ':List HP} {d bar:Bool} {r:List AI} {t:Nat} {dst:Option Nat} {u v v1 v2 v3:Value} {vs:List Value} {op:AOp} {h h':Heap}
/-- A range whose body is handed data with parts, and uses what the iterator uses. -/
theorem at_rfunSD2 {D:Type} {fn:FuncId} {f:Operand} {ps:List Nat} {asg body:ACode} {first cap:Array Value} {Ps Po:List HP} {args:Nat→List Value} (I C:Nat→HP) (J DD:AX→HP) (N:Nat) (va:Nat→D→List Value) (Pa:Nat→D→List HP)
    (hi:∀ (ly:Nat) (A:Nat→HP) (B:AX→HP),(∀ i,i < N→∀ d,YSpec prog ly (va i d) (A i::C i::Pa i d) (fun R=>R (.bool true) [A (i + 1),C (i + 1)]∧∀ x,x≠.norm→R (.bool false) [B x,DD x])) →
      Spec prog fn (args ly) (A 0::C 0::Ps) (fun R=>(∀ v,R v (A N::C N::Po))∧∀ x v,x≠.norm→R v (B x::DD x::Po)))
    (hn:∀ i,i < N→∀ d,(va i d).length=ps.length)
    (hb:∀ i,i < N→∀ d ly m F',AtS m prog (some ly) [.c asg] .norm (bindPs ps (va i d) e) (lrec ly ⟨ps,asg,body,e,.ready,none⟩::I i::C i::(Pa i d++F')) (AsgP2 m prog ly ⟨ps,asg,body,e,.ready,none⟩ (I (i + 1)) (C (i + 1)) J DD F'))
    (w:AtS n prog rr k .norm e (I N::C N::(Po++F)) Q) (wx:∀ x,x≠.norm→AtS n prog rr k x e (J x::DD x::(Po++F)) Q)
    (hf:ev e f=some (.func (.func fn) first cap):=by rfl) (hargs:∀ ly,first.toList++[.func (.yield ly) #[] #[]]++cap.toList=args ly:=by intro _;rfl) (hr:RoOk rr Γ:=by infer_instance) (hs:Ent Γ (I 0::C 0::(Ps++F)):=by
      repeat first|exact Ent.refl _|(apply Ent.more;· repeat first|exact Ent.keep|exact Ent.here|exact Ent.lend|exact ent_nil|apply Ent.there)):AtS n prog rr (.c (.rfun f ps asg body)::k) .norm e Γ Q:=fun h hh=>by
  have hro:=hr.ok hh
  obtain ⟨⟨S,h1,h2⟩,hp,hle⟩:=hs.sat hh
  refine at_rfun hf (by omega) hro ?_
  have hin:=h1.inb
  -- the record is new
  generalize hrec:(⟨ps,asg,body,e,.ready,none⟩:ARec)=rec at *
  have hst:=St.push h (.loop rec)
  have hsat:Sat n (recI h.size rec (I 0)::C 0::(Ps++F)) (h.push (.loop rec)):=by
    refine recI_fold.sat ⟨⟨_,⟨(·=h.size),S,⟨by rw [Heap.get_push,if_pos rfl],by simp,rfl⟩,h1.loc hst (fun b hb=>by rw [Heap.get_push,if_neg (by have:=hin b hb;omega)]),fun b q1 q2=>by have:=hin b q2;rw [show b=h.size from q1] at this;omega,fun b=>Iff.rfl⟩,fun b q=>?_⟩,hp,by have:=hle;simp;omega⟩
    rcases q with q|q
    · rw [show b=h.size from q];exact hle
    · exact h2 b q
  have hrec':rec=⟨ps,asg,body,e,.ready,none⟩:=hrec.symm
  have hits:=hi h.size (fun i=>recI h.size rec (I i)) (fun x=>recI h.size (Done rec x) (J x)) ?_ n F (h.push (.loop rec))
    (fun _ Γ'=>(Γ'=recI h.size rec (I N)::C N::Po)∨∃ x,x≠.norm∧Γ'=recI h.size (Done rec x) (J x)::DD x::Po) (by simpa using hsat) ⟨fun _=>.inl rfl,fun x _ hx=>.inr ⟨x,hx,rfl⟩⟩
  · rw [hargs]
    refine hits.mono ?_
    rintro v h' _ _ ⟨Γ',hc,hsat'⟩
    rcases hc with rfl|⟨x,hx,rfl⟩
    · have h3:=recI_open.sat hsat'
      obtain ⟨h4,h5⟩:=lrec_dead h3
      refine ⟨rec,h5,by rw [hrec'];simp,fun _ _=>?_⟩
      have:=w _ h4
      rw [hrec'];exact this
    · have h3:=recI_open.sat hsat'
      obtain ⟨h4,h5⟩:=lrec_dead h3
      refine ⟨Done rec x,h5,by simp [Done],fun _ _=>?_⟩
      exact wx x hx _ h4
  · subst hrec'
    intro i hi d m F' h' R hs' hw
    have h3:=recI_open.sat hs'
    obtain ⟨-,h4,h5⟩:=lrec_set (r1:=⟨ps,asg,body,e,.ready,none⟩) h3
    have hpr:h'.prot=m:=h3.prot
    refine runsY_round h4 rfl (by omega) (hn i hi d) ?_
    have h6:=hb i hi d h.size m F' h' h3
    refine G.WP.mono h6 ?_
    rintro x e1 h1 _ ⟨rfl,Γ1,h7,h8⟩
    obtain ⟨h9,h10,h11⟩:=lrec_set (r1:=Busy ⟨ps,asg,body,e,.ready,none⟩) h7
    refine ⟨rfl,_,h10,rfl,by have:=h7.prot;omega,?_⟩
    refine G.WP.mono (h8 _ h9) ?_
    rintro x e3 h12 _ hq
    by_cases hx:x=.norm
    · subst hx
      obtain ⟨h13,h14,h15⟩:=lrec_set (r1:=⟨ps,asg,body,e,.ready,none⟩) (show Sat m (lrec h.size (Busy _)::I (i + 1)::C (i + 1)::F') h12 from hq)
      refine ⟨_,h14,fun _=>⟨_,hw.1,?_⟩,fun q=>absurd rfl q⟩
      rw [wp_eq (by have:=h13.prot;simp at this ⊢;omega)]
      exact recI_fold.sat h13
    · have hq':Sat m (lrec h.size (Busy ⟨ps,asg,body,e,.ready,none⟩)::J x::DD x::F') h12:=by
        cases x with
        | norm=>exact absurd rfl hx
        | exit i=>exact hq
        | ret=>exact hq
      obtain ⟨h13,h14,h15⟩:=lrec_set (r1:=Done ⟨ps,asg,body,e,.ready,none⟩ x) hq'
      refine ⟨_,h14,fun q=>absurd q hx,fun _=>⟨_,hw.2 x hx,?_⟩⟩
      rw [wp_eq (by have:=h13.prot;simp at this ⊢;omega)]
      exact recI_fold.sat h13
end
end Go.AMS

