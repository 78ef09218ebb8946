/- A part of the abstract machine, or of what is proved of the program by it. -/
import Derived.Test.YtenihfdlckgmmaaGreatAmRules
namespace Go.AM.G
open Go.AM hiding Kt At WP WL Runs RunsY
set_option linter.unusedVariables false
set_option linter.unusedSectionVars false
set_option linter.unusedSimpArgs false
section
variable {prog:AProg} {ro:Option Nat} {e e':Env} {Q:Pst} {k:List Kt} {g h h' H:Heap}

theorem Less.loop (k:Less g h) {b:Nat} {r:ARec} (hg:g.get b=some (.loop r)):h.get b=some (.loop r):=by
  rcases k.obj b with e|⟨c,z,e,_⟩
  · rw [← e];exact hg
  · rw [hg] at e;cases e
theorem St.beside {l:Nat} {o:AObj} {r:ARec} {h1:Heap} (hs:St h h1) (hg:h.get l=some (.loop r)) (hp:h.prot≤l):St h (h1.set l o):=by
  refine ⟨hs.size,fun b hb=>?_⟩
  have hne:b≠l:=by
    rintro rfl
    rcases hb.2 with h2|⟨c,h2⟩
    · omega
    · rw [hg] at h2;cases h2
  obtain ⟨h2,h3⟩:=hs.fr b hb
  have h4:(h1.set l o).get b=h.get b:=by rw [Heap.get_set,if_neg hne,h3]
  refine ⟨⟨h2.1,?_⟩,h4⟩
  rcases h2.2 with h5|⟨c,h5⟩
  · exact .inl h5
  · exact .inr ⟨c,by rw [h4,← h3,h5]⟩
theorem St.same {h1:Heap} (hs:St h h1):St h (h1.withProt h.prot):=by
  refine ⟨hs.size,fun b hb=>?_⟩
  have h2:=(hs.fr b hb).2
  refine ⟨⟨Nat.lt_of_lt_of_le hb.1 hs.size,?_⟩,h2⟩
  rcases hb.2 with h3|⟨c,h3⟩
  · exact .inl h3
  · exact .inr ⟨c,by rw [Heap.get_withProt,h2,h3]⟩

theorem RunsY.mono {l:Nat} {args:List Value} {R R':Value→Heap→Prop} (hr:RunsY prog l args h R) (hq:∀ v h',St h h'→h'.prot=h.prot→R v h'→R' v h'):RunsY prog l args h R':=fun H hH =>
  let ⟨n,v,H',h',h1,h2,h3,h4,h5,h6⟩:=hr H hH;⟨n,v,H',h',h1,h2,h3,h4,h5,hq _ _ h4 h5 h6⟩
end
end Go.AM.G

