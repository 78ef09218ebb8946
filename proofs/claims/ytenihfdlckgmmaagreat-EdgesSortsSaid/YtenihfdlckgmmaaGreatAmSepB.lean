/- A part of the abstract machine, or of what is proved of the program by it. -/
import Derived.Test.YtenihfdlckgmmaaGreatAmSepK
namespace Go.AMS
open Go.AM hiding Kt At WP WL Runs RunsY
open Go.AM.G
set_option linter.unusedVariables false
set_option linter.unusedSectionVars false
set_option linter.unusedSimpArgs false
def bytesI (s:ByteArray):List Int:=s.data.toList.map fun b=>((b.toNat:Nat):Int)
theorem bytesI_len (s:ByteArray):(bytesI s).length=s.size:=by unfold bytesI;simp
theorem bytesL_eq (s:ByteArray):bytesL s=(bytesI s).map (.int .u8):=by unfold bytesL bytesI;rw [List.map_map];rfl
theorem bytesI_rng {s:ByteArray}:∀ x ∈ bytesI s,0≤x∧x≤255:=fun x hx=>by
  unfold bytesI at hx
  obtain ⟨b,_,rfl⟩:=List.mem_map.1 hx
  have:=b.toNat_lt
  omega
theorem cells_u8 {m:M}:∀ {l:List Int},(∀ x ∈ l,0≤x∧x≤255)→Cells (kInt .u8) m (l.map (.int .u8)) l
  | [],_=>rfl
  | x::l,h=>⟨[.int .u8 x],l.map (.int .u8),rfl,⟨rfl,h x (by simp)⟩,cells_u8 fun y hy=>h y (by simp [hy])⟩
section
variable {prog:AProg} {rr:Option Nat} {e:Env} {Q:Pst} {k:List Kt} {x:Operand} {n t:Nat} {Γ:List HP} {d bar:Bool} {r:List AI}
instance v_convSB {s:ByteArray}:Step (AtV n prog rr d bar (some t) (.convSB x) [.string s] r k e Γ Q) (Fa fun b=>AtS n prog rr (.o d r::k) .norm ((t,.slice (some ⟨b,0,none⟩) (bytesI s).length (bytesI s).length)::e) (own (kInt .u8) (some ⟨b,0,none⟩) (bytesI s).length (bytesI s)::Γ) Q) :=
  ⟨fun w hE=>go_new (ob:=.cells (bytesL s) (some 1)) (P:=fun b=>own (kInt .u8) (some ⟨b,0,none⟩) (bytesI s).length (bytesI s)) (vf:=fun b=>.slice (some ⟨b,0,none⟩) (bytesI s).length (bytesI s).length) (fun h _ m=>by simp only [aop,hE.a,bytesI_len];rfl)
    (fun h b h1 h2=>.inr ⟨b,bytesL s,rfl,h2,h1,by rw [bytesL_eq];exact cells_u8 bytesI_rng,rfl⟩) w.a⟩
theorem u8s_map:∀ l:List Int,u8s (l.map (.int .u8))=some l
  | []=>rfl
  | z::zs=>by simp only [List.map_cons,u8s,u8s_map zs,Option.map_some]
theorem cells_u8_eq {m:M}:∀ {l:List Int} {cs:List Value},Cells (kInt .u8) m cs l→cs=l.map (.int .u8)
  | [],cs,h=>h
  | x::l,cs,⟨c,r,e,h1,h2⟩=>by
    have h3:=cells_u8_eq h2
    have h4:c=[.int .u8 x]:=h1.1
    rw [e,h3,h4];rfl
variable {K:Type} {p:Option Addr} {c:Nat} {l:List Int} {F:List HP} {y:Operand}
/-- A text of bytes that can be read. -/
instance v_convBS {len:Nat} {φ:Prop} [s:LkL Γ p len (kInt .u8) l φ]:Step (AtV n prog rr d bar (some t) (.convBS x) [.slice p len c] r k e Γ Q) (Sd φ (AtS n prog rr (.o d r::k) .norm ((t,.string (textOf l))::e) Γ Q)):=⟨fun g hE=>go1 (fun h hs m=>by
  obtain ⟨S,h1,_⟩:=hs.s
  have hl:=s.len g.c
  subst hl
  obtain ⟨_,q2,q3⟩:=s.get h1
  simp only [aop,hE.a]
  by_cases h0:l=[]
  · subst h0;simp [textOf]
  · obtain ⟨b,o,cs,rfl,k1,k2⟩:=q3 h0
    have hc:=cells_u8_eq k2
    subst hc
    rw [if_neg (by simpa using h0)]
    have h2:=(rdm_rd k1).1
    rw [show (kInt .u8).esz=1 from rfl,Nat.mul_one] at h2
    simp only [show (h.withProt m).rd b o l.length=h.rd b o l.length from rfl,h2,u8s_map,Option.map_some]) g.a⟩
theorem sat_appS {h:Heap} {s:ByteArray} {bytes:Nat} (hs:Sat n (own (kInt .u8) p c l::F) h) (hlim:(l.length + s.size) * bytes≤1099511627776∧l.length + s.size≤1099511627776) :
    ∃ p' c' h',appTo 1 bytes p l.length c s.size (bytesL s) h=some (.slice p' (l++bytesI s).length c',h')∧Sat n (own (kInt .u8) p' c' (l++bytesI s)::F) h':=by
  have hL:=bytesI_len s
  have k3:Cells (kInt .u8) (tz h) (bytesL s) (bytesI s):=by rw [bytesL_eq];exact cells_u8 bytesI_rng
  by_cases h0:s.size=0
  · have e0:bytesI s=[]:=List.length_eq_zero_iff.1 (by rw [hL];exact h0)
    refine ⟨p,c,h,by unfold appTo;rw [if_pos h0,e0,List.append_nil],by rw [e0,List.append_nil];exact hs⟩
  obtain ⟨⟨S,⟨t1,t2,f1,f3,f4,f5⟩,f6⟩,hp,hn⟩:=hs
  have hin:=f3.inb
  rcases f1 with ⟨rfl,rfl,rfl,rfl⟩|⟨b',cs',rfl,q2,q3,q4,rfl⟩
  · have hst:=St.push h (.cells (bytesL s) (some 1))
    refine ⟨some ⟨h.size,0,none⟩,s.size,h.push (.cells (bytesL s) (some 1)),?_,⟨⟨fun b=>b=h.size∨t2 b,⟨(·=h.size),t2,.inr ⟨h.size,bytesL s,rfl,by simp,by rw [Heap.get_push,if_pos rfl];rfl,k3.mono (St_tz hst),rfl⟩,f3.loc hst (fun x hx=>by rw [Heap.get_push,if_neg (by have:=hin x hx;omega)]),fun x h1 h2=>by have:=hin x h2;rw [show x=h.size from h1] at this;omega,fun x=>Iff.rfl⟩,fun x hx=>?_⟩,hp,by have:=hn;simp;omega⟩⟩
    · simp only [List.length_nil,Nat.zero_add] at hlim
      unfold appTo
      rw [if_neg h0,if_pos ⟨by rw [List.length_nil,Nat.zero_add];exact hlim.1,by rw [List.length_nil,Nat.zero_add];exact hlim.2⟩]
      simp only [List.length_nil,if_true,List.nil_append,hL]
    · rcases hx with hx|hx
      · rw [hx];exact hn
      · exact f6 x ((f5 x).2 (.inr hx))
  · have hb:n≤b':=f6 b' ((f5 b').2 (.inl rfl))
    have hst:St h ((h.set b' .dead).push (.cells (cs'++bytesL s) (some 1))):=(St.set _ (by rw [hp];exact hb) (fun x hx=>by rw [q3] at hx;cases hx)).trans (.push _ _)
    have hg:∀ x,t2 x→((h.set b' .dead).push (.cells (cs'++bytesL s) (some 1))).get x=h.get x:=fun x hx=>by
      rw [Heap.get_push,if_neg (by have:=hin x hx;simp;omega),Heap.get_set,if_neg (fun e=>f4 x e hx)]
    refine ⟨some ⟨h.size,0,none⟩,l.length + s.size,(h.set b' .dead).push (.cells (cs'++bytesL s) (some 1)),?_,⟨⟨fun b=>b=h.size∨t2 b,⟨(·=h.size),t2,.inr ⟨h.size,cs'++bytesL s,rfl,by simp,by rw [Heap.get_push,if_pos (by simp)];rfl,(q4.append k3).mono (St_tz hst),rfl⟩,f3.loc hst hg,fun x h1 h2=>by have:=hin x h2;rw [show x=h.size from h1] at this;omega,fun x=>Iff.rfl⟩,fun x hx=>?_⟩,hp,by have:=hn;simp;omega⟩⟩
    · unfold appTo
      rw [if_neg h0,if_pos (show (l.length + s.size) * bytes≤limit∧l.length + s.size≤limit from hlim)]
      simp only [q3]
      rw [if_pos ⟨rfl,q4.len,by rw [hp];exact hb,by omega⟩,List.length_append,hL]
    · rcases hx with hx|hx
      · rw [hx];exact hn
      · exact f6 x ((f5 x).2 (.inr hx))
theorem at_appS {s:ByteArray} {bytes:Nat} (hd:(d && !bar)=false) (he:Ent Γ (own (kInt .u8) p c l::F)) (hlim:(l.length + s.size) * bytes≤1099511627776∧l.length + s.size≤1099511627776)
    (g:∀ p' c',AtS n prog rr (.o d r::k) .norm ((t,.slice p' (l++bytesI s).length c')::e) (own (kInt .u8) p' c' (l++bytesI s)::F) Q):AtV n prog rr d bar (some t) (.appS bytes x y) [.slice p l.length c,.string s] r k e Γ Q:=fun hE h hs=>by
  obtain ⟨p',c1,h',h1,h2⟩:=sat_appS (bytes:=bytes) (s:=s) (he.sat hs) hlim
  exact at_one (opD_eq hd (by simp only [aop,hE.a,hE.b];exact h1)) (g p' c1 h' h2)
instance v_appS {s:ByteArray} {bytes:Nat} [od:Ord d bar] [o:LkO Γ p (kInt .u8) c l F]:Step (AtV n prog rr d bar (some t) (.appS bytes x y) [.slice p l.length c,.string s] r k e Γ Q)
    (Sd ((l.length + s.size) * bytes≤1099511627776∧l.length + s.size≤1099511627776) (Fa fun p'=>Fa fun c'=>AtS n prog rr (.o d r::k) .norm ((t,.slice p' (l++bytesI s).length c')::e) (own (kInt .u8) p' c' (l++bytesI s)::F) Q)) :=
  ⟨fun g=>at_appS od.eq o.ent g.c (fun p' c'=>(g.a.a p').a c')⟩
theorem Spec.cons {fn:FuncId} {args:List Value} {W W':(Value→List HP→Prop)→Prop} (h:Spec prog fn args Γ W) (hw:∀ R,W' R→W R):Spec prog fn args Γ W':=fun n F hh R hs w=>h n F hh R hs (hw R w)
instance v_iaddrA {b o len esz i:Nat} {ki:IntKind} {a:Int} [ha:AsNat a i]:Step (AtV n prog rr d bar (some t) (.iaddrA len esz x y) [.pointer (some ⟨b,o,none⟩),.int ki a] r k e Γ Q) (Sd (0≤a∧i < len) (AtS n prog rr (.o d r::k) .norm ((t,.pointer (some ⟨b,o + i * esz,none⟩))::e) Γ Q)):=⟨fun g hE=>go1 (fun h hs m=>by
  have h1:=ha.eq g.c.1
  have h2:=g.c.2
  simp only [aop,hE.a,hE.b]
  rw [if_pos ⟨g.c.1,by omega⟩,show a.toNat=i by omega]) g.a⟩
instance v_convU8 {p:Int} {ki:IntKind}:Step (AtV n prog rr d bar (some t) (.conv .u8 x) [.int ki p] r k e Γ Q) (Sd (0≤p∧p≤255) (AtS n prog rr (.o d r::k) .norm ((t,.int .u8 p)::e) Γ Q)):=⟨fun w hE=>go1 (fun h _ m=>by
  have h1:IntKind.u8.wrap p=p:=by
    unfold IntKind.wrap
    simp only [IntKind.signed,IntKind.bits,Bool.false_eq_true,if_false]
    have:=w.c
    show p % 256=p
    omega
  simp only [aop,hE.a,h1]) w.a⟩
instance v_slcSS {s:ByteArray} {i j:Nat} {z:Operand} {a b:Int} {k1 k2:IntKind} [ha:AsNat a i] [hb:AsNat b j]:Step (AtV n prog rr d bar (some t) (.slcS x (some y) (some z)) [.string s,.int k1 a,.int k2 b] r k e Γ Q) (Sd (0≤a∧a≤b∧b≤s.size) (AtS n prog rr (.o d r::k) .norm ((t,.string (s.extract i j))::e) Γ Q)):=⟨fun g hE=>go1 (fun h hs m=>by
  have h1:=ha.eq g.c.1
  have h2:=hb.eq (by have:=g.c;omega)
  have h3:=hE.a
  have h4:=hE.b
  have h5:=hE.c
  simp only [aop,h3,boundI,h4,h5]
  rw [if_pos g.c,show a.toNat=i by omega,show b.toNat=j by omega]) g.a⟩
end
end Go.AMS

