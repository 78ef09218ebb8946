/- A part of the abstract machine, or of what is proved of the program by it. -/
import Derived.Test.YtenihfdlckgmmaaGreatAmOpenG
namespace Go.AM.G
open Go.AM Go.ChangeShapes Go.WideShapes Go.RowKit
set_option linter.unusedVariables false
set_option linter.unusedSimpArgs false
variable {H:Type} {enc:TypeId × Value→H} {P:Program}
theorem mapM_at' {α β:Type} {f:α→Option β}:∀ {l:List α} {r:List β},l.mapM f=some r→∀ (i:Nat) (a:α),l[i]? = some a→∃ b,r[i]? = some b∧f a=some b
  | [],_,_,i,a,ha=>by simp at ha
  | x::l,r,h,i,a,ha=>by
    simp only [List.mapM_cons,Option.bind_eq_bind,Option.bind_eq_some_iff,Option.pure_def,Option.some.injEq] at h
    obtain ⟨b,hb,r',hr',rfl⟩:=h
    cases i with
    | zero =>
      simp only [List.getElem?_cons_zero,Option.some.injEq] at ha
      subst ha
      exact ⟨b,rfl,hb⟩
    | succ i=>exact mapM_at' hr' i a (by simpa using ha)
theorem wok_each':∀ {ts:List TypeId} {l:List (DataW H)},(DataW.weightsEach P ts l).all (fun n=>decide (n≤reachBytes))=true→∀ (i:Nat) (t:TypeId) (d:DataW H),ts[i]? = some t→l[i]? = some d→Wok P t d
  | [],_,_,i,t,d,h1,_=>by simp at h1
  | t0::ts,[],_,i,t,d,_,h2=>by simp at h2
  | t0::ts,x::l,h,i,t,d,h1,h2=>by
    rw [DataW.weightsEach,List.all_append,Bool.and_eq_true] at h
    cases i with
    | zero =>
      simp only [List.getElem?_cons_zero,Option.some.injEq] at h1 h2
      subst h1;subst h2;exact h.1
    | succ i=>exact wok_each' h.2 i t d (by simpa using h1) (by simpa using h2)
theorem trod_struct {t:TypeId} {fs:Array Field} (hu:P.underlying t=some (.struct fs)) {W:World} {n:Nat} {cs:List Value} {x:DataW H × List MemPlace} (h:DataW.trod enc P W 0 (fun _=>true) true n t cs=some x) (hw:Wok P t x.1) :
    ∃ m,cs.length=P.cellsOf t∧∀ (i:Nat) (f:Field),fs.toList[i]? = some f→∃ y,DataW.trod enc P W 0 (fun _=>true) true m f.type ((cs.drop f.offset).take (P.cellsOf f.type))=some y∧Wok P f.type y.1:=by
  cases n with
  | zero=>simp [DataW.trod] at h
  | succ m =>
    simp only [DataW.trod,hu] at h
    split at h
    · rename_i hl
      obtain ⟨xs,hm,rfl⟩:=Option.map_eq_some_iff.1 h
      refine ⟨m,hl,fun i f hf=>?_⟩
      obtain ⟨b,hb,hfb⟩:=mapM_at' hm i f hf
      refine ⟨b,hfb,?_⟩
      unfold Wok at hw
      simp only [DataW.weights,hu] at hw
      exact wok_each' hw i f.type b.1 (by rw [List.getElem?_map,hf];rfl) (by rw [List.getElem?_map,hb];rfl)
    · cases h
/-- A struct's fields: types and places. -/
def fieldsOf (P:Program) (t:TypeId):List (TypeId × Nat):=match P.underlying t with
  | some (.struct fs)=>fs.toList.map fun f=>(f.type,f.offset)
  | _=>[]
theorem fields_ex {t:TypeId} {a:TypeId × Nat} {l:List (TypeId × Nat)} (h:fieldsOf P t=a::l):∃ fs:Array Field,P.underlying t=some (.struct fs)∧fs.toList.map (fun f=>(f.type,f.offset))=a::l:=by
  unfold fieldsOf at h
  split at h
  · rename_i fs hu;exact ⟨fs,hu,h⟩
  · cases h
theorem opens_struct6 {t:TypeId} {t0:TypeId} {t1:TypeId} {t2:TypeId} {t3:TypeId} {t4:TypeId} {t5:TypeId} {α0:Type} {α1:Type} {α2:Type} {α3:Type} {α4:Type} {α5:Type} {K0:Kind α0} {K1:Kind α1} {K2:Kind α2} {K3:Kind α3} {K4:Kind α4} {K5:Kind α5} {α:Type} {K:Kind α} (hf0:fieldsOf P t=[(t0,0),(t1,1),(t2,2),(t3,3),(t4,4),(t5,5)]) (hc:P.cellsOf t=6) (o0:Opens enc P t0 K0) (o1:Opens enc P t1 K1) (o2:Opens enc P t2 K2) (o3:Opens enc P t3 K3) (o4:Opens enc P t4 K4) (o5:Opens enc P t5 K5) (e0:K0.esz=1) (e1:K1.esz=1) (e2:K2.esz=1) (e3:K3.esz=1) (e4:K4.esz=1) (e5:K5.esz=1) (hz:K.esz=6)
    (hk:∀ m v0 v1 v2 v3 v4 v5 a0 a1 a2 a3 a4 a5,K0.rd m [v0] a0→K1.rd m [v1] a1→K2.rd m [v2] a2→K3.rd m [v3] a3→K4.rd m [v4] a4→K5.rd m [v5] a5→∃ a,K.rd m [v0,v1,v2,v3,v4,v5] a):Opens enc P t K:=by
  obtain ⟨fs,hu,hf⟩:=fields_ex hf0
  refine ⟨by rw [hc,hz],fun W n cs x h hx=>?_⟩
  obtain ⟨m,hl,hat⟩:=trod_struct hu h hx
  rw [hc] at hl
  have hfa:∀ (i:Nat) (p:TypeId × Nat),[(t0,0),(t1,1),(t2,2),(t3,3),(t4,4),(t5,5)][i]? = some p→∃ f:Field,fs.toList[i]? = some f∧f.type=p.1∧f.offset=p.2:=fun i p hp=>by
    rw [← hf,List.getElem?_map] at hp
    obtain ⟨f,h1,rfl⟩:=Option.map_eq_some_iff.1 hp
    exact ⟨f,h1,rfl,rfl⟩
  obtain ⟨v0,v1,v2,v3,v4,v5,rfl⟩:∃ v0 v1 v2 v3 v4 v5,cs=[v0,v1,v2,v3,v4,v5]:=by
    match cs,hl with
    | [v0,v1,v2,v3,v4,v5],_=>exact ⟨v0,v1,v2,v3,v4,v5,rfl⟩
  obtain ⟨f0,q0,r0,s0⟩:=hfa 0 _ rfl
  obtain ⟨y0,g0,w0⟩:=hat 0 f0 q0
  rw [r0,s0,o0.1,e0] at g0
  rw [r0] at w0
  obtain ⟨-,c0,a0,b0⟩:=o0.2 W m _ y0 g0 w0
  obtain ⟨f1,q1,r1,s1⟩:=hfa 1 _ rfl
  obtain ⟨y1,g1,w1⟩:=hat 1 f1 q1
  rw [r1,s1,o1.1,e1] at g1
  rw [r1] at w1
  obtain ⟨-,c1,a1,b1⟩:=o1.2 W m _ y1 g1 w1
  obtain ⟨f2,q2,r2,s2⟩:=hfa 2 _ rfl
  obtain ⟨y2,g2,w2⟩:=hat 2 f2 q2
  rw [r2,s2,o2.1,e2] at g2
  rw [r2] at w2
  obtain ⟨-,c2,a2,b2⟩:=o2.2 W m _ y2 g2 w2
  obtain ⟨f3,q3,r3,s3⟩:=hfa 3 _ rfl
  obtain ⟨y3,g3,w3⟩:=hat 3 f3 q3
  rw [r3,s3,o3.1,e3] at g3
  rw [r3] at w3
  obtain ⟨-,c3,a3,b3⟩:=o3.2 W m _ y3 g3 w3
  obtain ⟨f4,q4,r4,s4⟩:=hfa 4 _ rfl
  obtain ⟨y4,g4,w4⟩:=hat 4 f4 q4
  rw [r4,s4,o4.1,e4] at g4
  rw [r4] at w4
  obtain ⟨-,c4,a4,b4⟩:=o4.2 W m _ y4 g4 w4
  obtain ⟨f5,q5,r5,s5⟩:=hfa 5 _ rfl
  obtain ⟨y5,g5,w5⟩:=hat 5 f5 q5
  rw [r5,s5,o5.1,e5] at g5
  rw [r5] at w5
  obtain ⟨-,c5,a5,b5⟩:=o5.2 W m _ y5 g5 w5
  refine ⟨by rw [hz];rfl,fun c hcc=>?_,hk _ _ _ _ _ _ _ _ _ _ _ _ _ b0 b1 b2 b3 b4 b5⟩
  simp only [List.mem_cons,List.not_mem_nil,or_false] at hcc
  rcases hcc with rfl|rfl|rfl|rfl|rfl|rfl
  · exact c0 _ (by simp)
  · exact c1 _ (by simp)
  · exact c2 _ (by simp)
  · exact c3 _ (by simp)
  · exact c4 _ (by simp)
  · exact c5 _ (by simp)
end Go.AM.G

