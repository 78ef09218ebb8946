/- A part of the abstract machine, or of what is proved of the program by it. -/
import Derived.Test.YtenihfdlckgmmaaGreatAmCall
import Derived.Test.YtenihfdlckgmmaaGreatAmKinds
namespace Go.AM.G
open Go.AM hiding Kt At WP WL Runs RunsY
open Go.ChangeShapes Go.WideShapes Go.RowKit
set_option linter.unusedVariables false
set_option linter.unusedSectionVars false
set_option linter.unusedSimpArgs false

theorem rd_rdm {h:Heap} {b o n:Nat} {cs:List Value} (hb:b < h.size) (e:h.rd b o n=some cs):rdm (mem h) b o n=some cs:=by
  unfold Heap.rd at e
  unfold rdm mem
  rw [if_pos hb]
  cases hg:h.get b with
  | none=>rw [hg] at e;cases e
  | some ob=>rw [hg] at e;cases ob with
    | cells c own=>exact e
    | _=>cases e
theorem rdm_append {m:M} {b o n k:Nat} {cs cs':List Value} (e:rdm m b o n=some cs) (e':rdm m b (o + n) k=some cs'):rdm m b o (n + k)=some (cs++cs'):=by
  unfold rdm at e e' ⊢
  split at e
  · rename_i c own hm
    rw [hm] at e'
    simp only at e'
    split at e
    · rename_i h1
      split at e'
      · rename_i h2
        cases e;cases e'
        have e3:(c.drop o).take (n + k)=(c.drop o).take n++(c.drop (o + n)).take k:=by
          rw [List.take_add,List.drop_drop]
        rw [e3,if_pos]
        refine ⟨by omega,?_⟩
        rw [List.all_append,h1.2,h2.2];rfl
      · cases e'
    · cases e
  · cases e

section
variable {H:Type} {enc:TypeId × Value→H} {P:Program}

/-- None of it is too large for a machine. -/
def Wok (P:Program) (t:TypeId) (d:DataW H):Prop:=(d.weights P t).all (fun n=>decide (n≤reachBytes))=true
theorem wok_all {e:TypeId}:∀ {l:List (DataW H)},(DataW.weightsAll P e l).all (fun n=>decide (n≤reachBytes))=true→∀ d ∈ l,Wok P e d
  | x::l,h,d,hd=>by
    rw [DataW.weightsAll,List.all_append,Bool.and_eq_true] at h
    rcases List.mem_cons.1 hd with rfl|hd
    · exact h.1
    · exact wok_all h.2 d hd
theorem wok_each:∀ {ts:List TypeId} {ds:List (DataW H)},(DataW.weightsEach P ts ds).all (fun n=>decide (n≤reachBytes))=true→∀ (j:Nat) t d,ts[j]? = some t→ds[j]? = some d→Wok P t d
  | [],ds,_,j,t,d,ht,_=>by simp at ht
  | t0::ts,[],_,j,t,d,_,hd=>by simp at hd
  | t0::ts,d0::ds,h,j,t,d,ht,hd=>by
    rw [DataW.weightsEach,List.all_append,Bool.and_eq_true] at h
    cases j with
    | zero=>simp at ht hd;subst ht;subst hd;exact h.1
    | succ j=>exact wok_each h.2 j t d (by simpa using ht) (by simpa using hd)

/-- What is of a type reads as of a kind. -/
def Opens {H:Type} (enc:TypeId × Value→H) (P:Program) (t:TypeId) {α:Type} (K:Kind α):Prop :=
  P.cellsOf t=K.esz∧∀ (W:World) (n:Nat) (cs:List Value) (x:DataW H × List MemPlace),DataW.trod enc P W 0 (fun _=>true) true n t cs=some x→Wok P t x.1 →
    cs.length=K.esz∧(∀ c ∈ cs,V (inj0 W) (norm c) c)∧∃ a,K.rd (mem (start W)) (cs.map norm) a

theorem opens_int {t:TypeId} {k:IntKind} (ht:P.underlying t=some (.int k)) (hc:P.cellsOf t=1):Opens enc P t (kInt k):=by
  refine ⟨hc,fun W n cs x h _=>?_⟩
  obtain ⟨m,rfl,rfl,hw⟩:=DataW.trod_int ht h
  refine ⟨rfl,fun c hc=>?_,m,rfl,?_⟩
  · rw [List.mem_singleton] at hc;subst hc;exact .int _ _
  · simpa [Lit.wf] using hw

theorem opens_slice {t e:TypeId} {α:Type} {K:Kind α} (ht:P.underlying t=some (.slice e)) (hc:P.cellsOf t=1) (hby:0 < P.bytesOf e) (hK:Opens enc P e K):Opens enc P t (kSl K):=by
  have hz:=K.pos
  refine ⟨hc,fun W n cs x h hx=>?_⟩
  rcases DataW.trod_slice ht h with ⟨rfl,_⟩|⟨a,len,cap,elems,rest,m,_,rfl,rfl,_,hl,hm,hlen,hel,hsp,_⟩
  · exact ⟨rfl,fun c hc=>by rw [List.mem_singleton] at hc;subst hc;exact .sl0,[],_,rfl,Sl.nil,Nat.zero_le _⟩
  obtain ⟨hrl,hr⟩:=hsp rfl
  unfold Wok at hx
  simp only [DataW.weights,ht,List.all_cons,List.all_append,Bool.and_eq_true,decide_eq_true_eq] at hx
  obtain ⟨hx0,hx1,hx2⟩:=hx
  -- each cell that is there
  have each:∀ i,i < cap→∃ cs' y,W.cells? 0 (a.add (i * K.esz)) K.esz=some cs'∧DataW.trod enc P W 0 (fun _=>true) true m e cs'=some y∧Wok P e y.1:=by
    intro i hi
    have:∃ y,(W.cells? 0 (a.add (i * P.cellsOf e)) (P.cellsOf e)).bind (DataW.trod enc P W 0 (fun _=>true) true m e)=some y∧Wok P e y.1:=by
      by_cases h1:i < len
      · exact ⟨elems[i]'(by omega),by rw [hel i h1];exact List.getElem?_eq_getElem (by omega),wok_all hx1 _ (List.mem_map.2 ⟨_,List.getElem_mem _,rfl⟩)⟩
      · have:=hr (i - len) (by omega)
        rw [show len + (i - len)=i by omega] at this
        exact ⟨rest[i - len]'(by omega),by rw [this];exact List.getElem?_eq_getElem (by omega),wok_all hx2 _ (List.mem_map.2 ⟨_,List.getElem_mem _,rfl⟩)⟩
    obtain ⟨y,hy,hyw⟩:=this
    rw [hK.1] at hy
    obtain ⟨cs',h1,h2⟩:=Option.bind_eq_some_iff.1 hy
    exact ⟨cs',y,h1,h2,hyw⟩
  have cellsAt:∀ {q:Addr} {cs':List Value},W.cells? 0 q K.esz=some cs'→q.spot=none∧q.block < W.heap.size∧cs'.length=K.esz∧∀ (j:Nat) (hj:j < cs'.length),W.cell? ⟨q.block,q.off + j,none⟩=some cs'[j]:=by
    intro q cs' hq
    obtain ⟨-,hlen',hget⟩:=World.cells?_some hq
    have hb:=World.cells?_block hq hz
    have h0:=hget 0 (by omega)
    have hspot:q.spot=none:=by
      cases hs:q.spot with
      | none=>rfl
      | some z =>
        exfalso
        rw [List.getElem?_eq_getElem (by omega)] at h0
        have e0:q.add 0=q:=by simp [Addr.add]
        rw [e0] at h0
        unfold World.cell? at h0
        rw [hs] at h0
        split at h0
        · simp at h0
        · cases h0
    refine ⟨hspot,hb,hlen',fun j hj=>?_⟩
    have:=hget j (by omega)
    rw [List.getElem?_eq_getElem hj] at this
    rw [← this]
    cases q
    simp only at hspot;subst hspot
    rw [addr_add]
  by_cases hcap:cap=0
  · subst hcap
    have hlen0:len=0:=by omega
    subst hlen0
    refine ⟨rfl,fun c hc=>by rw [List.mem_singleton] at hc;subst hc;exact .sle,[],_,rfl,⟨some ⟨0,0,none⟩,0,rfl,by simp,by simp,fun h=>absurd rfl h⟩,Nat.zero_le _⟩
  · obtain ⟨cs0,y0,hq0,-⟩:=each 0 (by omega)
    obtain ⟨hspot,hb,-,-⟩:=cellsAt hq0
    have hnorm:norm (.slice (some a) len cap)=.slice (some a) len cap:=by
      unfold norm
      split
      · rename_i heq;cases heq;omega
      · rfl
    obtain ⟨b,o,sp⟩:=a
    rw [Nat.zero_mul,show Addr.add ⟨b,o,sp⟩ 0=⟨b,o,sp⟩ by simp [Addr.add]] at hspot hb
    simp only at hspot hb
    subst hspot
    obtain ⟨sz,hi⟩:=inj0_some hb
    have hread:∀ i,i < cap→∃ cs' al,rdm (mem (start W)) b (o + i * K.esz) K.esz=some cs'∧K.rd (mem (start W)) cs' al:=by
      intro i hi'
      obtain ⟨cs',y,h1,h2,hyw⟩:=each i hi'
      rw [addr_add] at h1
      obtain ⟨-,-,hlen',hget⟩:=cellsAt h1
      obtain ⟨h3,h4,al,h5⟩:=hK.2 W m cs' y h2 hyw
      exact ⟨cs'.map norm,al,rd_rdm hb (start_rd hlen' (fun j hj=>hget j (by omega)) h4 hz),h5⟩
    have hlist:∀ k,k≤cap→∃ (l:List α) (cs:List Value),l.length=k∧rdm (mem (start W)) b o (k * K.esz)=some cs∧Cells K (mem (start W)) cs l:=by
      intro k
      induction k with
      | zero =>
        intro _
        obtain ⟨cs',al,h3,_⟩:=hread 0 (by omega)
        have:=rdm_part h3 (i:=0) (k:=0) (Nat.zero_le _)
        refine ⟨[],[],rfl,?_,rfl⟩
        simpa using this
      | succ k ih =>
        intro hk
        obtain ⟨l,cs,h1,h2,h3⟩:=ih (by omega)
        obtain ⟨cs',al,h4,h5⟩:=hread k (by omega)
        refine ⟨l++[al],cs++cs',by simp [h1],?_,h3.append (Cells.one h5)⟩
        rw [Nat.add_mul,Nat.one_mul]
        exact rdm_append h2 h4
    obtain ⟨l,cs,h1,h2,h3⟩:=hlist len (by omega)
    subst h1
    refine ⟨rfl,fun c hc=>?_,l,_,by rw [List.map_singleton,hnorm],Sl.of_cells h2 h3,by
      have h9:(elems.map (·.1)).length * 1≤((elems.map (·.1)).length + (rest.map (·.1)).length) * P.bytesOf e:=Nat.mul_le_mul (Nat.le_add_right _ _) hby
      simp only [List.length_map,Nat.mul_one] at h9 hx0
      have:maxLen'=reachBytes:=rfl
      omega⟩
    rw [List.mem_singleton] at hc;subst hc
    rw [hnorm]
    exact V.sl hi hl (fun _=>by simp)

/-- One argument. -/
theorem opens_arg1 {t:TypeId} {α:Type} {K:Kind α} (hK:Opens enc P t K) {W:World} {v:Value} {d:DataW H} {ps:List MemPlace} (h:DataW.Trod enc P W 0 (fun _=>true) true t v d ps) (hw:Wok P t d) (hv:v.cells=#[v]) :
    V (inj0 W) (norm v) v∧∃ a,K.rd (mem (start W)) [norm v] a:=by
  obtain ⟨n,hn⟩:=h
  rw [hv] at hn
  obtain ⟨_,h2,a,h3⟩:=hK.2 W n _ _ hn hw
  exact ⟨h2 v (by simp),a,h3⟩
end
end Go.AM.G

