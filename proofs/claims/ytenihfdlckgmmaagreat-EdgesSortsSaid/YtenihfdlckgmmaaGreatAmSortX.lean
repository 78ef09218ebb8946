/- A part of the abstract machine, or of what is proved of the program by it. -/
import Derived.Test.YtenihfdlckgmmaaGreatAmSort
import Derived.Shelf.SlSortCmp.NoneTotal
namespace Go.AM
open Go.Sort Go.Proofs
set_option linter.unusedVariables false
set_option linter.unusedSimpArgs false
variable {P:Program}

abbrev X3:=Int × Value × Value
def cell1:Value→Bool
  | .bool _|.slice _ _ _=>true
  | _=>false
def x3s:List Value→Option (List X3)
  | []=>some []
  | .int .i64 n::a::b::r=>bif cell1 a && cell1 b then (x3s r).map ((n,a,b)::·) else none
  | _=>none
def x3c (x:X3):List Value:=[.int .i64 x.1,x.2.1,x.2.2]
section
variable {β:Type}
def insK (key:β→Int) (x:β):List β→List β
  | []=>[x]
  | y::r=>bif decide (key x≤key y) then x::y::r else y::insK key x r
def sortK (key:β→Int):List β→List β
  | []=>[]
  | x::r=>insK key x (sortK key r)
variable (key:β→Int)
theorem insK_perm (x:β):∀ l,(insK key x l).Perm (x::l)
  | []=>.refl _
  | y::r=>by
    unfold insK
    cases decide (key x≤key y) with
    | true=>exact .refl _
    | false=>exact ((insK_perm x r).cons y).trans (.swap _ _ _)
theorem sortK_perm:∀ l,(sortK key l).Perm l
  | []=>.refl _
  | x::r=>(insK_perm key x _).trans ((sortK_perm r).cons x)
theorem insK_sorted (x:β):∀ l:List β,l.Pairwise (fun a b=>key a≤key b)→(insK key x l).Pairwise (fun a b=>key a≤key b)
  | [],_=>by simp [insK]
  | y::r,h=>by
    obtain ⟨h1,h2⟩:=List.pairwise_cons.1 h
    unfold insK
    by_cases c:key x≤key y
    · rw [decide_eq_true c]
      refine List.pairwise_cons.2 ⟨fun a ha=>?_,h⟩
      rcases List.mem_cons.1 ha with rfl|ha
      · exact c
      · exact Int.le_trans c (h1 a ha)
    · rw [decide_eq_false c]
      refine List.pairwise_cons.2 ⟨fun a ha=>?_,insK_sorted x r h2⟩
      rcases List.mem_cons.1 ((insK_perm key x r).mem_iff.1 ha) with rfl|ha
      · omega
      · exact h1 a ha
theorem sortK_sorted:∀ l:List β,(sortK key l).Pairwise (fun a b=>key a≤key b)
  | []=>.nil
  | x::r=>insK_sorted key x _ (sortK_sorted r)
variable {γ:Type} (f:β→γ) (key':γ→Int) (hk:∀ x,key' (f x)=key x)
include hk
theorem insK_map (x:β):∀ l,(insK key x l).map f=insK key' (f x) (l.map f)
  | []=>rfl
  | y::r=>by
    simp only [insK,List.map_cons,hk]
    cases decide (key x≤key y) with
    | true=>rfl
    | false=>simp only [cond_false,List.map_cons,insK_map x r]
theorem sortK_map:∀ l,(sortK key l).map f=sortK key' (l.map f)
  | []=>rfl
  | x::r=>by simp only [sortK,List.map_cons,insK_map key f key' hk,sortK_map r]
end
def ndB:List Int→Bool
  | []=>true
  | x::r=>!r.contains x && ndB r
theorem ndB_nodup:∀ {l:List Int},ndB l=true→l.Nodup
  | [],_=>.nil
  | x::r,h=>by
    simp only [ndB,Bool.and_eq_true,Bool.not_eq_true',List.contains_eq_mem,decide_eq_false_iff_not] at h
    exact List.nodup_cons.2 ⟨h.1,ndB_nodup h.2⟩
/-- What slices.SortFunc does with a way to compare that is function g. -/
def sortXO (g:FuncId):List Value→Heap→Option (Value × Heap)
  | [.slice p n c,.func (.func f) a b],h =>
    bif Nat.beq f g && a.toList.isEmpty && b.toList.isEmpty then
      if n=0 then some (.tuple #[],h) else
      match p with
      | some ⟨b,o,none⟩=>match h.get b with
        | some (.cells cs (some z)) =>
          if z=3∧h.prot≤b∧o + n * 3≤cs.length∧n < 4611686018427387904 then
            match x3s ((cs.drop o).take (n * 3)) with
            | some xs=>bif ndB (xs.map (·.1)) then some (.tuple #[],h.set b (.cells (splice cs o ((sortK (·.1) xs).flatMap x3c)) (some z))) else none
            | none=>none
          else none
        | _=>none
      | _=>none
    else none
  | _,_=>none

structure M3 where
  id:Int
  a:Value
  b:Value
  ha:a.oneCell'=true
  hb:b.oneCell'=true
instance:Inhabited M3:=⟨⟨0,.bool false,.bool false,rfl,rfl⟩⟩
def M3.enc (x:M3):List Value:=[.int .i64 x.id,x.a,x.b]
def M3.cf (x y:M3):Int:=Lib.compareInt x.id y.id
theorem M3.lt (x y:M3):ltOf M3.cf x y=decide (x.id < y.id):=by
  unfold ltOf M3.cf Lib.compareInt
  by_cases h1:x.id < y.id
  · simp [h1]
  · by_cases h2:y.id < x.id <;> simp [h1,h2]
theorem M3.swo:SWO (ltOf M3.cf) where
  irrefl x:=by rw [M3.lt];simp
  trans x y z h1 h2:=by rw [M3.lt] at *;simp at *;omega
  ntrans x y z h1 h2:=by rw [M3.lt] at *;simp at *;omega
def Rl (ι:Inj) (z:X3 × M3):Prop:=z.1.1=z.2.id∧V ι z.1.2.1 z.2.a∧V ι z.1.2.2 z.2.b
theorem cell1_V {ι:Inj} {v u:Value} (h:cell1 v=true) (hv:V ι v u):u.oneCell'=true:=by
  cases hv with
  | bool b=>rfl
  | sl0=>rfl
  | sl _ _ _=>rfl
  | sle=>rfl
  | _=>simp [cell1] at h
theorem x3s_rel {ι:Inj}:∀ {l:List Value} {xs:List X3} {l':List Value},x3s l=some xs→VL ι l l'→∃ zs:List (X3 × M3),xs=zs.map (·.1)∧l'=(zs.map (·.2)).flatMap M3.enc∧∀ z ∈ zs,Rl ι z
  | [],xs,l',h,hv=>by cases h;rw [hv.nil_inv];exact ⟨[],rfl,rfl,by simp⟩
  | .int .i64 n::a::b::r,xs,l',h,hv=>by
    simp only [x3s] at h
    cases hc:cell1 a && cell1 b with
    | false=>rw [hc] at h;cases h
    | true =>
      rw [hc] at h
      simp only [Bool.and_eq_true] at hc
      obtain ⟨q,h1,rfl⟩:=Option.map_eq_some_iff.1 h
      obtain ⟨u0,r0,rfl,k0,hv⟩:=hv.inv
      obtain ⟨u1,r1,rfl,k1,hv⟩:=hv.inv
      obtain ⟨u2,r2,rfl,k2,hv⟩:=hv.inv
      obtain ⟨zs,rfl,rfl,hz⟩:=x3s_rel h1 hv
      cases k0
      refine ⟨((n,a,b),⟨n,u1,u2,cell1_V hc.1 k1,cell1_V hc.2 k2⟩)::zs,rfl,rfl,fun z hz'=>?_⟩
      rcases List.mem_cons.1 hz' with rfl|hz'
      · exact ⟨rfl,k1,k2⟩
      · exact hz z hz'
  | [v],xs,l',h,hv=>by cases v <;> simp [x3s] at h
  | [v,u],xs,l',h,hv=>by cases v <;> simp [x3s] at h
theorem rel_VL {ι:Inj}:∀ {zs:List (X3 × M3)},(∀ z ∈ zs,Rl ι z)→VL ι ((zs.map (·.1)).flatMap x3c) ((zs.map (·.2)).flatMap M3.enc)
  | [],_=>VL.nil ι
  | z::zs,h=>by
    obtain ⟨h1,h2,h3⟩:=h z (by simp)
    have ih:=rel_VL (zs:=zs) fun y hy=>h y (by simp [hy])
    simp only [List.map_cons,List.flatMap_cons]
    refine VL.append ?_ ih
    refine VL.cons ?_ (VL.cons h2 (VL.cons h3 (VL.nil ι)))
    rw [h1];exact .int _ _
theorem flatK_list (d:Array M3):(flatK M3.enc 3 d).toList=d.toList.flatMap M3.enc:=by
  have key:∀ (l:List M3) (t:Nat),t < l.length * 3→(l.flatMap M3.enc)[t]? = some ((l[t / 3]!).enc[t % 3]!):=by
    intro l
    induction l with
    | nil=>intro t ht;simp at ht
    | cons x l ih =>
      intro t ht
      rw [List.flatMap_cons]
      have hl:x.enc.length=3:=rfl
      by_cases h3:t < 3
      · rw [List.getElem?_append_left (by omega)]
        have e1:t / 3=0:=by omega
        have e2:t % 3=t:=by omega
        rw [e1,e2]
        simp only [List.getElem!_cons_zero]
        rw [List.getElem?_eq_getElem (by omega),getElem!_pos _ _ (by omega)]
      · rw [List.getElem?_append_right (by omega),hl,ih (t - 3) (by simp at ht;omega)]
        have e1:t / 3=(t - 3) / 3 + 1:=by omega
        have e2:(t - 3) % 3=t % 3:=by omega
        rw [e1,e2,List.getElem!_cons_succ]
  have hlen:(d.toList.flatMap M3.enc).length=d.size * 3:=by
    rw [List.length_flatMap]
    have:(d.toList.map fun a=>(M3.enc a).length)=List.replicate d.size 3:=by
      rw [List.eq_replicate_iff];exact ⟨by simp,fun x hx=>by obtain ⟨y,_,rfl⟩:=List.mem_map.1 hx;rfl⟩
    rw [this];simp
  apply List.ext_getElem?
  intro t
  by_cases ht:t < d.size * 3
  · rw [key d.toList t (by simpa using ht)]
    have h1:=get_flatK M3.enc 3 d t ht
    rw [Array.getElem?_toList,Array.getElem?_eq_getElem (by rw [size_flatK];exact ht)]
    rw [getElem!_pos _ _ (by rw [size_flatK];exact ht)] at h1
    rw [h1]
    have h2:d[t / 3]! = d.toList[t / 3]!:=by
      rw [getElem!_pos d _ (by omega),getElem!_pos d.toList _ (by simp;omega)];rfl
    rw [h2]
  · rw [List.getElem?_eq_none (l:=(flatK M3.enc 3 d).toList) (by simp only [Array.length_toList,size_flatK];omega),List.getElem?_eq_none (by omega)]
theorem putCellsV_toList (F:Array Value) (off:Nat) (C:Array Value) (hn:off + F.size≤C.size):(putCells id off F C).toList=splice C.toList off F.toList:=by
  apply List.ext_getElem?
  intro k
  unfold putCells splice
  rw [Array.getElem?_toList,Array.getElem?_mapIdx]
  simp only [Array.length_toList]
  by_cases h1:k < off
  · rw [List.append_assoc,List.getElem?_append_left (by simp;omega),List.getElem?_take,if_pos h1,Array.getElem?_toList]
    cases C[k]? with
    | none=>rfl
    | some x=>simp only [Option.map_some];rw [if_neg (by omega)]
  · by_cases h2:k < off + F.size
    · rw [List.append_assoc,List.getElem?_append_right (by simp;omega),List.getElem?_append_left (by simp;omega)]
      have hk:k < C.size:=by omega
      rw [Array.getElem?_eq_getElem hk]
      simp only [Option.map_some,List.length_take,Array.length_toList,Array.getElem?_toList]
      rw [if_pos ⟨by omega,by omega⟩]
      have hz:k - off < F.size:=by omega
      have e:k - min off C.size=k - off:=by omega
      rw [e,Array.getElem?_eq_getElem hz]
      simp [hz]
    · rw [List.getElem?_append_right (by simp;omega),List.getElem?_drop]
      have e:off + F.size + (k - (C.toList.take off++F.toList).length)=k:=by simp;omega
      rw [e,Array.getElem?_toList]
      cases C[k]? with
      | none=>rfl
      | some x=>simp only [Option.map_some];rw [if_neg (by omega)]
theorem x3s_len:∀ {l:List Value} {xs:List X3},x3s l=some xs→l.length=xs.length * 3
  | [],xs,h=>by cases h;rfl
  | .int .i64 n::a::b::r,xs,h=>by
    simp only [x3s] at h
    cases hc:cell1 a && cell1 b with
    | false=>rw [hc] at h;cases h
    | true =>
      rw [hc] at h
      obtain ⟨q,h1,rfl⟩:=Option.map_eq_some_iff.1 h
      have:=x3s_len h1
      simp only [List.length_cons];omega
  | [v],xs,h=>by cases v <;> simp [x3s] at h
  | [v,u],xs,h=>by cases v <;> simp [x3s] at h
/-- What the model sorts is what is sorted here. -/
theorem sorted_eq {zs:List (X3 × M3)} {d':Array M3} (hid:∀ z ∈ zs,z.1.1=z.2.id) (hnd:(zs.map fun z=>z.1.1).Nodup) (hp:PermIn 0 (zs.map (·.2)).toArray.size (zs.map (·.2)).toArray d') (hs:SortedIn (ltOf M3.cf) 0 (zs.map (·.2)).toArray.size d'):d'.toList=(sortK (fun z:X3 × M3=>z.1.1) zs).map (·.2):=by
  obtain ⟨h1,_,h3⟩:=hp
  have e1:(d'.extract 0 (zs.map (·.2)).toArray.size)=d':=by rw [← h1];simp
  have e2:((zs.map (·.2)).toArray.extract 0 (zs.map (·.2)).toArray.size).toList=zs.map (·.2):=by simp [List.take_of_length_le]
  rw [e1,e2] at h3
  have hperm:d'.toList.Perm ((sortK (fun z:X3 × M3=>z.1.1) zs).map (·.2)):=h3.trans ((sortK_perm _ zs).symm.map _)
  have hnd2:(zs.map fun z=>z.2.id).Nodup:=by
    have:(zs.map fun z=>z.2.id)=zs.map fun z=>z.1.1:=List.map_congr_left fun z hz=>(hid z hz).symm
    rw [this];exact hnd
  have inj:∀ a b,a ∈ zs.map (·.2)→b ∈ zs.map (·.2)→a.id=b.id→a=b:=by
    intro a b ha hb hab
    obtain ⟨i,hi,rfl⟩:=List.getElem_of_mem ha
    obtain ⟨j,hj,rfl⟩:=List.getElem_of_mem hb
    simp only [List.getElem_map] at hab
    have hpw:=List.pairwise_iff_getElem.1 hnd2
    have hi':i < zs.length:=by simpa using hi
    have hj':j < zs.length:=by simpa using hj
    have:i=j:=by
      rcases Nat.lt_trichotomy i j with q|q|q
      · exact absurd (by rw [List.getElem_map,List.getElem_map];exact hab) (hpw i j (by simpa using hi') (by simpa using hj') q)
      · exact q
      · exact absurd (by rw [List.getElem_map,List.getElem_map];exact hab.symm) (hpw j i (by simpa using hj') (by simpa using hi') q)
    subst this;rfl
  refine List.Perm.eq_of_pairwise (le:=fun a b:M3=>a.id≤b.id) (fun a b ha hb q1 q2=>inj a b (h3.mem_iff.1 ha) ((hperm.symm.trans h3).mem_iff.1 hb) (by omega)) ?_ ?_ hperm
  · rw [List.pairwise_iff_getElem]
    intro i j hi hj hij
    have h5:i < d'.size:=by simpa using hi
    have h6:j < d'.size:=by simpa using hj
    have h4:=hs i j (Nat.zero_le _) hij (by rw [← h1];exact h6)
    rw [M3.lt,getElem!_pos d' i h5,getElem!_pos d' j h6] at h4
    simp only [decide_eq_false_iff_not] at h4
    simp only [Array.getElem_toList]
    omega
  · rw [List.pairwise_map]
    refine List.Pairwise.imp_of_mem ?_ (sortK_sorted (fun z:X3 × M3=>z.1.1) zs)
    intro a b ha hb hab
    rw [← hid a ((sortK_perm _ zs).mem_iff.1 ha),← hid b ((sortK_perm _ zs).mem_iff.1 hb)]
    exact hab
theorem sortX_ok {k g : FuncId} (hfn : ∃ f, P.funcs[k]? = some f ∧ (f.name == "runtime.NumGoroutine") = false ∧ f.body.isNone = false)
    (hsort:∀ (blk off cap:Nat) (d:Array M3) (w:World),HoldsK M3.enc 3 w blk off d→blk < w.heap.size→d.size < 4611686018427387904 →
      Calls P k #[.slice (some ⟨blk,off,none⟩) d.size cap,.func (.func g) #[] #[]] w fun e w'=>e=.returned (.tuple #[])∧∃ d' n os,PermIn 0 d.size d d'∧SortedIn (ltOf M3.cf) 0 d.size d'∧w'=sortWorldK M3.enc 3 w blk off n d' os)
    (hnone:∀ (p:Option Addr) (cap:Nat) (fv:Value) (w:World),Calls P k #[.slice p 0 cap,fv] w fun e w'=>e=.returned (.tuple #[])∧w'=w):OracleOk P k (sortXO g):=by
  refine ⟨hfn,fun args h v h' hr=>?_,fun args h v h' hr ι w cargs hS hv=>?_⟩
  · unfold sortXO at hr
    split at hr
    · skip
      rename_i p n c f a b
      cases hc:Nat.beq f g && a.toList.isEmpty && b.toList.isEmpty with
      | false=>rw [hc] at hr;cases hr
      | true =>
        rw [hc] at hr
        simp only [cond_true] at hr
        split at hr
        · cases hr;exact Ext.refl _
        · split at hr
          · split at hr
            · rename_i hg
              split at hr
              · rename_i hc
                split at hr
                · rename_i xs _
                  cases hn:ndB (xs.map (·.1)) with
                  | false=>rw [hn] at hr;cases hr
                  | true=>rw [hn] at hr;cases hr;exact Ext.set _ hc.2.1 (by unfold owned;rw [hg];trivial)
                · cases hr
              · cases hr
            · cases hr
          · cases hr
    · cases hr
  · refine callsIn_wide.2 ?_
    unfold sortXO at hr
    split at hr
    · rename_i p n c f a b
      obtain ⟨u,r,rfl,hu,hr2⟩:=hv.inv
      obtain ⟨u2,r2,rfl,hu2,hr3⟩:=hr2.inv
      obtain rfl:=hr3.nil_inv
      cases hc0:Nat.beq f g && a.toList.isEmpty && b.toList.isEmpty with
      | false=>rw [hc0] at hr;cases hr
      | true =>
        rw [hc0] at hr
        simp only [cond_true] at hr
        simp only [Bool.and_eq_true] at hc0
        obtain ⟨⟨hf,ha⟩,hb⟩:=hc0
        have hf:=Nat.eq_of_beq_eq_true hf
        subst hf
        have hu2':u2=.func (.func f) #[] #[]:=by
          cases hu2 with
          | fn h1 h2 h3 h4 =>
            rename_i l1 l1' l2 l2'
            have e1:l1=[]:=by simpa using ha
            have e2:l2=[]:=by simpa using hb
            subst e1;subst e2
            have e3:l1'=[]:=List.length_eq_zero_iff.1 h1.symm
            have e4:l2'=[]:=List.length_eq_zero_iff.1 h3.symm
            subst e3;subst e4;rfl
        subst hu2'
        split at hr
        · rename_i hn
          subst hn
          cases hr
          have:∃ p' c',u=.slice p' 0 c':=by
            cases hu
            · exact ⟨_,_,rfl⟩
            · exact ⟨_,_,rfl⟩
            · exact ⟨_,_,rfl⟩
          obtain ⟨p',c',rfl⟩:=this
          refine (hnone p' c' _ w).mono ?_
          rintro e w' ⟨rfl,rfl⟩
          exact ⟨_,ι,rfl,V.undef,Rel.refl hS⟩
        · rename_i hn
          split at hr
          · rename_i b o
            split at hr
            · rename_i cs z hg
              split at hr
              · rename_i hc
                obtain ⟨rfl,hprot,hle,hnb⟩:=hc
                split at hr
                · rename_i xs hxs
                  cases hnd:ndB (xs.map (·.1)) with
                  | false=>rw [hnd] at hr;cases hr
                  | true =>
                    rw [hnd] at hr
                    cases hr
                    have hnd':=ndB_nodup hnd
                    have hlen:xs.length=n:=by
                      have:=x3s_len hxs
                      simp at this;omega
                    have hex:∃ i c',ι b=some i∧u=.slice (some ⟨i.blk,o,none⟩) n c':=by
                      cases hu with
                      | sl hb _ _=>exact ⟨_,_,hb,rfl⟩
                      | sle=>exact absurd rfl hn
                    obtain ⟨i,c',hb,rfl⟩:=hex
                    obtain ⟨C,T,fz,h1,h2,h3,h4⟩:=hS.cells hb hg
                    obtain ⟨hfz,hz⟩:=h4 3 rfl
                    have hvp:VP ι cs C.toList:=h3
                    have hd:=hS.dom b i hb
                    have hsub:=hvp.sub o (n * 3) hle
                    obtain ⟨zs,rfl,hcl,hzs⟩:=x3s_rel hxs hsub
                    have hzl:zs.length=n:=by simpa using hlen
                    have hFl:(flatK M3.enc 3 (zs.map (·.2)).toArray).toList=(C.toList.drop o).take (n * 3):=by rw [flatK_list,hcl]
                    have hFs:(flatK M3.enc 3 (zs.map (·.2)).toArray).size=n * 3:=by rw [size_flatK];simp [hzl]
                    have hCle:o + n * 3≤C.size:=by have:=hvp.1;simp at this;omega
                    have hH:HoldsK M3.enc 3 w i.blk o (zs.map (·.2)).toArray:=by
                      intro j hj
                      rw [hFs] at hj
                      have e1:(flatK M3.enc 3 (zs.map (·.2)).toArray)[j]! = C[o + j]!:=by
                        have e2:(flatK M3.enc 3 (zs.map (·.2)).toArray).toList[j]? = ((C.toList.drop o).take (n * 3))[j]?:=by rw [hFl]
                        rw [Array.getElem?_toList,List.getElem?_take,if_pos hj,List.getElem?_drop,Array.getElem?_toList,Array.getElem?_eq_getElem (by omega),Array.getElem?_eq_getElem (by omega)] at e2
                        rw [getElem!_pos _ _ (by omega),getElem!_pos _ _ (by omega)]
                        exact Option.some.inj e2
                      refine ⟨?_,?_⟩
                      · unfold World.cell?
                        simp only [h1,Option.isSome_none,Bool.false_eq_true,if_false]
                        rw [Array.getElem?_eq_getElem (by omega)]
                        simp only [id,e1]
                        rw [getElem!_pos _ _ (by omega)]
                      · obtain ⟨lo,hi⟩:=fz
                        unfold World.frozen?
                        simp only [h1]
                        exact hfz _ (by omega)
                    have hds:(zs.map (·.2)).toArray.size=n:=by simp [hzl]
                    have hcall:=hsort i.blk o c' (zs.map (·.2)).toArray w hH hd.2 (by rw [hds];exact hnb)
                    rw [hds] at hcall
                    refine hcall.mono ?_
                    rintro e w' ⟨rfl,d',m,os,hp,hs,rfl⟩
                    rw [← hds] at hp hs
                    have hid:∀ z ∈ zs,z.1.1=z.2.id:=fun z hz=>(hzs z hz).1
                    have hd':=sorted_eq hid (by rw [List.map_map] at hnd';exact hnd') hp hs
                    have hd's:d'.size=n:=by rw [hp.1,hds]
                    have hF':(flatK M3.enc 3 d').size=n * 3:=by rw [size_flatK,hd's]
                    have hheap:(putRowK M3.enc 3 (Sort.ahead w m) i.blk o d').heap=w.heap.setIfInBounds i.blk (.cells (putCells id o (flatK M3.enc 3 d') C) T fz):=by
                      unfold putRowK putRow mapBlock Sort.ahead
                      simp only
                      apply Array.ext_getElem?
                      intro k
                      rw [Array.getElem?_modify,Array.getElem?_setIfInBounds]
                      by_cases hk:i.blk=k
                      · subst hk
                        rw [if_pos rfl,if_pos rfl,h1,if_pos hd.2];rfl
                      · rw [if_neg hk,if_neg hk]
                    have r1:Rel P ι h w ι (h.set b (.cells (splice cs o ((sortK (·.1) (zs.map (·.1))).flatMap x3c)) (some 3))) (putRowK M3.enc 3 (Sort.ahead w m) i.blk o d'):=by
                      refine Rel.set hS hb (by unfold owned;rw [hg];trivial) hprot ⟨_,T,fz,rfl,?_,?_,fun z' hz'=>⟨by unfold putCells;rw [Array.size_mapIdx];exact hfz,by cases hz';exact hz⟩⟩ hheap rfl rfl rfl (Nat.le_add_right _ _)
                      · unfold putCells;rw [Array.size_mapIdx];exact h2
                      · rw [putCellsV_toList _ _ _ (by rw [hF'];exact hCle),flatK_list,hd']
                        have hzs':∀ z ∈ sortK (fun z:X3 × M3=>z.1.1) zs,Rl ι z:=fun z hz=>hzs z ((sortK_perm _ zs).mem_iff.1 hz)
                        have hv2:=rel_VL hzs'
                        rw [sortK_map (fun z:X3 × M3=>z.1.1) (·.1) (·.1) (fun _=>rfl)] at hv2
                        refine VP.splice hvp hv2 o ?_
                        have hl3:((sortK (fun x:X3=>x.1) (zs.map (·.1))).flatMap x3c).length=n * 3:=by
                          have:∀ l:List X3,(l.flatMap x3c).length=l.length * 3:=by
                            intro l
                            induction l with
                            | nil=>rfl
                            | cons x l ih=>rw [List.flatMap_cons,List.length_append,ih,List.length_cons];simp [x3c];omega
                          rw [this,(sortK_perm _ _).length_eq];simp [hzl]
                        rw [hl3];exact hle
                    exact ⟨_,ι,rfl,V.undef,Rel.trans hS r1 (Rel.grow r1.sim os rfl rfl rfl rfl)⟩
                · cases hr
              · cases hr
            · cases hr
          · cases hr
    · cases hr
end Go.AM

