/- A part of the abstract machine, or of what is proved of the program by it. -/
import Derived.Test.YtenihfdlckgmmaaGreatAmSortX
import Derived.Test.YtenihfdlckgmmaaGreatAmCall
import Derived.Test.YtenihfdlckgmmaaGreatAmLogic
namespace Go.AM
open Go.Sort Go.Proofs
set_option linter.unusedVariables false
set_option linter.unusedSimpArgs false
variable {P:Program}

def cmpL:List Int→List Int→Int
  | a::l,b::r=>if a < b then -1 else if b < a then 1 else cmpL l r
  | _,_=>0
theorem cmpL_refl:∀ l,cmpL l l=0
  | []=>rfl
  | a::l=>by simp only [cmpL];rw [if_neg (by omega),if_neg (by omega)];exact cmpL_refl l
theorem cmpL_trans:∀ {x y z:List Int},x.length=y.length→y.length=z.length→cmpL x y < 0→cmpL y z < 0→cmpL x z < 0
  | [],_,_,_,_,h,_=>by simp [cmpL] at h
  | a::x,[],_,h,_,_,_=>by simp at h
  | a::x,b::y,[],_,h,_,_=>by simp at h
  | a::x,b::y,c::z,h1,h2,h3,h4=>by
    simp only [List.length_cons,Nat.add_right_cancel_iff] at h1 h2
    have ih:=@cmpL_trans x y z h1 h2
    simp only [cmpL] at *
    split at h3
    · split at h4
      · rw [if_pos (by omega)];decide
      · split at h4
        · omega
        · rw [if_pos (by omega)];decide
    · split at h3
      · omega
      · split at h4
        · rw [if_pos (by omega)];decide
        · split at h4
          · omega
          · rw [if_neg (by omega),if_neg (by omega)];exact ih h3 h4
theorem cmpL_ntrans:∀ {x y z:List Int},x.length=y.length→y.length=z.length→¬ cmpL x y < 0→¬ cmpL y z < 0→¬ cmpL x z < 0
  | [],_,_,_,_,_,_=>by simp [cmpL]
  | a::x,[],_,h,_,_,_=>by simp at h
  | a::x,b::y,[],_,h,_,_=>by simp at h
  | a::x,b::y,c::z,h1,h2,h3,h4=>by
    simp only [List.length_cons,Nat.add_right_cancel_iff] at h1 h2
    have ih:=@cmpL_ntrans x y z h1 h2
    simp only [cmpL] at *
    split at h3
    · exact absurd (by decide) h3
    · split at h4
      · exact absurd (by decide) h4
      · split at h3
        · split at h4
          · rw [if_neg (by omega),if_pos (by omega)];decide
          · rw [if_neg (by omega),if_pos (by omega)];decide
        · split at h4
          · rw [if_neg (by omega),if_pos (by omega)];decide
          · rw [if_neg (by omega),if_neg (by omega)];exact ih h3 h4
theorem cmpL_tot:∀ {x y:List Int},x.length=y.length→¬ cmpL x y < 0→¬ cmpL y x < 0→x=y
  | [],[],_,_,_=>rfl
  | [],_::_,h,_,_=>by simp at h
  | _::_,[],h,_,_=>by simp at h
  | a::x,b::y,h,h1,h2=>by
    simp only [List.length_cons,Nat.add_right_cancel_iff] at h
    have ih:=@cmpL_tot x y h
    simp only [cmpL] at h1 h2
    split at h1
    · exact absurd (by decide) h1
    · split at h2
      · exact absurd (by decide) h2
      · have e:a=b:=by omega
        subst e
        simp only [Int.lt_irrefl,if_false] at h1 h2
        rw [ih h1 h2]
def insG (x:List Int):List (List Int)→List (List Int)
  | []=>[x]
  | y::r=>bif decide (cmpL y x < 0) then y::insG x r else x::y::r
def sortG:List (List Int)→List (List Int)
  | []=>[]
  | x::r=>insG x (sortG r)
theorem insG_perm (x:List Int):∀ l,(insG x l).Perm (x::l)
  | []=>.refl _
  | y::r=>by
    unfold insG
    cases decide (cmpL y x < 0) with
    | false=>exact .refl _
    | true=>exact ((insG_perm x r).cons y).trans (.swap _ _ _)
theorem sortG_perm:∀ l,(sortG l).Perm l
  | []=>.refl _
  | x::r=>(insG_perm x _).trans ((sortG_perm r).cons x)
def SrtG (l:List (List Int)):Prop:=l.Pairwise fun a b=>¬ cmpL b a < 0
theorem cmpL_le_of_lt {x y:List Int} (h:x.length=y.length) (k:cmpL x y < 0):¬ cmpL y x < 0:=fun q=>by
  have:=cmpL_trans h h.symm k q
  rw [cmpL_refl] at this;omega
theorem insG_sorted {k:Nat} {x:List Int} (hx:x.length=k):∀ {l:List (List Int)},(∀ y ∈ l,y.length=k)→SrtG l→SrtG (insG x l)
  | [],_,_=>by simp [insG,SrtG]
  | y::r,hl,h=>by
    obtain ⟨h1,h2⟩:=List.pairwise_cons.1 h
    have hy:=hl y (by simp)
    unfold insG
    by_cases c:cmpL y x < 0
    · rw [decide_eq_true c]
      refine List.pairwise_cons.2 ⟨fun a ha=>?_,insG_sorted hx (fun z hz=>hl z (by simp [hz])) h2⟩
      rcases List.mem_cons.1 ((insG_perm x r).mem_iff.1 ha) with rfl|ha
      · exact cmpL_le_of_lt (by omega) c
      · exact h1 a ha
    · rw [decide_eq_false c]
      refine List.pairwise_cons.2 ⟨fun a ha=>?_,h⟩
      rcases List.mem_cons.1 ha with rfl|ha
      · exact c
      · have:=hl a (by simp [ha])
        exact cmpL_ntrans (by omega) (by omega) (h1 a ha) c
theorem sortG_sorted {k:Nat}:∀ {l:List (List Int)},(∀ y ∈ l,y.length=k)→SrtG (sortG l)
  | [],_=>.nil
  | x::r,h=>insG_sorted (h x (by simp)) (fun y hy=>h y (by simp [(sortG_perm r).mem_iff.1 hy])) (sortG_sorted fun y hy=>h y (by simp [hy]))

def intsO:List Value→Option (List Int)
  | []=>some []
  | .int .i64 n::r=>(intsO r).map (n::·)
  | _=>none
def chunk6:List Int→Option (List (List Int))
  | []=>some []
  | a::b::c::d::e::f::r=>(chunk6 r).map ([a,b,c,d,e,f]::·)
  | _=>none
def x6s (l:List Value):Option (List (List Int)):=(intsO l).bind chunk6
def x6c (x:List Int):List Value:=x.map (.int .i64)

/-- What slices.SortFunc does with a way to compare that is function g. -/
def sortEO (g:FuncId):List Value→Heap→Option (Value × Heap)
  | [.slice p n c,.func (.func f) a b],h =>
    bif Nat.beq f g && a.toList.isEmpty && b.toList.isEmpty then
      if n=0 then some (.tuple #[],h) else
      match p with
      | some ⟨b,o,none⟩=>match h.get b with
        | some (.cells cs (some z)) =>
          if z=6∧h.prot≤b∧o + n * 6≤cs.length∧n < 4611686018427387904 then
            match x6s ((cs.drop o).take (n * 6)) with
            | some xs=>some (.tuple #[],h.set b (.cells (splice cs o ((sortG xs).flatMap x6c)) (some z)))
            | none=>none
          else none
        | _=>none
      | _=>none
    else none
  | _,_=>none

structure M6 where
  l:List Int
  h:l.length=6
instance:Inhabited M6:=⟨⟨[0,0,0,0,0,0],rfl⟩⟩
def M6.enc (x:M6):List Value:=x6c x.l
def M6.cf (x y:M6):Int:=cmpL x.l y.l
theorem M6.swo:SWO (ltOf M6.cf) where
  irrefl x:=by unfold ltOf M6.cf;rw [cmpL_refl];rfl
  trans x y z h1 h2:=by
    unfold ltOf M6.cf at *
    simp only [decide_eq_true_eq] at *
    exact cmpL_trans (by rw [x.h,y.h]) (by rw [y.h,z.h]) h1 h2
  ntrans x y z h1 h2:=by
    unfold ltOf M6.cf at *
    simp only [decide_eq_false_iff_not] at *
    exact cmpL_ntrans (by rw [x.h,y.h]) (by rw [y.h,z.h]) h1 h2
theorem M6.tot (x y:M6) (h1:ltOf M6.cf x y=false) (h2:ltOf M6.cf y x=false):x=y:=by
  unfold ltOf M6.cf at *
  simp only [decide_eq_false_iff_not] at *
  have:=cmpL_tot (by rw [x.h,y.h]) h1 h2
  cases x;cases y;cases this;rfl
theorem intsO_inv:∀ {l:List Value} {ns:List Int},intsO l=some ns→l=ns.map (.int .i64)
  | [],ns,h=>by cases h;rfl
  | v::l,ns,h=>by
    unfold intsO at h
    split at h
    · rename_i q;cases q
    · rename_i n r q
      cases q
      obtain ⟨z,h1,rfl⟩:=Option.map_eq_some_iff.1 h
      rw [intsO_inv h1];rfl
    · cases h
theorem intsO_of:∀ ns:List Int,intsO (ns.map (.int .i64))=some ns
  | []=>rfl
  | n::ns=>by simp only [List.map_cons,intsO,intsO_of ns,Option.map_some]
theorem chunk6_inv:∀ {ns:List Int} {xs:List (List Int)},chunk6 ns=some xs→ns=xs.flatten∧∀ x ∈ xs,x.length=6
  | [],xs,h=>by simp [chunk6] at h;subst h;simp
  | [_],xs,h=>by simp [chunk6] at h
  | [_,_],xs,h=>by simp [chunk6] at h
  | [_,_,_],xs,h=>by simp [chunk6] at h
  | [_,_,_,_],xs,h=>by simp [chunk6] at h
  | [_,_,_,_,_],xs,h=>by simp [chunk6] at h
  | a::b::c::d::e::f::r,xs,h=>by
    simp only [chunk6] at h
    obtain ⟨z,h1,rfl⟩:=Option.map_eq_some_iff.1 h
    obtain ⟨h2,h3⟩:=chunk6_inv h1
    refine ⟨by rw [h2];rfl,fun x hx=>?_⟩
    rcases List.mem_cons.1 hx with rfl|hx
    · rfl
    · exact h3 x hx
theorem six_inv {x:List Int} (h:x.length=6):∃ a b c d e f,x=[a,b,c,d,e,f]:=by
  match x,h with
  | [a,b,c,d,e,f],_=>exact ⟨a,b,c,d,e,f,rfl⟩
theorem chunk6_of:∀ {xs:List (List Int)},(∀ x ∈ xs,x.length=6)→chunk6 xs.flatten=some xs
  | [],_=>by simp [chunk6]
  | x::xs,h=>by
    obtain ⟨a,b,c,d,e,f,rfl⟩:=six_inv (h x (by simp))
    rw [List.flatten_cons]
    show chunk6 (a::b::c::d::e::f::xs.flatten)=_
    have ih:=chunk6_of (xs:=xs) fun y hy=>h y (List.mem_cons_of_mem _ hy)
    simp only [chunk6,ih,Option.map_some]
theorem x6c_flat:∀ xs:List (List Int),xs.flatMap x6c=xs.flatten.map (.int .i64)
  | []=>rfl
  | x::xs=>by rw [List.flatMap_cons,x6c_flat xs,List.flatten_cons,List.map_append];rfl
theorem x6s_of {xs:List (List Int)} (h:∀ x ∈ xs,x.length=6):x6s (xs.flatMap x6c)=some xs:=by
  unfold x6s;rw [x6c_flat,intsO_of];exact chunk6_of h
theorem x6s_inv {l:List Value} {xs:List (List Int)} (h:x6s l=some xs):l=xs.flatMap x6c∧∀ x ∈ xs,x.length=6:=by
  unfold x6s at h
  obtain ⟨ns,h1,h2⟩:=Option.bind_eq_some_iff.1 h
  obtain ⟨h3,h4⟩:=chunk6_inv h2
  exact ⟨by rw [intsO_inv h1,x6c_flat,h3],h4⟩
theorem ints_VL {ι:Inj}:∀ {ns:List Int} {l':List Value},VL ι (ns.map (.int .i64)) l'→l'=ns.map (.int .i64)
  | [],l',h=>h.nil_inv
  | n::ns,l',h=>by
    obtain ⟨u,r,rfl,k,h2⟩:=VL.inv h
    cases k
    rw [ints_VL h2];rfl
theorem m6_of:∀ {xs:List (List Int)},(∀ x ∈ xs,x.length=6)→∃ zs:List M6,xs=zs.map (·.l)
  | [],_=>⟨[],rfl⟩
  | x::xs,h=>by
    obtain ⟨zs,hz⟩:=m6_of (xs:=xs) fun y hy=>h y (List.mem_cons_of_mem _ hy)
    subst hz
    exact ⟨⟨x,h x (by simp)⟩::zs,rfl⟩
theorem x6s_rel {ι:Inj} {l:List Value} {xs:List (List Int)} {l':List Value} (h:x6s l=some xs) (hv:VL ι l l'):∃ zs:List M6,xs=zs.map (·.l)∧l'=zs.flatMap M6.enc:=by
  obtain ⟨h1,h2⟩:=x6s_inv h
  obtain ⟨zs,rfl⟩:=m6_of h2
  refine ⟨zs,rfl,?_⟩
  rw [h1,x6c_flat] at hv
  rw [ints_VL hv,← x6c_flat,List.flatMap_map];rfl
theorem m6_VL {ι:Inj}:∀ {zs:List M6},VL ι ((zs.map (·.l)).flatMap x6c) (zs.flatMap M6.enc)
  | []=>VL.nil ι
  | z::zs=>by
    simp only [List.map_cons,List.flatMap_cons]
    refine VL.append ?_ m6_VL
    show VL ι (x6c z.l) (x6c z.l)
    generalize z.l=l
    unfold x6c
    induction l with
    | nil=>exact VL.nil ι
    | cons a l ih=>exact VL.cons (.int _ _) ih
theorem flatK6_list (d:Array M6):(flatK M6.enc 6 d).toList=d.toList.flatMap M6.enc:=by
  have key:∀ (l:List M6) (t:Nat),t < l.length * 6→(l.flatMap M6.enc)[t]? = some ((l[t / 6]!).enc[t % 6]!):=by
    intro l
    induction l with
    | nil=>intro t ht;simp at ht
    | cons x l ih =>
      intro t ht
      rw [List.flatMap_cons]
      have hl:x.enc.length=6:=by show (x6c x.l).length=6;unfold x6c;rw [List.length_map];exact x.h
      by_cases h3:t < 6
      · rw [List.getElem?_append_left (by omega)]
        have e1:t / 6=0:=by omega
        have e2:t % 6=t:=by omega
        rw [e1,e2]
        simp only [List.getElem!_cons_zero]
        rw [List.getElem?_eq_getElem (by omega),getElem!_pos _ _ (by omega)]
      · rw [List.getElem?_append_right (by omega),hl,ih (t - 6) (by simp at ht;omega)]
        have e1:t / 6=(t - 6) / 6 + 1:=by omega
        have e2:(t - 6) % 6=t % 6:=by omega
        rw [e1,e2,List.getElem!_cons_succ]
  have hlen:(d.toList.flatMap M6.enc).length=d.size * 6:=by
    rw [List.length_flatMap]
    have:(d.toList.map fun a=>(M6.enc a).length)=List.replicate d.size 6:=by
      rw [List.eq_replicate_iff];exact ⟨by simp,fun x hx=>by obtain ⟨y,_,rfl⟩:=List.mem_map.1 hx;show (x6c y.l).length=6;unfold x6c;rw [List.length_map];exact y.h⟩
    rw [this];simp
  apply List.ext_getElem?
  intro t
  by_cases ht:t < d.size * 6
  · rw [key d.toList t (by simpa using ht)]
    have h1:=get_flatK M6.enc 6 d t ht
    rw [Array.getElem?_toList,Array.getElem?_eq_getElem (by rw [size_flatK];exact ht)]
    rw [getElem!_pos _ _ (by rw [size_flatK];exact ht)] at h1
    rw [h1]
    have h2:d[t / 6]! = d.toList[t / 6]!:=by
      rw [getElem!_pos d _ (by omega),getElem!_pos d.toList _ (by simp;omega)];rfl
    rw [h2]
  · rw [List.getElem?_eq_none (l:=(flatK M6.enc 6 d).toList) (by simp only [Array.length_toList,size_flatK];omega),List.getElem?_eq_none (by omega)]

theorem x6c_len:∀ {xs:List (List Int)},(∀ x ∈ xs,x.length=6)→(xs.flatMap x6c).length=xs.length * 6
  | [],_=>rfl
  | x::xs,h=>by
    rw [List.flatMap_cons,List.length_append,x6c_len fun y hy=>h y (by simp [hy])]
    unfold x6c
    rw [List.length_map,h x (by simp),List.length_cons];omega
theorem x6s_len {l:List Value} {xs:List (List Int)} (h:x6s l=some xs):l.length=xs.length * 6∧∀ x ∈ xs,x.length=6:=by
  obtain ⟨h1,h2⟩:=x6s_inv h
  exact ⟨by rw [h1,x6c_len h2],h2⟩
/-- What the model sorts is what is sorted here. -/
theorem sorted6_eq (zs:List M6):((zs.mergeSort fun x y=>!(ltOf M6.cf) y x)).map (·.l)=sortG (zs.map (·.l)):=by
  have hp:((zs.mergeSort fun x y=>!(ltOf M6.cf) y x).map (·.l)).Perm (sortG (zs.map (·.l))):=((List.mergeSort_perm zs _).map _).trans (sortG_perm _).symm
  have hlen:∀ y ∈ zs.map (·.l),y.length=6:=fun y hy=>by obtain ⟨z,_,rfl⟩:=List.mem_map.1 hy;exact z.h
  refine List.Perm.eq_of_pairwise (le:=fun a b=>¬ cmpL b a < 0) (fun a b ha hb q1 q2=>?_) ?_ (sortG_sorted hlen) hp
  · have e1:=hlen a ((sortG_perm _).mem_iff.1 (hp.mem_iff.1 ha))
    have e2:=hlen b ((sortG_perm _).mem_iff.1 hb)
    exact cmpL_tot (by omega) q2 q1
  · rw [List.pairwise_map]
    have:=List.pairwise_mergeSort (le:=fun x y:M6=>!(ltOf M6.cf) y x) (fun a b c h1 h2=>by
      have k1:ltOf M6.cf b a=false:=by simpa using h1
      have k2:ltOf M6.cf c b=false:=by simpa using h2
      have:=M6.swo.ntrans c b a k2 k1
      simp [this]) (fun a b=>by
      cases h:ltOf M6.cf b a with
      | false=>rfl
      | true =>
        have:ltOf M6.cf a b=false:=by
          cases h2:ltOf M6.cf a b with
          | false=>rfl
          | true=>have:=M6.swo.trans a b a h2 h;rw [M6.swo.irrefl] at this;cases this
        simp [this]) zs
    refine this.imp fun {a b} h=>?_
    unfold ltOf M6.cf at h
    simpa using h
theorem sortE_ok {k g : FuncId} (hfn : ∃ f, P.funcs[k]? = some f ∧ (f.name == "runtime.NumGoroutine") = false ∧ f.body.isNone = false)
    (hsort:∀ (blk off cap:Nat) (d:Array M6) (w:World),HoldsK M6.enc 6 w blk off d→blk < w.heap.size→d.size < 4611686018427387904 →
      Calls P k #[.slice (some ⟨blk,off,none⟩) d.size cap,.func (.func g) #[] #[]] w fun e w'=>e=.returned (.tuple #[])∧∃ n os,w'=sortWorldK M6.enc 6 w blk off n (d.toList.mergeSort fun x y=>!(ltOf M6.cf) y x).toArray os)
    (hnone:∀ (p:Option Addr) (cap:Nat) (fv:Value) (w:World),Calls P k #[.slice p 0 cap,fv] w fun e w'=>e=.returned (.tuple #[])∧w'=w):OracleOk P k (sortEO g):=by
  refine ⟨hfn,fun args h v h' hr=>?_,fun args h v h' hr ι w cargs hS hv=>?_⟩
  · unfold sortEO at hr
    split at hr
    · skip
      rename_i p n c f a b
      cases hc:Nat.beq f g && a.toList.isEmpty && b.toList.isEmpty with
      | false=>rw [hc] at hr;cases hr
      | true =>
        rw [hc] at hr
        simp only [cond_true] at hr
        split at hr
        · cases hr;exact Ext.refl _
        · split at hr
          · split at hr
            · rename_i hg
              split at hr
              · rename_i hc
                split at hr
                · cases hr;exact Ext.set _ hc.2.1 (by unfold owned;rw [hg];trivial)
                · cases hr
              · cases hr
            · cases hr
          · cases hr
    · cases hr
  · refine callsIn_wide.2 ?_
    unfold sortEO at hr
    split at hr
    · rename_i p n c f a b
      obtain ⟨u,r,rfl,hu,hr2⟩:=hv.inv
      obtain ⟨u2,r2,rfl,hu2,hr3⟩:=hr2.inv
      obtain rfl:=hr3.nil_inv
      cases hc0:Nat.beq f g && a.toList.isEmpty && b.toList.isEmpty with
      | false=>rw [hc0] at hr;cases hr
      | true =>
        rw [hc0] at hr
        simp only [cond_true] at hr
        simp only [Bool.and_eq_true] at hc0
        obtain ⟨⟨hf,ha⟩,hb⟩:=hc0
        have hf:=Nat.eq_of_beq_eq_true hf
        subst hf
        have hu2':u2=.func (.func f) #[] #[]:=by
          cases hu2 with
          | fn h1 h2 h3 h4 =>
            rename_i l1 l1' l2 l2'
            have e1:l1=[]:=by simpa using ha
            have e2:l2=[]:=by simpa using hb
            subst e1;subst e2
            have e3:l1'=[]:=List.length_eq_zero_iff.1 h1.symm
            have e4:l2'=[]:=List.length_eq_zero_iff.1 h3.symm
            subst e3;subst e4;rfl
        subst hu2'
        split at hr
        · rename_i hn
          subst hn
          cases hr
          have:∃ p' c',u=.slice p' 0 c':=by
            cases hu
            · exact ⟨_,_,rfl⟩
            · exact ⟨_,_,rfl⟩
            · exact ⟨_,_,rfl⟩
          obtain ⟨p',c',rfl⟩:=this
          refine (hnone p' c' _ w).mono ?_
          rintro e w' ⟨rfl,rfl⟩
          exact ⟨_,ι,rfl,V.undef,Rel.refl hS⟩
        · rename_i hn
          split at hr
          · rename_i b o
            split at hr
            · rename_i cs z hg
              split at hr
              · rename_i hc
                obtain ⟨rfl,hprot,hle,hnb⟩:=hc
                split at hr
                · rename_i xs hxs
                  cases hr
                  obtain ⟨hxl,hx6⟩:=x6s_len hxs
                  have hlen:xs.length=n:=by simp at hxl;omega
                  have hex:∃ i c',ι b=some i∧u=.slice (some ⟨i.blk,o,none⟩) n c':=by
                    cases hu with
                    | sl hb _ _=>exact ⟨_,_,hb,rfl⟩
                    | sle=>exact absurd rfl hn
                  obtain ⟨i,c',hb,rfl⟩:=hex
                  obtain ⟨C,T,fz,h1,h2,h3,h4⟩:=hS.cells hb hg
                  obtain ⟨hfz,hz⟩:=h4 6 rfl
                  have hvp:VP ι cs C.toList:=h3
                  have hd:=hS.dom b i hb
                  have hsub:=hvp.sub o (n * 6) hle
                  obtain ⟨zs,rfl,hcl⟩:=x6s_rel hxs hsub
                  have hzl:zs.length=n:=by simpa using hlen
                  have hFl:(flatK M6.enc 6 zs.toArray).toList=(C.toList.drop o).take (n * 6):=by rw [flatK6_list,hcl]
                  have hFs:(flatK M6.enc 6 zs.toArray).size=n * 6:=by rw [size_flatK];simp [hzl]
                  have hCle:o + n * 6≤C.size:=by have:=hvp.1;simp at this;omega
                  have hH:HoldsK M6.enc 6 w i.blk o zs.toArray:=by
                    intro j hj
                    rw [hFs] at hj
                    have e1:(flatK M6.enc 6 zs.toArray)[j]! = C[o + j]!:=by
                      have e2:(flatK M6.enc 6 zs.toArray).toList[j]? = ((C.toList.drop o).take (n * 6))[j]?:=by rw [hFl]
                      rw [Array.getElem?_toList,List.getElem?_take,if_pos hj,List.getElem?_drop,Array.getElem?_toList,Array.getElem?_eq_getElem (by omega),Array.getElem?_eq_getElem (by omega)] at e2
                      rw [getElem!_pos _ _ (by omega),getElem!_pos _ _ (by omega)]
                      exact Option.some.inj e2
                    refine ⟨?_,?_⟩
                    · unfold World.cell?
                      simp only [h1,Option.isSome_none,Bool.false_eq_true,if_false]
                      rw [Array.getElem?_eq_getElem (by omega)]
                      simp only [id,e1]
                      rw [getElem!_pos _ _ (by omega)]
                    · obtain ⟨lo,hi⟩:=fz
                      unfold World.frozen?
                      simp only [h1]
                      exact hfz _ (by omega)
                  have hds:zs.toArray.size=n:=by simp [hzl]
                  have hcall:=hsort i.blk o c' zs.toArray w hH hd.2 (by rw [hds];exact hnb)
                  rw [hds] at hcall
                  refine hcall.mono ?_
                  rintro e w' ⟨rfl,m,os,rfl⟩
                  have hd':=sorted6_eq zs
                  generalize hsrt:(zs.mergeSort fun x y=>!(ltOf M6.cf) y x)=srt at hd'
                  have hd's:srt.length=n:=by rw [← hsrt,List.length_mergeSort,hzl]
                  have hF':(flatK M6.enc 6 srt.toArray).size=n * 6:=by rw [size_flatK];simp [hd's]
                  have hheap:(putRowK M6.enc 6 (Sort.ahead w m) i.blk o srt.toArray).heap=w.heap.setIfInBounds i.blk (.cells (putCells id o (flatK M6.enc 6 srt.toArray) C) T fz):=by
                    unfold putRowK putRow mapBlock Sort.ahead
                    simp only
                    apply Array.ext_getElem?
                    intro k
                    rw [Array.getElem?_modify,Array.getElem?_setIfInBounds]
                    by_cases hk:i.blk=k
                    · subst hk
                      rw [if_pos rfl,if_pos rfl,h1,if_pos hd.2];rfl
                    · rw [if_neg hk,if_neg hk]
                  have r1:Rel P ι h w ι (h.set b (.cells (splice cs o ((sortG (zs.map (·.l))).flatMap x6c)) (some 6))) (putRowK M6.enc 6 (Sort.ahead w m) i.blk o srt.toArray):=by
                    refine Rel.set hS hb (by unfold owned;rw [hg];trivial) hprot ⟨_,T,fz,rfl,?_,?_,fun z' hz'=>⟨by unfold putCells;rw [Array.size_mapIdx];exact hfz,by cases hz';exact hz⟩⟩ hheap rfl rfl rfl (Nat.le_add_right _ _)
                    · unfold putCells;rw [Array.size_mapIdx];exact h2
                    · rw [putCellsV_toList _ _ _ (by rw [hF'];exact hCle),flatK6_list]
                      have hv2:=m6_VL (ι:=ι) (zs:=srt)
                      rw [hd'] at hv2
                      refine VP.splice hvp hv2 o ?_
                      have hl6:((sortG (zs.map (·.l))).flatMap x6c).length=n * 6:=by
                        rw [hv2.1,← flatK6_list,Array.length_toList,hF']
                      rw [hl6];exact hle
                  exact ⟨_,ι,rfl,V.undef,Rel.trans hS r1 (Rel.grow r1.sim os rfl rfl rfl rfl)⟩
                · cases hr
              · cases hr
            · cases hr
          · cases hr
    · cases hr

theorem sim_none (W:World) (hpin:noPin P=true):Sim P (fun _=>none) Heap.empty W:=sim_empty W fun b hb=>by rw [noPin_no hpin b] at hb;cases hb
theorem world_grown {w w':World} {h:Heap} (fr:Fr (fun _=>none) h w w'):∃ q os',w'=grow (w.drewN q) os':=by
  refine ⟨w'.drawn - w.drawn,w'.heap.extract w.heap.size w'.heap.size,?_⟩
  have hh:w'.heap=w.heap++w'.heap.extract w.heap.size w'.heap.size:=by
    apply Array.ext_getElem?
    intro k
    by_cases hk:k < w.heap.size
    · rw [Array.getElem?_append_left hk]
      exact fr.block k hk fun b i e=>by cases e
    · rw [Array.getElem?_append_right (by omega),Array.getElem?_extract]
      have:=fr.size
      by_cases hk2:k < w'.heap.size
      · rw [if_pos (by omega)];congr 1;omega
      · rw [if_neg (by omega),Array.getElem?_eq_none (by omega)]
  have hd:=fr.drawn
  have ho:=fr.os
  have ht:=fr.tape
  have hp:=fr.output
  cases w;cases w'
  simp only [grow,World.drewN] at *
  subst ho;subst ht;subst hp
  congr 1
  omega
theorem x6c_V (ι:Inj) (l:List Int):VL ι (x6c l) (x6c l):=by
  unfold x6c
  induction l with
  | nil=>exact VL.nil ι
  | cons a l ih=>exact VL.cons (.int _ _) ih
theorem cmp_lays {prog:AProg} (hp:ProgOk P prog) (hpin:noPin P=true) {g:FuncId} (hrun:∀ x y:M6,∃ n h',callV prog n (.func g) [.agg x.enc.toArray,.agg y.enc.toArray] Heap.empty=some (.int .i64 (M6.cf x y),h')) (blk off size:Nat) (w:World):CmpLays P g #[] M6.enc 6 M6.cf blk off size w:=by
  intro m os dk _ x y
  obtain ⟨n,h',hr⟩:=hrun x y
  have hv:VL (fun _=>none) [.agg x.enc.toArray,.agg y.enc.toArray] [.agg x.enc.toArray,.agg y.enc.toArray] :=
    VL.cons (.agg rfl (x6c_V _ _).2) (VL.cons (.agg rfl (x6c_V _ _).2) (VL.nil _))
  refine (calls_of_run hp hr (sim_none _ hpin) hv).mono ?_
  rintro e w' ⟨v',ι',rfl,hvv,hrel⟩
  refine ⟨?_,world_grown hrel.fr⟩
  cases hvv;rfl
end Go.AM

