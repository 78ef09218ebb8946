/- Pointers in lists, and what they point to. -/
import Derived.Test.YtdkgalkdcmajjaaGreatAmSepC
namespace Go.AMS
open Go.AM hiding Kt At WP WL Runs RunsY
open Go.AM.G
set_option linter.unusedVariables false
set_option linter.unusedSectionVars false
set_option linter.unusedSimpArgs false
def kPtr : Kind Nat := ⟨1, by decide, fun _ cs b => cs = [.pointer (some ⟨b, 0, none⟩)], fun _ h => h, fun h => by rw [h]; rfl, fun h => by rw [h]; rfl⟩
instance esz_ptr : Esz kPtr 1 := ⟨rfl⟩
instance ofv_ptr {b : Nat} : OfV kPtr (.pointer (some ⟨b, 0, none⟩)) b True := ⟨fun _ _ => rfl⟩
instance kof_ptr {b : Nat} {cs : List Value} : KOf (.pointer (some ⟨b, 0, none⟩) :: cs) kPtr := ⟨trivial⟩
section
variable {prog : AProg} {rr : Option Nat} {e : Env} {Q : Pst} {k : List Kt} {x : Operand} {n : Nat} {Γ : List HP} {d bar : Bool} {r : List AI} {t i : Nat} {p : Option Addr}
instance v_elemP {lp : List Nat} [s : LkS Γ p kPtr lp] : Step (AtV n prog rr d bar (some t) (.load1 x) [.pointer (elt p i 1 0)] r k e Γ Q) (Sx fun (hi : i < lp.length) => AtS n prog rr (.o d r :: k) .norm ((t, .pointer (some ⟨lp[i], 0, none⟩)) :: e) Γ Q) :=
  ⟨fun g hE => elt_load s esz_ptr fldI rfl g.c hE (fun h v hs q => by cases q; exact g.a h hs)⟩
end
section
variable {α β : Type} {f : α → HP} {g : α → β → HP} {l : List α} {Γ F A B : List HP} {P : HP}
/-- All of many. -/
def alls (f : α → HP) (l : List α) : HP := ⟨fun h s => SatS (l.map f) h s, fun hs => hs.inb, fun hs st hg => hs.loc st hg⟩
theorem alls_open : Ent (alls f l :: Γ) (l.map f ++ Γ) := fun h S ⟨s, s', h1, h2, h3, h4⟩ => ⟨_, SatS.join h1 h2 h3, fun b hb => (h4 b).2 hb⟩
theorem alls_close : Ent (l.map f ++ Γ) (alls f l :: Γ) := fun h S hs => by
  obtain ⟨s, s', h1, h2, h3, h4⟩ := hs.app
  exact ⟨S, ⟨s, s', h1, h2, h3, h4⟩, fun b hb => hb⟩
theorem ent_mid : Ent (A ++ P :: B) (P :: (A ++ B)) := by
  induction A with
  | nil => exact .refl _
  | cons Q A ih => exact (Ent.cons ih).trans .swap
theorem ent_back : Ent (P :: (A ++ B)) (A ++ P :: B) := by
  induction A with
  | nil => exact .refl _
  | cons Q A ih => exact Ent.swap.trans (.cons ih)
theorem alls_take {i : Nat} (hi : i < l.length) : Ent (alls f l :: Γ) (f l[i] :: alls f (l.eraseIdx i) :: Γ) := by
  refine alls_open.trans ?_
  have e : l.map f = (l.take i).map f ++ f l[i] :: (l.drop (i + 1)).map f := by
    rw [← List.map_cons, ← List.map_append, ← List.drop_eq_getElem_cons hi, List.take_append_drop]
  have e2 : (l.eraseIdx i).map f = (l.take i).map f ++ (l.drop (i + 1)).map f := by rw [List.eraseIdx_eq_take_drop_succ, List.map_append]
  rw [e, List.append_assoc, List.cons_append]
  refine ent_mid.trans (.cons ?_)
  rw [← List.append_assoc, ← e2]
  exact alls_close
theorem alls_put {i : Nat} {a : α} (hi : i < l.length) : Ent (f a :: alls f (l.eraseIdx i) :: Γ) (alls f (l.set i a) :: Γ) := by
  refine (Ent.cons alls_open).trans ?_
  have e : (l.set i a).map f = (l.take i).map f ++ f a :: (l.drop (i + 1)).map f := by
    rw [List.set_eq_take_append_cons_drop, if_pos hi, List.map_append, List.map_cons]
  have e2 : (l.eraseIdx i).map f = (l.take i).map f ++ (l.drop (i + 1)).map f := by rw [List.eraseIdx_eq_take_drop_succ, List.map_append]
  rw [e2, List.append_assoc]
  refine ent_back.trans ?_
  have : (l.take i).map f ++ f a :: ((l.drop (i + 1)).map f ++ Γ) = (l.set i a).map f ++ Γ := by rw [e]; simp
  rw [this]
  exact alls_close
theorem sat_get : ∀ {l : List α} {h : Heap} {S : Nat → Prop} {i : Nat} (hi : i < l.length), SatS (l.map f) h S → ∃ s, (f l[i]).has h s ∧ ∀ b, s b → S b
  | a :: l, h, S, 0, _, ⟨s, s', h1, _, _, h4⟩ => ⟨s, h1, fun b hb => (h4 b).2 (.inl hb)⟩
  | a :: l, h, S, i + 1, hi, ⟨s, s', h1, h2, _, h4⟩ => by
    obtain ⟨t, k1, k2⟩ := sat_get (l := l) (i := i) (by simpa using hi) h2
    exact ⟨t, by simpa using k1, fun b hb => (h4 b).2 (.inr (k2 b hb))⟩
/-- One of them, lent. -/
theorem alls_ro {i : Nat} (hi : i < l.length) : Ent (ro (alls f l) :: Γ) (ro (f l[i]) :: ro (alls f l) :: Γ) := Ent.dup.trans (.one fun h s ⟨⟨s', h1, h2⟩, h3⟩ => by
  obtain ⟨t, k1, k2⟩ := sat_get hi h1
  exact ⟨s, ⟨⟨t, k1, fun b hb => h2 b (k2 b hb)⟩, h3⟩, fun b hb => hb⟩)
theorem alls_lend {i : Nat} {R : List HP} (hi : i < l.length) : Lend1 (alls f l :: Γ) (ro (f l[i])) := fun h S ⟨s, s', h1, _⟩ hf => by
  obtain ⟨t, k1, k2⟩ := sat_get hi h1
  exact ⟨⟨t, k1, fun b hb => hf b ((f l[i]).inb k1 b hb)⟩, rfl⟩
instance low_alls [h : ∀ a, Low (f a)] : Low (alls f l) := ⟨fun {hh s} m hs => by
  have : LowL (l.map f) := ⟨fun P hP => by obtain ⟨a, _, rfl⟩ := List.mem_map.1 hP; exact h a⟩
  exact this.sat m hs⟩
/-- Things behind pointers, one each. -/
def each (g : α → β → HP) (xs : List α) (ys : List β) : HP := alls (fun x => g x.1 x.2) (xs.zip ys)
variable {xs : List α} {ys : List β}
def eachBut (g : α → β → HP) (xs : List α) (ys : List β) (i : Nat) : HP := alls (fun x => g x.1 x.2) ((xs.zip ys).eraseIdx i)
theorem each_take {i : Nat} (h1 : i < xs.length) (h2 : i < ys.length) : Ent (each g xs ys :: Γ) (g xs[i] ys[i] :: eachBut g xs ys i :: Γ) := by
  have := alls_take (f := fun (x : α × β) => g x.1 x.2) (l := xs.zip ys) (Γ := Γ) (i := i) (by simp; omega)
  rw [List.getElem_zip] at this; exact this
theorem each_put {i : Nat} {b : β} (h1 : i < xs.length) (h2 : i < ys.length) : Ent (g xs[i] b :: eachBut g xs ys i :: Γ) (each g xs (ys.set i b) :: Γ) := by
  have := alls_put (f := fun (x : α × β) => g x.1 x.2) (l := xs.zip ys) (Γ := Γ) (i := i) (a := (xs[i], b)) (by simp; omega)
  have e : (xs.zip ys).set i (xs[i], b) = xs.zip (ys.set i b) := by
    apply List.ext_getElem
    · simp
    · intro j q1 q2
      rw [List.getElem_set]
      simp only [List.getElem_zip, List.getElem_set]
      split
      · rename_i e; subst e; rfl
      · rfl
  rw [e] at this; exact this
theorem each_same {i : Nat} {b : β} (h1 : i < xs.length) (h2 : i < ys.length) (h : ys[i] = b) : Ent (g xs[i] b :: eachBut g xs ys i :: Γ) (each g xs ys :: Γ) := by
  have := each_put (g := g) (Γ := Γ) (b := b) h1 h2
  rwa [show ys.set i b = ys by rw [← h]; exact List.set_getElem_self h2] at this
theorem each_get {i : Nat} {b : β} (h1 : i < xs.length) (h2 : i < ys.length) (h : ys[i] = b) : Ent (each g xs ys :: Γ) (g xs[i] b :: eachBut g xs ys i :: Γ) := by
  subst h; exact each_take h1 h2
theorem each_ro {i : Nat} (h1 : i < xs.length) (h2 : i < ys.length) : Ent (ro (each g xs ys) :: Γ) (ro (g xs[i] ys[i]) :: ro (each g xs ys) :: Γ) := by
  have := alls_ro (f := fun (x : α × β) => g x.1 x.2) (l := xs.zip ys) (Γ := Γ) (i := i) (by simp; omega)
  rw [List.getElem_zip] at this; exact this
theorem each_snoc {a : α} {b : β} (h : xs.length = ys.length) : Ent (g a b :: each g xs ys :: Γ) (each g (xs ++ [a]) (ys ++ [b]) :: Γ) := by
  unfold each
  refine (Ent.cons alls_open).trans ?_
  refine ent_back.trans ?_
  have : (xs.zip ys).map (fun x => g x.1 x.2) ++ g a b :: Γ = ((xs ++ [a]).zip (ys ++ [b])).map (fun x => g x.1 x.2) ++ Γ := by
    rw [List.zip_append h]; simp
  rw [this]
  exact alls_close
theorem each_nil : Ent Γ (each g [] [] :: Γ) := fun h S hs => ⟨S, ⟨fun _ => False, S, fun b q => q, hs, fun _ q => q.elim, fun b => by simp⟩, fun b hb => hb⟩
instance low_each [h : ∀ a b, Low (g a b)] : Low (each g xs ys) := low_alls
end
end Go.AMS
