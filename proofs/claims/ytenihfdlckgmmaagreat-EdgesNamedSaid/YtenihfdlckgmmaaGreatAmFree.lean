/- A part of the abstract machine, or of what is proved of the program by it. -/
import Derived.Test.YtenihfdlckgmmaaGreatAmDef
namespace Go.AM
set_option linter.unusedSimpArgs false
set_option linter.unusedVariables false

/-- An operation that touches no heap. -/
def HeapFree (op:AOp) (e:Env):Prop:=∃ p:Option Value,∀ h,aop op e h=p.map (·,h)

/-- Which ones do? -/
def touches:AOp→Bool
  | .alloc _|.box _|.convSB _|.convBS _|.slcV ..|.appS ..|.bslice ..|.load1 _|.loadN ..|.store ..|.mkmap|.mkslice ..|.lookup ..|.mapupd ..|.mapent ..|.entst ..|.len ..|.append ..|.copy ..|.clear ..|.call ..=>true
  | _=>false

theorem heapFree {op:AOp} {e:Env} (ht:touches op=false):HeapFree op e:=by
  refine ⟨(aop op e Heap.empty).map (·.1),fun h=>?_⟩
  cases op <;> first|(exact Bool.noConfusion ht)|skip
  case mv x=>simp only [aop];cases ev e x <;> rfl
  case pick c a b => simp only [aop]; repeat' split
                     all_goals first|rfl|(cases ev e a <;> rfl)|(cases ev e b <;> rfl)
  case build z ps=>simp only [aop];cases evps e ps with
    | none=>rfl
    | some vs=>simp only [Option.bind_some];cases fillA z vs <;> rfl
  case nilc x => simp only [aop]; repeat' split
                 all_goals rfl
  case bin op x y => simp only [aop]; repeat' split
                     all_goals first|rfl|(rename_i a b _ _;cases binV op a b <;> rfl)
  case eqv k neg x y => simp only [aop]; repeat' split
                        all_goals first|rfl|(rename_i a b _ _;cases eq1 k a b <;> rfl)
  case eqA ks neg x y => simp only [aop]; repeat' split
                         all_goals first|rfl|(rename_i a b _ _;cases eqCells ks a.toList b.toList <;> rfl)
  case un op x => simp only [aop]; repeat' split
                  all_goals first|rfl|(rename_i a _;cases unV op a <;> rfl)
  case conv k x => simp only [aop]; repeat' split
                   all_goals rfl
  case convS x => simp only [aop]; repeat' split
                  all_goals rfl
  case mkf fn a b=>simp only [aop];cases evs e a with
    | none=>rfl
    | some x=>simp only [Option.bind_some];cases evs e b <;> rfl
  case slc esz x lo hi => simp only [aop]; repeat' split
                          all_goals rfl
  case slcS x lo hi => simp only [aop]; repeat' split
                       all_goals rfl
  case faddr off x => simp only [aop]; repeat' split
                      all_goals rfl
  case field1 off x => simp only [aop]; repeat' split
                       all_goals first|rfl|(rename_i cs _;cases cs.toList[off]? <;> rfl)
  case fieldN off n x => simp only [aop]; repeat' split
                         all_goals rfl
  case iaddr esz x i => simp only [aop]; repeat' split
                        all_goals rfl
  case iaddrA len esz x i => simp only [aop]; repeat' split
                             all_goals rfl
  case idxS x i => simp only [aop]; repeat' split
                   all_goals first|rfl|(rename_i s k i _ _ _;cases s[i.toNat]? <;> rfl)
  case idxA1 len x i => simp only [aop]; repeat' split
                        all_goals first|rfl|(rename_i cs k i _ _ _;cases cs.toList[i.toNat]? <;> rfl)
  case idxAN len esz x i => simp only [aop]; repeat' split
                            all_goals rfl
  case extract i x => simp only [aop]; repeat' split
                      all_goals first|rfl|(rename_i vs _;cases vs.toList[i]? <;> rfl)
  case max l=>simp only [aop];cases evs e l with
    | none=>rfl
    | some vs=>simp only [Option.bind_some];cases minmax true vs <;> rfl
  case min l=>simp only [aop];cases evs e l with
    | none=>rfl
    | some vs=>simp only [Option.bind_some];cases minmax false vs <;> rfl

end Go.AM

