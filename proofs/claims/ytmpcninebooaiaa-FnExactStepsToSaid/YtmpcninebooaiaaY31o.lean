/- Plain laws: open cells in the program. -/
import Derived.Test.YtmpcninebooaiaaY9
set_option linter.unusedVariables false
set_option linter.unusedSimpArgs false
namespace Go.Proofs.Ytmpcninebooaiaa.Tt
open Go.Ev Go

def openP (a : List Int) (p : Int × Int) : Bool := openB a p.1 p.2

theorem impl_openP (k : Nat) {a : List Int} (ha : LawnS a) (p : Int × Int) : impl_Lawn_open k a [p.1, p.2] = some (openP a p) := by
  unfold impl_Lawn_open openP openB
  have e : ∀ v, impl_Lawn_is k a [rd [p.1, p.2] 0, rd [p.1, p.2] 1] v = some (hasB a p.1 p.2 && (kindV a p.1 p.2 == v)) := fun v => impl_is k ha p.1 p.2 v
  rw [e, e]
  cases hasB a p.1 p.2 <;> cases (kindV a p.1 p.2 == 0) <;> rfl

end Go.Proofs.Ytmpcninebooaiaa.Tt
