/- Plain laws: cells that are open. -/
import Derived.Test.YtkblhnedillknaaY4
import Derived.Test.YtkblhnedillknaaY5
set_option linter.unusedVariables false
set_option linter.unusedSimpArgs false
namespace Go.Proofs.Ytkblhnedillknaa.Tt
open Go.Ev Go

theorem spec_open (k : Nat) {a : List Int} (ha : LawnS a) {x y : Int} (hx : -128 ≤ x ∧ x < 128) (hy : -128 ≤ y ∧ y < 128) : spec_l04Open k a [x, y] = some (openB a x y) := by
  unfold spec_l04Open openB
  have e : spec_l01Is k a [rd [x, y] 0, rd [x, y] 1] = some (hasB a x y) := spec_is k ha.toLawnR hx hy
  rw [e]
  cases h : hasB a x y with
  | false => rfl
  | true =>
    simp only [Option.bind_some, cond_true, Bool.true_and]
    unfold spec_l01Open
    have e2 : spec_l01At k a [rd [rd [x, y] 0, rd [x, y] 1] 0, rd [rd [x, y] 0, rd [x, y] 1] 1] = some (kindV a x y) := spec_at k ha h
    rw [e2]
    simp only [Option.bind_some]
    cases (kindV a x y == 0) <;> rfl

theorem impl_open (k : Nat) {a : List Int} (ha : LawnS a) (x y : Int) : impl_Lawn_open k a [x, y] = some (openB a x y) := by
  unfold impl_Lawn_open openB
  have e : ∀ v, impl_Lawn_is k a [rd [x, y] 0, rd [x, y] 1] v = some (hasB a x y && (kindV a x y == v)) := fun v => impl_is k ha x y v
  rw [e, e]
  cases hasB a x y <;> cases (kindV a x y == 0) <;> rfl

end Go.Proofs.Ytkblhnedillknaa.Tt
