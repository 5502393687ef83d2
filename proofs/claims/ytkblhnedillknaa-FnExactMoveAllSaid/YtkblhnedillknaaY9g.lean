/- Plain laws: grass, as the specification tells it. -/
import Derived.Test.YtkblhnedillknaaY9
set_option linter.unusedVariables false
set_option linter.unusedSimpArgs false
namespace Go.Proofs.Ytkblhnedillknaa.Tt
open Go.Ev Go

theorem spec_grass (k : Nat) {a : List Int} (ha : LawnS a) {x y : Int} (hx : -128 ≤ x ∧ x < 128) (hy : -128 ≤ y ∧ y < 128) : spec_l01Grass k a [x, y] = some (grassB a x y) := by
  unfold spec_l01Grass grassB
  have e : spec_l01Is k a [rd [x, y] 0, rd [x, y] 1] = some (hasB a x y) := spec_is k ha.toLawnR hx hy
  rw [e]
  cases h : hasB a x y with
  | false => rfl
  | true =>
    have e2 : spec_l01At k a [rd [x, y] 0, rd [x, y] 1] = some (kindV a x y) := spec_at k ha h
    simp only [Option.bind_some, cond_true, e2, Bool.true_and]

end Go.Proofs.Ytkblhnedillknaa.Tt
