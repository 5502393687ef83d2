/- Plain laws: a haul in its kinds. -/
import Derived.Test.YtmpcninebooaiaaY40
import Derived.Test.YtmpcninebooaiaaZ1
set_option linter.unusedVariables false
set_option linter.unusedSimpArgs false
namespace Go.Proofs.Ytmpcninebooaiaa.Tt
open Go.Ev Go

theorem haul_of {T : Tab} {t : TypeId} {a : List Int} (ha : InR T t a) (hs : (T.at t).size = 5) (hk : (T.at t).ks = [.int .i8, .int .i8, .int .i8, .int .i8, .int .i8]) : ∃ x y z u n, a = [x, y, z, u, n] ∧ (-128 ≤ x ∧ x < 128) ∧ (-128 ≤ y ∧ y < 128) ∧ (-128 ≤ z ∧ z < 128) ∧ (-128 ≤ u ∧ u < 128) ∧ (-128 ≤ n ∧ n < 128) := by
  obtain ⟨h1, h2⟩ := ha
  rw [hs] at h1 h2
  rw [hk] at h2
  match a, h1 with
  | [x, y, z, u, n], _ => exact ⟨x, y, z, u, n, rfl, in8 (h2 0 (by omega)), in8 (h2 1 (by omega)), in8 (h2 2 (by omega)), in8 (h2 3 (by omega)), in8 (h2 4 (by omega))⟩

end Go.Proofs.Ytmpcninebooaiaa.Tt
