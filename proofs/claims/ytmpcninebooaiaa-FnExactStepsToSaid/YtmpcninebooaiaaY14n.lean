/- Plain laws: the neighbours of a cell. -/
import Derived.Test.YtmpcninebooaiaaY3
set_option linter.unusedVariables false
set_option linter.unusedSimpArgs false
namespace Go.Proofs.Ytmpcninebooaiaa.Tt
open Go.Ev Go

theorem wrap8_range (n : Int) : -128 ≤ IntKind.wrap .i8 n ∧ IntKind.wrap .i8 n < 128 := by
  simp only [IntKind.wrap, IntKind.bits, IntKind.signed]
  simp
  omega

def nbrs (x y : Int) : List (Int × Int) := [(x, IntKind.wrap .i8 (y - 1)), (IntKind.wrap .i8 (x - 1), y), (IntKind.wrap .i8 (x + 1), y), (x, IntKind.wrap .i8 (y + 1))]

theorem nbrs_range {x y : Int} (hx : -128 ≤ x ∧ x < 128) (hy : -128 ≤ y ∧ y < 128) : ∀ p ∈ nbrs x y, (-128 ≤ p.1 ∧ p.1 < 128) ∧ (-128 ≤ p.2 ∧ p.2 < 128) := by
  intro p hp
  have w1 := wrap8_range (y - 1)
  have w2 := wrap8_range (x - 1)
  have w3 := wrap8_range (x + 1)
  have w4 := wrap8_range (y + 1)
  simp only [nbrs, List.mem_cons, List.not_mem_nil, or_false] at hp
  rcases hp with rfl | rfl | rfl | rfl
  · exact ⟨hx, w1⟩
  · exact ⟨w2, hy⟩
  · exact ⟨w3, hy⟩
  · exact ⟨hx, w4⟩

end Go.Proofs.Ytmpcninebooaiaa.Tt
