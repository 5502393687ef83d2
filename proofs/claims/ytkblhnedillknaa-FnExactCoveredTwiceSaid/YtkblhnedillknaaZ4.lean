/- Plain laws: rows of cells in their kinds. -/
import Derived.Test.YtkblhnedillknaaY7
import Derived.Test.YtkblhnedillknaaZ1
set_option linter.unusedVariables false
set_option linter.unusedSimpArgs false
namespace Go.Proofs.Ytkblhnedillknaa.Tt
open Go.Ev Go

theorem cellsR_of {T : Tab} {e : TypeId} {l : List Int} {n : Nat} (hl : l.length = n * (T.at e).size) (hn : n ≤ 1048576) (hr : ∀ j, j < l.length → inKind (kindAt (T.at e).ks j) (rd l j)) (hs : (T.at e).size = 2) (hk : (T.at e).ks = [.int .i8, .int .i8]) : CellsR l n := by
  rw [hs] at hl
  rw [hk] at hr
  exact ⟨hl, hn, fun j hj => in8 (by have := hr j hj; rw [kind_two] at this; exact this)⟩

end Go.Proofs.Ytkblhnedillknaa.Tt
