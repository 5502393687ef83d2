/- Plain laws: hauls in their kinds. -/
import Derived.Test.YtkblhnedillknaaY41
import Derived.Test.YtkblhnedillknaaZ1
set_option linter.unusedVariables false
set_option linter.unusedSimpArgs false
namespace Go.Proofs.Ytkblhnedillknaa.Tt
open Go.Ev Go

theorem kind_five (j : Nat) : kindAt [SK.int .i8, SK.int .i8, SK.int .i8, SK.int .i8, SK.int .i8] j = .int .i8 := by
  unfold kindAt
  have h : j % 5 = 0 ∨ j % 5 = 1 ∨ j % 5 = 2 ∨ j % 5 = 3 ∨ j % 5 = 4 := by omega
  show List.getD _ (j % 5) _ = _
  rcases h with h | h | h | h | h <;> rw [h] <;> rfl

theorem haulsR_of {T : Tab} {e : TypeId} {l : List Int} {n : Nat} (hl : l.length = n * (T.at e).size) (hn : n ≤ 1048576) (hr : ∀ j, j < l.length → inKind (kindAt (T.at e).ks j) (rd l j)) (hs : (T.at e).size = 5) (hk : (T.at e).ks = [.int .i8, .int .i8, .int .i8, .int .i8, .int .i8]) : HaulsR l n := by
  rw [hs] at hl
  rw [hk] at hr
  exact ⟨hl, hn, fun j hj => in8 (by have := hr j hj; rw [kind_five] at this; exact this)⟩

end Go.Proofs.Ytkblhnedillknaa.Tt
