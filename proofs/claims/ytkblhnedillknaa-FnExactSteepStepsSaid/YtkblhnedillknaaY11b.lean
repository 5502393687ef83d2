/- Plain laws: codes of levels in the reference. -/
import Derived.Test.YtkblhnedillknaaY11
set_option linter.unusedVariables false
set_option linter.unusedSimpArgs false
namespace Go.Proofs.Ytkblhnedillknaa.Tt
open Go.Ev Go

theorem spec_asked (k : Nat) {a g : List Int} (ha : LawnR a) (hg : LevR g) (hk : 10 < k) (b : Bool) : spec_l06Asked k a g b = some (cond (lawnB a && levB a g) (cond b 0 2) 1) := by
  unfold spec_l06Asked
  rw [spec_lev k ha hg hk]
  simp only [Option.bind_some]
  cases lawnB a <;> cases levB a g <;> cases b <;> rfl

end Go.Proofs.Ytkblhnedillknaa.Tt
