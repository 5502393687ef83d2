/- Plain laws: levels in their kinds. -/
import Derived.Test.YtkblhnedillknaaY11
import Derived.Test.YtkblhnedillknaaZ1
set_option linter.unusedVariables false
set_option linter.unusedSimpArgs false
namespace Go.Proofs.Ytkblhnedillknaa.Tt
open Go.Ev Go

theorem levR_of {T : Tab} {t : TypeId} {g : List Int} (hg : InR T t g) (hs : (T.at t).size = 100) (hk : (T.at t).ks = List.replicate 100 (.int .i8)) : LevR g := by
  obtain ⟨h1, h2⟩ := hg
  rw [hs] at h1 h2
  rw [hk] at h2
  refine ⟨h1, fun j => ?_⟩
  rcases Nat.lt_or_ge j 100 with hj | hj
  · have := h2 j hj
    rw [kindAt_rep hj] at this
    exact in8 this
  · rw [rd_out (by omega)]; omega

end Go.Proofs.Ytkblhnedillknaa.Tt
