/- Plain laws: codes in the reference. -/
import Derived.Test.YtmpcninebooaiaaY10
set_option linter.unusedVariables false
set_option linter.unusedSimpArgs false
namespace Go.Proofs.Ytmpcninebooaiaa.Tt
open Go.Ev Go

theorem spec_told (k : Nat) {a : List Int} (ha : LawnR a) (hk : 10 < k) (b : Bool) : spec_l01Told k a b = some (cond (lawnB a) (cond b 0 2) 1) := by
  unfold spec_l01Told
  rw [spec_valid k hk ha]
  cases lawnB a <;> cases b <;> rfl

end Go.Proofs.Ytmpcninebooaiaa.Tt
