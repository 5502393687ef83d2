/- Plain laws: the level of a cell. -/
import Derived.Test.YtkblhnedillknaaY11
set_option linter.unusedVariables false
set_option linter.unusedSimpArgs false
namespace Go.Proofs.Ytkblhnedillknaa.Tt
open Go.Ev Go

def levP (g : List Int) (p : Int × Int) : Int := rd g (p.2.toNat * 10 + p.1.toNat)
def in10 (p : Int × Int) : Prop := (0 ≤ p.1 ∧ p.1 < 10) ∧ (0 ≤ p.2 ∧ p.2 < 10)

theorem spec_lat' (k : Nat) {g : List Int} (hg : LevR g) {p : Int × Int} (hp : in10 p) : spec_l06At k g [p.1, p.2] = some (levP g p) := by
  obtain ⟨hx, hy⟩ := hp
  unfold spec_l06At levP
  have e1 : rd [p.1, p.2] 0 = p.1 := rfl
  have e2 : rd [p.1, p.2] 1 = p.2 := rfl
  have r := hg.rng (p.2.toNat * 10 + p.1.toNat)
  rw [e1, e2]
  simp (disch := omega) only [bT, cond_true, Bool.and_true, Nat.mul_one, Nat.zero_add, wrap64]

theorem impl_of' (k : Nat) {g : List Int} (hg : LevR g) {p : Int × Int} (hp : in10 p) : impl_Levels_of k g [p.1, p.2] = some (levP g p) := spec_lat' k hg hp

end Go.Proofs.Ytkblhnedillknaa.Tt
