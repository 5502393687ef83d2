/- Plain laws: CheckWalk, cells that are open. -/
import Derived.Test.YtkblhnedillknaaY3
set_option linter.unusedVariables false
set_option linter.unusedSimpArgs false
namespace Go.Proofs.Ytkblhnedillknaa.Tt
open Go.Ev Go

def hasB (a : List Int) (x y : Int) : Bool := (decide (0 ≤ x) && decide (x < rd a 0)) && (decide (0 ≤ y) && decide (y < rd a 1))
def kindV (a : List Int) (x y : Int) : Int := rd a (2 + y.toNat * 10 + x.toNat)
def openB (a : List Int) (x y : Int) : Bool := hasB a x y && ((kindV a x y == 0) || (kindV a x y == 3))

/-- A lawn whose sides are at most ten. -/
structure LawnS (a : List Int) : Prop extends LawnR a where
  w10 : rd a 0 ≤ 10
  h10 : rd a 1 ≤ 10

theorem hasB_true {a : List Int} {x y : Int} (h : hasB a x y = true) : 0 ≤ x ∧ x < rd a 0 ∧ 0 ≤ y ∧ y < rd a 1 := by
  unfold hasB at h
  simp only [Bool.and_eq_true, decide_eq_true_eq] at h
  omega

theorem kind_range {a : List Int} (ha : LawnS a) {x y : Int} (h : hasB a x y = true) : 0 ≤ kindV a x y ∧ kindV a x y < 256 := by
  obtain ⟨h1, h2, h3, h4⟩ := hasB_true h
  have := ha.w10
  have := ha.h10
  have hc := ha.cell (y.toNat * 10 + x.toNat) (by omega)
  unfold kindV
  have e : 2 + y.toNat * 10 + x.toNat = 2 + (y.toNat * 10 + x.toNat) := by omega
  rw [e]
  exact hc

theorem spec_at (k : Nat) {a : List Int} (ha : LawnS a) {x y : Int} (h : hasB a x y = true) : spec_l01At k a [x, y] = some (kindV a x y) := by
  obtain ⟨h1, h2, h3, h4⟩ := hasB_true h
  have := ha.w10
  have := ha.h10
  have hr := kind_range ha h
  unfold spec_l01At
  have e1 : rd [x, y] 0 = x := rfl
  have e2 : rd [x, y] 1 = y := rfl
  rw [e1, e2, bT (p := 0 ≤ y) h3, bT (p := y < 10) (by omega), bT (p := 0 ≤ x) h1, bT (p := x < 10) (by omega)]
  simp only [Bool.and_true, cond_true, Nat.mul_one]
  have e : rd a (2 + y.toNat * 10 + x.toNat) = kindV a x y := rfl
  rw [e, wrap64 (by omega)]

theorem impl_kind (k : Nat) {a : List Int} (ha : LawnS a) {x y : Int} (h : hasB a x y = true) : impl_Lawn_kind k a [x, y] = some (kindV a x y) := spec_at k ha h

theorem impl_is (k : Nat) {a : List Int} (ha : LawnS a) (x y v : Int) : impl_Lawn_is k a [x, y] v = some (hasB a x y && (kindV a x y == v)) := by
  unfold impl_Lawn_is
  have e : impl_Lawn_has k a [rd [x, y] 0, rd [x, y] 1] = some (hasB a x y) := impl_has k a x y
  rw [e]
  cases h : hasB a x y with
  | false => rfl
  | true =>
    simp only [Option.bind_some, cond_true, Bool.true_and]
    have e2 : impl_Lawn_kind k a [rd [x, y] 0, rd [x, y] 1] = some (kindV a x y) := impl_kind k ha h
    rw [e2]
    rfl

end Go.Proofs.Ytkblhnedillknaa.Tt
