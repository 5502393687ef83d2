/- Plain laws: CheckWalk, cells that lie beside each other. -/
import Derived.Test.YtkblhnedillknaaY5b
set_option linter.unusedVariables false
set_option linter.unusedSimpArgs false
namespace Go.Proofs.Ytkblhnedillknaa.Tt
open Go.Ev Go

theorem sq_small (d : Int) (h : -9 ≤ d ∧ d ≤ 9) : 0 ≤ d * d ∧ d * d ≤ 81 ∧ (d * d ≤ 1 ↔ -1 ≤ d ∧ d ≤ 1) ∧ (d * d = 0 ↔ d = 0) := by
  have : d = -9 ∨ d = -8 ∨ d = -7 ∨ d = -6 ∨ d = -5 ∨ d = -4 ∨ d = -3 ∨ d = -2 ∨ d = -1 ∨ d = 0 ∨ d = 1 ∨ d = 2 ∨ d = 3 ∨ d = 4 ∨ d = 5 ∨ d = 6 ∨ d = 7 ∨ d = 8 ∨ d = 9 := by omega
  rcases this with rfl | rfl | rfl | rfl | rfl | rfl | rfl | rfl | rfl | rfl | rfl | rfl | rfl | rfl | rfl | rfl | rfl | rfl | rfl <;> decide

def nearB (px py x y : Int) : Bool := decide ((px - x) * (px - x) + (py - y) * (py - y) ≤ 1)

theorem spec_beside (k : Nat) {px py x y : Int} (h1 : 0 ≤ px ∧ px < 10) (h2 : 0 ≤ py ∧ py < 10) (h3 : 0 ≤ x ∧ x < 10) (h4 : 0 ≤ y ∧ y < 10) : spec_l04Beside k [px, py] [x, y] = some (nearB px py x y) := by
  unfold spec_l04Beside nearB
  have e1 : rd [px, py] 0 = px := rfl
  have e2 : rd [px, py] 1 = py := rfl
  have e3 : rd [x, y] 0 = x := rfl
  have e4 : rd [x, y] 1 = y := rfl
  have s1 := sq_small (px - x) (by omega)
  have s2 := sq_small (py - y) (by omega)
  rw [e1, e2, e3, e4, wrap64 (x := px) (by omega), wrap64 (x := py) (by omega), wrap64 (x := x) (by omega), wrap64 (x := y) (by omega), wrap64 (x := px - x) (by omega), wrap64 (x := py - y) (by omega),
    wrap64 (x := (px - x) * (px - x)) (by omega), wrap64 (x := (py - y) * (py - y)) (by omega), wrap64 (by omega)]

theorem eqL_two (a b c d : Int) : eqL [a, b] [c, d] = ((a == c) && (b == d)) := by
  simp [eqL]

/-- One of four cells. -/
theorem contains_four (k : Nat) (a0 b0 a1 b1 a2 b2 a3 b3 x y : Int) : slices_Contains_impl_Cell (k + 6) [a0, b0, a1, b1, a2, b2, a3, b3] [x, y] =
    some (eqL [x, y] [a0, b0] || (eqL [x, y] [a1, b1] || (eqL [x, y] [a2, b2] || eqL [x, y] [a3, b3]))) := by
  have h : slices_Index_impl_Cell (k + 6) [a0, b0, a1, b1, a2, b2, a3, b3] [x, y] = cond (eqL [x, y] [a0, b0]) (some 0) (cond (eqL [x, y] [a1, b1]) (some 1) (cond (eqL [x, y] [a2, b2]) (some 2) (cond (eqL [x, y] [a3, b3]) (some 3) (some (-1))))) := by
    kernel_rfl
  unfold slices_Contains_impl_Cell
  have e : [rd [x, y] 0, rd [x, y] 1] = [x, y] := rfl
  rw [e, h]
  cases eqL [x, y] [a0, b0] <;> cases eqL [x, y] [a1, b1] <;> cases eqL [x, y] [a2, b2] <;> cases eqL [x, y] [a3, b3] <;> rfl

theorem near_iff (k : Nat) {px py x y : Int} (h1 : 0 ≤ px ∧ px < 10) (h2 : 0 ≤ py ∧ py < 10) (h3 : 0 ≤ x ∧ x < 10) (h4 : 0 ≤ y ∧ y < 10) :
    (Option.bind (impl_beside (k + 6) [x, y]) fun q => slices_Contains_impl_Cell (k + 6) q [px, py]) = some (eqL [px, py] [x, y - 1] || (eqL [px, py] [x - 1, y] || (eqL [px, py] [x + 1, y] || eqL [px, py] [x, y + 1]))) := by
  unfold impl_beside
  have e3 : rd [x, y] 0 = x := rfl
  have e4 : rd [x, y] 1 = y := rfl
  rw [e3, e4, wrap8 (x := y - 1) (by omega), wrap8 (x := x - 1) (by omega), wrap8 (x := x + 1) (by omega), wrap8 (x := y + 1) (by omega)]
  simp only [Option.bind_some]
  exact contains_four k _ _ _ _ _ _ _ _ _ _

theorem near_eq {px py x y : Int} (h1 : 0 ≤ px ∧ px < 10) (h2 : 0 ≤ py ∧ py < 10) (h3 : 0 ≤ x ∧ x < 10) (h4 : 0 ≤ y ∧ y < 10) :
    (eqL [x, y] [px, py] || (eqL [px, py] [x, y - 1] || (eqL [px, py] [x - 1, y] || (eqL [px, py] [x + 1, y] || eqL [px, py] [x, y + 1])))) = nearB px py x y := by
  have s1 := sq_small (px - x) (by omega)
  have s2 := sq_small (py - y) (by omega)
  rw [eqL_two, eqL_two, eqL_two, eqL_two, eqL_two]
  unfold nearB
  rw [Bool.eq_iff_iff]
  simp only [Bool.or_eq_true, Bool.and_eq_true, beq_iff_eq, decide_eq_true_eq]
  constructor
  · intro h
    have hx : px - x = 0 ∨ py - y = 0 := by omega
    rcases hx with hx | hx
    · have : (px - x) * (px - x) = 0 := s1.2.2.2.2 hx
      have : (py - y) * (py - y) ≤ 1 := s2.2.2.1.2 (by omega)
      omega
    · have : (py - y) * (py - y) = 0 := s2.2.2.2.2 hx
      have : (px - x) * (px - x) ≤ 1 := s1.2.2.1.2 (by omega)
      omega
  · intro h
    have a1 := s1.2.2.1.1 (by omega)
    have a2 := s2.2.2.1.1 (by omega)
    have a3 : (px - x) * (px - x) = 0 ∨ (py - y) * (py - y) = 0 := by omega
    rcases a3 with a3 | a3
    · have := s1.2.2.2.1 a3; omega
    · have := s2.2.2.2.1 a3; omega

end Go.Proofs.Ytkblhnedillknaa.Tt
