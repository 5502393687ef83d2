/- Plain laws: loops over slices. -/
import Derived.Test.YtkblhnedillknaaY1
set_option linter.unusedVariables false
set_option linter.unusedSimpArgs false
namespace Go.Proofs.Ytkblhnedillknaa.Tt
open Go.Ev Go

theorem wrap64 {x : Int} (h : -9223372036854775808 ≤ x ∧ x < 9223372036854775808) : IntKind.wrap .i64 x = x := by
  simp only [IntKind.wrap, IntKind.bits, IntKind.signed]
  simp
  omega

theorem wrap8 {x : Int} (h : -128 ≤ x ∧ x < 128) : IntKind.wrap .i8 x = x := by
  simp only [IntKind.wrap, IntKind.bits, IntKind.signed]
  simp
  omega

theorem cnt_two {a : List Int} {n : Nat} (h : a.length = n * 2) : cnt 2 a = n := by unfold cnt; omega

theorem bT {p : Prop} [Decidable p] (h : p) : decide p = true := decide_eq_true h
theorem bF {p : Prop} [Decidable p] (h : ¬ p) : decide p = false := decide_eq_false h

theorem drop_rd {a : List Int} {i : Nat} (h : i < a.length) : a.drop i = rd a i :: a.drop (i + 1) := by
  rw [List.drop_eq_getElem_cons h]
  simp [rd, h]

end Go.Proofs.Ytkblhnedillknaa.Tt
