/- Plain laws: arguments in their kinds. -/
import Derived.Test.YtkblhnedillknaaY3
import Derived.Test.YtkblhnedillknaaY2
import Derived.Test.YtkblhnedillknaaE6
set_option linter.unusedVariables false
set_option linter.unusedSimpArgs false
namespace Go.Proofs.Ytkblhnedillknaa.Tt
open Go.Ev Go

theorem in8 {n : Int} (h : inKind (.int .i8) n) : -128 ≤ n ∧ n < 128 := by
  simp [inKind, Lit.wf, IntKind.min, IntKind.max, IntKind.signed, IntKind.bits] at h
  omega
theorem inu8 {n : Int} (h : inKind (.int .u8) n) : 0 ≤ n ∧ n < 256 := by
  simp [inKind, Lit.wf, IntKind.min, IntKind.max, IntKind.signed, IntKind.bits] at h
  omega
theorem in64 {n : Int} (h : inKind (.int .i64) n) : -9223372036854775808 ≤ n ∧ n < 9223372036854775808 := by
  simp [inKind, Lit.wf, IntKind.min, IntKind.max, IntKind.signed, IntKind.bits] at h
  omega
theorem wf64 {n : Int} (h : (Lit.int .i64 n).wf = true) : -9223372036854775808 ≤ n ∧ n < 9223372036854775808 := in64 h

theorem kindAt_rep {n j : Nat} {k : SK} (h : j < n) : kindAt (List.replicate n k) j = k := by
  rw [kindAt_lt (by rw [List.length_replicate]; exact h), List.getD_eq_getElem?_getD, List.getElem?_replicate, if_pos h]
  rfl

theorem lawnR_of {T : Tab} {t : TypeId} {a : List Int} (ha : InR T t a) (hs : (T.at t).size = 102) (hk : (T.at t).ks = [.int .i8, .int .i8] ++ List.replicate 100 (.int .u8)) : LawnR a := by
  obtain ⟨h1, h2⟩ := ha
  rw [hs] at h1 h2
  rw [hk] at h2
  refine ⟨h1, in8 (h2 0 (by omega)), in8 (h2 1 (by omega)), fun j hj => ?_⟩
  have h := h2 (2 + j) (by omega)
  have hk : kindAt ([SK.int .i8, SK.int .i8] ++ List.replicate 100 (SK.int .u8)) (2 + j) = .int .u8 := by
    rw [kindAt_lt (by rw [List.length_append, List.length_replicate]; show 2 + j < 2 + 100; omega), List.getD_eq_getElem?_getD, List.getElem?_append_right (by show 2 ≤ 2 + j; omega)]
    show ((List.replicate 100 (SK.int .u8))[2 + j - 2]?).getD .bool = _
    rw [List.getElem?_replicate, if_pos (by omega)]
    rfl
  rw [hk] at h
  exact inu8 h

theorem rd_out {l : List Int} {j : Nat} (h : l.length ≤ j) : rd l j = 0 := by
  unfold rd
  rw [List.getD_eq_getElem?_getD, List.getElem?_eq_none h]
  rfl

/-- A cell: two numbers. -/
theorem cell_of {T : Tab} {t : TypeId} {a : List Int} (ha : InR T t a) (hs : (T.at t).size = 2) (hk : (T.at t).ks = [.int .i8, .int .i8]) : ∃ x y, a = [x, y] ∧ (-128 ≤ x ∧ x < 128) ∧ (-128 ≤ y ∧ y < 128) := by
  obtain ⟨h1, h2⟩ := ha
  rw [hs] at h1 h2
  rw [hk] at h2
  match a, h1 with
  | [x, y], _ => exact ⟨x, y, rfl, in8 (h2 0 (by omega)), in8 (h2 1 (by omega))⟩

/-- The cells of a slice. -/
theorem kind_two (j : Nat) : kindAt [SK.int .i8, SK.int .i8] j = .int .i8 := by
  unfold kindAt
  have h : j % 2 = 0 ∨ j % 2 = 1 := by omega
  show List.getD _ (j % 2) _ = _
  rcases h with h | h <;> rw [h] <;> rfl

end Go.Proofs.Ytkblhnedillknaa.Tt
