/- Plain laws: rows of cells that are marked. -/
import Derived.Test.YtkblhnedillknaaY4a
import Derived.Test.YtkblhnedillknaaY13
set_option linter.unusedVariables false
set_option linter.unusedSimpArgs false
namespace Go.Proofs.Ytkblhnedillknaa.Tt
open Go.Ev Go

def mk8 (c : Int) (m : Nat) : List Int := (List.range m).map fun (j : Nat) => IntKind.wrap .i8 (c + (j : Int))

theorem mk8_len (c : Int) (m : Nat) : (mk8 c m).length = m := by simp [mk8]
theorem mk8_succ (c : Int) (m : Nat) : mk8 c (m + 1) = mk8 c m ++ [IntKind.wrap .i8 (c + (m : Int))] := by simp [mk8, List.range_succ]
theorem rd_mk8 (c : Int) {m j : Nat} (h : j < m) : rd (mk8 c m) j = IntKind.wrap .i8 (c + (j : Int)) := by
  unfold rd mk8
  rw [List.getD_eq_getElem?_getD, List.getElem?_map, List.getElem?_range h]
  rfl

theorem set_mid (A r : List Int) (x v : Int) {i : Nat} (h : A.length = i) : List.set (A ++ x :: r) i v = A ++ v :: r := by
  subst h
  rw [List.set_append_right _ _ (Nat.le_refl _), Nat.sub_self]
  rfl

theorem mark_cells (k : Nat) (l : List Int) (n : Nat) (c : Int) (hl : l.length = n * 2) (hn : n ≤ 1048576) (hc : 0 ≤ c ∧ c ≤ 1000) (hk : n < k) : laws_markCellS k l c = some (c + 2 * (n : Int), mk8 c (n * 2)) := by
  unfold laws_markCellS laws_markCellS_l0
  have := loopF_go (R := Int × List Int) (step := fun (rec : Int × Int × (List Int) → Option (Int × List Int)) (p : Int × Int × (List Int)) => laws_markCellS_s0 k (fun y1 y2 => some (y1, y2)) (fun h1 h2 h3 => rec (h1, h2, h3)) p.1 p.2.1 p.2.2)
    (fun i => (c + 2 * (i : Int), (i : Int), mk8 c (i * 2) ++ l.drop (i * 2))) (fun _ _ => some (c + 2 * (n : Int), mk8 c (n * 2))) n ?_ ?_ n 0 k (by omega) (by omega)
  · simpa [mk8] using this
  · intro rec
    dsimp only
    unfold laws_markCellS_s0
    have e : l.drop (n * 2) = [] := List.drop_eq_nil_of_le (by omega)
    rw [e, List.append_nil, cnt_two (n := n) (mk8_len _ _)]
    simp (disch := omega) only [bF, cond_false]
  · intro i m hi rec hrec
    dsimp only at hrec ⊢
    unfold laws_markCellS_s0
    have e0 : ∀ v, cnt 2 (List.set (mk8 c (i * 2) ++ l.drop (i * 2)) (i * 2) v) = n := fun v => cnt_two (by rw [List.length_set, List.length_append, mk8_len, List.length_drop, hl]; omega)
    have e1 : cnt 2 (mk8 c (i * 2) ++ l.drop (i * 2)) = n := cnt_two (by rw [List.length_append, mk8_len, List.length_drop, hl]; omega)
    simp only [Int.toNat_natCast, e0, e1]
    simp (disch := omega) only [bT, cond_true, Bool.and_true, wrap64]
    rw [drop_rd (show i * 2 < l.length by omega), drop_rd (show i * 2 + 1 < l.length by omega), set_mid _ _ _ _ (mk8_len _ _)]
    have e2 : mk8 c (i * 2) ++ IntKind.wrap .i8 (c + 2 * (i : Int)) :: rd l (i * 2 + 1) :: l.drop (i * 2 + 1 + 1) = mk8 c (i * 2 + 1) ++ rd l (i * 2 + 1) :: l.drop (i * 2 + 1 + 1) := by
      rw [mk8_succ, show c + ((i * 2 : Nat) : Int) = c + 2 * (i : Int) by omega, List.append_assoc]
      rfl
    rw [e2, set_mid _ _ _ _ (mk8_len _ _)]
    have e3 : mk8 c (i * 2 + 1) ++ IntKind.wrap .i8 (c + 2 * (i : Int) + 1) :: l.drop (i * 2 + 1 + 1) = mk8 c ((i + 1) * 2) ++ l.drop ((i + 1) * 2) := by
      have q1 : (i + 1) * 2 = i * 2 + 1 + 1 := by omega
      rw [q1, mk8_succ c (i * 2 + 1), show c + ((i * 2 + 1 : Nat) : Int) = c + 2 * (i : Int) + 1 by omega, List.append_assoc]
      rfl
    rw [e3]
    have q2 : c + 2 * (i : Int) + 1 + 1 = c + 2 * ((i + 1 : Nat) : Int) := by omega
    rw [q2]
    exact hrec

theorem held_cells (k : Nat) (n : Nat) (c : Int) (hn : n ≤ 1048576) (hc : 0 ≤ c ∧ c ≤ 1000) (hk : n < k) : laws_heldCellS k (mk8 c (n * 2)) c = some (c + 2 * (n : Int)) := by
  unfold laws_heldCellS laws_heldCellS_l0
  have := loopF_go (R := Int) (step := fun (rec : (List Int) × Int × Int → Option Int) (p : (List Int) × Int × Int) => laws_heldCellS_s0 k (fun y1 => some y1) (fun y2 => some y2) (fun h1 h2 h3 => rec (h1, h2, h3)) p.1 p.2.1 p.2.2)
    (fun i => (mk8 c (n * 2), c + 2 * (i : Int), (i : Int))) (fun _ _ => some (c + 2 * (n : Int))) n ?_ ?_ n 0 k (by omega) (by omega)
  · simpa using this
  · intro rec
    dsimp only
    unfold laws_heldCellS_s0
    rw [cnt_two (n := n) (mk8_len _ _)]
    simp (disch := omega) only [bF, cond_false]
  · intro i m hi rec hrec
    dsimp only at hrec ⊢
    unfold laws_heldCellS_s0
    rw [cnt_two (n := n) (mk8_len _ _)]
    simp only [Int.toNat_natCast]
    rw [rd_mk8 c (show i * 2 < n * 2 by omega), rd_mk8 c (show i * 2 + 1 < n * 2 by omega)]
    have e1 : c + ((i * 2 : Nat) : Int) = c + 2 * (i : Int) := by omega
    have e2 : c + ((i * 2 + 1 : Nat) : Int) = c + 2 * (i : Int) + 1 := by omega
    rw [e1, e2]
    have q2 : c + 2 * (i : Int) + 1 + 1 = c + 2 * ((i + 1 : Nat) : Int) := by omega
    simp (disch := omega) only [bT, cond_true, Bool.and_true, wrap64, bne_self_eq_false, cond_false]
    rw [q2]
    exact hrec

/-- A row that is marked holds its marks. -/
theorem marks_cells (k : Nat) (L : List (Int × Int)) (hL : L.length ≤ 1000) (hk : 1000 < k) : ∃ m l, laws_markCellS k (fl L) 1 = some (m, l) ∧ laws_heldCellS k l 1 = some m ∧ 0 ≤ m :=
  ⟨_, _, mark_cells k (fl L) L.length 1 (fl_length L) (by omega) (by omega) (by omega), held_cells k L.length 1 (by omega) (by omega) (by omega), by omega⟩

theorem eqCells_self (k : Nat) (L : List (Int × Int)) (hL : L.length ≤ 1000) (hk : 1000 < k) : laws_eqCellS k (fl L) (fl L) = some true :=
  eqCellS_self k (fl L) L.length (fl_length L) (by omega) (by omega)

end Go.Proofs.Ytkblhnedillknaa.Tt
