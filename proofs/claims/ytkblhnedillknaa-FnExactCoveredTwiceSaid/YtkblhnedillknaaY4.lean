/- Plain laws: CheckWalk, parts. -/
import Derived.Test.YtkblhnedillknaaY4a
set_option linter.unusedVariables false
set_option linter.unusedSimpArgs false
namespace Go.Proofs.Ytkblhnedillknaa.Tt
open Go.Ev Go

theorem copy_step {a : List Int} {n i : Nat} (h : a.length = n * 2) (hi : i < n) :
    setWin (a.take (i * 2) ++ List.replicate ((n - i) * 2) 0) (i * 2) 2 [rd a (i * 2), rd a (i * 2 + 1)] = a.take ((i + 1) * 2) ++ List.replicate ((n - (i + 1)) * 2) 0 := by
  have hl : (a.take (i * 2)).length = i * 2 := by rw [List.length_take]; omega
  unfold setWin
  rw [List.take_append_of_le_length (by omega), List.take_of_length_le (by omega)]
  have e1 : List.drop (i * 2 + 2) (a.take (i * 2) ++ List.replicate ((n - i) * 2) 0) = List.replicate ((n - (i + 1)) * 2) 0 := by
    rw [List.drop_append, List.drop_eq_nil_of_le (by omega), List.nil_append, hl, List.drop_replicate]
    congr 1
    omega
  rw [e1]
  have e2 : a.take ((i + 1) * 2) = a.take (i * 2) ++ [rd a (i * 2), rd a (i * 2 + 1)] := by
    have : (i + 1) * 2 = i * 2 + 2 := by omega
    rw [this, List.take_add]
    congr 1
    rw [drop_rd (by omega), drop_rd (by omega)]
    rfl
  rw [e2, List.append_assoc]

theorem toCellS_loop {R : Type} (k : Nat) (K1 : List Int → Option R) (a : List Int) (n : Nat) (h : a.length = n * 2) (hn : n ≤ 1048576) : ∀ (m i : Nat) (f : Nat), i + m = n → m < f →
    loopF (fun (rec : (List Int) × Int × (List Int) → Option R) (p : (List Int) × Int × (List Int)) => laws_toCellS_s0 k K1 (fun h1 h2 h3 => rec (h1, h2, h3)) p.1 p.2.1 p.2.2) f (a, (i : Int), a.take (i * 2) ++ List.replicate ((n - i) * 2) 0) = K1 a := by
  intro m
  induction m with
  | zero =>
    intro i f hi hf
    obtain ⟨f, rfl⟩ : ∃ g, f = g + 1 := ⟨f - 1, by omega⟩
    have : i = n := by omega
    subst this
    rw [loopF]
    dsimp only
    unfold laws_toCellS_s0
    rw [cnt_two h, bF (by omega)]
    simp only [cond_false]
    rw [List.take_of_length_le (by omega)]
    simp
  | succ m ih =>
    intro i f hi hf
    obtain ⟨f, rfl⟩ : ∃ g, f = g + 1 := ⟨f - 1, by omega⟩
    rw [loopF]
    dsimp only
    unfold laws_toCellS_s0
    have hl2 : (a.take (i * 2) ++ List.replicate ((n - i) * 2) 0).length = n * 2 := by simp; omega
    rw [cnt_two h, cnt_two hl2, bT (by omega), bT (by omega)]
    simp only [cond_true, Bool.and_true, laws_toCell, Option.bind_some]
    have e1 : (i : Int).toNat = i := by omega
    have e3 : IntKind.wrap .i64 ((i : Int) + 1) = ((i + 1 : Nat) : Int) := by rw [wrap64 (by omega)]; omega
    rw [e1, e3]
    have e2 : [rd [rd a (i * 2), rd a (i * 2 + 1)] 0, rd [rd a (i * 2), rd a (i * 2 + 1)] 1] = [rd a (i * 2), rd a (i * 2 + 1)] := rfl
    rw [e2, copy_step h (by omega)]
    exact ih (i + 1) f (by omega) (by omega)

theorem toCellS_id (k : Nat) (a : List Int) (n : Nat) (h : a.length = n * 2) (hn : n ≤ 1048576) (hk : n < k) : laws_toCellS k a = some a := by
  unfold laws_toCellS laws_toCellS_l0
  rw [cnt_two h, bT (by omega), bT (by omega)]
  simp only [Bool.true_and, beq_self_eq_true, cond_true]
  have := toCellS_loop k (fun y1 => some y1) a n h hn n 0 k (by omega) hk
  simpa using this

/-- A row of rows with one row. -/
theorem indexFunc_one (k : Nat) (l : List Int) (g : List Int → Option Bool) (b : Bool) (hg : g l = some b) : slices_IndexFunc_S_impl_Cell (k + 2) [l] g = some (cond b 0 (-1)) := by
  unfold slices_IndexFunc_S_impl_Cell slices_IndexFunc_S_impl_Cell_l0
  rw [loopF]
  dsimp only
  unfold slices_IndexFunc_S_impl_Cell_s0
  have e1 : rdr [l] (0 : Int).toNat = l := rfl
  rw [e1, hg]
  cases b with
  | true => rfl
  | false =>
    simp only [Option.bind_some, cond_false]
    rfl

theorem containsFunc_one (k : Nat) (l : List Int) (g : List Int → Option Bool) (b : Bool) (hg : g l = some b) : slices_ContainsFunc_S_impl_Cell (k + 2) [l] g = some b := by
  unfold slices_ContainsFunc_S_impl_Cell
  rw [indexFunc_one k l g b hg]
  cases b <;> rfl

end Go.Proofs.Ytkblhnedillknaa.Tt
