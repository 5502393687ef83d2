/- Plain laws: rows of cells that are compared. -/
import Derived.Test.YtkblhnedillknaaY3
set_option linter.unusedVariables false
set_option linter.unusedSimpArgs false
namespace Go.Proofs.Ytkblhnedillknaa.Tt
open Go.Ev Go

theorem eqCell_self (k : Nat) (a : List Int) : laws_eqCell k a a = some true := by
  unfold laws_eqCell
  simp

theorem eqCellS_loop {R : Type} (k : Nat) (K1 : Bool → Option R) (K2 : Option R) (a : List Int) (n : Nat) (h : a.length = n * 2) (hn : n ≤ 1048576) : ∀ (m i f : Nat), i + m = n → m < f →
    loopF (fun (rec : (List Int) × (List Int) × Int → Option R) (p : (List Int) × (List Int) × Int) => laws_eqCellS_s0 k K1 K2 (fun h1 h2 h3 => rec (h1, h2, h3)) p.1 p.2.1 p.2.2) f (a, a, (i : Int)) = K2 := by
  intro m
  induction m with
  | zero =>
    intro i f hi hf
    obtain ⟨f, rfl⟩ : ∃ g, f = g + 1 := ⟨f - 1, by omega⟩
    rw [loopF]
    dsimp only
    unfold laws_eqCellS_s0
    rw [cnt_two h, bF (by omega)]
    rfl
  | succ m ih =>
    intro i f hi hf
    obtain ⟨f, rfl⟩ : ∃ g, f = g + 1 := ⟨f - 1, by omega⟩
    rw [loopF]
    dsimp only
    unfold laws_eqCellS_s0
    rw [cnt_two h, bT (p := (i : Int) < (n : Int)) (by omega), bT (p := (0 : Int) ≤ (i : Int)) (by omega), eqCell_self]
    have e3 : IntKind.wrap .i64 ((i : Int) + 1) = ((i + 1 : Nat) : Int) := by rw [wrap64 (by omega)]; omega
    simp only [cond_true, Bool.and_true, Option.bind_some, Bool.not_true, cond_false]
    rw [e3]
    exact ih (i + 1) f (by omega) (by omega)

theorem eqCellS_self (k : Nat) (a : List Int) (n : Nat) (h : a.length = n * 2) (hn : n ≤ 1048576) (hk : n < k) : laws_eqCellS k a a = some true := by
  unfold laws_eqCellS laws_eqCellS_l0
  simp only [bne_self_eq_false, cond_false]
  exact eqCellS_loop k (fun y1 => some y1) (some true) a n h hn n 0 k (by omega) hk

end Go.Proofs.Ytkblhnedillknaa.Tt
