/- Plain laws: CheckWalk, parts. -/
import Derived.Test.YtbibnmaoagcfgaaY3
set_option linter.unusedVariables false
set_option linter.unusedSimpArgs false
namespace Go.Proofs.Ytbibnmaoagcfgaa.Tt
open Go.Ev Go

theorem eqCell_self (k : Nat) (a : List Int) : laws_eqCell k a a = some true := by
  unfold laws_eqCell
  simp

theorem eqCellS_loop {R : Type} (k : Nat) (K1 : Bool → Option R) (K2 : Option R) (a : List Int) (n : Nat) (h : a.length = n * 2) (hn : n ≤ 1048576) : ∀ (m i f : Nat), i + m = n → m < f →
    loopF (fun (rec : (List Int) × (List Int) × Int → Option R) (p : (List Int) × (List Int) × Int) => laws_eqCellS_s0 k K1 K2 (fun h1 h2 h3 => rec (h1, h2, h3)) p.1 p.2.1 p.2.2) f (a, a, (i : Int)) = K2 := by
  intro m
  induction m with
  | zero =>
    intro i f hi hf
    obtain ⟨f, rfl⟩ : ∃ g, f = g + 1 := ⟨f - 1, by omega⟩
    rw [loopF]
    dsimp only
    unfold laws_eqCellS_s0
    rw [cnt_two h, bF (by omega)]
    rfl
  | succ m ih =>
    intro i f hi hf
    obtain ⟨f, rfl⟩ : ∃ g, f = g + 1 := ⟨f - 1, by omega⟩
    rw [loopF]
    dsimp only
    unfold laws_eqCellS_s0
    rw [cnt_two h, bT (p := (i : Int) < (n : Int)) (by omega), bT (p := (0 : Int) ≤ (i : Int)) (by omega), eqCell_self]
    have e3 : IntKind.wrap .i64 ((i : Int) + 1) = ((i + 1 : Nat) : Int) := by rw [wrap64 (by omega)]; omega
    simp only [cond_true, Bool.and_true, Option.bind_some, Bool.not_true, cond_false]
    rw [e3]
    exact ih (i + 1) f (by omega) (by omega)

theorem eqCellS_self (k : Nat) (a : List Int) (n : Nat) (h : a.length = n * 2) (hn : n ≤ 1048576) (hk : n < k) : laws_eqCellS k a a = some true := by
  unfold laws_eqCellS laws_eqCellS_l0
  simp only [bne_self_eq_false, cond_false]
  exact eqCellS_loop k (fun y1 => some y1) (some true) a n h hn n 0 k (by omega) hk

/-- A row of rows with one row. -/
theorem indexFunc_one (k : Nat) (l : List Int) (g : List Int → Option Bool) (b : Bool) (hg : g l = some b) : slices_IndexFunc_S_impl_Cell (k + 2) [l] g = some (cond b 0 (-1)) := by
  unfold slices_IndexFunc_S_impl_Cell slices_IndexFunc_S_impl_Cell_l0
  rw [loopF]
  dsimp only
  unfold slices_IndexFunc_S_impl_Cell_s0
  have e1 : rdr [l] (0 : Int).toNat = l := rfl
  rw [e1, hg]
  cases b with
  | true => rfl
  | false =>
    simp only [Option.bind_some, cond_false]
    rfl

theorem containsFunc_one (k : Nat) (l : List Int) (g : List Int → Option Bool) (b : Bool) (hg : g l = some b) : slices_ContainsFunc_S_impl_Cell (k + 2) [l] g = some b := by
  unfold slices_ContainsFunc_S_impl_Cell
  rw [indexFunc_one k l g b hg]
  cases b <;> rfl

end Go.Proofs.Ytbibnmaoagcfgaa.Tt
