/- Plain laws: CheckWalk, the walk. -/
import Derived.Test.YtkblhnedillknaaY6
set_option linter.unusedVariables false
set_option linter.unusedSimpArgs false
namespace Go.Proofs.Ytkblhnedillknaa.Tt
open Go.Ev Go

def cx (l : List Int) (i : Nat) : Int := rd l (i * 2)
def cy (l : List Int) (i : Nat) : Int := rd l (i * 2 + 1)

def stepB (a l : List Int) (i : Nat) : Bool := openB a (cx l i) (cy l i) && (decide (i = 0) || nearB (cx l (i - 1)) (cy l (i - 1)) (cx l i) (cy l i))

def walkB (a l : List Int) : Nat → Nat → Bool
  | _, 0 => true
  | i, m + 1 => stepB a l i && walkB a l (i + 1) m

structure CellsR (l : List Int) (n : Nat) : Prop where
  len : l.length = n * 2
  small : n ≤ 1048576
  rng : ∀ j, j < l.length → -128 ≤ rd l j ∧ rd l j < 128

theorem open_range {a : List Int} (ha : LawnS a) {x y : Int} (h : openB a x y = true) : (0 ≤ x ∧ x < 10) ∧ (0 ≤ y ∧ y < 10) := by
  unfold openB at h
  rw [Bool.and_eq_true] at h
  obtain ⟨h1, h2, h3, h4⟩ := hasB_true h.1
  have := ha.w10
  have := ha.h10
  omega

theorem spec_walk {R : Type} (k : Nat) (K1 : Bool → Option R) (K2 : List Int → Option R) {a l : List Int} {n : Nat} (ha : LawnS a) (hl : CellsR l n) : ∀ (m i f : Nat), i + m = n → m < f → (i = 0 ∨ openB a (cx l (i - 1)) (cy l (i - 1)) = true) →
    loopF (fun (rec : (List Int) × (List Int) × Int → Option R) (p : (List Int) × (List Int) × Int) => spec_l04Right_s0 k K1 K2 (fun h1 h2 h3 => rec (h1, h2, h3)) p.1 p.2.1 p.2.2) f (a, l, (i : Int)) = cond (walkB a l i m) (K2 l) (K1 false) := by
  have hlen := hl.len
  have hn := hl.small
  intro m
  induction m with
  | zero =>
    intro i f hi hf _
    obtain ⟨f, rfl⟩ : ∃ g, f = g + 1 := ⟨f - 1, by omega⟩
    rw [loopF]
    dsimp only
    unfold spec_l04Right_s0
    rw [cnt_two hlen, bF (by omega)]
    rfl
  | succ m ih =>
    intro i f hi hf hprev
    obtain ⟨f, rfl⟩ : ∃ g, f = g + 1 := ⟨f - 1, by omega⟩
    rw [loopF]
    dsimp only
    unfold spec_l04Right_s0
    have e1 : (i : Int).toNat = i := by omega
    have e3 : IntKind.wrap .i64 ((i : Int) + 1) = ((i + 1 : Nat) : Int) := by rw [wrap64 (by omega)]; omega
    have r1 := hl.rng (i * 2) (by omega)
    have r2 := hl.rng (i * 2 + 1) (by omega)
    rw [cnt_two hlen, bT (p := (i : Int) < (n : Int)) (by omega), bT (p := (0 : Int) ≤ (i : Int)) (by omega), e1, e3]
    simp only [cond_true, Bool.and_true]
    have hop : spec_l04Open k a [rd l (i * 2), rd l (i * 2 + 1)] = some (openB a (cx l i) (cy l i)) := spec_open k ha r1 r2
    rw [hop]
    simp only [Option.bind_some, walkB, stepB]
    cases ho : openB a (cx l i) (cy l i) with
    | false => rfl
    | true =>
      simp only [Bool.not_true, cond_false, Bool.true_and]
      have hrec := ih (i + 1) f (by omega) (by omega) (.inr ho)
      by_cases h0 : i = 0
      · subst h0
        rw [bF (p := ((0 : Nat) : Int) > 0) (by omega)]
        simp only [cond_false, decide_true, Bool.true_or, Bool.true_and]
        exact hrec
      · have e4 : IntKind.wrap .i64 ((i : Int) - 1) = ((i - 1 : Nat) : Int) := by rw [wrap64 (by omega)]; omega
        have e5 : ((i - 1 : Nat) : Int).toNat = i - 1 := by omega
        rw [bT (p := (i : Int) > 0) (by omega), e4, e5, bT (p := (0 : Int) ≤ ((i - 1 : Nat) : Int)) (by omega), bT (p := ((i - 1 : Nat) : Int) < (n : Int)) (by omega), bF (p := i = 0) h0]
        simp only [cond_true, Bool.and_true, Bool.false_or]
        obtain ⟨q1, q2⟩ := open_range ha (hprev.resolve_left h0)
        obtain ⟨q3, q4⟩ := open_range ha ho
        have hb : spec_l04Beside k [rd l ((i - 1) * 2), rd l ((i - 1) * 2 + 1)] [rd l (i * 2), rd l (i * 2 + 1)] = some (nearB (cx l (i - 1)) (cy l (i - 1)) (cx l i) (cy l i)) := spec_beside k q1 q2 q3 q4
        rw [hb]
        simp only [Option.bind_some]
        cases nearB (cx l (i - 1)) (cy l (i - 1)) (cx l i) (cy l i) with
        | false => rfl
        | true => simp only [Bool.not_true, cond_false, Bool.true_and]; exact hrec

theorem impl_walk {R : Type} (k : Nat) (K1 : Bool → Option R) (K2 : List Int → Option R) {a l : List Int} {n : Nat} (ha : LawnS a) (hl : CellsR l n) : ∀ (m i f : Nat), i + m = n → m < f → (i = 0 ∨ openB a (cx l (i - 1)) (cy l (i - 1)) = true) →
    loopF (fun (rec : (List Int) × (List Int) × Int × Int × (List Int) → Option R) (p : (List Int) × (List Int) × Int × Int × (List Int)) => impl_Lawn_isWalk_s0 (k + 6) K1 K2 (fun h1 h2 h3 h4 h5 => rec (h1, h2, h3, h4, h5)) p.1 p.2.1 p.2.2.1 p.2.2.2.1 p.2.2.2.2) f (l, l, (n : Int), (i : Int), a) = cond (walkB a l i m) (K2 l) (K1 false) := by
  have hlen := hl.len
  have hn := hl.small
  intro m
  induction m with
  | zero =>
    intro i f hi hf _
    obtain ⟨f, rfl⟩ : ∃ g, f = g + 1 := ⟨f - 1, by omega⟩
    rw [loopF]
    dsimp only
    unfold impl_Lawn_isWalk_s0
    rw [bF (by omega)]
    rfl
  | succ m ih =>
    intro i f hi hf hprev
    obtain ⟨f, rfl⟩ : ∃ g, f = g + 1 := ⟨f - 1, by omega⟩
    rw [loopF]
    dsimp only
    unfold impl_Lawn_isWalk_s0
    have e1 : (i : Int).toNat = i := by omega
    have e3 : IntKind.wrap .i64 ((i : Int) + 1) = ((i + 1 : Nat) : Int) := by rw [wrap64 (by omega)]; omega
    rw [cnt_two hlen, bT (p := (i : Int) < (n : Int)) (by omega), bT (p := (0 : Int) ≤ (i : Int)) (by omega), e1, e3]
    simp only [cond_true, Bool.and_true]
    have hop : impl_Lawn_open (k + 6) a [rd l (i * 2), rd l (i * 2 + 1)] = some (openB a (cx l i) (cy l i)) := impl_open (k + 6) ha _ _
    rw [hop]
    simp only [Option.bind_some, walkB, stepB]
    cases ho : openB a (cx l i) (cy l i) with
    | false => rfl
    | true =>
      simp only [Bool.not_true, cond_false, Bool.true_and]
      have hrec := ih (i + 1) f (by omega) (by omega) (.inr ho)
      by_cases h0 : i = 0
      · subst h0
        rw [bF (p := ((0 : Nat) : Int) > 0) (by omega)]
        simp only [cond_false, decide_true, Bool.true_or, Bool.true_and]
        exact hrec
      · have e4 : IntKind.wrap .i64 ((i : Int) - 1) = ((i - 1 : Nat) : Int) := by rw [wrap64 (by omega)]; omega
        have e5 : ((i - 1 : Nat) : Int).toNat = i - 1 := by omega
        rw [bT (p := (i : Int) > 0) (by omega), e4, e5, bT (p := (0 : Int) ≤ ((i - 1 : Nat) : Int)) (by omega), bT (p := ((i - 1 : Nat) : Int) < (n : Int)) (by omega), bF (p := i = 0) h0]
        simp only [cond_true, Bool.and_true, Bool.false_or]
        obtain ⟨q1, q2⟩ := open_range ha (hprev.resolve_left h0)
        obtain ⟨q3, q4⟩ := open_range ha ho
        have hne := near_eq q1 q2 q3 q4
        have hnb := near_iff k q1 q2 q3 q4
        have c1 : rd l (i * 2) = cx l i := rfl
        have c2 : rd l (i * 2 + 1) = cy l i := rfl
        have c3 : rd l ((i - 1) * 2) = cx l (i - 1) := rfl
        have c4 : rd l ((i - 1) * 2 + 1) = cy l (i - 1) := rfl
        rw [c1, c2, c3, c4]
        rw [← hne]
        cases hq : eqL [cx l i, cy l i] [cx l (i - 1), cy l (i - 1)] with
        | true => simp only [Bool.not_true, cond_false, Bool.true_or, Bool.true_and]; exact hrec
        | false =>
          simp only [Bool.not_false, cond_true, Bool.false_or]
          rw [← Option.bind_assoc, hnb]
          simp only [Option.bind_some]
          cases (eqL [cx l (i - 1), cy l (i - 1)] [cx l i, cy l i - 1] || (eqL [cx l (i - 1), cy l (i - 1)] [cx l i - 1, cy l i] || (eqL [cx l (i - 1), cy l (i - 1)] [cx l i + 1, cy l i] || eqL [cx l (i - 1), cy l (i - 1)] [cx l i, cy l i + 1]))) with
          | false => rfl
          | true => simp only [Bool.not_true, cond_false, Bool.true_and]; exact hrec

end Go.Proofs.Ytkblhnedillknaa.Tt
