/- Plain laws: a lawn that is right. -/
import Derived.Test.YtkblhnedillknaaY2
set_option linter.unusedVariables false
set_option linter.unusedSimpArgs false
namespace Go.Proofs.Ytkblhnedillknaa.Tt
open Go.Ev Go

/-- A lawn's numbers are those of its kinds. -/
structure LawnR (a : List Int) : Prop where
  len : a.length = 102
  wide : -128 ≤ rd a 0 ∧ rd a 0 < 128
  high : -128 ≤ rd a 1 ∧ rd a 1 < 128
  cell : ∀ j, j < 100 → 0 ≤ rd a (2 + j) ∧ rd a (2 + j) < 256

def sideB (n : Int) : Bool := decide (1 ≤ n) && decide (n ≤ 10)

def cellB (a : List Int) (y x : Nat) : Bool := decide (rd a (2 + y * 10 + x) ≤ 3) && (decide (rd a (2 + y * 10 + x) = 0) || (decide ((x : Int) < rd a 0) && decide ((y : Int) < rd a 1)))

def rowB (a : List Int) (y : Nat) : Nat → Nat → Bool
  | _, 0 => true
  | x, m + 1 => cellB a y x && rowB a y (x + 1) m

def rowsB (a : List Int) : Nat → Nat → Bool
  | _, 0 => true
  | y, m + 1 => rowB a y 0 10 && rowsB a (y + 1) m

def lawnB (a : List Int) : Bool := sideB (rd a 0) && (sideB (rd a 1) && rowsB a 0 10)

theorem spec_side (k : Nat) (n : Int) : spec_l01Side k n = some (sideB n) := by
  unfold spec_l01Side spec_l00In sideB
  by_cases h : 1 ≤ n
  · rw [bT (p := n ≥ 1) h]; rfl
  · rw [bF (p := n ≥ 1) h]; rfl

theorem impl_side (k : Nat) (n : Int) : impl_within k n 1 10 = some (sideB n) := by
  unfold impl_within sideB
  by_cases h : 1 ≤ n
  · rw [bT h]; rfl
  · rw [bF h]; rfl

theorem spec_is (k : Nat) {a : List Int} (ha : LawnR a) {x y : Int} (hx : -128 ≤ x ∧ x < 128) (hy : -128 ≤ y ∧ y < 128) :
    spec_l01Is k a [x, y] = some ((decide (0 ≤ x) && decide (x < rd a 0)) && (decide (0 ≤ y) && decide (y < rd a 1))) := by
  have hw := ha.wide
  have hh := ha.high
  unfold spec_l01Is spec_l00In
  have e1 : rd [x, y] 0 = x := rfl
  have e2 : rd [x, y] 1 = y := rfl
  rw [e1, e2, wrap64 (x := x) (by omega), wrap64 (x := y) (by omega), wrap64 (x := rd a 0) (by omega), wrap64 (x := rd a 1) (by omega), wrap64 (x := rd a 0 - 1) (by omega), wrap64 (x := rd a 1 - 1) (by omega)]
  by_cases h1 : 0 ≤ x
  · by_cases h2 : x < rd a 0
    · rw [bT (p := x ≥ 0) h1, bT h2]
      simp only [cond_true, Option.bind_some]
      rw [bT (p := x ≤ rd a 0 - 1) (by omega)]
      simp only [cond_true]
      by_cases h3 : 0 ≤ y
      · rw [bT (p := y ≥ 0) h3]
        simp only [cond_true, Option.bind_some, Bool.true_and]
        congr 1
        by_cases h4 : y < rd a 1
        · rw [bT h4, bT (by omega)]
        · rw [bF h4, bF (by omega)]
      · rw [bF (p := y ≥ 0) h3]; rfl
    · rw [bT (p := x ≥ 0) h1, bF h2]
      simp only [cond_true, Option.bind_some]
      rw [bF (p := x ≤ rd a 0 - 1) (by omega)]
      rfl
  · rw [bF (p := x ≥ 0) h1]; rfl

theorem impl_has (k : Nat) (a : List Int) (x y : Int) : impl_Lawn_has k a [x, y] = some ((decide (0 ≤ x) && decide (x < rd a 0)) && (decide (0 ≤ y) && decide (y < rd a 1))) := by
  unfold impl_Lawn_has
  have e1 : rd [x, y] 0 = x := rfl
  have e2 : rd [x, y] 1 = y := rfl
  rw [e1, e2]
  by_cases h1 : 0 ≤ x
  · rw [bT (p := x ≥ 0) h1]
    by_cases h2 : x < rd a 0
    · rw [bT h2]
      by_cases h3 : 0 ≤ y
      · rw [bT (p := y ≥ 0) h3]; rfl
      · rw [bF (p := y ≥ 0) h3]; rfl
    · rw [bF h2]; rfl
  · rw [bF (p := x ≥ 0) h1]; rfl

theorem impl_row {R : Type} (k : Nat) (K1 : Bool → Option R) (K2 : Int → List Int → Option R) {a : List Int} (ha : LawnR a) (y : Nat) (hy : y < 10) (h2 : Int) : ∀ (m x f : Nat), x + m = 10 → m < f →
    loopF (fun (rec : Int × Int × Int × (List Int) → Option R) (p : Int × Int × Int × (List Int)) => impl_ValidLawn_s0 k K1 K2 (fun h1 h2 h3 h4 => rec (h1, h2, h3, h4)) p.1 p.2.1 p.2.2.1 p.2.2.2) f ((y : Int), h2, (x : Int), a) =
      cond (rowB a y x m) (K2 h2 a) (K1 false) := by
  intro m
  induction m with
  | zero =>
    intro x f hx hf
    obtain ⟨f, rfl⟩ : ∃ g, f = g + 1 := ⟨f - 1, by omega⟩
    rw [loopF]
    dsimp only
    unfold impl_ValidLawn_s0
    rw [bF (by omega)]
    rfl
  | succ m ih =>
    intro x f hx hf
    obtain ⟨f, rfl⟩ : ∃ g, f = g + 1 := ⟨f - 1, by omega⟩
    rw [loopF]
    dsimp only
    unfold impl_ValidLawn_s0
    have hc := ha.cell (y * 10 + x) (by omega)
    have hcell : 2 + y * 10 + x = 2 + (y * 10 + x) := by omega
    rw [bT (p := (x : Int) < 10) (by omega), bT (p := (0 : Int) ≤ (y : Int)) (by omega), bT (p := (y : Int) < 10) (by omega), bT (p := (0 : Int) ≤ (x : Int)) (by omega)]
    simp only [cond_true, Bool.and_true]
    have e1 : (y : Int).toNat = y := by omega
    have e2 : (x : Int).toNat = x := by omega
    have e3 : IntKind.wrap .i8 ((x : Int) + 1) = ((x + 1 : Nat) : Int) := by rw [wrap8 (by omega)]; omega
    rw [e1, e2, e3, Nat.mul_one]
    have hrec := ih (x + 1) f (by omega) (by omega)
    simp only [rowB, cellB]
    by_cases g1 : rd a (2 + y * 10 + x) ≤ 3
    · rw [bF (p := rd a (2 + y * 10 + x) > 3) (by omega), bT g1]
      simp only [cond_false, Bool.true_and]
      by_cases g2 : rd a (2 + y * 10 + x) = 0
      · rw [g2]
        simp only [bne_self_eq_false, cond_false, decide_true, Bool.true_or, Bool.true_and]
        exact hrec
      · have : (rd a (2 + y * 10 + x) != 0) = true := by simp [g2]
        rw [this, bF g2, impl_has]
        simp only [cond_true, Option.bind_some, Bool.false_or]
        rw [bT (p := (0 : Int) ≤ (x : Int)) (by omega), bT (p := (0 : Int) ≤ (y : Int)) (by omega)]
        simp only [Bool.true_and]
        cases hq : (decide ((x : Int) < rd a 0) && decide ((y : Int) < rd a 1)) with
        | true => simp only [Bool.not_true, cond_false, Bool.true_and]; exact hrec
        | false => rfl
    · rw [bT (p := rd a (2 + y * 10 + x) > 3) (by omega), bF g1]
      rfl

theorem spec_row {R : Type} (k : Nat) (K1 : Bool → Option R) (K2 : List Int → Int → Option R) {a : List Int} (ha : LawnR a) (y : Nat) (hy : y < 10) : ∀ (m x f : Nat), x + m = 10 → m < f →
    loopF (fun (rec : (List Int) × Int × Int → Option R) (p : (List Int) × Int × Int) => spec_l01Ok_s0 k K1 K2 (fun h1 h2 h3 => rec (h1, h2, h3)) p.1 p.2.1 p.2.2) f (a, (y : Int), (x : Int)) =
      cond (rowB a y x m) (K2 a y) (K1 false) := by
  intro m
  induction m with
  | zero =>
    intro x f hx hf
    obtain ⟨f, rfl⟩ : ∃ g, f = g + 1 := ⟨f - 1, by omega⟩
    rw [loopF]
    dsimp only
    unfold spec_l01Ok_s0
    rw [bF (by omega)]
    rfl
  | succ m ih =>
    intro x f hx hf
    obtain ⟨f, rfl⟩ : ∃ g, f = g + 1 := ⟨f - 1, by omega⟩
    rw [loopF]
    dsimp only
    unfold spec_l01Ok_s0
    have hc := ha.cell (y * 10 + x) (by omega)
    have hcell : 2 + (y * 10 + x) = 2 + y * 10 + x := by omega
    rw [hcell] at hc
    rw [bT (p := (x : Int) < 10) (by omega), bT (p := (0 : Int) ≤ (y : Int)) (by omega), bT (p := (y : Int) < 10) (by omega), bT (p := (0 : Int) ≤ (x : Int)) (by omega)]
    simp only [cond_true, Bool.and_true]
    have e1 : (y : Int).toNat = y := by omega
    have e2 : (x : Int).toNat = x := by omega
    have e3 : IntKind.wrap .i8 ((x : Int) + 1) = ((x + 1 : Nat) : Int) := by rw [wrap8 (by omega)]; omega
    rw [e1, e2, e3, Nat.mul_one, wrap64 (x := rd a (2 + y * 10 + x)) (by omega)]
    have hrec := ih (x + 1) f (by omega) (by omega)
    simp only [rowB, cellB]
    have hkind : spec_l01Kind k (rd a (2 + y * 10 + x)) = some (decide (rd a (2 + y * 10 + x) ≤ 3)) := by
      unfold spec_l01Kind spec_l00In
      rw [bT (p := rd a (2 + y * 10 + x) ≥ 0) (by omega)]
      rfl
    rw [hkind]
    simp only [Option.bind_some]
    by_cases g1 : rd a (2 + y * 10 + x) ≤ 3
    · rw [bT g1]
      simp only [Bool.not_true, cond_false, Bool.true_and]
      by_cases g2 : rd a (2 + y * 10 + x) = 0
      · rw [g2]
        simp only [bne_self_eq_false, cond_false, decide_true, Bool.true_or, Bool.true_and]
        exact hrec
      · have : (rd a (2 + y * 10 + x) != 0) = true := by simp [g2]
        rw [this, bF g2, spec_is k ha (by omega) (by omega)]
        simp only [cond_true, Option.bind_some, Bool.false_or]
        rw [bT (p := (0 : Int) ≤ (x : Int)) (by omega), bT (p := (0 : Int) ≤ (y : Int)) (by omega)]
        simp only [Bool.true_and]
        cases hq : (decide ((x : Int) < rd a 0) && decide ((y : Int) < rd a 1)) with
        | true => simp only [Bool.not_true, cond_false, Bool.true_and]; exact hrec
        | false => rfl
    · rw [bF g1]
      rfl

theorem impl_rows {R : Type} (k : Nat) (hk : 10 < k) (K1 : Bool → Option R) (K2 : Option R) {a : List Int} (ha : LawnR a) : ∀ (m y f : Nat), y + m = 10 → m < f →
    loopF (fun (rec : Int × (List Int) → Option R) (p : Int × (List Int)) => impl_ValidLawn_s1 k K1 K2 (fun h1 h2 => rec (h1, h2)) p.1 p.2) f ((y : Int), a) = cond (rowsB a y m) K2 (K1 false) := by
  intro m
  induction m with
  | zero =>
    intro y f hy hf
    obtain ⟨f, rfl⟩ : ∃ g, f = g + 1 := ⟨f - 1, by omega⟩
    rw [loopF]
    dsimp only
    unfold impl_ValidLawn_s1
    rw [bF (by omega)]
    rfl
  | succ m ih =>
    intro y f hy hf
    obtain ⟨f, rfl⟩ : ∃ g, f = g + 1 := ⟨f - 1, by omega⟩
    rw [loopF]
    dsimp only
    unfold impl_ValidLawn_s1 impl_ValidLawn_l0
    rw [bT (p := (y : Int) < 10) (by omega)]
    simp only [cond_true]
    have h := impl_row k (fun y1 => K1 y1) (fun (y2 : Int) (y3 : List Int) => loopF (fun (rec : Int × (List Int) → Option R) (p : Int × (List Int)) => impl_ValidLawn_s1 k K1 K2 (fun h1 h2 => rec (h1, h2)) p.1 p.2) f (IntKind.wrap .i8 (y2 + 1), y3)) ha y (by omega) (y : Int) 10 0 k (by omega) hk
    have e3 : IntKind.wrap .i8 ((y : Int) + 1) = ((y + 1 : Nat) : Int) := by rw [wrap8 (by omega)]; omega
    rw [e3, ih (y + 1) f (by omega) (by omega)] at h
    refine Eq.trans h ?_
    simp only [rowsB]
    cases rowB a y 0 10 <;> rfl

theorem spec_rows {R : Type} (k : Nat) (hk : 10 < k) (K1 : Bool → Option R) (K2 : Option R) {a : List Int} (ha : LawnR a) : ∀ (m y f : Nat), y + m = 10 → m < f →
    loopF (fun (rec : (List Int) × Int → Option R) (p : (List Int) × Int) => spec_l01Ok_s1 k K1 K2 (fun h1 h2 => rec (h1, h2)) p.1 p.2) f (a, (y : Int)) = cond (rowsB a y m) K2 (K1 false) := by
  intro m
  induction m with
  | zero =>
    intro y f hy hf
    obtain ⟨f, rfl⟩ : ∃ g, f = g + 1 := ⟨f - 1, by omega⟩
    rw [loopF]
    dsimp only
    unfold spec_l01Ok_s1
    rw [bF (by omega)]
    rfl
  | succ m ih =>
    intro y f hy hf
    obtain ⟨f, rfl⟩ : ∃ g, f = g + 1 := ⟨f - 1, by omega⟩
    rw [loopF]
    dsimp only
    unfold spec_l01Ok_s1 spec_l01Ok_l0
    rw [bT (p := (y : Int) < 10) (by omega)]
    simp only [cond_true]
    have h := spec_row k (fun y1 => K1 y1) (fun (y2 : List Int) (y3 : Int) => loopF (fun (rec : (List Int) × Int → Option R) (p : (List Int) × Int) => spec_l01Ok_s1 k K1 K2 (fun h1 h2 => rec (h1, h2)) p.1 p.2) f (y2, IntKind.wrap .i8 (y3 + 1))) ha y (by omega) 10 0 k (by omega) hk
    have e3 : IntKind.wrap .i8 ((y : Int) + 1) = ((y + 1 : Nat) : Int) := by rw [wrap8 (by omega)]; omega
    rw [e3, ih (y + 1) f (by omega) (by omega)] at h
    refine Eq.trans h ?_
    simp only [rowsB]
    cases rowB a y 0 10 <;> rfl

theorem impl_valid (k : Nat) (hk : 10 < k) {a : List Int} (ha : LawnR a) : impl_ValidLawn k a = some (lawnB a) := by
  have hw := ha.wide
  have hh := ha.high
  unfold impl_ValidLawn impl_ValidLawn_l1 lawnB
  rw [wrap64 (x := rd a 0) (by omega), wrap64 (x := rd a 1) (by omega), impl_side, impl_side]
  simp only [Option.bind_some]
  have h := impl_rows k hk (fun y3 => some y3) (some true) ha 10 0 k (by omega) hk
  cases sideB (rd a 0) with
  | false => rfl
  | true =>
    cases sideB (rd a 1) with
    | false => rfl
    | true =>
      simp only [Bool.not_true, cond_false, Bool.true_and]
      refine Eq.trans h ?_
      cases rowsB a 0 10 <;> rfl

theorem spec_valid (k : Nat) (hk : 10 < k) {a : List Int} (ha : LawnR a) : spec_l01Ok k a = some (lawnB a) := by
  have hw := ha.wide
  have hh := ha.high
  unfold spec_l01Ok spec_l01Ok_l1 lawnB
  rw [wrap64 (x := rd a 0) (by omega), wrap64 (x := rd a 1) (by omega), spec_side, spec_side]
  simp only [Option.bind_some]
  have h := spec_rows k hk (fun y3 => some y3) (some true) ha 10 0 k (by omega) hk
  cases sideB (rd a 0) with
  | false => rfl
  | true =>
    cases sideB (rd a 1) with
    | false => rfl
    | true =>
      simp only [Bool.not_true, cond_false, Bool.true_and]
      refine Eq.trans h ?_
      cases rowsB a 0 10 <;> rfl

end Go.Proofs.Ytkblhnedillknaa.Tt
