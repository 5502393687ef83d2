/- Plain laws, joined: G0 G1 G2 G3 G4 G5 Y1 Y2 Y3 Y4a Y5 Y9a Y9 Y10 Y13 Y23 Y4 Y5b Y6 Y7 Y44. -/
import Derived.Test.YtkdpdmfkomnalaaSh
import Derived.KernelRfl
set_option linter.unusedVariables false
set_option linter.unusedSimpArgs false
namespace Go.Proofs.Ytkdpdmfkomnalaa.Tt
open Go.Ev Go



set_option maxRecDepth 100000

theorem toByteA10_eq (n : Nat) (a : List Int) : laws_toByteA10 (n + 11) a = some (rds a 0 0 10) := by kernel_rfl

theorem toByteA10A10_eq (n : Nat) (a : List Int) : laws_toByteA10A10 (n + 11) a = some (rds (win a 0 10) 0 0 10 ++ (rds (win a 10 10) 0 0 10 ++ (rds (win a 20 10) 0 0 10 ++ (rds (win a 30 10) 0 0 10 ++ (rds (win a 40 10) 0 0 10 ++ (rds (win a 50 10) 0 0 10 ++ (rds (win a 60 10) 0 0 10 ++ (rds (win a 70 10) 0 0 10 ++ (rds (win a 80 10) 0 0 10 ++ rds (win a 90 10) 0 0 10))))))))) := by kernel_rfl

theorem rds_win (a : List Int) (off : Nat) : rds (win a off 10) 0 0 10 = rds a off 0 10 := by
  have h : ∀ (n j : Nat), j + n ≤ 10 → rds (win a off 10) 0 j n = rds a off j n := by
    intro n
    induction n with
    | zero => intro j _; rfl
    | succ n ih =>
      intro j hj
      simp only [rds]
      rw [ih (j + 1) (by omega), rd_win _ _ _ _ (by omega), Nat.zero_add]
  exact h 10 0 (by omega)

theorem rds_append (a : List Int) (off : Nat) : ∀ (n m j : Nat), rds a off j n ++ rds a off (j + n) m = rds a off j (n + m) := by
  intro n
  induction n with
  | zero => intro m j; simp [rds]
  | succ n ih =>
    intro m j
    have e : n + 1 + m = (n + m) + 1 := by omega
    rw [e]
    simp only [rds, List.cons_append]
    rw [← ih m (j + 1)]
    have : j + 1 + n = j + (n + 1) := by omega
    rw [this]

theorem rds_shift (a : List Int) : ∀ (n off j : Nat), rds a off j n = rds a 0 (off + j) n := by
  intro n
  induction n with
  | zero => intro off j; rfl
  | succ n ih =>
    intro off j
    simp only [rds, Nat.zero_add]
    rw [ih off (j + 1), Nat.add_assoc]

theorem toByteA10A10_id (n : Nat) (a : List Int) (h : a.length = 100) : laws_toByteA10A10 (n + 11) a = some a := by
  rw [toByteA10A10_eq]
  have e : ∀ off, rds (win a off 10) 0 0 10 = rds a 0 off 10 := fun off => by rw [rds_win, rds_shift]; rfl
  rw [e 0, e 10, e 20, e 30, e 40, e 50, e 60, e 70, e 80, e 90]
  rw [rds_append a 0 10 10 80, rds_append a 0 10 20 70, rds_append a 0 10 30 60, rds_append a 0 10 40 50, rds_append a 0 10 50 40, rds_append a 0 10 60 30, rds_append a 0 10 70 20, rds_append a 0 10 80 10, rds_append a 0 10 90 0]
  rw [rds_all a 100 h]

theorem toLawn_id (n : Nat) (a : List Int) (h : a.length = 102) : laws_toLawn (n + 11) a = some a := by
  unfold laws_toLawn
  rw [toByteA10A10_id n (win a 2 100) (win_length _ _ _ (by omega))]
  simp only [Option.bind_some]
  congr 1
  show List.take 2 (List.set (List.set (List.replicate 102 0) 0 (rd a 0)) 1 (rd a 1)) ++ (win a 2 100 ++ List.drop 102 (List.set (List.set (List.replicate 102 0) 0 (rd a 0)) 1 (rd a 1))) = a
  have e1 : List.take 2 (List.set (List.set (List.replicate 102 0) 0 (rd a 0)) 1 (rd a 1)) = [rd a 0, rd a 1] := rfl
  have e2 : List.drop 102 (List.set (List.set (List.replicate 102 0) 0 (rd a 0)) 1 (rd a 1)) = ([] : List Int) := List.drop_eq_nil_of_le (by simp)
  rw [e1, e2, List.append_nil]
  match a, h with
  | x :: y :: r, h =>
    have hr : r.length = 100 := by simpa using h
    show x :: y :: win (x :: y :: r) 2 100 = x :: y :: r
    have : win (x :: y :: r) 2 100 = r := by
      unfold win
      simp only [List.drop_succ_cons, List.drop_zero]
      exact List.take_of_length_le (by omega)
    rw [this]



theorem wrap64 {x : Int} (h : -9223372036854775808 ≤ x ∧ x < 9223372036854775808) : IntKind.wrap .i64 x = x := by
  simp only [IntKind.wrap, IntKind.bits, IntKind.signed]
  simp
  omega

theorem wrap8 {x : Int} (h : -128 ≤ x ∧ x < 128) : IntKind.wrap .i8 x = x := by
  simp only [IntKind.wrap, IntKind.bits, IntKind.signed]
  simp
  omega

theorem cnt_two {a : List Int} {n : Nat} (h : a.length = n * 2) : cnt 2 a = n := by unfold cnt; omega

theorem bT {p : Prop} [Decidable p] (h : p) : decide p = true := decide_eq_true h
theorem bF {p : Prop} [Decidable p] (h : ¬ p) : decide p = false := decide_eq_false h

theorem drop_rd {a : List Int} {i : Nat} (h : i < a.length) : a.drop i = rd a i :: a.drop (i + 1) := by
  rw [List.drop_eq_getElem_cons h]
  simp [rd, h]



/-- A lawn's numbers are those of its kinds. -/
structure LawnR (a : List Int) : Prop where
  len : a.length = 102
  wide : -128 ≤ rd a 0 ∧ rd a 0 < 128
  high : -128 ≤ rd a 1 ∧ rd a 1 < 128
  cell : ∀ j, j < 100 → 0 ≤ rd a (2 + j) ∧ rd a (2 + j) < 256

def sideB (n : Int) : Bool := decide (1 ≤ n) && decide (n ≤ 10)

def cellB (a : List Int) (y x : Nat) : Bool := decide (rd a (2 + y * 10 + x) ≤ 3) && (decide (rd a (2 + y * 10 + x) = 0) || (decide ((x : Int) < rd a 0) && decide ((y : Int) < rd a 1)))

def rowB (a : List Int) (y : Nat) : Nat → Nat → Bool
  | _, 0 => true
  | x, m + 1 => cellB a y x && rowB a y (x + 1) m

def rowsB (a : List Int) : Nat → Nat → Bool
  | _, 0 => true
  | y, m + 1 => rowB a y 0 10 && rowsB a (y + 1) m

def lawnB (a : List Int) : Bool := sideB (rd a 0) && (sideB (rd a 1) && rowsB a 0 10)

theorem spec_side (k : Nat) (n : Int) : spec_l01Side k n = some (sideB n) := by
  unfold spec_l01Side spec_l00In sideB
  by_cases h : 1 ≤ n
  · rw [bT (p := n ≥ 1) h]; rfl
  · rw [bF (p := n ≥ 1) h]; rfl

theorem impl_side (k : Nat) (n : Int) : impl_within k n 1 10 = some (sideB n) := by
  unfold impl_within sideB
  by_cases h : 1 ≤ n
  · rw [bT h]; rfl
  · rw [bF h]; rfl

theorem spec_is (k : Nat) {a : List Int} (ha : LawnR a) {x y : Int} (hx : -128 ≤ x ∧ x < 128) (hy : -128 ≤ y ∧ y < 128) :
    spec_l01Is k a [x, y] = some ((decide (0 ≤ x) && decide (x < rd a 0)) && (decide (0 ≤ y) && decide (y < rd a 1))) := by
  have hw := ha.wide
  have hh := ha.high
  unfold spec_l01Is spec_l00In
  have e1 : rd [x, y] 0 = x := rfl
  have e2 : rd [x, y] 1 = y := rfl
  rw [e1, e2, wrap64 (x := x) (by omega), wrap64 (x := y) (by omega), wrap64 (x := rd a 0) (by omega), wrap64 (x := rd a 1) (by omega), wrap64 (x := rd a 0 - 1) (by omega), wrap64 (x := rd a 1 - 1) (by omega)]
  by_cases h1 : 0 ≤ x
  · by_cases h2 : x < rd a 0
    · rw [bT (p := x ≥ 0) h1, bT h2]
      simp only [cond_true, Option.bind_some]
      rw [bT (p := x ≤ rd a 0 - 1) (by omega)]
      simp only [cond_true]
      by_cases h3 : 0 ≤ y
      · rw [bT (p := y ≥ 0) h3]
        simp only [cond_true, Option.bind_some, Bool.true_and]
        congr 1
        by_cases h4 : y < rd a 1
        · rw [bT h4, bT (by omega)]
        · rw [bF h4, bF (by omega)]
      · rw [bF (p := y ≥ 0) h3]; rfl
    · rw [bT (p := x ≥ 0) h1, bF h2]
      simp only [cond_true, Option.bind_some]
      rw [bF (p := x ≤ rd a 0 - 1) (by omega)]
      rfl
  · rw [bF (p := x ≥ 0) h1]; rfl

theorem impl_has (k : Nat) (a : List Int) (x y : Int) : impl_Lawn_has k a [x, y] = some ((decide (0 ≤ x) && decide (x < rd a 0)) && (decide (0 ≤ y) && decide (y < rd a 1))) := by
  unfold impl_Lawn_has
  have e1 : rd [x, y] 0 = x := rfl
  have e2 : rd [x, y] 1 = y := rfl
  rw [e1, e2]
  by_cases h1 : 0 ≤ x
  · rw [bT (p := x ≥ 0) h1]
    by_cases h2 : x < rd a 0
    · rw [bT h2]
      by_cases h3 : 0 ≤ y
      · rw [bT (p := y ≥ 0) h3]; rfl
      · rw [bF (p := y ≥ 0) h3]; rfl
    · rw [bF h2]; rfl
  · rw [bF (p := x ≥ 0) h1]; rfl

theorem impl_row {R : Type} (k : Nat) (K1 : Bool → Option R) (K2 : Int → List Int → Option R) {a : List Int} (ha : LawnR a) (y : Nat) (hy : y < 10) (h2 : Int) : ∀ (m x f : Nat), x + m = 10 → m < f →
    loopF (fun (rec : Int × Int × Int × (List Int) → Option R) (p : Int × Int × Int × (List Int)) => impl_ValidLawn_s0 k K1 K2 (fun h1 h2 h3 h4 => rec (h1, h2, h3, h4)) p.1 p.2.1 p.2.2.1 p.2.2.2) f ((y : Int), h2, (x : Int), a) =
      cond (rowB a y x m) (K2 h2 a) (K1 false) := by
  intro m
  induction m with
  | zero =>
    intro x f hx hf
    obtain ⟨f, rfl⟩ : ∃ g, f = g + 1 := ⟨f - 1, by omega⟩
    rw [loopF]
    dsimp only
    unfold impl_ValidLawn_s0
    rw [bF (by omega)]
    rfl
  | succ m ih =>
    intro x f hx hf
    obtain ⟨f, rfl⟩ : ∃ g, f = g + 1 := ⟨f - 1, by omega⟩
    rw [loopF]
    dsimp only
    unfold impl_ValidLawn_s0
    have hc := ha.cell (y * 10 + x) (by omega)
    have hcell : 2 + y * 10 + x = 2 + (y * 10 + x) := by omega
    rw [bT (p := (x : Int) < 10) (by omega), bT (p := (0 : Int) ≤ (y : Int)) (by omega), bT (p := (y : Int) < 10) (by omega), bT (p := (0 : Int) ≤ (x : Int)) (by omega)]
    simp only [cond_true, Bool.and_true]
    have e1 : (y : Int).toNat = y := by omega
    have e2 : (x : Int).toNat = x := by omega
    have e3 : IntKind.wrap .i8 ((x : Int) + 1) = ((x + 1 : Nat) : Int) := by rw [wrap8 (by omega)]; omega
    rw [e1, e2, e3, Nat.mul_one]
    have hrec := ih (x + 1) f (by omega) (by omega)
    simp only [rowB, cellB]
    by_cases g1 : rd a (2 + y * 10 + x) ≤ 3
    · rw [bF (p := rd a (2 + y * 10 + x) > 3) (by omega), bT g1]
      simp only [cond_false, Bool.true_and]
      by_cases g2 : rd a (2 + y * 10 + x) = 0
      · rw [g2]
        simp only [bne_self_eq_false, cond_false, decide_true, Bool.true_or, Bool.true_and]
        exact hrec
      · have : (rd a (2 + y * 10 + x) != 0) = true := by simp [g2]
        rw [this, bF g2, impl_has]
        simp only [cond_true, Option.bind_some, Bool.false_or]
        rw [bT (p := (0 : Int) ≤ (x : Int)) (by omega), bT (p := (0 : Int) ≤ (y : Int)) (by omega)]
        simp only [Bool.true_and]
        cases hq : (decide ((x : Int) < rd a 0) && decide ((y : Int) < rd a 1)) with
        | true => simp only [Bool.not_true, cond_false, Bool.true_and]; exact hrec
        | false => rfl
    · rw [bT (p := rd a (2 + y * 10 + x) > 3) (by omega), bF g1]
      rfl

theorem spec_row {R : Type} (k : Nat) (K1 : Bool → Option R) (K2 : List Int → Int → Option R) {a : List Int} (ha : LawnR a) (y : Nat) (hy : y < 10) : ∀ (m x f : Nat), x + m = 10 → m < f →
    loopF (fun (rec : (List Int) × Int × Int → Option R) (p : (List Int) × Int × Int) => spec_l01Ok_s0 k K1 K2 (fun h1 h2 h3 => rec (h1, h2, h3)) p.1 p.2.1 p.2.2) f (a, (y : Int), (x : Int)) =
      cond (rowB a y x m) (K2 a y) (K1 false) := by
  intro m
  induction m with
  | zero =>
    intro x f hx hf
    obtain ⟨f, rfl⟩ : ∃ g, f = g + 1 := ⟨f - 1, by omega⟩
    rw [loopF]
    dsimp only
    unfold spec_l01Ok_s0
    rw [bF (by omega)]
    rfl
  | succ m ih =>
    intro x f hx hf
    obtain ⟨f, rfl⟩ : ∃ g, f = g + 1 := ⟨f - 1, by omega⟩
    rw [loopF]
    dsimp only
    unfold spec_l01Ok_s0
    have hc := ha.cell (y * 10 + x) (by omega)
    have hcell : 2 + (y * 10 + x) = 2 + y * 10 + x := by omega
    rw [hcell] at hc
    rw [bT (p := (x : Int) < 10) (by omega), bT (p := (0 : Int) ≤ (y : Int)) (by omega), bT (p := (y : Int) < 10) (by omega), bT (p := (0 : Int) ≤ (x : Int)) (by omega)]
    simp only [cond_true, Bool.and_true]
    have e1 : (y : Int).toNat = y := by omega
    have e2 : (x : Int).toNat = x := by omega
    have e3 : IntKind.wrap .i8 ((x : Int) + 1) = ((x + 1 : Nat) : Int) := by rw [wrap8 (by omega)]; omega
    rw [e1, e2, e3, Nat.mul_one, wrap64 (x := rd a (2 + y * 10 + x)) (by omega)]
    have hrec := ih (x + 1) f (by omega) (by omega)
    simp only [rowB, cellB]
    have hkind : spec_l01Kind k (rd a (2 + y * 10 + x)) = some (decide (rd a (2 + y * 10 + x) ≤ 3)) := by
      unfold spec_l01Kind spec_l00In
      rw [bT (p := rd a (2 + y * 10 + x) ≥ 0) (by omega)]
      rfl
    rw [hkind]
    simp only [Option.bind_some]
    by_cases g1 : rd a (2 + y * 10 + x) ≤ 3
    · rw [bT g1]
      simp only [Bool.not_true, cond_false, Bool.true_and]
      by_cases g2 : rd a (2 + y * 10 + x) = 0
      · rw [g2]
        simp only [bne_self_eq_false, cond_false, decide_true, Bool.true_or, Bool.true_and]
        exact hrec
      · have : (rd a (2 + y * 10 + x) != 0) = true := by simp [g2]
        rw [this, bF g2, spec_is k ha (by omega) (by omega)]
        simp only [cond_true, Option.bind_some, Bool.false_or]
        rw [bT (p := (0 : Int) ≤ (x : Int)) (by omega), bT (p := (0 : Int) ≤ (y : Int)) (by omega)]
        simp only [Bool.true_and]
        cases hq : (decide ((x : Int) < rd a 0) && decide ((y : Int) < rd a 1)) with
        | true => simp only [Bool.not_true, cond_false, Bool.true_and]; exact hrec
        | false => rfl
    · rw [bF g1]
      rfl

theorem impl_rows {R : Type} (k : Nat) (hk : 10 < k) (K1 : Bool → Option R) (K2 : Option R) {a : List Int} (ha : LawnR a) : ∀ (m y f : Nat), y + m = 10 → m < f →
    loopF (fun (rec : Int × (List Int) → Option R) (p : Int × (List Int)) => impl_ValidLawn_s1 k K1 K2 (fun h1 h2 => rec (h1, h2)) p.1 p.2) f ((y : Int), a) = cond (rowsB a y m) K2 (K1 false) := by
  intro m
  induction m with
  | zero =>
    intro y f hy hf
    obtain ⟨f, rfl⟩ : ∃ g, f = g + 1 := ⟨f - 1, by omega⟩
    rw [loopF]
    dsimp only
    unfold impl_ValidLawn_s1
    rw [bF (by omega)]
    rfl
  | succ m ih =>
    intro y f hy hf
    obtain ⟨f, rfl⟩ : ∃ g, f = g + 1 := ⟨f - 1, by omega⟩
    rw [loopF]
    dsimp only
    unfold impl_ValidLawn_s1 impl_ValidLawn_l0
    rw [bT (p := (y : Int) < 10) (by omega)]
    simp only [cond_true]
    have h := impl_row k (fun y1 => K1 y1) (fun (y2 : Int) (y3 : List Int) => loopF (fun (rec : Int × (List Int) → Option R) (p : Int × (List Int)) => impl_ValidLawn_s1 k K1 K2 (fun h1 h2 => rec (h1, h2)) p.1 p.2) f (IntKind.wrap .i8 (y2 + 1), y3)) ha y (by omega) (y : Int) 10 0 k (by omega) hk
    have e3 : IntKind.wrap .i8 ((y : Int) + 1) = ((y + 1 : Nat) : Int) := by rw [wrap8 (by omega)]; omega
    rw [e3, ih (y + 1) f (by omega) (by omega)] at h
    refine Eq.trans h ?_
    simp only [rowsB]
    cases rowB a y 0 10 <;> rfl

theorem spec_rows {R : Type} (k : Nat) (hk : 10 < k) (K1 : Bool → Option R) (K2 : Option R) {a : List Int} (ha : LawnR a) : ∀ (m y f : Nat), y + m = 10 → m < f →
    loopF (fun (rec : (List Int) × Int → Option R) (p : (List Int) × Int) => spec_l01Ok_s1 k K1 K2 (fun h1 h2 => rec (h1, h2)) p.1 p.2) f (a, (y : Int)) = cond (rowsB a y m) K2 (K1 false) := by
  intro m
  induction m with
  | zero =>
    intro y f hy hf
    obtain ⟨f, rfl⟩ : ∃ g, f = g + 1 := ⟨f - 1, by omega⟩
    rw [loopF]
    dsimp only
    unfold spec_l01Ok_s1
    rw [bF (by omega)]
    rfl
  | succ m ih =>
    intro y f hy hf
    obtain ⟨f, rfl⟩ : ∃ g, f = g + 1 := ⟨f - 1, by omega⟩
    rw [loopF]
    dsimp only
    unfold spec_l01Ok_s1 spec_l01Ok_l0
    rw [bT (p := (y : Int) < 10) (by omega)]
    simp only [cond_true]
    have h := spec_row k (fun y1 => K1 y1) (fun (y2 : List Int) (y3 : Int) => loopF (fun (rec : (List Int) × Int → Option R) (p : (List Int) × Int) => spec_l01Ok_s1 k K1 K2 (fun h1 h2 => rec (h1, h2)) p.1 p.2) f (y2, IntKind.wrap .i8 (y3 + 1))) ha y (by omega) 10 0 k (by omega) hk
    have e3 : IntKind.wrap .i8 ((y : Int) + 1) = ((y + 1 : Nat) : Int) := by rw [wrap8 (by omega)]; omega
    rw [e3, ih (y + 1) f (by omega) (by omega)] at h
    refine Eq.trans h ?_
    simp only [rowsB]
    cases rowB a y 0 10 <;> rfl

theorem impl_valid (k : Nat) (hk : 10 < k) {a : List Int} (ha : LawnR a) : impl_ValidLawn k a = some (lawnB a) := by
  have hw := ha.wide
  have hh := ha.high
  unfold impl_ValidLawn impl_ValidLawn_l1 lawnB
  rw [wrap64 (x := rd a 0) (by omega), wrap64 (x := rd a 1) (by omega), impl_side, impl_side]
  simp only [Option.bind_some]
  have h := impl_rows k hk (fun y3 => some y3) (some true) ha 10 0 k (by omega) hk
  cases sideB (rd a 0) with
  | false => rfl
  | true =>
    cases sideB (rd a 1) with
    | false => rfl
    | true =>
      simp only [Bool.not_true, cond_false, Bool.true_and]
      refine Eq.trans h ?_
      cases rowsB a 0 10 <;> rfl

theorem spec_valid (k : Nat) (hk : 10 < k) {a : List Int} (ha : LawnR a) : spec_l01Ok k a = some (lawnB a) := by
  have hw := ha.wide
  have hh := ha.high
  unfold spec_l01Ok spec_l01Ok_l1 lawnB
  rw [wrap64 (x := rd a 0) (by omega), wrap64 (x := rd a 1) (by omega), spec_side, spec_side]
  simp only [Option.bind_some]
  have h := spec_rows k hk (fun y3 => some y3) (some true) ha 10 0 k (by omega) hk
  cases sideB (rd a 0) with
  | false => rfl
  | true =>
    cases sideB (rd a 1) with
    | false => rfl
    | true =>
      simp only [Bool.not_true, cond_false, Bool.true_and]
      refine Eq.trans h ?_
      cases rowsB a 0 10 <;> rfl



def hasB (a : List Int) (x y : Int) : Bool := (decide (0 ≤ x) && decide (x < rd a 0)) && (decide (0 ≤ y) && decide (y < rd a 1))
def kindV (a : List Int) (x y : Int) : Int := rd a (2 + y.toNat * 10 + x.toNat)
def openB (a : List Int) (x y : Int) : Bool := hasB a x y && ((kindV a x y == 0) || (kindV a x y == 3))

/-- A lawn whose sides are at most ten. -/
structure LawnS (a : List Int) : Prop extends LawnR a where
  w10 : rd a 0 ≤ 10
  h10 : rd a 1 ≤ 10

theorem hasB_true {a : List Int} {x y : Int} (h : hasB a x y = true) : 0 ≤ x ∧ x < rd a 0 ∧ 0 ≤ y ∧ y < rd a 1 := by
  unfold hasB at h
  simp only [Bool.and_eq_true, decide_eq_true_eq] at h
  omega

theorem kind_range {a : List Int} (ha : LawnS a) {x y : Int} (h : hasB a x y = true) : 0 ≤ kindV a x y ∧ kindV a x y < 256 := by
  obtain ⟨h1, h2, h3, h4⟩ := hasB_true h
  have := ha.w10
  have := ha.h10
  have hc := ha.cell (y.toNat * 10 + x.toNat) (by omega)
  unfold kindV
  have e : 2 + y.toNat * 10 + x.toNat = 2 + (y.toNat * 10 + x.toNat) := by omega
  rw [e]
  exact hc

theorem spec_at (k : Nat) {a : List Int} (ha : LawnS a) {x y : Int} (h : hasB a x y = true) : spec_l01At k a [x, y] = some (kindV a x y) := by
  obtain ⟨h1, h2, h3, h4⟩ := hasB_true h
  have := ha.w10
  have := ha.h10
  have hr := kind_range ha h
  unfold spec_l01At
  have e1 : rd [x, y] 0 = x := rfl
  have e2 : rd [x, y] 1 = y := rfl
  rw [e1, e2, bT (p := 0 ≤ y) h3, bT (p := y < 10) (by omega), bT (p := 0 ≤ x) h1, bT (p := x < 10) (by omega)]
  simp only [Bool.and_true, cond_true, Nat.mul_one]
  have e : rd a (2 + y.toNat * 10 + x.toNat) = kindV a x y := rfl
  rw [e, wrap64 (by omega)]

theorem impl_kind (k : Nat) {a : List Int} (ha : LawnS a) {x y : Int} (h : hasB a x y = true) : impl_Lawn_kind k a [x, y] = some (kindV a x y) := spec_at k ha h

theorem impl_is (k : Nat) {a : List Int} (ha : LawnS a) (x y v : Int) : impl_Lawn_is k a [x, y] v = some (hasB a x y && (kindV a x y == v)) := by
  unfold impl_Lawn_is
  have e : impl_Lawn_has k a [rd [x, y] 0, rd [x, y] 1] = some (hasB a x y) := impl_has k a x y
  rw [e]
  cases h : hasB a x y with
  | false => rfl
  | true =>
    simp only [Option.bind_some, cond_true, Bool.true_and]
    have e2 : impl_Lawn_kind k a [rd [x, y] 0, rd [x, y] 1] = some (kindV a x y) := impl_kind k ha h
    rw [e2]
    rfl



/-- A loop whose states are told by a number i, with m rounds left. -/
theorem loopF_go {S R : Type} {step : (S → Option R) → S → Option R} (σ : Nat → S) (V : Nat → Nat → Option R) (n : Nat)
    (h0 : ∀ rec : S → Option R, step rec (σ n) = V n 0)
    (hs : ∀ i m, i + (m + 1) = n → ∀ rec : S → Option R, rec (σ (i + 1)) = V (i + 1) m → step rec (σ i) = V i (m + 1)) :
    ∀ m i f, i + m = n → m < f → loopF step f (σ i) = V i m := by
  intro m
  induction m with
  | zero =>
    intro i f hi hf
    obtain ⟨f, rfl⟩ : ∃ g, f = g + 1 := ⟨f - 1, by omega⟩
    have : i = n := by omega
    subst this
    rw [loopF]
    exact h0 _
  | succ m ih =>
    intro i f hi hf
    obtain ⟨f, rfl⟩ : ∃ g, f = g + 1 := ⟨f - 1, by omega⟩
    rw [loopF]
    exact hs i m hi _ (ih (i + 1) f (by omega) (by omega))

/-- A loop with a bound that falls. -/
theorem loopF_wf {S R : Type} {step : (S → Option R) → S → Option R} (Inv : S → Prop) (μ : S → Nat) (V : S → Option R)
    (hs : ∀ s, Inv s → ∀ rec : S → Option R, (∀ s', Inv s' → μ s' < μ s → rec s' = V s') → step rec s = V s) : ∀ f s, Inv s → μ s < f → loopF step f s = V s := by
  intro f
  induction f with
  | zero => intro s _ h; omega
  | succ f ih =>
    intro s hi hf
    rw [loopF]
    exact hs s hi _ fun s' hi' hm => ih s' hi' (by omega)

/-! ## Pairs -/

def fl : List (Int × Int) → List Int
  | [] => []
  | (x, y) :: r => x :: y :: fl r

theorem fl_length : ∀ (L : List (Int × Int)), (fl L).length = L.length * 2 := by
  intro L
  induction L with
  | nil => rfl
  | cons p r ih => obtain ⟨x, y⟩ := p; simp only [fl, List.length_cons, ih]; omega

theorem fl_append : ∀ (L R : List (Int × Int)), fl (L ++ R) = fl L ++ fl R := by
  intro L R
  induction L with
  | nil => rfl
  | cons p r ih => obtain ⟨x, y⟩ := p; simp [fl, ih]

theorem cnt_fl (L : List (Int × Int)) : cnt 2 (fl L) = L.length := cnt_two (fl_length L)

theorem fl_x : ∀ (L : List (Int × Int)) (i : Nat), rd (fl L) (i * 2) = (L.getD i (0, 0)).1 := by
  intro L
  induction L with
  | nil => intro i; simp [fl, rd]
  | cons p r ih =>
    obtain ⟨x, y⟩ := p
    intro i
    cases i with
    | zero => rfl
    | succ i =>
      have e : (i + 1) * 2 = i * 2 + 1 + 1 := by omega
      rw [e]
      show rd (fl r) (i * 2) = _
      rw [ih]
      rfl

theorem fl_y : ∀ (L : List (Int × Int)) (i : Nat), rd (fl L) (i * 2 + 1) = (L.getD i (0, 0)).2 := by
  intro L
  induction L with
  | nil => intro i; simp [fl, rd]
  | cons p r ih =>
    obtain ⟨x, y⟩ := p
    intro i
    cases i with
    | zero => rfl
    | succ i =>
      have e : (i + 1) * 2 + 1 = i * 2 + 1 + 1 + 1 := by omega
      rw [e]
      show rd (fl r) (i * 2 + 1) = _
      rw [ih]
      rfl

/-! ## All cells of a lawn -/

def rowC (y : Nat) (w : Nat) : List (Int × Int) := (List.range w).map fun (x : Nat) => ((x : Int), (y : Int))
def allC (w h : Nat) : List (Int × Int) := (List.range h).flatMap fun (y : Nat) => rowC y w

theorem rowC_succ (y w : Nat) : rowC y (w + 1) = rowC y w ++ [((w : Int), (y : Int))] := by simp [rowC, List.range_succ]
theorem allC_succ (w h : Nat) : allC w (h + 1) = allC w h ++ rowC h w := by simp [allC, List.range_succ]
theorem allC_length (w h : Nat) : (allC w h).length = h * w := by
  induction h with
  | zero => simp [allC]
  | succ h ih => rw [allC_succ, List.length_append, ih, Nat.succ_mul]; simp [rowC]

theorem allC_mem {w h : Nat} {p : Int × Int} : p ∈ allC w h ↔ (0 ≤ p.1 ∧ p.1 < w ∧ 0 ≤ p.2 ∧ p.2 < h) := by
  obtain ⟨x, y⟩ := p
  simp only [allC, rowC, List.mem_flatMap, List.mem_range, List.mem_map, Prod.mk.injEq]
  constructor
  · rintro ⟨i, hi, j, hj, rfl, rfl⟩; omega
  · rintro ⟨h1, h2, h3, h4⟩
    exact ⟨y.toNat, by omega, x.toNat, by omega, by omega, by omega⟩

theorem rowC_length (y w : Nat) : (rowC y w).length = w := by simp [rowC]

theorem take_getD {α : Type} (L : List α) (d : α) {i : Nat} (h : i < L.length) : L.take (i + 1) = L.take i ++ [L.getD i d] := by
  rw [List.take_add_one, List.getD_eq_getElem?_getD]
  simp [h]

theorem getD_mem {α : Type} (L : List α) (d : α) {i : Nat} (h : i < L.length) : L.getD i d ∈ L := by
  simp [List.getD_eq_getElem?_getD, h]

theorem bigLen_val : bigLen = 4294967296 := rfl

/-- A lawn that is right, with its sides. -/
structure LawnV (a : List Int) (w h : Nat) : Prop extends LawnS a where
  wv : rd a 0 = (w : Int)
  hv : rd a 1 = (h : Int)
  w1 : 1 ≤ w
  h1 : 1 ≤ h

theorem LawnV.wle {a : List Int} {w h : Nat} (v : LawnV a w h) : w ≤ 10 := by have := v.wv; have := v.w10; omega
theorem LawnV.hle {a : List Int} {w h : Nat} (v : LawnV a w h) : h ≤ 10 := by have := v.hv; have := v.h10; omega

theorem lawnS_of' {a : List Int} (ha : LawnR a) (h : lawnB a = true) : LawnS a := by
  unfold lawnB sideB at h
  simp only [Bool.and_eq_true, decide_eq_true_eq] at h
  exact ⟨ha, h.1.2, h.2.1.2⟩

theorem lawnV_of {a : List Int} (ha : LawnR a) (h : lawnB a = true) : ∃ w h, LawnV a w h := by
  unfold lawnB sideB at h
  simp only [Bool.and_eq_true, decide_eq_true_eq] at h
  exact ⟨(rd a 0).toNat, (rd a 1).toNat, ⟨⟨ha, h.1.2, h.2.1.2⟩, by omega, by omega, by omega, by omega⟩⟩

/-! ## All cells -/



theorem spec_all_row {R : Type} (k : Nat) (K1 : (List Int) → Int → (List Int) → Option R) {a : List Int} {w h : Nat} (v : LawnV a w h) (y : Nat) (o : List Int) (ho : o.length ≤ 1000) (hk : w < k) :
    spec_l01All_l0 k K1 a (y : Int) 0 o = K1 a y (o ++ fl (rowC y w)) := by
  have hw := v.wv
  have hl := v.wle
  unfold spec_l01All_l0
  have := loopF_go (R := R) (step := fun (rec : (List Int) × Int × Int × (List Int) → Option R) (p : (List Int) × Int × Int × (List Int)) => spec_l01All_s0 k K1 (fun h1 h2 h3 h4 => rec (h1, h2, h3, h4)) p.1 p.2.1 p.2.2.1 p.2.2.2)
    (fun i => (a, (y : Int), (i : Int), o ++ fl (rowC y i))) (fun _ _ => K1 a y (o ++ fl (rowC y w))) w ?_ ?_ w 0 k (by omega) hk
  · simpa [rowC, fl] using this
  · intro rec
    dsimp only
    unfold spec_l01All_s0
    simp (disch := omega) only [hw, bF, cond_false]
  · intro i m hi rec hrec
    dsimp only at hrec ⊢
    unfold spec_l01All_s0
    simp (disch := omega) only [hw, bT, cond_true, List.length_append, fl_length, rowC_length, bigLen_val, wrap8]
    rw [rowC_succ, fl_append, ← List.append_assoc] at hrec
    exact hrec

theorem spec_all (k : Nat) {a : List Int} {w h : Nat} (v : LawnV a w h) (hk : 10 < k) : spec_l01All k a = some (fl (allC w h)) := by
  have hh := v.hv
  have hl := v.hle
  have hwl := v.wle
  unfold spec_l01All spec_l01All_l1
  have := loopF_go (step := fun (rec : (List Int) × Int × (List Int) → Option (List Int)) (p : (List Int) × Int × (List Int)) => spec_l01All_s1 k (fun y1 => some y1) (fun h1 h2 h3 => rec (h1, h2, h3)) p.1 p.2.1 p.2.2)
    (fun i => (a, (i : Int), fl (allC w i))) (fun _ _ => some (fl (allC w h))) h ?_ ?_ h 0 k (by omega) (by omega)
  · exact this
  · intro rec
    dsimp only
    unfold spec_l01All_s1
    simp (disch := omega) only [hh, bF, cond_false]
  · intro i m hi rec hrec
    dsimp only at hrec ⊢
    unfold spec_l01All_s1
    have hlen : (fl (allC w i)).length ≤ 1000 := by
      rw [fl_length, allC_length]
      have := Nat.mul_le_mul (show i ≤ 10 by omega) hwl
      omega
    rw [spec_all_row k _ v i _ hlen (by omega)]
    simp (disch := omega) only [hh, bT, cond_true, wrap8]
    rw [allC_succ, fl_append] at hrec
    exact hrec

theorem impl_all_row {R : Type} (k : Nat) (K1 : Int → Int → (List Int) → (List Int) → Option R) {a : List Int} {w h : Nat} (hl : w ≤ 10) (y : Nat) (q r : Int) (o : List Int) (ho : o.length ≤ 1000) (hk : w < k) :
    impl_Lawn_all_l0 k K1 (y : Int) q r (w : Int) 0 a o = K1 q r a (o ++ fl (rowC y w)) := by
  unfold impl_Lawn_all_l0
  have := loopF_go (R := R) (step := fun (rec : Int × Int × Int × Int × Int × (List Int) × (List Int) → Option R) (p : Int × Int × Int × Int × Int × (List Int) × (List Int)) => impl_Lawn_all_s0 k K1 (fun h1 h2 h3 h4 h5 h6 h7 => rec (h1, h2, h3, h4, h5, h6, h7)) p.1 p.2.1 p.2.2.1 p.2.2.2.1 p.2.2.2.2.1 p.2.2.2.2.2.1 p.2.2.2.2.2.2)
    (fun i => ((y : Int), q, r, (w : Int), (i : Int), a, o ++ fl (rowC y i))) (fun _ _ => K1 q r a (o ++ fl (rowC y w))) w ?_ ?_ w 0 k (by omega) hk
  · simpa [rowC, fl] using this
  · intro rec
    dsimp only
    unfold impl_Lawn_all_s0
    simp (disch := omega) only [bF, cond_false]
  · intro i m hi rec hrec
    dsimp only at hrec ⊢
    unfold impl_Lawn_all_s0
    simp (disch := omega) only [bT, cond_true, List.length_append, fl_length, rowC_length, bigLen_val, wrap8]
    rw [rowC_succ, fl_append, ← List.append_assoc] at hrec
    exact hrec

theorem impl_all (k : Nat) {a : List Int} {w h : Nat} (v : LawnV a w h) (hk : 10 < k) : impl_Lawn_all k a = some (fl (allC w h)) := by
  have hh := v.hv
  have hw := v.wv
  have hl := v.hle
  have hwl := v.wle
  unfold impl_Lawn_all impl_Lawn_all_l1
  rw [hh]
  have := loopF_go (step := fun (rec : Int × Int × (List Int) × (List Int) → Option (List Int)) (p : Int × Int × (List Int) × (List Int)) => impl_Lawn_all_s1 k (fun y1 => some y1) (fun h1 h2 h3 h4 => rec (h1, h2, h3, h4)) p.1 p.2.1 p.2.2.1 p.2.2.2)
    (fun i => ((h : Int), (i : Int), a, fl (allC w i))) (fun _ _ => some (fl (allC w h))) h ?_ ?_ h 0 k (by omega) (by omega)
  · exact this
  · intro rec
    dsimp only
    unfold impl_Lawn_all_s1
    simp (disch := omega) only [bF, cond_false]
  · intro i m hi rec hrec
    dsimp only at hrec ⊢
    unfold impl_Lawn_all_s1
    have hlen : (fl (allC w i)).length ≤ 1000 := by
      rw [fl_length, allC_length]
      have := Nat.mul_le_mul (show i ≤ 10 by omega) hwl
      omega
    rw [hw, impl_all_row (h := h) k _ hwl i _ _ _ hlen (by omega)]
    simp (disch := omega) only [bT, cond_true, wrap8]
    rw [allC_succ, fl_append] at hrec
    exact hrec

/-! ## Grass -/

def grassB (a : List Int) (x y : Int) : Bool := hasB a x y && (kindV a x y == 0)

theorem impl_grass (k : Nat) {a : List Int} (ha : LawnS a) (x y : Int) : impl_Lawn_grass k a [x, y] = some (grassB a x y) := by
  unfold impl_Lawn_grass grassB
  have e : impl_Lawn_is k a [rd [x, y] 0, rd [x, y] 1] 0 = some (hasB a x y && (kindV a x y == 0)) := impl_is k ha x y 0
  rw [e]
  rfl

theorem grass_range {a : List Int} (ha : LawnS a) {x y : Int} (h : grassB a x y = true) : 0 ≤ x ∧ x < rd a 0 ∧ 0 ≤ y ∧ y < rd a 1 := by
  unfold grassB at h
  rw [Bool.and_eq_true] at h
  exact hasB_true h.1




theorem eqT {a b : Int} (h : a = b) : (a == b) = true := by simp [h]
theorem eqF {a b : Int} (h : a ≠ b) : (a == b) = false := by simp [h]
theorem neT {a b : Int} (h : a ≠ b) : (a != b) = true := by simp [h]
theorem neF {a b : Int} (h : a = b) : (a != b) = false := by simp [h]

theorem tdiv2 {d : Int} (h : 0 ≤ d) : Int.tdiv d 2 = d / 2 := Int.tdiv_eq_ediv_of_nonneg h

def findI {α : Type} (g : α → Bool) : List α → Nat → Int
  | [], _ => -1
  | p :: r, i => cond (g p) (i : Int) (findI g r (i + 1))

theorem findI_any {α : Type} (g : α → Bool) : ∀ (L : List α) (i : Nat), decide (findI g L i ≥ 0) = L.any g := by
  intro L
  induction L with
  | nil => intro i; rfl
  | cons p r ih =>
    intro i
    simp only [findI, List.any_cons]
    have := ih (i + 1)
    by_cases h : g p = true
    · simp [h]
    · simpa [h] using this

theorem drop_getD {α : Type} (L : List α) (d : α) {i : Nat} (h : i < L.length) : L.drop i = L.getD i d :: L.drop (i + 1) := by
  rw [List.drop_eq_getElem_cons h]
  simp [List.getD_eq_getElem?_getD, h]

theorem indexFunc_cells (k : Nat) (L : List (Int × Int)) (f : List Int → Option Bool) (g : Int × Int → Bool) (hf : ∀ p ∈ L, f [p.1, p.2] = some (g p)) (hL : L.length ≤ 1048576) (hk : L.length < k) :
    slices_IndexFunc_impl_Cell k (fl L) f = some (findI g L 0) := by
  unfold slices_IndexFunc_impl_Cell slices_IndexFunc_impl_Cell_l0
  rw [cnt_fl]
  have := loopF_go (step := fun (rec : (List Int) × (List Int → Option Bool) × Int × Int → Option Int) (p : (List Int) × (List Int → Option Bool) × Int × Int) => slices_IndexFunc_impl_Cell_s0 k (fun y1 => some y1) (some (-1)) (fun h1 h2 h3 h4 => rec (h1, h2, h3, h4)) p.1 p.2.1 p.2.2.1 p.2.2.2)
    (fun i => (fl L, f, (L.length : Int), (i : Int))) (fun i _ => some (findI g (L.drop i) i)) L.length ?_ ?_ L.length 0 k (by omega) hk
  · exact this
  · intro rec
    dsimp only
    unfold slices_IndexFunc_impl_Cell_s0
    simp (disch := omega) only [bF, cond_false, List.drop_length, findI]
  · intro i m hi rec hrec
    dsimp only at hrec ⊢
    unfold slices_IndexFunc_impl_Cell_s0
    have hm := hf _ (getD_mem L (0, 0) (show i < L.length by omega))
    rw [drop_getD L (0, 0) (show i < L.length by omega)]
    simp (disch := omega) only [bT, cond_true, cnt_fl, Bool.and_true, Int.toNat_natCast, fl_x, fl_y, hm, Option.bind_some, wrap64, findI]
    cases g (L.getD i (0, 0)) with
    | true => rfl
    | false => simp only [cond_false]; exact hrec

theorem containsFunc_cells (k : Nat) (L : List (Int × Int)) (f : List Int → Option Bool) (g : Int × Int → Bool) (hf : ∀ p ∈ L, f [p.1, p.2] = some (g p)) (hL : L.length ≤ 1048576) (hk : L.length < k) :
    slices_ContainsFunc_impl_Cell k (fl L) f = some (L.any g) := by
  unfold slices_ContainsFunc_impl_Cell
  rw [indexFunc_cells k L f g hf hL hk]
  simp only [Option.bind_some]
  rw [findI_any]

/-! ## Cells 0 to 9, of whatever lawn -/

theorem spec_at10 (k : Nat) {a : List Int} (ha : LawnR a) {x y : Int} (hx : 0 ≤ x ∧ x < 10) (hy : 0 ≤ y ∧ y < 10) : spec_l01At k a [x, y] = some (kindV a x y) := by
  have hc := ha.cell (y.toNat * 10 + x.toNat) (by omega)
  have e : 2 + (y.toNat * 10 + x.toNat) = 2 + y.toNat * 10 + x.toNat := by omega
  rw [e] at hc
  unfold spec_l01At
  have e1 : rd [x, y] 0 = x := rfl
  have e2 : rd [x, y] 1 = y := rfl
  rw [e1, e2]
  simp (disch := omega) only [bT, cond_true, Bool.and_true, Nat.mul_one, wrap64]
  rfl

theorem impl_grass10 (k : Nat) {a : List Int} (ha : LawnR a) {x y : Int} (hx : 0 ≤ x ∧ x < 10) (hy : 0 ≤ y ∧ y < 10) : impl_Lawn_grass k a [x, y] = some (grassB a x y) := by
  unfold impl_Lawn_grass impl_Lawn_is grassB
  have e : impl_Lawn_has k a [rd [rd [x, y] 0, rd [x, y] 1] 0, rd [rd [x, y] 0, rd [x, y] 1] 1] = some (hasB a x y) := impl_has k a x y
  rw [e]
  cases h : hasB a x y with
  | false => rfl
  | true =>
    have e2 : impl_Lawn_kind k a [rd [rd [x, y] 0, rd [x, y] 1] 0, rd [rd [x, y] 0, rd [x, y] 1] 1] = some (kindV a x y) := spec_at10 k ha hx hy
    simp only [Option.bind_some, cond_true, e2, Bool.true_and]

theorem spec_in (k : Nat) (n lo hi : Int) : spec_l00In k n lo hi = some (decide (lo ≤ n) && decide (n ≤ hi)) := by
  unfold spec_l00In
  by_cases h : lo ≤ n
  · rw [bT (p := n ≥ lo) h]; rfl
  · rw [bF (p := n ≥ lo) h]; rfl

theorem impl_in (k : Nat) (n lo hi : Int) : impl_within k n lo hi = some (decide (lo ≤ n) && decide (n ≤ hi)) := by
  unfold impl_within
  by_cases h : lo ≤ n
  · rw [bT h]; rfl
  · rw [bF h]; rfl



theorem fl_set : ∀ (B : List (Int × Int)) (i : Nat) (x y : Int), i < B.length → setWin (fl B) (i * 2) 2 [x, y] = fl (B.set i (x, y)) := by
  intro B
  induction B with
  | nil => intro i x y h; simp at h
  | cons p r ih =>
    intro i x y h
    obtain ⟨px, py⟩ := p
    cases i with
    | zero => simp [setWin, fl]
    | succ i =>
      have := ih i x y (by simpa using h)
      unfold setWin at this ⊢
      have e1 : (i + 1) * 2 = i * 2 + 1 + 1 := by omega
      have e2 : (i + 1) * 2 + 2 = i * 2 + 2 + 1 + 1 := by omega
      rw [e1]
      simp only [fl, List.set_cons_succ, List.take_succ_cons, List.drop_succ_cons, List.cons_append]
      simpa using this

theorem fl_take : ∀ (B : List (Int × Int)) (i : Nat), (fl B).take (i * 2) = fl (B.take i) := by
  intro B
  induction B with
  | nil => intro i; simp [fl]
  | cons p r ih =>
    intro i
    obtain ⟨px, py⟩ := p
    cases i with
    | zero => rfl
    | succ i =>
      have e1 : (i + 1) * 2 = i * 2 + 1 + 1 := by omega
      rw [e1]
      simp only [fl, List.take_succ_cons, ih]

/-- DeleteFunc's list and how many it has kept, once it has looked at n. -/
def dB (g : Int × Int → Bool) (L : List (Int × Int)) : Nat → List (Int × Int) × Nat
  | 0 => (L, 0)
  | n + 1 => cond (g (L.getD n (0, 0))) (dB g L n) ((dB g L n).1.set (dB g L n).2 (L.getD n (0, 0)), (dB g L n).2 + 1)

theorem dB_inv (g : Int × Int → Bool) (L : List (Int × Int)) : ∀ n, n ≤ L.length → (dB g L n).1.length = L.length ∧ (dB g L n).2 ≤ n ∧ (dB g L n).1.take (dB g L n).2 = (L.take n).filter (fun p => !(g p)) ∧ (dB g L n).1.drop n = L.drop n := by
  intro n
  induction n with
  | zero => intro _; simp [dB]
  | succ n ih =>
    intro hn
    obtain ⟨h1, h2, h3, h4⟩ := ih (by omega)
    have hd : (dB g L n).1.drop (n + 1) = L.drop (n + 1) := by
      have := congrArg (List.drop 1) h4
      simpa [List.drop_drop, Nat.add_comm] using this
    rw [take_getD L (0, 0) (show n < L.length by omega), List.filter_append]
    simp only [dB]
    cases hg : g (L.getD n (0, 0)) with
    | true =>
      simp only [cond_true, List.filter_cons, hg, Bool.not_true, Bool.false_eq_true, if_false, List.filter_nil, List.append_nil]
      exact ⟨h1, by omega, h3, hd⟩
    | false =>
      simp only [cond_false, List.filter_cons, hg, Bool.not_false, if_true, List.filter_nil]
      refine ⟨by rw [List.length_set]; exact h1, by omega, ?_, ?_⟩
      · rw [List.take_add_one, List.take_set, h3, List.getElem?_set_self (by omega)]
        have : ((L.take n).filter fun p => !(g p)).length ≤ (dB g L n).2 := by rw [← h3, List.length_take]; omega
        rw [List.set_eq_of_length_le this]
        rfl
      · rw [List.drop_set_of_lt (by omega)]
        exact hd

theorem dB_start (g : Int × Int → Bool) (L : List (Int × Int)) : ∀ n, n ≤ L.length → (∀ i, i < n → g (L.getD i (0, 0)) = false) → dB g L n = (L, n) := by
  intro n
  induction n with
  | zero => intro _ _; rfl
  | succ n ih =>
    intro hn h
    simp only [dB]
    rw [ih (by omega) (fun i hi => h i (by omega)), h n (by omega)]
    simp only [cond_false]
    congr 1
    rw [List.getD_eq_getElem?_getD, List.getElem?_eq_getElem (show n < L.length by omega)]
    simp

theorem findI_spec {α : Type} (g : α → Bool) (d : α) : ∀ (L : List α) (i : Nat), (findI g L i = -1 ∧ ∀ p ∈ L, g p = false) ∨ ∃ j, j < L.length ∧ findI g L i = ((i + j : Nat) : Int) ∧ g (L.getD j d) = true ∧ ∀ t, t < j → g (L.getD t d) = false := by
  intro L
  induction L with
  | nil => intro i; exact .inl ⟨rfl, by simp⟩
  | cons p r ih =>
    intro i
    simp only [findI]
    cases hg : g p with
    | true => exact .inr ⟨0, by simp, rfl, hg, fun t ht => by omega⟩
    | false =>
      simp only [cond_false]
      rcases ih (i + 1) with ⟨h1, h2⟩ | ⟨j, h1, h2, h3, h4⟩
      · refine .inl ⟨h1, fun q hq => ?_⟩
        rcases List.mem_cons.1 hq with rfl | hq
        · exact hg
        · exact h2 q hq
      · refine .inr ⟨j + 1, by simp; omega, by rw [h2]; omega, by simpa using h3, fun t ht => ?_⟩
        cases t with
        | zero => simpa using hg
        | succ t => simpa using h4 t (by omega)

theorem win_setWin {l m : List Int} {off n : Nat} (h : off ≤ l.length) : win (setWin l off n m) 0 off = l.take off := by
  unfold win setWin
  rw [List.drop_zero, List.take_append_of_le_length (by rw [List.length_take]; omega), List.take_take, Nat.min_self]

theorem cnt_setWin {l : List Int} {i n : Nat} (h : l.length = n * 2) (hi : i ≤ n) : cnt 2 (setWin l (i * 2) ((n - i) * 2) (List.replicate ((n - i) * 2) 0)) = n := by
  apply cnt_two
  unfold setWin
  simp
  omega

theorem deleteFunc_cells (k : Nat) (L : List (Int × Int)) (f : List Int → Option Bool) (g : Int × Int → Bool) (hf : ∀ p ∈ L, f [p.1, p.2] = some (g p)) (hL : L.length ≤ 1048576) (hk : L.length < k) :
    slices_DeleteFunc_impl_Cell k (fl L) f = some (fl (L.filter fun p => !(g p))) := by
  unfold slices_DeleteFunc_impl_Cell
  rw [indexFunc_cells k L f g hf hL hk]
  simp only [Option.bind_some]
  rcases findI_spec g (0, 0) L 0 with ⟨h1, h2⟩ | ⟨j, h1, h2, h3, h4⟩
  · rw [h1]
    have : L.filter (fun p => !(g p)) = L := List.filter_eq_self.2 fun p hp => by rw [h2 p hp]; rfl
    rw [this]
    rfl
  · rw [h2]
    simp (disch := omega) only [eqF, cond_false, wrap64, Nat.zero_add]
    unfold slices_DeleteFunc_impl_Cell_l0
    have key := loopF_go (R := List Int) (step := fun (rec : (List Int → Option Bool) × Int × Int × (List Int) → Option (List Int)) (p : (List Int → Option Bool) × Int × Int × (List Int)) => slices_DeleteFunc_impl_Cell_s0 k (fun y2 y3 =>
          cond ((decide (0 ≤ y2)) && (decide (y2 ≤ ((cnt 2 y3) : Int))))
            (cond ((decide (0 ≤ y2)) && (decide (y2 ≤ ((cnt 2 (setWin y3 (y2.toNat * 2) (((cnt 2 y3) - y2.toNat) * 2) (List.replicate (((cnt 2 y3) - y2.toNat) * 2) 0))) : Int))))
              (some (win (setWin y3 (y2.toNat * 2) (((cnt 2 y3) - y2.toNat) * 2) (List.replicate (((cnt 2 y3) - y2.toNat) * 2) 0)) 0 (y2.toNat * 2)))
              none)
            none) (fun h1 h2 h3 h4 => rec (h1, h2, h3, h4)) p.1 p.2.1 p.2.2.1 p.2.2.2)
      (fun i => (f, ((dB g L i).2 : Int), (i : Int), fl (dB g L i).1)) (fun _ _ => some (fl (L.filter fun p => !(g p)))) L.length ?_ ?_ (L.length - (j + 1)) (j + 1) k (by omega) (by omega)
    · have e : dB g L (j + 1) = (L, j) := by
        simp only [dB]
        rw [h3, dB_start g L j (by omega) h4]
        rfl
      rw [e] at key
      have ej : ((j + 1 : Nat) : Int) = (j : Int) + 1 := by omega
      rw [ej] at key
      exact key
    · intro rec
      dsimp only
      unfold slices_DeleteFunc_impl_Cell_s0
      obtain ⟨i1, i2, i3, i4⟩ := dB_inv g L L.length (Nat.le_refl _)
      rw [List.take_length] at i3
      generalize dB g L L.length = s at i1 i2 i3 i4 ⊢
      simp (disch := omega) only [cnt_fl, i1, bF, cond_false, bT, Bool.and_true, cond_true, Int.toNat_natCast]
      rw [cnt_setWin (by rw [fl_length, i1]) i2]
      simp (disch := omega) only [bT, Bool.and_true, cond_true]
      rw [win_setWin (by rw [fl_length]; omega), fl_take, i3]
    · intro i m hi rec hrec
      dsimp only at hrec ⊢
      unfold slices_DeleteFunc_impl_Cell_s0
      have hil : i < L.length := by omega
      obtain ⟨i1, i2, i3, i4⟩ := dB_inv g L i (by omega)
      have hm := hf _ (getD_mem L (0, 0) hil)
      have hd : (dB g L i).1.getD i (0, 0) = L.getD i (0, 0) := by
        have := congrArg (fun q => q[0]?) i4
        simp only [List.getElem?_drop, Nat.add_zero] at this
        rw [List.getD_eq_getElem?_getD, List.getD_eq_getElem?_getD, this]
      simp only [dB] at hrec
      generalize dB g L i = s at i1 i2 i3 i4 hd hrec ⊢
      simp (disch := omega) only [cnt_fl, i1, bT, cond_true, Bool.and_true, Int.toNat_natCast, fl_x, fl_y, hd, hm, Option.bind_some, wrap64]
      cases hg : g (L.getD i (0, 0)) with
      | true =>
        rw [hg] at hrec
        simp only [Bool.not_true, cond_false]
        exact hrec
      | false =>
        rw [hg] at hrec
        simp only [Bool.not_false, cond_true]
        rw [fl_set _ _ _ _ (by omega)]
        exact hrec

theorem allC_small {a : List Int} {w h : Nat} (v : LawnV a w h) : (allC w h).length ≤ 100 := by
  rw [allC_length]
  have := Nat.mul_le_mul v.hle v.wle
  omega

theorem impl_those (k : Nat) {a : List Int} {w h : Nat} (v : LawnV a w h) (f : List Int → Option Bool) (g : Int × Int → Bool) (hf : ∀ p ∈ allC w h, f [p.1, p.2] = some (g p)) (hk : 101 < k) :
    impl_Lawn_those k a f = some (fl ((allC w h).filter g)) := by
  have hs := allC_small v
  unfold impl_Lawn_those
  rw [impl_all k v (by omega)]
  simp only [Option.bind_some]
  rw [deleteFunc_cells k (allC w h) _ (fun p => !(g p)) (fun p hp => by
    unfold impl_Lawn_those_1
    rw [show f [rd [rd [p.1, p.2] 0, rd [p.1, p.2] 1] 0, rd [rd [p.1, p.2] 0, rd [p.1, p.2] 1] 1] = some (g p) from hf p hp]
    rfl) (by omega) (by omega)]
  simp only [Option.bind_some, Bool.not_not]

theorem hasB_all {a : List Int} {w h : Nat} (v : LawnV a w h) {p : Int × Int} (hp : p ∈ allC w h) : hasB a p.1 p.2 = true := by
  have := allC_mem.1 hp
  have := v.wv
  have := v.hv
  unfold hasB
  simp (disch := omega) only [bT, Bool.and_true]

theorem spec_cells (k : Nat) {a : List Int} {w h : Nat} (v : LawnV a w h) (n : Int) (hk : 101 < k) : spec_l01Cells k a n = some (fl ((allC w h).filter fun p => kindV a p.1 p.2 == n)) := by
  have hs := allC_small v
  unfold spec_l01Cells
  rw [spec_all k v (by omega)]
  simp only [Option.bind_some]
  unfold spec_l01Cells_l0
  have := loopF_go (step := fun (rec : (List Int) × Int × Int × (List Int) × (List Int) → Option (List Int)) (p : (List Int) × Int × Int × (List Int) × (List Int)) => spec_l01Cells_s0 k (fun y2 => some y2) (fun h1 h2 h3 h4 h5 => rec (h1, h2, h3, h4, h5)) p.1 p.2.1 p.2.2.1 p.2.2.2.1 p.2.2.2.2)
    (fun i => (a, n, (i : Int), fl (((allC w h).take i).filter fun p => kindV a p.1 p.2 == n), fl (allC w h))) (fun _ _ => some (fl ((allC w h).filter fun p => kindV a p.1 p.2 == n))) (allC w h).length ?_ ?_ (allC w h).length 0 k (by omega) (by omega)
  · exact this
  · intro rec
    dsimp only
    unfold spec_l01Cells_s0
    simp (disch := omega) only [cnt_fl, bF, cond_false, List.take_length]
  · intro i m hi rec hrec
    dsimp only at hrec ⊢
    unfold spec_l01Cells_s0
    have hil : i < (allC w h).length := by omega
    have hm := hasB_all v (getD_mem (allC w h) (0, 0) hil)
    have hlen : (fl (((allC w h).take i).filter fun p => kindV a p.1 p.2 == n)).length ≤ 200 := by
      rw [fl_length]
      have h1 := List.length_filter_le (fun p => kindV a p.1 p.2 == n) ((allC w h).take i)
      rw [List.length_take] at h1
      omega
    rw [take_getD _ (0, 0) hil, List.filter_append, fl_append] at hrec
    simp only [cnt_fl, Int.toNat_natCast, fl_x, fl_y]
    generalize (allC w h).getD i (0, 0) = p at hm hrec ⊢
    generalize fl (((allC w h).take i).filter fun p => kindV a p.1 p.2 == n) = o at hlen hrec ⊢
    rw [spec_at k v.toLawnS hm]
    have hb : decide (o.length + 2 ≤ bigLen) = true := bT (by rw [bigLen_val]; omega)
    simp (disch := omega) only [bT, cond_true, Bool.and_true, Option.bind_some, wrap64, hb]
    cases hq : (kindV a p.1 p.2 == n) with
    | true =>
      simp only [List.filter_cons, hq, if_true, List.filter_nil] at hrec
      simp only [cond_true]
      exact hrec
    | false =>
      simp only [List.filter_cons, hq, Bool.false_eq_true, if_false, List.filter_nil] at hrec
      simp only [cond_false]
      rw [show fl ([] : List (Int × Int)) = [] from rfl, List.append_nil] at hrec
      exact hrec

theorem grass_filter {a : List Int} {w h : Nat} (v : LawnV a w h) : ((allC w h).filter fun p => kindV a p.1 p.2 == 0) = (allC w h).filter fun p => grassB a p.1 p.2 :=
  List.filter_congr fun p hp => by unfold grassB; rw [hasB_all v hp, Bool.true_and]

theorem impl_grassL (k : Nat) {a : List Int} (ha : LawnS a) (p : Int × Int) : ((fun z1 => (impl_Lawn_grass k a [rd z1 0, rd z1 1]).bind fun b => some b) [p.1, p.2]) = some (grassB a p.1 p.2) := by
  show (impl_Lawn_grass k a [p.1, p.2]).bind _ = _
  rw [impl_grass k ha]
  rfl



/-! ## Triples -/

def fl3 : List (Int × Int × Int) → List Int
  | [] => []
  | (x, y, n) :: r => x :: y :: n :: fl3 r

theorem fl3_length : ∀ (L : List (Int × Int × Int)), (fl3 L).length = L.length * 3 := by
  intro L
  induction L with
  | nil => rfl
  | cons p r ih => obtain ⟨x, y, n⟩ := p; simp only [fl3, List.length_cons, ih]; omega

theorem fl3_append : ∀ (L R : List (Int × Int × Int)), fl3 (L ++ R) = fl3 L ++ fl3 R := by
  intro L R
  induction L with
  | nil => rfl
  | cons p r ih => obtain ⟨x, y, n⟩ := p; simp [fl3, ih]

theorem cnt_fl3 (L : List (Int × Int × Int)) : cnt 3 (fl3 L) = L.length := by unfold cnt; rw [fl3_length]; omega

theorem fl3_all : ∀ (L : List (Int × Int × Int)) (i : Nat), rd (fl3 L) (i * 3) = (L.getD i (0, 0, 0)).1 ∧ rd (fl3 L) (i * 3 + 1) = (L.getD i (0, 0, 0)).2.1 ∧ rd (fl3 L) (i * 3 + 2) = (L.getD i (0, 0, 0)).2.2 := by
  intro L
  induction L with
  | nil => intro i; simp [fl3, rd]
  | cons p r ih =>
    obtain ⟨x, y, n⟩ := p
    intro i
    cases i with
    | zero => exact ⟨rfl, rfl, rfl⟩
    | succ i =>
      have e0 : (i + 1) * 3 = i * 3 + 1 + 1 + 1 := by omega
      have e1 : (i + 1) * 3 + 1 = i * 3 + 1 + 1 + 1 + 1 := by omega
      have e2 : i * 3 + 1 + 1 + 1 + 2 = i * 3 + 2 + 1 + 1 + 1 := by omega
      rw [e0, e2]
      exact ih i

theorem fl3_x (L : List (Int × Int × Int)) (i : Nat) : rd (fl3 L) (i * 3) = (L.getD i (0, 0, 0)).1 := (fl3_all L i).1
theorem fl3_y (L : List (Int × Int × Int)) (i : Nat) : rd (fl3 L) (i * 3 + 1) = (L.getD i (0, 0, 0)).2.1 := (fl3_all L i).2.1
theorem fl3_n (L : List (Int × Int × Int)) (i : Nat) : rd (fl3 L) (i * 3 + 2) = (L.getD i (0, 0, 0)).2.2 := (fl3_all L i).2.2

theorem cells_in' {a : List Int} {w h : Nat} (v : LawnV a w h) {p : Int × Int} (hp : p ∈ allC w h) : (0 ≤ p.1 ∧ p.1 < 10) ∧ (0 ≤ p.2 ∧ p.2 < 10) := by
  have := allC_mem.1 hp
  have := v.wle
  have := v.hle
  omega

/-! ## What runs are -/

def dxB (b : Bool) : Int := cond b 1 0
def dyB (b : Bool) : Int := cond b 0 1

def runLen (a : List Int) (b : Bool) : Nat → Int → Int → Nat
  | 0, _, _ => 0
  | m + 1, x, y => cond (grassB a x y) (runLen a b m (x + dxB b) (y + dyB b) + 1) 0

def longV (a : List Int) (b : Bool) (x y : Int) : Nat := runLen a b 11 x y
def startB (a : List Int) (b : Bool) (p : Int × Int) : Bool := grassB a p.1 p.2 && !(grassB a (p.1 - dxB b) (p.2 - dyB b))
def runOf (a : List Int) (b : Bool) (p : Int × Int) : Int × Int × Int := (p.1, p.2, (longV a b p.1 p.2 : Int))
def runsOf (a : List Int) (b : Bool) (L : List (Int × Int)) : List (Int × Int × Int) := (L.filter (startB a b)).map (runOf a b)

theorem runsOf_snoc (a : List Int) (b : Bool) (L : List (Int × Int)) (p : Int × Int) : runsOf a b (L ++ [p]) = cond (startB a b p) (runsOf a b L ++ [runOf a b p]) (runsOf a b L) := by
  unfold runsOf
  rw [List.filter_append, List.map_append, List.filter_cons]
  cases startB a b p <;> simp

theorem runsOf_len (a : List Int) (b : Bool) (L : List (Int × Int)) : (runsOf a b L).length ≤ L.length := by
  unfold runsOf
  rw [List.length_map]
  exact List.length_filter_le _ _

theorem runLen_le (a : List Int) (b : Bool) : ∀ m x y, runLen a b m x y ≤ m := by
  intro m
  induction m with
  | zero => intro x y; exact Nat.le_refl _
  | succ m ih =>
    intro x y
    simp only [runLen]
    have := ih (x + dxB b) (y + dyB b)
    cases grassB a x y with
    | true => simp only [cond_true]; omega
    | false => simp only [cond_false]; omega

/-- A run is as long with more room, once it has enough. -/
theorem runLen_more {a : List Int} {w h : Nat} (v : LawnV a w h) (b : Bool) : ∀ (m : Nat) (x y : Int), 10 ≤ x * dxB b + y * dyB b + m → ∀ j : Nat, runLen a b (m + j) x y = runLen a b m x y := by
  intro m
  have hw := v.wle
  have hh := v.hle
  have hwv := v.wv
  have hhv := v.hv
  induction m with
  | zero =>
    intro x y h j
    have : grassB a x y = false := by
      cases hg : grassB a x y with
      | false => rfl
      | true =>
        have := grass_range v.toLawnS hg
        exfalso
        cases b
        · simp only [dxB, dyB, cond_false] at h; omega
        · simp only [dxB, dyB, cond_true] at h; omega
    cases j with
    | zero => rfl
    | succ j => simp only [Nat.zero_add, runLen, this, cond_false]
  | succ m ih =>
    intro x y h j
    rw [show m + 1 + j = m + j + 1 by omega]
    simp only [runLen]
    rw [ih (x + dxB b) (y + dyB b) (by
      cases b
      · simp only [dxB, dyB, cond_false] at h ⊢; omega
      · simp only [dxB, dyB, cond_true] at h ⊢; omega) j]

theorem runs_same (a : List Int) (b : Bool) (L : List (Int × Int)) : runsOf a b (L.filter fun p => grassB a p.1 p.2) = runsOf a b L := by
  unfold runsOf
  rw [List.filter_filter]
  congr 1
  apply List.filter_congr
  intro p _
  unfold startB
  cases grassB a p.1 p.2 <;> simp


def longS (s p : Int × Int × Int) : Int × Int × Int := cond (decide (p.2.2 > s.2.2)) p s
def longL (L : List (Int × Int × Int)) : Int × Int × Int := L.foldl longS (0, 0, 0)
theorem longL_snoc (L : List (Int × Int × Int)) (p : Int × Int × Int) : longL (L ++ [p]) = longS (longL L) p := by simp [longL]

def longR (s : Int × Int × Int) : List Int × Int := cond (s.2.2 == 0) ([0, 0, 0], 6) ([s.1, s.2.1, s.2.2], 0)



/-- Does a run hold a cell among its first n? -/
def hitN (b : Bool) (ax ay x y : Int) (n : Int) : Bool := cond b ((y == ay) && (decide (x ≤ ax) && decide (ax < x + n))) ((x == ax) && (decide (y ≤ ay) && decide (ay < y + n)))
def hitR (b : Bool) (ax ay : Int) (r : Int × Int × Int) : Bool := hitN b ax ay r.1 r.2.1 r.2.2

def RunOK (r : Int × Int × Int) : Prop := (0 ≤ r.1 ∧ r.1 < 10) ∧ (0 ≤ r.2.1 ∧ r.2.1 < 10) ∧ (0 ≤ r.2.2 ∧ r.2.2 ≤ 11)

def stripeN (b : Bool) (ax ay : Int) (L : List (Int × Int × Int)) : Nat → Int
  | 0 => 0
  | i + 1 => cond (hitR b ax ay (L.getD i (0, 0, 0))) (i : Int) (stripeN b ax ay L i)

/-! ## One run holds a cell of grass, and one alone -/

theorem runLen_grass {a : List Int} {b : Bool} : ∀ (m : Nat) (x y : Int) (t : Nat), t < runLen a b m x y → grassB a (x + t * dxB b) (y + t * dyB b) = true := by
  intro m
  induction m with
  | zero => intro x y t h; simp [runLen] at h
  | succ m ih =>
    intro x y t h
    simp only [runLen] at h
    cases hg : grassB a x y with
    | false => rw [hg] at h; simp at h
    | true =>
      rw [hg] at h
      simp only [cond_true] at h
      cases t with
      | zero => simpa using hg
      | succ t =>
        have := ih (x + dxB b) (y + dyB b) t (by omega)
        have e1 : x + ((t + 1 : Nat) : Int) * dxB b = x + dxB b + t * dxB b := by cases b <;> simp [dxB]; omega
        have e2 : y + ((t + 1 : Nat) : Int) * dyB b = y + dyB b + t * dyB b := by cases b <;> simp [dyB]; omega
        rw [e1, e2]
        exact this

theorem runLen_ge {a : List Int} {b : Bool} : ∀ (m : Nat) (x y : Int) (t : Nat), t ≤ m → (∀ i : Nat, i < t → grassB a (x + i * dxB b) (y + i * dyB b) = true) → t ≤ runLen a b m x y := by
  intro m
  induction m with
  | zero => intro x y t h _; omega
  | succ m ih =>
    intro x y t ht h
    cases t with
    | zero => omega
    | succ t =>
      have h0 := h 0 (by omega)
      have e0 : grassB a x y = true := by simpa using h0
      simp only [runLen, e0, cond_true]
      have := ih (x + dxB b) (y + dyB b) t (by omega) (fun i hi => by
        have := h (i + 1) (by omega)
        have e1 : x + ((i + 1 : Nat) : Int) * dxB b = x + dxB b + i * dxB b := by cases b <;> simp [dxB]; omega
        have e2 : y + ((i + 1 : Nat) : Int) * dyB b = y + dyB b + i * dyB b := by cases b <;> simp [dyB]; omega
        rw [e1, e2] at this
        exact this)
      omega

theorem hit_iff (b : Bool) (ax ay x y : Int) (n : Nat) : hitN b ax ay x y (n : Int) = true ↔ ∃ t : Nat, t < n ∧ ax = x + t * dxB b ∧ ay = y + t * dyB b := by
  unfold hitN
  cases b
  · simp only [cond_false, Bool.and_eq_true, beq_iff_eq, decide_eq_true_eq, dxB, dyB]
    constructor
    · rintro ⟨h1, h2, h3⟩
      exact ⟨(ay - y).toNat, by omega, by omega, by omega⟩
    · rintro ⟨t, h1, h2, h3⟩
      omega
  · simp only [cond_true, Bool.and_eq_true, beq_iff_eq, decide_eq_true_eq, dxB, dyB]
    constructor
    · rintro ⟨h1, h2, h3⟩
      exact ⟨(ax - x).toNat, by omega, by omega, by omega⟩
    · rintro ⟨t, h1, h2, h3⟩
      omega

theorem walk_back {a : List Int} {w h : Nat} (v : LawnV a w h) (b : Bool) : ∀ (n : Nat) (ax ay : Int), ax * dxB b + ay * dyB b < n → grassB a ax ay = true →
    ∃ t : Nat, t < n ∧ startB a b (ax - t * dxB b, ay - t * dyB b) = true ∧ ∀ i : Nat, i ≤ t → grassB a (ax - i * dxB b) (ay - i * dyB b) = true := by
  intro n
  induction n with
  | zero =>
    intro ax ay h hg
    have := grass_range v.toLawnS hg
    cases b
    · simp only [dxB, dyB, cond_false] at h; omega
    · simp only [dxB, dyB, cond_true] at h; omega
  | succ n ih =>
    intro ax ay h hg
    cases hp : grassB a (ax - dxB b) (ay - dyB b) with
    | false =>
      refine ⟨0, by omega, ?_, ?_⟩
      · unfold startB
        simp [hg, hp]
      · intro i hi
        have : i = 0 := by omega
        subst this
        simpa using hg
    | true =>
      obtain ⟨t, h1, h2, h3⟩ := ih (ax - dxB b) (ay - dyB b) (by
        cases b
        · simp only [dxB, dyB, cond_false] at h ⊢; omega
        · simp only [dxB, dyB, cond_true] at h ⊢; omega) hp
      have e1 : ∀ i : Nat, ax - ((i + 1 : Nat) : Int) * dxB b = ax - dxB b - i * dxB b := fun i => by cases b <;> simp [dxB]; omega
      have e2 : ∀ i : Nat, ay - ((i + 1 : Nat) : Int) * dyB b = ay - dyB b - i * dyB b := fun i => by cases b <;> simp [dyB]; omega
      refine ⟨t + 1, by omega, by rw [e1, e2]; exact h2, fun i hi => ?_⟩
      cases i with
      | zero => simpa using hg
      | succ i => rw [e1, e2]; exact h3 i (by omega)

theorem allC_nodup (w h : Nat) : (allC w h).Nodup := by
  have hrow : ∀ (y w : Nat), (rowC y w).Nodup := by
    intro y w
    induction w with
    | zero => simp [rowC]
    | succ w ih =>
      rw [rowC_succ]
      refine List.nodup_append.2 ⟨ih, by simp, ?_⟩
      intro p hp q hq e
      simp only [rowC, List.mem_map, List.mem_range] at hp
      simp only [List.mem_singleton] at hq
      obtain ⟨x, hx, rfl⟩ := hp
      rw [hq, Prod.mk.injEq] at e
      omega
  induction h with
  | zero => simp [allC]
  | succ h ih =>
    rw [allC_succ]
    refine List.nodup_append.2 ⟨ih, hrow h w, ?_⟩
    intro p hp q hq e
    have h1 := allC_mem.1 hp
    simp only [rowC, List.mem_map, List.mem_range] at hq
    obtain ⟨x, hx, rfl⟩ := hq
    rw [e] at h1
    simp only at h1
    omega

theorem stripeN_at (b : Bool) (ax ay : Int) (L : List (Int × Int × Int)) (j : Nat) (hj : hitR b ax ay (L.getD j (0, 0, 0)) = true) : ∀ n, n ≤ L.length → j < n → (∀ i, i < n → hitR b ax ay (L.getD i (0, 0, 0)) = true → i = j) → stripeN b ax ay L n = j := by
  intro n
  induction n with
  | zero => intro _ h; omega
  | succ n ih =>
    intro hn hjn hu
    simp only [stripeN]
    cases hh : hitR b ax ay (L.getD n (0, 0, 0)) with
    | true =>
      have := hu n (by omega) hh
      rw [this]
      rfl
    | false =>
      simp only [cond_false]
      refine ih (by omega) ?_ (fun i hi => hu i (by omega))
      rcases Nat.lt_or_ge j n with h | h
      · exact h
      · have : j = n := by omega
        rw [this, hh] at hj
        cases hj

theorem runs_ok {a : List Int} {w h : Nat} (v : LawnV a w h) (b : Bool) : ∀ r ∈ runsOf a b (allC w h), RunOK r := by
  intro r hr
  unfold runsOf at hr
  obtain ⟨p, hp, rfl⟩ := List.mem_map.1 hr
  have := cells_in' v (List.mem_filter.1 hp).1
  have h3 := runLen_le a b 11 p.1 p.2
  refine ⟨this.1, this.2, ?_⟩
  show 0 ≤ ((longV a b p.1 p.2 : Nat) : Int) ∧ ((longV a b p.1 p.2 : Nat) : Int) ≤ 11
  unfold longV
  omega

theorem one_run {a : List Int} {w h : Nat} (v : LawnV a w h) (b : Bool) {ax ay : Int} (hg : grassB a ax ay = true) :
    ∃ j, j < (runsOf a b (allC w h)).length ∧ hitR b ax ay ((runsOf a b (allC w h)).getD j (0, 0, 0)) = true ∧ ∀ i, i < (runsOf a b (allC w h)).length → hitR b ax ay ((runsOf a b (allC w h)).getD i (0, 0, 0)) = true → i = j := by
  have hgr := grass_range v.toLawnS hg
  have hwv := v.wv
  have hhv := v.hv
  have hw := v.wle
  have hh := v.hle
  have hS : (runsOf a b (allC w h)).length = ((allC w h).filter (startB a b)).length := by unfold runsOf; rw [List.length_map]
  have hget : ∀ i, i < (runsOf a b (allC w h)).length → (runsOf a b (allC w h)).getD i (0, 0, 0) = runOf a b (((allC w h).filter (startB a b)).getD i (0, 0)) := by
    intro i hi
    unfold runsOf
    rw [List.getD_eq_getElem?_getD, List.getElem?_map, List.getD_eq_getElem?_getD]
    rw [hS] at hi
    rw [List.getElem?_eq_getElem hi]
    rfl
  have hnd : ((allC w h).filter (startB a b)).Nodup := (allC_nodup w h).filter _
  obtain ⟨t, h1, h2, h3⟩ := walk_back v b 10 ax ay (by
    cases b
    · simp only [dxB, dyB, cond_false]; omega
    · simp only [dxB, dyB, cond_true]; omega) hg
  have hsin : (ax - t * dxB b, ay - t * dyB b) ∈ (allC w h).filter (startB a b) := by
    refine List.mem_filter.2 ⟨?_, h2⟩
    have := grass_range v.toLawnS (h3 t (Nat.le_refl _))
    rw [hwv, hhv] at this
    exact allC_mem.2 this
  obtain ⟨j, hj, hje⟩ := List.mem_iff_getElem.1 hsin
  have hjd : ((allC w h).filter (startB a b)).getD j (0, 0) = (ax - t * dxB b, ay - t * dyB b) := by
    rw [List.getD_eq_getElem?_getD, List.getElem?_eq_getElem hj, hje]
    rfl
  have hjl : j < (runsOf a b (allC w h)).length := by rw [hS]; exact hj
  refine ⟨j, hjl, ?_, ?_⟩
  · rw [hget j hjl, hjd]
    show hitN b ax ay (ax - t * dxB b) (ay - t * dyB b) ((longV a b (ax - t * dxB b) (ay - t * dyB b) : Nat) : Int) = true
    rw [hit_iff]
    refine ⟨t, ?_, by omega, by omega⟩
    have := runLen_ge (a := a) (b := b) 11 (ax - t * dxB b) (ay - t * dyB b) (t + 1) (by omega) (fun i hi => by
      have := h3 (t - i) (by omega)
      have e1 : ax - ((t - i : Nat) : Int) * dxB b = ax - t * dxB b + i * dxB b := by
        cases b
        · simp [dxB]
        · simp only [dxB, cond_true]; omega
      have e2 : ay - ((t - i : Nat) : Int) * dyB b = ay - t * dyB b + i * dyB b := by
        cases b
        · simp only [dyB, cond_false]; omega
        · simp [dyB]
      rw [e1, e2] at this
      exact this)
    unfold longV
    omega
  · intro i hi hit
    rw [hget i hi] at hit
    have hil : i < ((allC w h).filter (startB a b)).length := by rw [hS] at hi; exact hi
    have hsi : startB a b (((allC w h).filter (startB a b)).getD i (0, 0)) = true := (List.mem_filter.1 (getD_mem _ (0, 0) hil)).2
    have hsame : ((allC w h).filter (startB a b)).getD i (0, 0) = ((allC w h).filter (startB a b)).getD j (0, 0) := by
      rw [hjd]
      generalize ((allC w h).filter (startB a b)).getD i (0, 0) = s at hit hsi
      obtain ⟨x, y⟩ := s
      have hit : hitN b ax ay x y ((longV a b x y : Nat) : Int) = true := hit
      rw [hit_iff] at hit
      obtain ⟨u, u1, u2, u3⟩ := hit
      have hrun : ∀ m : Nat, m < longV a b x y → grassB a (x + m * dxB b) (y + m * dyB b) = true := fun m hm => runLen_grass 11 x y m hm
      unfold startB at hsi h2
      rw [Bool.and_eq_true, Bool.not_eq_true'] at hsi h2
      have htu : u = t := by
        rcases Nat.lt_trichotomy u t with hlt | he | hlt
        · exfalso
          have := h3 (u + 1) (by omega)
          have e1 : ax - ((u + 1 : Nat) : Int) * dxB b = x - dxB b := by cases b <;> simp [dxB] at u2 ⊢ <;> omega
          have e2 : ay - ((u + 1 : Nat) : Int) * dyB b = y - dyB b := by cases b <;> simp [dyB] at u3 ⊢ <;> omega
          rw [e1, e2, hsi.2] at this
          cases this
        · exact he
        · exfalso
          have := hrun (u - (t + 1)) (by omega)
          have e1 : x + ((u - (t + 1) : Nat) : Int) * dxB b = ax - t * dxB b - dxB b := by
            cases b
            · simp [dxB] at u2 ⊢; omega
            · simp only [dxB, cond_true] at u2 ⊢; omega
          have e2 : y + ((u - (t + 1) : Nat) : Int) * dyB b = ay - t * dyB b - dyB b := by
            cases b
            · simp only [dyB, cond_false] at u3 ⊢; omega
            · simp [dyB] at u3 ⊢; omega
          rw [e1, e2, h2.2] at this
          cases this
      subst htu
      rw [Prod.mk.injEq]
      constructor <;> omega
    have hgi : ((allC w h).filter (startB a b))[i]'hil = ((allC w h).filter (startB a b))[j]'hj := by
      rw [List.getD_eq_getElem?_getD, List.getD_eq_getElem?_getD, List.getElem?_eq_getElem hil, List.getElem?_eq_getElem hj] at hsame
      exact hsame
    rcases Nat.lt_trichotomy i j with hlt | he | hlt
    · exact absurd hgi (List.pairwise_iff_getElem.1 hnd i j hil hj hlt)
    · exact he
    · exact absurd hgi.symm (List.pairwise_iff_getElem.1 hnd j i hj hil hlt)


theorem wrap8_range (n : Int) : -128 ≤ IntKind.wrap .i8 n ∧ IntKind.wrap .i8 n < 128 := by
  simp only [IntKind.wrap, IntKind.bits, IntKind.signed]
  simp
  omega

def nbrs (x y : Int) : List (Int × Int) := [(x, IntKind.wrap .i8 (y - 1)), (IntKind.wrap .i8 (x - 1), y), (IntKind.wrap .i8 (x + 1), y), (x, IntKind.wrap .i8 (y + 1))]

theorem nbrs_range {x y : Int} (hx : -128 ≤ x ∧ x < 128) (hy : -128 ≤ y ∧ y < 128) : ∀ p ∈ nbrs x y, (-128 ≤ p.1 ∧ p.1 < 128) ∧ (-128 ≤ p.2 ∧ p.2 < 128) := by
  intro p hp
  have w1 := wrap8_range (y - 1)
  have w2 := wrap8_range (x - 1)
  have w3 := wrap8_range (x + 1)
  have w4 := wrap8_range (y + 1)
  simp only [nbrs, List.mem_cons, List.not_mem_nil, or_false] at hp
  rcases hp with rfl | rfl | rfl | rfl
  · exact ⟨hx, w1⟩
  · exact ⟨w2, hy⟩
  · exact ⟨w3, hy⟩
  · exact ⟨hx, w4⟩




theorem copy_step {a : List Int} {n i : Nat} (h : a.length = n * 2) (hi : i < n) :
    setWin (a.take (i * 2) ++ List.replicate ((n - i) * 2) 0) (i * 2) 2 [rd a (i * 2), rd a (i * 2 + 1)] = a.take ((i + 1) * 2) ++ List.replicate ((n - (i + 1)) * 2) 0 := by
  have hl : (a.take (i * 2)).length = i * 2 := by rw [List.length_take]; omega
  unfold setWin
  rw [List.take_append_of_le_length (by omega), List.take_of_length_le (by omega)]
  have e1 : List.drop (i * 2 + 2) (a.take (i * 2) ++ List.replicate ((n - i) * 2) 0) = List.replicate ((n - (i + 1)) * 2) 0 := by
    rw [List.drop_append, List.drop_eq_nil_of_le (by omega), List.nil_append, hl, List.drop_replicate]
    congr 1
    omega
  rw [e1]
  have e2 : a.take ((i + 1) * 2) = a.take (i * 2) ++ [rd a (i * 2), rd a (i * 2 + 1)] := by
    have : (i + 1) * 2 = i * 2 + 2 := by omega
    rw [this, List.take_add]
    congr 1
    rw [drop_rd (by omega), drop_rd (by omega)]
    rfl
  rw [e2, List.append_assoc]



theorem sq_small (d : Int) (h : -9 ≤ d ∧ d ≤ 9) : 0 ≤ d * d ∧ d * d ≤ 81 ∧ (d * d ≤ 1 ↔ -1 ≤ d ∧ d ≤ 1) ∧ (d * d = 0 ↔ d = 0) := by
  have : d = -9 ∨ d = -8 ∨ d = -7 ∨ d = -6 ∨ d = -5 ∨ d = -4 ∨ d = -3 ∨ d = -2 ∨ d = -1 ∨ d = 0 ∨ d = 1 ∨ d = 2 ∨ d = 3 ∨ d = 4 ∨ d = 5 ∨ d = 6 ∨ d = 7 ∨ d = 8 ∨ d = 9 := by omega
  rcases this with rfl | rfl | rfl | rfl | rfl | rfl | rfl | rfl | rfl | rfl | rfl | rfl | rfl | rfl | rfl | rfl | rfl | rfl | rfl <;> decide

def nearB (px py x y : Int) : Bool := decide ((px - x) * (px - x) + (py - y) * (py - y) ≤ 1)

theorem eqL_two (a b c d : Int) : eqL [a, b] [c, d] = ((a == c) && (b == d)) := by
  simp [eqL]

theorem near_eq {px py x y : Int} (h1 : 0 ≤ px ∧ px < 10) (h2 : 0 ≤ py ∧ py < 10) (h3 : 0 ≤ x ∧ x < 10) (h4 : 0 ≤ y ∧ y < 10) :
    (eqL [x, y] [px, py] || (eqL [px, py] [x, y - 1] || (eqL [px, py] [x - 1, y] || (eqL [px, py] [x + 1, y] || eqL [px, py] [x, y + 1])))) = nearB px py x y := by
  have s1 := sq_small (px - x) (by omega)
  have s2 := sq_small (py - y) (by omega)
  rw [eqL_two, eqL_two, eqL_two, eqL_two, eqL_two]
  unfold nearB
  rw [Bool.eq_iff_iff]
  simp only [Bool.or_eq_true, Bool.and_eq_true, beq_iff_eq, decide_eq_true_eq]
  constructor
  · intro h
    have hx : px - x = 0 ∨ py - y = 0 := by omega
    rcases hx with hx | hx
    · have : (px - x) * (px - x) = 0 := s1.2.2.2.2 hx
      have : (py - y) * (py - y) ≤ 1 := s2.2.2.1.2 (by omega)
      omega
    · have : (py - y) * (py - y) = 0 := s2.2.2.2.2 hx
      have : (px - x) * (px - x) ≤ 1 := s1.2.2.1.2 (by omega)
      omega
  · intro h
    have a1 := s1.2.2.1.1 (by omega)
    have a2 := s2.2.2.1.1 (by omega)
    have a3 : (px - x) * (px - x) = 0 ∨ (py - y) * (py - y) = 0 := by omega
    rcases a3 with a3 | a3
    · have := s1.2.2.2.1 a3; omega
    · have := s2.2.2.2.1 a3; omega



def cx (l : List Int) (i : Nat) : Int := rd l (i * 2)
def cy (l : List Int) (i : Nat) : Int := rd l (i * 2 + 1)

def stepB (a l : List Int) (i : Nat) : Bool := openB a (cx l i) (cy l i) && (decide (i = 0) || nearB (cx l (i - 1)) (cy l (i - 1)) (cx l i) (cy l i))

def walkB (a l : List Int) : Nat → Nat → Bool
  | _, 0 => true
  | i, m + 1 => stepB a l i && walkB a l (i + 1) m

structure CellsR (l : List Int) (n : Nat) : Prop where
  len : l.length = n * 2
  small : n ≤ 1048576
  rng : ∀ j, j < l.length → -128 ≤ rd l j ∧ rd l j < 128

theorem open_range {a : List Int} (ha : LawnS a) {x y : Int} (h : openB a x y = true) : (0 ≤ x ∧ x < 10) ∧ (0 ≤ y ∧ y < 10) := by
  unfold openB at h
  rw [Bool.and_eq_true] at h
  obtain ⟨h1, h2, h3, h4⟩ := hasB_true h.1
  have := ha.w10
  have := ha.h10
  omega


abbrev Cs := List (Int × Int)

structure RowsR (Ls : List Cs) : Prop where
  cnt : Ls.length ≤ 1048576
  len : ∀ L ∈ Ls, L.length ≤ 1048576
  rng : ∀ L ∈ Ls, ∀ p ∈ L, (-128 ≤ p.1 ∧ p.1 < 128) ∧ (-128 ≤ p.2 ∧ p.2 < 128)

theorem rdr_map (Ls : List Cs) (i : Nat) : rdr (Ls.map fl) i = fl (Ls.getD i []) := by
  unfold rdr
  rw [List.getD_eq_getElem?_getD, List.getD_eq_getElem?_getD, List.getElem?_map]
  cases Ls[i]? <;> rfl

theorem fl_of : ∀ (n : Nat) (l : List Int), l.length = n * 2 → ∃ L : Cs, l = fl L ∧ L.length = n := by
  intro n
  induction n with
  | zero => intro l h; exact ⟨[], List.eq_nil_of_length_eq_zero (by omega), rfl⟩
  | succ n ih =>
    intro l h
    cases l with
    | nil => simp at h
    | cons x l =>
      cases l with
      | nil => simp at h; omega
      | cons y r =>
        obtain ⟨L, rfl, h2⟩ := ih r (by simp at h; omega)
        exact ⟨(x, y) :: L, rfl, by simp [h2]⟩

theorem rd_mem_fl : ∀ (L : Cs) (p : Int × Int), p ∈ L → ∃ j, j + 1 < (fl L).length ∧ rd (fl L) j = p.1 ∧ rd (fl L) (j + 1) = p.2 := by
  intro L
  induction L with
  | nil => intro p h; cases h
  | cons q r ih =>
    intro p h
    obtain ⟨x, y⟩ := q
    rcases List.mem_cons.1 h with rfl | h
    · exact ⟨0, by simp [fl], rfl, rfl⟩
    · obtain ⟨j, h1, h2, h3⟩ := ih p h
      exact ⟨j + 2, by simp only [fl, List.length_cons]; omega, h2, h3⟩

theorem cellsR_fl {L : Cs} (h1 : L.length ≤ 1048576) (h2 : ∀ p ∈ L, (-128 ≤ p.1 ∧ p.1 < 128) ∧ (-128 ≤ p.2 ∧ p.2 < 128)) : CellsR (fl L) L.length := by
  refine ⟨fl_length L, h1, fun j hj => ?_⟩
  rw [fl_length] at hj
  have hm := getD_mem L (0, 0) (i := j / 2) (by omega)
  obtain ⟨q1, q2⟩ := h2 _ hm
  rcases Nat.mod_two_eq_zero_or_one j with e | e
  · have : j = j / 2 * 2 := by omega
    rw [this, fl_x]
    exact q1
  · have : j = j / 2 * 2 + 1 := by omega
    rw [this, fl_y]
    exact q2

theorem RowsR.row {Ls : List Cs} (h : RowsR Ls) {i : Nat} (hi : i < Ls.length) : CellsR (fl (Ls.getD i [])) (Ls.getD i []).length :=
  cellsR_fl (h.len _ (getD_mem _ _ hi)) (h.rng _ (getD_mem _ _ hi))

theorem wrap64_succ {i : Nat} (h : i < 4294967296) : IntKind.wrap .i64 ((i : Int) + 1) = ((i + 1 : Nat) : Int) := by rw [wrap64 (by omega)]; omega

theorem set_take_rep {α : Type} (L : List α) (z d : α) {i : Nat} (hi : i < L.length) : List.set (L.take i ++ List.replicate (L.length - i) z) i (L.getD i d) = L.take (i + 1) ++ List.replicate (L.length - (i + 1)) z := by
  rw [List.set_append_right _ _ (by rw [List.length_take]; omega), List.length_take, Nat.min_eq_left (by omega), Nat.sub_self]
  have : L.length - i = (L.length - (i + 1)) + 1 := by omega
  rw [this, List.replicate_succ, List.set_cons_zero, take_getD L d hi]
  simp


theorem spec_beside_cells (k : Nat) {a : List Int} {w h : Nat} (v : LawnV a w h) {x y : Int} (hx : -128 ≤ x ∧ x < 128) (hy : -128 ≤ y ∧ y < 128) (hk : 5 < k) : spec_l01Beside k a [x, y] = some (fl ((nbrs x y).filter fun p => hasB a p.1 p.2)) := by
  unfold spec_l01Beside
  rw [show ([(rd [x, y] 0), (IntKind.wrap .i8 ((rd [x, y] 1) - 1)), (IntKind.wrap .i8 ((rd [x, y] 0) - 1)), (rd [x, y] 1), (IntKind.wrap .i8 ((rd [x, y] 0) + 1)), (rd [x, y] 1), (rd [x, y] 0), (IntKind.wrap .i8 ((rd [x, y] 1) + 1))] : List Int) = fl (nbrs x y) from rfl]
  have hl4 : (nbrs x y).length = 4 := rfl
  unfold spec_l01Beside_l0
  have := loopF_go (R := List Int) (step := fun (rec : (List Int) × Int × (List Int) × (List Int) → Option (List Int)) (p : (List Int) × Int × (List Int) × (List Int)) => spec_l01Beside_s0 k (fun y1 => some y1) (fun h1 h2 h3 h4 => rec (h1, h2, h3, h4)) p.1 p.2.1 p.2.2.1 p.2.2.2)
    (fun i => (a, (i : Int), fl (nbrs x y), fl (((nbrs x y).take i).filter fun p => hasB a p.1 p.2))) (fun _ _ => some (fl ((nbrs x y).filter fun p => hasB a p.1 p.2))) (nbrs x y).length ?_ ?_ 4 0 k rfl (by omega)
  · exact this
  · intro rec
    dsimp only
    unfold spec_l01Beside_s0
    simp (disch := omega) only [cnt_fl, bF, cond_false, List.take_length]
  · intro i m hi rec hrec
    dsimp only at hrec ⊢
    unfold spec_l01Beside_s0
    have hil : i < (nbrs x y).length := by omega
    have hr := nbrs_range hx hy _ (getD_mem (nbrs x y) (0, 0) hil)
    have hlen : (fl (((nbrs x y).take i).filter fun p => hasB a p.1 p.2)).length ≤ 20 := by
      rw [fl_length]
      have h1 := List.length_filter_le (fun p => hasB a p.1 p.2) ((nbrs x y).take i)
      rw [List.length_take] at h1
      omega
    rw [take_getD _ (0, 0) hil, List.filter_append, fl_append] at hrec
    simp only [cnt_fl, Int.toNat_natCast, fl_x, fl_y]
    generalize (nbrs x y).getD i (0, 0) = p at hr hrec ⊢
    generalize fl (((nbrs x y).take i).filter fun p => hasB a p.1 p.2) = o at hlen hrec ⊢
    have hb : decide (o.length + 2 ≤ bigLen) = true := bT (by rw [bigLen_val]; omega)
    rw [show spec_l01Is k a [p.1, p.2] = some (hasB a p.1 p.2) from spec_is k v.toLawnR hr.1 hr.2, wrap64 (x := (i : Int) + 1) (by omega), bT (p := (i : Int) < ((nbrs x y).length : Int)) (by omega), bT (p := (0 : Int) ≤ (i : Int)) (by omega)]
    simp only [cond_true, Bool.and_true, Option.bind_some, hb]
    cases hq : hasB a p.1 p.2 with
    | true =>
      simp only [List.filter_cons, hq, if_true, List.filter_nil] at hrec
      simp only [cond_true]
      exact hrec
    | false =>
      simp only [List.filter_cons, hq, Bool.false_eq_true, if_false, List.filter_nil] at hrec
      simp only [cond_false]
      rw [show fl ([] : List (Int × Int)) = [] from rfl, List.append_nil] at hrec
      exact hrec




abbrev Cell := Int × Int

section
variable (g : Cell → Bool) (nb : Cell → List Cell)

def visQ (Q : List Cell) (c : Cell) : List Cell := cond (g c && !(decide (c ∈ Q))) (Q ++ [c]) Q
def stepQ (Q : List Cell) (u : Cell) : List Cell := (nb u).foldl (visQ g) Q
def bfs : Nat → Nat → List Cell → List Cell
  | 0, _, Q => Q
  | n + 1, i, Q => if i < Q.length then bfs n (i + 1) (stepQ g nb Q (Q.getD i (0, 0))) else Q

theorem visQ_mem {Q : List Cell} {c x : Cell} : x ∈ visQ g Q c ↔ x ∈ Q ∨ (x = c ∧ g c = true) := by
  unfold visQ
  cases hg : g c with
  | false => simp
  | true =>
    by_cases h : c ∈ Q
    · simp only [h, decide_true, Bool.not_true, Bool.and_false, cond_false]
      constructor
      · exact .inl
      · rintro (h' | ⟨rfl, _⟩)
        · exact h'
        · exact h
    · simp [h]

theorem visL_mem {L : List Cell} : ∀ {Q : List Cell} {x : Cell}, x ∈ L.foldl (visQ g) Q ↔ x ∈ Q ∨ (x ∈ L ∧ g x = true) := by
  induction L with
  | nil => intro Q x; simp
  | cons c L ih =>
    intro Q x
    rw [List.foldl_cons, ih, visQ_mem]
    constructor
    · rintro ((h | ⟨rfl, h⟩) | ⟨h1, h2⟩)
      · exact .inl h
      · exact .inr ⟨by simp, h⟩
      · exact .inr ⟨by simp [h1], h2⟩
    · rintro (h | ⟨h1, h2⟩)
      · exact .inl (.inl h)
      · rcases List.mem_cons.1 h1 with rfl | h1
        · exact .inl (.inr ⟨rfl, h2⟩)
        · exact .inr ⟨h1, h2⟩

/-- A queue in order. -/
structure Qok (Q : List Cell) : Prop where
  nd : Q.Nodup
  all : ∀ x ∈ Q, g x = true

theorem visQ_ok {Q : List Cell} (h : Qok g Q) (c : Cell) : Qok g (visQ g Q c) ∧ ∃ r, visQ g Q c = Q ++ r := by
  unfold visQ
  cases hg : g c with
  | false => exact ⟨h, [], by simp⟩
  | true =>
    by_cases hc : c ∈ Q
    · simp only [hc, decide_true, Bool.not_true, Bool.and_false, cond_false]
      exact ⟨h, [], by simp⟩
    · simp only [hc, decide_false, Bool.not_false, Bool.and_true, cond_true]
      refine ⟨⟨List.nodup_append.2 ⟨h.nd, by simp, fun a ha b hb => ?_⟩, fun x hx => ?_⟩, [c], rfl⟩
      · rw [List.mem_singleton] at hb
        subst hb
        intro e
        subst e
        exact hc ha
      · rcases List.mem_append.1 hx with hx | hx
        · exact h.all x hx
        · rw [List.mem_singleton] at hx; rw [hx]; exact hg

theorem visL_ok : ∀ (L : List Cell) {Q : List Cell}, Qok g Q → Qok g (L.foldl (visQ g) Q) ∧ ∃ r, L.foldl (visQ g) Q = Q ++ r := by
  intro L
  induction L with
  | nil => intro Q h; exact ⟨h, [], by simp⟩
  | cons c L ih =>
    intro Q h
    obtain ⟨h1, r1, e1⟩ := visQ_ok g h c
    obtain ⟨h2, r2, e2⟩ := ih h1
    exact ⟨h2, r1 ++ r2, by rw [List.foldl_cons, e2, e1, List.append_assoc]⟩

theorem getD_app' {Q r : List Cell} {i : Nat} (h : i < Q.length) : (Q ++ r).getD i (0, 0) = Q.getD i (0, 0) := by
  simp [List.getD_eq_getElem?_getD, List.getElem?_append_left h]

/-- The search's end: nothing is left to be visited. -/
theorem bfs_spec {U : List Cell} (hU : ∀ x, g x = true → x ∈ U) : ∀ (n i : Nat) (Q : List Cell), Qok g Q → i ≤ Q.length → (∀ j, j < i → ∀ c ∈ nb (Q.getD j (0, 0)), g c = true → c ∈ Q) → U.length < n + i →
    Qok g (bfs g nb n i Q) ∧ (∃ r, bfs g nb n i Q = Q ++ r) ∧ ∀ u ∈ bfs g nb n i Q, ∀ c ∈ nb u, g c = true → c ∈ bfs g nb n i Q := by
  intro n
  have small : ∀ {Q : List Cell}, Qok g Q → Q.length ≤ U.length := fun h => h.nd.length_le_of_subset fun x hx => hU x (h.all x hx)
  induction n with
  | zero =>
    intro i Q h hi hc hn
    have := small h
    omega
  | succ n ih =>
    intro i Q h hi hc hn
    unfold bfs
    by_cases hlt : i < Q.length
    · rw [if_pos hlt]
      obtain ⟨h1, r1, e1⟩ := visL_ok g (nb (Q.getD i (0, 0))) h
      have e1' : stepQ g nb Q (Q.getD i (0, 0)) = Q ++ r1 := e1
      have hlen : i + 1 ≤ (stepQ g nb Q (Q.getD i (0, 0))).length := by rw [e1', List.length_append]; omega
      obtain ⟨q1, ⟨r2, e2⟩, q3⟩ := ih (i + 1) (stepQ g nb Q (Q.getD i (0, 0))) h1 hlen (by
        intro j hj c hcm hg
        rw [e1', getD_app' (by omega)] at hcm
        show c ∈ (nb (Q.getD i (0, 0))).foldl (visQ g) Q
        rw [visL_mem]
        by_cases ej : j = i
        · subst ej; exact .inr ⟨hcm, hg⟩
        · exact .inl (hc j (by omega) c hcm hg)) (by omega)
      exact ⟨q1, ⟨r1 ++ r2, by rw [e2, e1', List.append_assoc]⟩, q3⟩
    · rw [if_neg hlt]
      refine ⟨h, ⟨[], by simp⟩, fun u hu c hcm hg => ?_⟩
      obtain ⟨j, hj, rfl⟩ := List.mem_iff_getElem.1 hu
      refine hc j (by omega) c ?_ hg
      rw [List.getD_eq_getElem?_getD, List.getElem?_eq_getElem hj]
      exact hcm

/-! ## All parts -/

def Closed (S : List Cell) : Prop := ∀ u ∈ S, ∀ c ∈ nb u, g c = true → c ∈ S

def comp (n : Nat) (c : Cell) : List Cell := bfs g nb n 0 [c]

def stepO (n : Nat) (s : List Cell × List (List Cell)) (c : Cell) : List Cell × List (List Cell) := cond (g c && !(decide (c ∈ s.1))) (s.1 ++ comp g nb n c, s.2 ++ [comp g nb n c]) s

theorem comp_spec {U : List Cell} (hU : ∀ x, g x = true → x ∈ U) {n : Nat} (hn : U.length < n) {c : Cell} (hg : g c = true) : Qok g (comp g nb n c) ∧ c ∈ comp g nb n c ∧ Closed g nb (comp g nb n c) := by
  obtain ⟨h1, ⟨r, e⟩, h3⟩ := bfs_spec g nb hU n 0 [c] ⟨by simp, by simpa using hg⟩ (by simp) (fun j hj => by omega) (by omega)
  exact ⟨h1, by unfold comp; rw [e]; simp, h3⟩

theorem stepO_ok {U : List Cell} (hU : ∀ x, g x = true → x ∈ U) {n : Nat} (hn : U.length < n) {s : List Cell × List (List Cell)} (hs : Closed g nb s.1) (c : Cell) : Closed g nb (stepO g nb n s c).1 := by
  unfold stepO
  cases hg : g c with
  | false => exact hs
  | true =>
    by_cases hc : c ∈ s.1
    · simp only [hc, decide_true, Bool.not_true, Bool.and_false, cond_false]; exact hs
    · simp only [hc, decide_false, Bool.not_false, Bool.and_true, cond_true]
      obtain ⟨_, _, h3⟩ := comp_spec g nb hU hn hg
      intro u hu x hx hgx
      rcases List.mem_append.1 hu with hu | hu
      · exact List.mem_append_left _ (hs u hu x hx hgx)
      · exact List.mem_append_right _ (h3 u hu x hx hgx)

end

/-! ## Maps of cells -/

def MapOf (es : List (List Int × Int)) (S : Cell → Bool) : Prop := ∀ c : Cell, (lookK (0 : Int) es [c.1, c.2] != 0) = S c

theorem eqL_pair (a b c d : Int) : eqL [a, b] [c, d] = decide ((a, b) = (c, d)) := by
  simp only [eqL, Bool.and_true]
  by_cases h1 : a = c <;> by_cases h2 : b = d <;> simp [h1, h2]

theorem lookK_putK {q q' : List Int} (v d : Int) : ∀ es : List (List Int × Int), lookK d (putK es q v) q' = cond (eqL q' q) v (lookK d es q') := by
  have hrefl : ∀ l : List Int, eqL l l = true := by
    intro l
    induction l with
    | nil => rfl
    | cons x l ih => simp [eqL, ih]
  have heq : ∀ {x y : List Int}, eqL x y = true → x = y := by
    intro x
    induction x with
    | nil => intro y h; cases y with
      | nil => rfl
      | cons _ _ => cases h
    | cons a x ih => intro y h; cases y with
      | nil => cases h
      | cons b y => simp only [eqL, Bool.and_eq_true, beq_iff_eq] at h; rw [h.1, ih h.2]
  intro es
  induction es with
  | nil => simp only [putK, lookK]
  | cons e r ih =>
    obtain ⟨k, x⟩ := e
    simp only [putK]
    cases hk : eqL q k with
    | true =>
      have := heq hk
      subst this
      simp only [cond_true, lookK]
      cases eqL q' q <;> rfl
    | false =>
      simp only [cond_false, lookK]
      cases hq : eqL q' k with
      | true =>
        have := heq hq
        subst this
        have : eqL q' q = false := by
          cases h : eqL q' q with
          | false => rfl
          | true => have := heq h; subst this; rw [hrefl] at hk; cases hk
        rw [this]
        rfl
      | false => simp only [cond_false]; exact ih

theorem mapOf_nil : MapOf [] fun _ => false := fun _ => rfl

theorem mapOf_put {es : List (List Int × Int)} {S : Cell → Bool} (h : MapOf es S) (c : Cell) : MapOf (putK es [c.1, c.2] 1) fun x => decide (x = c) || S x := by
  intro x
  have hd : decide ((x.1, x.2) = (c.1, c.2)) = decide (x = c) := rfl
  show (lookK (0 : Int) (putK es [c.1, c.2] 1) [x.1, x.2] != 0) = (decide (x = c) || S x)
  rw [lookK_putK, eqL_pair, hd]
  cases decide (x = c) with
  | true => rfl
  | false => exact h x

theorem mapOf_congr {es : List (List Int × Int)} {S S' : Cell → Bool} (h : MapOf es S) (he : ∀ x, S x = S' x) : MapOf es S' := fun x => (h x).trans (he x)



theorem decide_or (a b : Prop) [Decidable a] [Decidable b] : decide (a ∨ b) = (decide a || decide b) := by
  by_cases ha : a <;> by_cases hb : b <;> simp [ha, hb]

/-- One visited cell's neighbours. -/
theorem parts_look {R : Type} (k : Nat) (K1 : (List Int → Option Bool) → (List Int → Option (List Int)) → Int → Int → (List Int) → (List (List Int)) → (List (List Int × Int)) → (List (List Int × Int)) → (List Int) → (List Int) → Option R)
    (f1 : List Int → Option Bool) (f2 : List Int → Option (List Int)) (h3 h4 : Int) (a : List Int) (h8 : List (List Int)) (h12 : List Int) (g inB : Cell → Bool) (hg : ∀ c, g c = (hasB a c.1 c.2 && inB c)) (hin : ∀ c : Cell, hasB a c.1 c.2 = true → f1 [c.1, c.2] = some (inB c))
    (X : List Cell) (hX : X.length ≤ 100) (seen : List Cell) (hseen : ∀ c ∈ X, g c = true → c ∉ seen) (i : Nat) (hbig : ∀ Q, Qok g Q → Q.length ≤ 100) :
    ∀ (m j f : Nat) (es9 es10 : List (List Int × Int)) (Q : List Cell), j + m = X.length → m < f → MapOf es9 (fun c => decide (c ∈ seen ∨ c ∈ Q)) → MapOf es10 (fun c => decide (c ∈ Q)) → Qok g Q → i ≤ Q.length →
      ∃ es9' es10', loopF (fun (rec : (List Int → Option Bool) × (List Int → Option (List Int)) × Int × Int × Int × Int × (List Int) × (List (List Int)) × (List (List Int × Int)) × (List (List Int × Int)) × (List Int) × (List Int) × (List Int) → Option R) (p : (List Int → Option Bool) × (List Int → Option (List Int)) × Int × Int × Int × Int × (List Int) × (List (List Int)) × (List (List Int × Int)) × (List (List Int × Int)) × (List Int) × (List Int) × (List Int)) => impl_Lawn_parts_s0 k K1 (fun h1 h2 h3 h4 h5 h6 h7 h8 h9 h10 h11 h12 h13 => rec (h1, h2, h3, h4, h5, h6, h7, h8, h9, h10, h11, h12, h13)) p.1 p.2.1 p.2.2.1 p.2.2.2.1 p.2.2.2.2.1 p.2.2.2.2.2.1 p.2.2.2.2.2.2.1 p.2.2.2.2.2.2.2.1 p.2.2.2.2.2.2.2.2.1 p.2.2.2.2.2.2.2.2.2.1 p.2.2.2.2.2.2.2.2.2.2.1 p.2.2.2.2.2.2.2.2.2.2.2.1 p.2.2.2.2.2.2.2.2.2.2.2.2) f
        (f1, f2, h3, h4, (X.length : Int), (j : Int), a, h8, es9, es10, fl (Q.drop i), h12, fl X) = K1 f1 f2 h3 h4 a h8 es9' es10' (fl (((X.drop j).foldl (visQ g) Q).drop i)) h12 ∧
        MapOf es9' (fun c => decide (c ∈ seen ∨ c ∈ (X.drop j).foldl (visQ g) Q)) ∧ MapOf es10' (fun c => decide (c ∈ (X.drop j).foldl (visQ g) Q)) := by
  intro m
  induction m with
  | zero =>
    intro j f es9 es10 Q hj hf h9 h10 hQ hi
    obtain ⟨f, rfl⟩ : ∃ g, f = g + 1 := ⟨f - 1, by omega⟩
    refine ⟨es9, es10, ?_, ?_⟩
    · rw [loopF]
      dsimp only
      unfold impl_Lawn_parts_s0
      have hd0 : X.drop j = [] := List.drop_of_length_le (by omega)
      rw [bF (by omega), hd0]
      rfl
    · have hd0 : X.drop j = [] := List.drop_of_length_le (by omega)
      rw [hd0]
      exact ⟨h9, h10⟩
  | succ m ih =>
    intro j f es9 es10 Q hj hf h9 h10 hQ hi
    obtain ⟨f, rfl⟩ : ∃ g, f = g + 1 := ⟨f - 1, by omega⟩
    have hjl : j < X.length := by omega
    rw [drop_getD X (0, 0) hjl, List.foldl_cons]
    have hcx := getD_mem X (0, 0) hjl
    obtain ⟨hQ', r, hr⟩ := visQ_ok g hQ (X.getD j (0, 0))
    have hstep : ∀ es9' es10', MapOf es9' (fun c => decide (c ∈ seen ∨ c ∈ visQ g Q (X.getD j (0, 0)))) → MapOf es10' (fun c => decide (c ∈ visQ g Q (X.getD j (0, 0)))) → _ := fun es9' es10' q1 q2 => ih (j + 1) f es9' es10' (visQ g Q (X.getD j (0, 0))) (by omega) (by omega) q1 q2 hQ' (by rw [hr, List.length_append]; omega)
    rw [loopF]
    dsimp only
    unfold impl_Lawn_parts_s0
    simp only [cnt_fl, Int.toNat_natCast, fl_x, fl_y]
    rw [bT (p := (j : Int) < (X.length : Int)) (by omega), bT (p := (0 : Int) ≤ (j : Int)) (by omega)]
    simp only [cond_true, Bool.and_true]
    rw [wrap64 (x := (j : Int) + 1) (by omega), show (j : Int) + 1 = ((j + 1 : Nat) : Int) by omega]
    have hhas : impl_Lawn_has k a [(X.getD j (0, 0)).1, (X.getD j (0, 0)).2] = some (hasB a (X.getD j (0, 0)).1 (X.getD j (0, 0)).2) := impl_has k a _ _
    rw [hhas]
    simp only [Option.bind_some]
    generalize X.getD j (0, 0) = c at hcx hQ' hr hstep ⊢
    have hsame : g c = false → visQ g Q c = Q := fun h => by unfold visQ; rw [h]; rfl
    cases hh : hasB a c.1 c.2 with
    | false =>
      have hgc : g c = false := by rw [hg, hh]; rfl
      rw [hsame hgc] at hstep ⊢
      simp only [cond_false]
      exact hstep es9 es10 h9 h10
    | true =>
      rw [hin c hh]
      simp only [cond_true, Option.bind_some]
      cases hb : inB c with
      | false =>
        have hgc : g c = false := by rw [hg, hb, Bool.and_false]
        rw [hsame hgc] at hstep ⊢
        simp only [cond_false]
        exact hstep es9 es10 h9 h10
      | true =>
        have hgc : g c = true := by rw [hg, hh, hb]; rfl
        simp only [cond_true]
        rw [show (lookK (0 : Int) es9 [c.1, c.2] != 0) = decide (c ∈ seen ∨ c ∈ Q) from h9 c]
        have hns := hseen c hcx hgc
        by_cases hcq : c ∈ Q
        · have hv : visQ g Q c = Q := by unfold visQ; simp [hcq]
          rw [hv] at hstep ⊢
          rw [bT (p := c ∈ seen ∨ c ∈ Q) (.inr hcq)]
          simp only [Bool.not_true, cond_false]
          exact hstep es9 es10 h9 h10
        · have hv : visQ g Q c = Q ++ [c] := by unfold visQ; simp [hcq, hgc]
          rw [hv] at hstep ⊢
          rw [hv] at hQ'
          have hlen := hbig _ hQ'
          rw [bF (p := c ∈ seen ∨ c ∈ Q) (by rintro (h | h); exact hns h; exact hcq h)]
          simp only [Bool.not_false, cond_true]
          rw [bT (by rw [fl_length, List.length_drop, bigLen_val]; simp only [List.length_append] at hlen; omega)]
          simp only [cond_true]
          have hd : (Q ++ [c]).drop i = Q.drop i ++ [c] := by rw [List.drop_append_of_le_length hi]
          rw [hd, fl_append] at hstep
          refine hstep (putK es9 [c.1, c.2] 1) (putK es10 [c.1, c.2] 1) (mapOf_congr (mapOf_put h9 c) fun x => ?_) (mapOf_congr (mapOf_put h10 c) fun x => ?_)
          · rw [← decide_or]
            congr 1
            simp only [List.mem_append, List.mem_singleton, eq_iff_iff]
            constructor
            · rintro (h | h | h)
              · exact .inr (.inr h)
              · exact .inl h
              · exact .inr (.inl h)
            · rintro (h | h | h)
              · exact .inr (.inl h)
              · exact .inr (.inr h)
              · exact .inl h
          · rw [← decide_or]
            congr 1
            simp only [List.mem_append, List.mem_singleton, eq_iff_iff]
            exact Or.comm



theorem win_fl (L : List Cell) : win (fl L) 2 ((L.length - 1) * 2) = fl (L.drop 1) := by
  cases L with
  | nil => rfl
  | cons p L =>
    have : (fl L).length = L.length * 2 := fl_length L
    simp [win, fl, ← this]

/-- What a search needs of its lawn, its test and its neighbours. -/
structure Srch (a : List Int) (f1 : List Int → Option Bool) (f2 : List Int → Option (List Int)) (inB g : Cell → Bool) (nb : Cell → List Cell) (U : List Cell) : Prop where
  hg : ∀ c, g c = (hasB a c.1 c.2 && inB c)
  hin : ∀ c : Cell, hasB a c.1 c.2 = true → f1 [c.1, c.2] = some (inB c)
  hf2 : ∀ u : Cell, g u = true → f2 [u.1, u.2] = some (fl (nb u))
  hnb : ∀ u, (nb u).length ≤ 100
  hU : ∀ x, g x = true → x ∈ U
  hUl : U.length ≤ 100
  sym : ∀ u c, g u = true → g c = true → c ∈ nb u → u ∈ nb c

theorem Srch.big {a : List Int} {f1 : List Int → Option Bool} {f2 : List Int → Option (List Int)} {inB g : Cell → Bool} {nb : Cell → List Cell} {U : List Cell} (S : Srch a f1 f2 inB g nb U) {Q : List Cell} (h : Qok g Q) : Q.length ≤ 100 := by
  have := h.nd.length_le_of_subset fun x hx => S.hU x (h.all x hx)
  have := S.hUl
  omega

theorem parts_search {R : Type} (k : Nat) (K1 : (List Int → Option Bool) → (List Int → Option (List Int)) → Int → Int → (List Int) → (List (List Int)) → (List (List Int × Int)) → (List (List Int × Int)) → (List Int) → Option R)
    {a : List Int} {f1 : List Int → Option Bool} {f2 : List Int → Option (List Int)} {inB g : Cell → Bool} {nb : Cell → List Cell} {U : List Cell} (S : Srch a f1 f2 inB g nb U) (h3 h4 : Int) (h6 : List (List Int)) (o10 : List Int)
    (seen : List Cell) (hsn : Closed g nb seen) (hsg : ∀ x ∈ seen, g x = true) (hk : 101 < k) :
    ∀ (n i f : Nat) (es9 es10 : List (List Int × Int)) (Q : List Cell), U.length < n + i → n < f → MapOf es9 (fun c => decide (c ∈ seen ∨ c ∈ Q)) → MapOf es10 (fun c => decide (c ∈ Q)) → Qok g Q → (∀ x ∈ Q, x ∉ seen) → i ≤ Q.length →
      ∃ es9' es10', loopF (fun (rec : (List Int → Option Bool) × (List Int → Option (List Int)) × Int × Int × (List Int) × (List (List Int)) × (List (List Int × Int)) × (List (List Int × Int)) × (List Int) × (List Int) → Option R) (p : (List Int → Option Bool) × (List Int → Option (List Int)) × Int × Int × (List Int) × (List (List Int)) × (List (List Int × Int)) × (List (List Int × Int)) × (List Int) × (List Int)) => impl_Lawn_parts_s1 k K1 (fun h1 h2 h3 h4 h5 h6 h7 h8 h9 h10 => rec (h1, h2, h3, h4, h5, h6, h7, h8, h9, h10)) p.1 p.2.1 p.2.2.1 p.2.2.2.1 p.2.2.2.2.1 p.2.2.2.2.2.1 p.2.2.2.2.2.2.1 p.2.2.2.2.2.2.2.1 p.2.2.2.2.2.2.2.2.1 p.2.2.2.2.2.2.2.2.2) f
        (f1, f2, h3, h4, a, h6, es9, es10, fl (Q.drop i), o10) = K1 f1 f2 h3 h4 a h6 es9' es10' o10 ∧
        MapOf es9' (fun c => decide (c ∈ seen ∨ c ∈ bfs g nb n i Q)) ∧ MapOf es10' (fun c => decide (c ∈ bfs g nb n i Q)) := by
  intro n
  induction n with
  | zero =>
    intro i f es9 es10 Q hU hf h9 h10 hQ hd hi
    have := hQ.nd.length_le_of_subset fun x hx => S.hU x (hQ.all x hx)
    omega
  | succ n ih =>
    intro i f es9 es10 Q hU hf h9 h10 hQ hd hi
    obtain ⟨f, rfl⟩ : ∃ g, f = g + 1 := ⟨f - 1, by omega⟩
    rw [loopF]
    dsimp only
    unfold impl_Lawn_parts_s1 bfs
    have hcnt : cnt 2 (fl (Q.drop i)) = Q.length - i := by rw [cnt_fl, List.length_drop]
    simp only [hcnt]
    by_cases hlt : i < Q.length
    · rw [if_pos hlt, bT (p := ((Q.length - i : Nat) : Int) > 0) (by omega)]
      simp only [cond_true]
      have hx := fl_x (Q.drop i) 0
      have hy := fl_y (Q.drop i) 0
      have h0 : (Q.drop i).getD 0 (0, 0) = Q.getD i (0, 0) := by simp [List.getD_eq_getElem?_getD]
      rw [h0] at hx hy
      simp only [Nat.zero_mul, Nat.zero_add] at hx hy
      rw [hx, hy]
      have hm : Q.getD i (0, 0) ∈ Q := getD_mem Q (0, 0) hlt
      generalize hu : Q.getD i (0, 0) = u at hm
      have hgu := hQ.all u hm
      have hfr : ∀ c ∈ nb u, g c = true → c ∉ seen := fun c hc hgc hs => hd u hm (hsn c hs u (S.sym u c hgu hgc hc) hgu)
      rw [S.hf2 u hgu]
      simp only [Option.bind_some, cnt_fl]
      unfold impl_Lawn_parts_l0
      obtain ⟨es9', es10', e, q9, q10⟩ := parts_look k (fun y2 y3 y4 y5 y6 y7 y8 y9 y10 y11 => cond (decide (1 ≤ ((cnt 2 y10) : Int))) ((loopF (fun (rec : (List Int → Option Bool) × (List Int → Option (List Int)) × Int × Int × (List Int) × (List (List Int)) × (List (List Int × Int)) × (List (List Int × Int)) × (List Int) × (List Int) → Option R) (p : (List Int → Option Bool) × (List Int → Option (List Int)) × Int × Int × (List Int) × (List (List Int)) × (List (List Int × Int)) × (List (List Int × Int)) × (List Int) × (List Int)) => impl_Lawn_parts_s1 k K1 (fun h1 h2 h3 h4 h5 h6 h7 h8 h9 h10 => rec (h1, h2, h3, h4, h5, h6, h7, h8, h9, h10)) p.1 p.2.1 p.2.2.1 p.2.2.2.1 p.2.2.2.2.1 p.2.2.2.2.2.1 p.2.2.2.2.2.2.1 p.2.2.2.2.2.2.2.1 p.2.2.2.2.2.2.2.2.1 p.2.2.2.2.2.2.2.2.2) f) (y2, y3, y4, y5, y6, y7, y8, y9, (win y10 2 (((cnt 2 y10) - 1) * 2)), y11)) none)
        f1 f2 h3 h4 a h6 o10 g inB S.hg S.hin (nb u) (S.hnb u) seen hfr i (fun Q h => S.big h) (nb u).length 0 k es9 es10 Q (by omega) (by have := S.hnb u; omega) h9 h10 hQ hi
      simp only [List.drop_zero] at e q9 q10
      obtain ⟨h1, r, hr⟩ := visL_ok g (nb u) hQ
      have hr' : stepQ g nb Q u = Q ++ r := hr
      have hlen : i + 1 ≤ (stepQ g nb Q u).length := by rw [hr', List.length_append]; omega
      refine (?_ : _ → _) (ih (i + 1) f es9' es10' (stepQ g nb Q u) (by omega) (by omega) q9 q10 h1 (fun x hx => ?_) hlen)
      · rintro ⟨es9'', es10'', e2, r9, r10⟩
        refine ⟨es9'', es10'', ?_, r9, r10⟩
        refine (show _ = _ from e).trans ?_
        change cond (decide (1 ≤ ((cnt 2 (fl ((stepQ g nb Q u).drop i)) : Nat) : Int))) _ _ = _
        rw [bT (by rw [cnt_fl, List.length_drop]; omega)]
        simp only [cond_true]
        rw [cnt_fl, win_fl, List.drop_drop]
        exact e2
      · rcases (visL_mem g).1 (show x ∈ (nb u).foldl (visQ g) Q from hx) with h | ⟨h, hgx⟩
        · exact hd x h
        · exact hfr x h hgx
    · rw [if_neg hlt, bF (p := ((Q.length - i : Nat) : Int) > 0) (by omega)]
      exact ⟨es9, es10, rfl, h9, h10⟩

/-- A part as the program lists it. -/
def rowP (w h : Nat) (P : List Cell) : List Int := fl ((allC w h).filter fun c => decide (c ∈ P))

theorem stepO_gd {g : Cell → Bool} {nb : Cell → List Cell} {U : List Cell} (hU : ∀ x, g x = true → x ∈ U) {n : Nat} (hn : U.length < n) {s : List Cell × List (List Cell)} (hs : ∀ x ∈ s.1, g x = true) (c : Cell) : ∀ x ∈ (stepO g nb n s c).1, g x = true := by
  unfold stepO
  cases hg : g c with
  | false => exact hs
  | true =>
    by_cases hc : c ∈ s.1
    · simp only [hc, decide_true, Bool.not_true, Bool.and_false, cond_false]; exact hs
    · simp only [hc, decide_false, Bool.not_false, Bool.and_true, cond_true]
      intro x hx
      rcases List.mem_append.1 hx with hx | hx
      · exact hs x hx
      · exact (comp_spec g nb hU hn hg).1.all x hx

theorem parts_outer {R : Type} (k : Nat) (K1 : (List (List Int)) → Option R)
    {a : List Int} {w h : Nat} (v : LawnV a w h) {f1 : List Int → Option Bool} {f2 : List Int → Option (List Int)} {inB g : Cell → Bool} {nb : Cell → List Cell} {U : List Cell} (S : Srch a f1 f2 inB g nb U) (L : List Cell) (hL : L.length ≤ 100) (hLg : ∀ c ∈ L, g c = true) (hk : 102 < k) :
    ∀ (m i f : Nat) (es : List (List Int × Int)) (s : List Cell × List (List Cell)), i + m = L.length → m < f → MapOf es (fun c => decide (c ∈ s.1)) → Closed g nb s.1 → (∀ x ∈ s.1, g x = true) → s.2.length ≤ i →
      loopF (fun (rec : (List Int → Option Bool) × (List Int → Option (List Int)) × Int × Int × (List Int) × (List (List Int)) × (List (List Int × Int)) × (List Int) → Option R) (p : (List Int → Option Bool) × (List Int → Option (List Int)) × Int × Int × (List Int) × (List (List Int)) × (List (List Int × Int)) × (List Int)) => impl_Lawn_parts_s2 k K1 (fun h1 h2 h3 h4 h5 h6 h7 h8 => rec (h1, h2, h3, h4, h5, h6, h7, h8)) p.1 p.2.1 p.2.2.1 p.2.2.2.1 p.2.2.2.2.1 p.2.2.2.2.2.1 p.2.2.2.2.2.2.1 p.2.2.2.2.2.2.2) f
        (f1, f2, (L.length : Int), (i : Int), a, s.2.map (rowP w h), es, fl L) = K1 (((L.drop i).foldl (stepO g nb 101) s).2.map (rowP w h)) := by
  intro m
  induction m with
  | zero =>
    intro i f es s hi hf he hc hsg hl
    obtain ⟨f, rfl⟩ : ∃ g, f = g + 1 := ⟨f - 1, by omega⟩
    have hd0 : L.drop i = [] := List.drop_of_length_le (by omega)
    rw [hd0, loopF]
    dsimp only
    unfold impl_Lawn_parts_s2
    rw [bF (by omega)]
    rfl
  | succ m ih =>
    intro i f es s hi hf he hc hsg hl
    obtain ⟨f, rfl⟩ : ∃ g, f = g + 1 := ⟨f - 1, by omega⟩
    have hil : i < L.length := by omega
    have hUl := S.hUl
    rw [drop_getD L (0, 0) hil, List.foldl_cons]
    have hcm := getD_mem L (0, 0) hil
    rw [loopF]
    dsimp only
    unfold impl_Lawn_parts_s2
    simp only [cnt_fl, Int.toNat_natCast, fl_x, fl_y]
    rw [bT (p := (i : Int) < (L.length : Int)) (by omega), bT (p := (0 : Int) ≤ (i : Int)) (by omega)]
    simp only [cond_true, Bool.and_true]
    generalize L.getD i (0, 0) = c at hcm ⊢
    have hgc := hLg c hcm
    rw [show (lookK (0 : Int) es [c.1, c.2] != 0) = decide (c ∈ s.1) from he c]
    rw [wrap64 (x := (i : Int) + 1) (by omega), show (i : Int) + 1 = ((i + 1 : Nat) : Int) by omega]
    by_cases hcs : c ∈ s.1
    · have e : stepO g nb 101 s c = s := by unfold stepO; simp [hcs]
      rw [e, bT hcs]
      simp only [cond_true]
      exact ih (i + 1) f es s (by omega) (by omega) he hc hsg (by omega)
    · have e : stepO g nb 101 s c = (s.1 ++ comp g nb 101 c, s.2 ++ [comp g nb 101 c]) := by unfold stepO; simp [hcs, hgc]
      have hc' := stepO_ok g nb S.hU (n := 101) (by omega) hc c
      have hg' := stepO_gd (nb := nb) S.hU (n := 101) (by omega) hsg c
      rw [bF hcs]
      simp only [cond_false]
      unfold impl_Lawn_parts_l1
      obtain ⟨es9', es10', e1, q9, q10⟩ := parts_search k (fun y1 y2 y3 y4 y5 y6 y7 y8 y9 => Option.bind (impl_Lawn_those k y5 (fun z10 => (impl_Lawn_parts_1 k [(rd z10 0), (rd z10 1)] y8).bind fun b => some b)) fun x11 => cond (decide (y6.length + [x11].length ≤ bigLen)) ((loopF (fun (rec : (List Int → Option Bool) × (List Int → Option (List Int)) × Int × Int × (List Int) × (List (List Int)) × (List (List Int × Int)) × (List Int) → Option R) (p : (List Int → Option Bool) × (List Int → Option (List Int)) × Int × Int × (List Int) × (List (List Int)) × (List (List Int × Int)) × (List Int)) => impl_Lawn_parts_s2 k K1 (fun h1 h2 h3 h4 h5 h6 h7 h8 => rec (h1, h2, h3, h4, h5, h6, h7, h8)) p.1 p.2.1 p.2.2.1 p.2.2.2.1 p.2.2.2.2.1 p.2.2.2.2.2.1 p.2.2.2.2.2.2.1 p.2.2.2.2.2.2.2) f) (y1, y2, y3, (IntKind.wrap .i64 (y4 + 1)), y5, (y6 ++ [x11]), y7, y9)) none)
        S (L.length : Int) (i : Int) (s.2.map (rowP w h)) (fl L) s.1 hc hsg (by omega) 101 0 k (putK es [c.1, c.2] 1) (putK [] [c.1, c.2] 1) [c] (by omega) (by omega)
        (mapOf_congr (mapOf_put he c) fun x => by rw [← decide_or]; congr 1; simp only [List.mem_singleton, eq_iff_iff]; exact Or.comm)
        (mapOf_congr (mapOf_put mapOf_nil c) fun x => by simp)
        ⟨by simp, by simpa using hgc⟩ (by simpa using hcs) (by omega)
      refine (show _ = _ from e1).trans ?_
      rw [impl_those k v _ (fun p => decide (p ∈ comp g nb 101 c)) (fun p hp => congrArg some (q10 p)) (by omega)]
      simp only [Option.bind_some]
      rw [bT (by rw [bigLen_val]; simp only [List.length_map, List.length_singleton]; omega)]
      simp only [cond_true]
      rw [wrap64 (x := (i : Int) + 1) (by omega), show (i : Int) + 1 = ((i + 1 : Nat) : Int) by omega]
      rw [e] at hc' hg' ⊢
      have := ih (i + 1) f es9' (s.1 ++ comp g nb 101 c, s.2 ++ [comp g nb 101 c]) (by omega) (by omega) (mapOf_congr q9 fun x => by congr 1; simp only [List.mem_append, eq_iff_iff]; rfl) hc' hg' (by simp only [List.length_append, List.length_singleton]; omega)
      rw [← this]
      simp only [List.map_append, List.map_cons, List.map_nil]
      rfl

/-- All parts of the cells that pass. -/
def partsL (g : Cell → Bool) (nb : Cell → List Cell) (L : List Cell) : List (List Cell) := (L.foldl (stepO g nb 101) ([], [])).2

theorem impl_parts (k : Nat) {a : List Int} {w h : Nat} (v : LawnV a w h) {f1 : List Int → Option Bool} {f2 : List Int → Option (List Int)} {inB g : Cell → Bool} {nb : Cell → List Cell} {U : List Cell} (S : Srch a f1 f2 inB g nb U) (hk : 102 < k) :
    impl_Lawn_parts k a f1 f2 = some ((partsL g nb ((allC w h).filter g)).map (rowP w h)) := by
  unfold impl_Lawn_parts
  have hl : ((allC w h).filter g).length ≤ 100 := Nat.le_trans (List.length_filter_le _ _) (allC_small v)
  have e : (allC w h).filter inB = (allC w h).filter g := by
    apply List.filter_congr
    intro p hp
    rw [S.hg, hasB_all v hp]
    rfl
  rw [impl_those k v f1 inB (fun p hp => S.hin p (hasB_all v hp)) (by omega), e]
  simp only [Option.bind_some, cnt_fl]
  unfold impl_Lawn_parts_l2
  exact parts_outer k (fun y2 => some y2) v S ((allC w h).filter g) hl (fun c hc => (List.mem_filter.1 hc).2) hk ((allC w h).filter g).length 0 k [] ([], []) (by omega) (by omega) (mapOf_congr mapOf_nil fun x => by simp) (fun u hu => by cases hu) (fun x hx => by cases hx) (Nat.le_refl 0)



def In10 (c : Cell) : Prop := (0 ≤ c.1 ∧ c.1 < 10) ∧ (0 ≤ c.2 ∧ c.2 < 10)
def ixC (c : Cell) : Nat := c.2.toNat * 10 + c.1.toNat

theorem ixC_lt {c : Cell} (h : In10 c) : ixC c < 100 := by unfold In10 at h; unfold ixC; omega
theorem ixC_inj {c d : Cell} (hc : In10 c) (hd : In10 d) (h : ixC c = ixC d) : c = d := by
  unfold In10 at hc hd
  unfold ixC at h
  obtain ⟨c1, c2⟩ := c
  obtain ⟨d1, d2⟩ := d
  simp only at *
  have h1 : c1 = d1 := by omega
  have h2 : c2 = d2 := by omega
  rw [h1, h2]

theorem rd_setC (l : List Int) (i j : Nat) (v : Int) : rd (List.set l i v) j = if i = j ∧ i < l.length then v else rd l j := by
  unfold rd
  rw [List.getD_eq_getElem?_getD, List.getD_eq_getElem?_getD, List.getElem?_set]
  by_cases h : i = j
  · subst h
    by_cases h2 : i < l.length
    · simp [h2]
    · simp [h2]
  · simp [h]

/-- Marks on a lawn's cells. -/
structure MarkOf (M : List Int) (S : Cell → Prop) : Prop where
  len : M.length = 100
  at_ : ∀ c, In10 c → (rd M (ixC c) ≠ 0 ↔ S c)

theorem markOf_set {M : List Int} {S : Cell → Prop} (h : MarkOf M S) {c : Cell} (hc : In10 c) : MarkOf (List.set M (ixC c) 1) fun x => S x ∨ x = c := by
  refine ⟨by rw [List.length_set]; exact h.len, fun x hx => ?_⟩
  rw [rd_setC]
  by_cases e : ixC c = ixC x
  · have : c = x := ixC_inj hc hx e
    rw [if_pos ⟨e, by rw [h.len]; exact ixC_lt hc⟩]
    simp [this]
  · rw [if_neg (fun q => e q.1), h.at_ x hx]
    constructor
    · exact .inl
    · rintro (q | rfl)
      · exact q
      · exact absurd rfl e

theorem markOf_congr {M : List Int} {S S' : Cell → Prop} (h : MarkOf M S) (he : ∀ x, In10 x → (S x ↔ S' x)) : MarkOf M S' := ⟨h.len, fun c hc => (h.at_ c hc).trans (he c hc)⟩

theorem markOf_nil : MarkOf (List.replicate 100 0) fun _ => False := ⟨by simp, fun c hc => by
  have := ixC_lt hc
  unfold rd
  rw [List.getD_eq_getElem?_getD, List.getElem?_replicate]
  simp [this]⟩

/-- Counted steps on a lawn's cells. -/
structure Dist (S : List Int) (Q : List Cell) : Prop where
  len : S.length = 100
  le : ∀ j, rd S j ≤ Q.length
  at_ : ∀ c, In10 c → (rd S (ixC c) ≥ 0 ↔ c ∈ Q)

theorem dist_push {S : List Int} {Q : List Cell} (h : Dist S Q) {c : Cell} (hc : In10 c) {n : Int} (hn : 0 ≤ n ∧ n ≤ Q.length + 1) : Dist (List.set S (ixC c) n) (Q ++ [c]) := by
  refine ⟨by rw [List.length_set]; exact h.len, fun j => ?_, fun x hx => ?_⟩
  · rw [rd_setC, List.length_append, List.length_singleton]
    have := h.le j
    split <;> omega
  · rw [rd_setC]
    by_cases e : ixC c = ixC x
    · have : c = x := ixC_inj hc hx e
      rw [if_pos ⟨e, by rw [h.len]; exact ixC_lt hc⟩]
      simp only [this, List.mem_append, List.mem_singleton, or_true, iff_true]
      omega
    · rw [if_neg (fun q => e q.1), h.at_ x hx]
      simp only [List.mem_append, List.mem_singleton]
      constructor
      · exact .inl
      · rintro (q | rfl)
        · exact q
        · exact absurd rfl e

def gB (a : List Int) (c : Cell) : Bool := grassB a c.1 c.2
def nb4 (c : Cell) : List Cell := nbrs c.1 c.2

theorem gB_in {a : List Int} (ha : LawnS a) {c : Cell} (h : gB a c = true) : In10 c := by
  have := grass_range ha (show grassB a c.1 c.2 = true from h)
  have := ha.w10
  have := ha.h10
  unfold In10
  omega

theorem has_in {a : List Int} (ha : LawnS a) {c : Cell} (h : hasB a c.1 c.2 = true) : In10 c := by
  have := hasB_true h
  have := ha.w10
  have := ha.h10
  unfold In10
  omega

theorem gB_all {a : List Int} {w h : Nat} (v : LawnV a w h) {c : Cell} (hc : gB a c = true) : c ∈ allC w h := by
  have := grass_range v.toLawnS (show grassB a c.1 c.2 = true from hc)
  have := v.wv
  have := v.hv
  rw [allC_mem]
  omega

theorem visL_filter {g q : Cell → Bool} (hq : ∀ c, g c = true → q c = true) : ∀ (L Q : List Cell), (L.filter q).foldl (visQ g) Q = L.foldl (visQ g) Q := by
  intro L
  induction L with
  | nil => intro Q; rfl
  | cons c L ih =>
    intro Q
    rw [List.filter_cons, List.foldl_cons]
    cases h : q c with
    | true => rw [if_pos rfl, List.foldl_cons, ih]
    | false =>
      have : g c = false := by
        cases e : g c with
        | false => rfl
        | true => rw [hq c e] at h; cases h
      rw [if_neg (by simp), ih]
      congr 1
      unfold visQ
      rw [this]
      rfl

theorem reach_look {R : Type} (k : Nat) (K1 : (List Int) → Bool → Int → (List Int) → (List Int) → (List Int) → Option R) {a : List Int} {w h : Nat} (v : LawnV a w h) (z : List Int) (i : Nat) (u : Cell) (hu : In10 u) (X : List Cell) (hX : ∀ c ∈ X, hasB a c.1 c.2 = true) (hl : X.length ≤ 100) (hbig : ∀ Q, Qok (gB a) Q → Q.length ≤ 100) :
    ∀ (m j f : Nat) (S : List Int) (Q : List Cell), j + m = X.length → m < f → Dist S Q → Qok (gB a) Q → i < Q.length → Q.getD i (0, 0) = u →
      ∃ S', loopF (fun (rec : (List Int) × Bool × Int × Int × (List Int) × (List Int) × (List Int) × (List Int) → Option R) (p : (List Int) × Bool × Int × Int × (List Int) × (List Int) × (List Int) × (List Int)) => spec_l01Reach_s2 k K1 (fun h1 h2 h3 h4 h5 h6 h7 h8 => rec (h1, h2, h3, h4, h5, h6, h7, h8)) p.1 p.2.1 p.2.2.1 p.2.2.2.1 p.2.2.2.2.1 p.2.2.2.2.2.1 p.2.2.2.2.2.2.1 p.2.2.2.2.2.2.2) f
        (a, true, (i : Int), (j : Int), z, S, fl Q, fl X) = K1 a true (i : Int) z S' (fl ((X.drop j).foldl (visQ (gB a)) Q)) ∧ Dist S' ((X.drop j).foldl (visQ (gB a)) Q) := by
  intro m
  induction m with
  | zero =>
    intro j f S Q hj hf hd hQ hi hqu
    obtain ⟨f, rfl⟩ : ∃ g, f = g + 1 := ⟨f - 1, by omega⟩
    have hd0 : X.drop j = [] := List.drop_of_length_le (by omega)
    rw [hd0]
    refine ⟨S, ?_, hd⟩
    rw [loopF]
    dsimp only
    rw [spec_l01Reach_s2]
    simp (disch := omega) only [cnt_fl, bF, cond_false]
    rfl
  | succ m ih =>
    intro j f S Q hj hf hd hQ hi hqu
    obtain ⟨f, rfl⟩ : ∃ g, f = g + 1 := ⟨f - 1, by omega⟩
    have hjl : j < X.length := by omega
    have hh := hX _ (getD_mem X (0, 0) hjl)
    rw [drop_getD X (0, 0) hjl, List.foldl_cons, loopF]
    dsimp only
    rw [spec_l01Reach_s2]
    simp only [cnt_fl, Int.toNat_natCast, fl_x, fl_y, hqu]
    obtain ⟨hQ', r, hr⟩ := visQ_ok (gB a) hQ (X.getD j (0, 0))
    generalize X.getD j (0, 0) = c at hh hQ' hr ⊢
    have hc10 := has_in v.toLawnS hh
    have hlen := hbig Q hQ
    have hb : decide ((fl Q).length + 2 ≤ bigLen) = true := bT (by rw [bigLen_val, fl_length]; omega)
    have hat := spec_at k v.toLawnS hh
    rw [spec_l01Open]
    simp only [show rd [c.1, c.2] 0 = c.1 from rfl, show rd [c.1, c.2] 1 = c.2 from rfl]
    rw [hat, wrap64 (x := (j : Int) + 1) (by omega), show (j : Int) + 1 = ((j + 1 : Nat) : Int) by omega, bT (p := (j : Int) < (X.length : Int)) (by omega), bT (p := (0 : Int) ≤ (j : Int)) (by omega), bT (p := (0 : Int) ≤ (i : Int)) (by omega), bT (p := (i : Int) < (Q.length : Int)) (by omega), bT (p := 0 ≤ c.2) hc10.2.1, bT (p := c.2 < 10) hc10.2.2, bT (p := 0 ≤ c.1) hc10.1.1, bT (p := c.1 < 10) hc10.1.2, bT (p := 0 ≤ u.2) hu.2.1, bT (p := u.2 < 10) hu.2.2, bT (p := 0 ≤ u.1) hu.1.1, bT (p := u.1 < 10) hu.1.2]
    simp only [cond_true, cond_false, Bool.and_true, Option.bind_some, hb, Nat.zero_add, Nat.mul_one]
    rw [show c.2.toNat * 10 + c.1.toNat = ixC c from rfl, show u.2.toNat * 10 + u.1.toNat = ixC u from rfl]
    have hgc : gB a c = (kindV a c.1 c.2 == 0) := by unfold gB grassB; rw [hh]; rfl
    have hskip : visQ (gB a) Q c = Q → ∃ S', loopF (fun (rec : (List Int) × Bool × Int × Int × (List Int) × (List Int) × (List Int) × (List Int) → Option R) (p : (List Int) × Bool × Int × Int × (List Int) × (List Int) × (List Int) × (List Int)) => spec_l01Reach_s2 k K1 (fun h1 h2 h3 h4 h5 h6 h7 h8 => rec (h1, h2, h3, h4, h5, h6, h7, h8)) p.1 p.2.1 p.2.2.1 p.2.2.2.1 p.2.2.2.2.1 p.2.2.2.2.2.1 p.2.2.2.2.2.2.1 p.2.2.2.2.2.2.2) f
        (a, true, (i : Int), ((j + 1 : Nat) : Int), z, S, fl Q, fl X) = K1 a true (i : Int) z S' (fl ((X.drop (j + 1)).foldl (visQ (gB a)) (visQ (gB a) Q c))) ∧ Dist S' ((X.drop (j + 1)).foldl (visQ (gB a)) (visQ (gB a) Q c)) := fun e => by
      rw [e]
      exact ih (j + 1) f S Q (by omega) (by omega) hd hQ hi hqu
    cases hk0 : (kindV a c.1 c.2 == 0) with
    | false =>
      have e : visQ (gB a) Q c = Q := by unfold visQ; rw [hgc, hk0]; rfl
      simp only [cond_false, Option.bind_some, Bool.not_false, cond_true]
      cases (kindV a c.1 c.2 == 3) with
      | false => exact hskip e
      | true =>
        simp only [Bool.not_true, cond_false]
        rw [show (kindV a c.1 c.2 != 0) = true by unfold bne; rw [hk0]; rfl]
        exact hskip e
    | true =>
      simp only [cond_true, Option.bind_some, Bool.not_true, cond_false]
      rw [show (kindV a c.1 c.2 != 0) = false by unfold bne; rw [hk0]; rfl]
      simp only [cond_false]
      by_cases hcq : c ∈ Q
      · rw [bT ((hd.at_ c hc10).2 hcq)]
        exact hskip (by unfold visQ; simp [hcq])
      · rw [bF (fun q => hcq ((hd.at_ c hc10).1 q))]
        simp only [cond_false]
        have e : visQ (gB a) Q c = Q ++ [c] := by unfold visQ; simp [hcq, hgc, hk0]
        have huq : u ∈ Q := by rw [← hqu]; exact getD_mem Q (0, 0) hi
        have h1 := (hd.at_ u hu).2 huq
        have h2 := hd.le (ixC u)
        rw [wrap64 (x := rd S (ixC u) + 1) (by omega)]
        rw [e] at hQ' ⊢
        have := ih (j + 1) f (List.set S (ixC c) (rd S (ixC u) + 1)) (Q ++ [c]) (by omega) (by omega) (dist_push hd hc10 (by omega)) hQ' (by rw [List.length_append]; omega) (by rw [getD_app' hi]; exact hqu)
        rw [fl_append] at this
        exact this

theorem gB_big {a : List Int} {w h : Nat} (v : LawnV a w h) (Q : List Cell) (hQ : Qok (gB a) Q) : Q.length ≤ 100 := by
  have := hQ.nd.length_le_of_subset fun x hx => gB_all v (hQ.all x hx)
  have := allC_small v
  omega

theorem reach_loop {R : Type} (k : Nat) (K1 : (List Int) → (List Int) → Option R) {a : List Int} {w h : Nat} (v : LawnV a w h) (z : List Int) (hk : 101 < k) :
    ∀ (n i f : Nat) (S : List Int) (Q : List Cell), (allC w h).length < n + i → n < f → Dist S Q → Qok (gB a) Q → i ≤ Q.length →
      ∃ S', loopF (fun (rec : (List Int) × Bool × Int × (List Int) × (List Int) × (List Int) → Option R) (p : (List Int) × Bool × Int × (List Int) × (List Int) × (List Int)) => spec_l01Reach_s3 k K1 (fun h1 h2 h3 h4 h5 h6 => rec (h1, h2, h3, h4, h5, h6)) p.1 p.2.1 p.2.2.1 p.2.2.2.1 p.2.2.2.2.1 p.2.2.2.2.2) f
        (a, true, (i : Int), z, S, fl Q) = K1 z S' ∧ Dist S' (bfs (gB a) nb4 n i Q) := by
  intro n
  induction n with
  | zero =>
    intro i f S Q hU hf hd hQ hi
    have := hQ.nd.length_le_of_subset fun x hx => gB_all v (hQ.all x hx)
    omega
  | succ n ih =>
    intro i f S Q hU hf hd hQ hi
    obtain ⟨f, rfl⟩ : ∃ g, f = g + 1 := ⟨f - 1, by omega⟩
    have hlen := gB_big v Q hQ
    rw [loopF]
    dsimp only
    rw [spec_l01Reach_s3, bfs]
    simp only [cnt_fl, Int.toNat_natCast, fl_x, fl_y]
    by_cases hlt : i < Q.length
    · rw [if_pos hlt, bT (p := (i : Int) < (Q.length : Int)) (by omega), bT (p := (0 : Int) ≤ (i : Int)) (by omega)]
      simp only [cond_true, Bool.and_true]
      have hm : Q.getD i (0, 0) ∈ Q := getD_mem Q (0, 0) hlt
      generalize hu : Q.getD i (0, 0) = u at hm
      have hu10 := gB_in v.toLawnS (hQ.all u hm)
      obtain ⟨q1, q2⟩ := hu10
      rw [spec_beside_cells k v (x := u.1) (y := u.2) (by omega) (by omega) (by omega)]
      simp only [Option.bind_some]
      unfold spec_l01Reach_l2
      have hl4 : ((nbrs u.1 u.2).filter fun p => hasB a p.1 p.2).length ≤ 4 := List.length_filter_le _ _
      obtain ⟨S', e, hd'⟩ := reach_look k (fun y2 y3 y4 y5 y6 y7 => (loopF (fun (rec : (List Int) × Bool × Int × (List Int) × (List Int) × (List Int) → Option R) (p : (List Int) × Bool × Int × (List Int) × (List Int) × (List Int)) => spec_l01Reach_s3 k K1 (fun h1 h2 h3 h4 h5 h6 => rec (h1, h2, h3, h4, h5, h6)) p.1 p.2.1 p.2.2.1 p.2.2.2.1 p.2.2.2.2.1 p.2.2.2.2.2) f) (y2, y3, (IntKind.wrap .i64 (y4 + 1)), y5, y6, y7))
        v z i u ⟨q1, q2⟩ ((nbrs u.1 u.2).filter fun p => hasB a p.1 p.2) (fun c hc => (List.mem_filter.1 hc).2) (Nat.le_trans hl4 (by decide)) (gB_big v) _ 0 k S Q (Nat.zero_add _) (Nat.lt_of_le_of_lt hl4 (by omega)) hd hQ hlt hu
      rw [List.drop_zero] at e hd'
      have hst : ((nbrs u.1 u.2).filter fun p => hasB a p.1 p.2).foldl (visQ (gB a)) Q = stepQ (gB a) nb4 Q u := visL_filter (fun c hc => by
        unfold gB grassB at hc
        cases hh : hasB a c.1 c.2 with
        | true => rfl
        | false => rw [hh] at hc; cases hc) _ _
      rw [hst] at e hd'
      obtain ⟨h1, r, hr⟩ := visL_ok (gB a) (nb4 u) hQ
      have hr' : stepQ (gB a) nb4 Q u = Q ++ r := hr
      obtain ⟨S'', e2, hd''⟩ := ih (i + 1) f S' (stepQ (gB a) nb4 Q u) (by omega) (by omega) hd' h1 (by rw [hr', List.length_append]; omega)
      refine ⟨S'', ?_, hd''⟩
      refine (show _ = _ from e).trans ?_
      rw [wrap64 (x := (i : Int) + 1) (by omega), show (i : Int) + 1 = ((i + 1 : Nat) : Int) by omega]
      exact e2
    · rw [if_neg hlt, bF (p := (i : Int) < (Q.length : Int)) (by omega)]
      exact ⟨S, rfl, hd⟩

theorem reach_fill' {R : Type} (n : Nat) (K1 : (List Int) → Bool → (List Int) → (List Int) → (List Int) → Option R) (a : List Int) (b : Bool) (q z : List Int) :
    spec_l01Reach_l1 (n + 11) K1 a b 0 q z (List.replicate 100 0) = K1 a b q z (List.replicate 100 (-1)) := by kernel_rfl

theorem dist_one {c : Cell} (hc : In10 c) : Dist (List.set (List.replicate 100 (-1)) (ixC c) 0) [c] := by
  refine ⟨by simp, fun j => ?_, fun x hx => ?_⟩
  · rw [rd_setC]
    split
    · simp
    · unfold rd
      rw [List.getD_eq_getElem?_getD, List.getElem?_replicate]
      split <;> simp
  · rw [rd_setC]
    by_cases e : ixC c = ixC x
    · rw [if_pos ⟨e, by simpa using ixC_lt hc⟩]
      simp [ixC_inj hc hx e]
    · rw [if_neg (fun q => e q.1)]
      have := ixC_lt hx
      unfold rd
      rw [List.getD_eq_getElem?_getD, List.getElem?_replicate, if_pos this]
      simp only [Option.getD_some, List.mem_singleton]
      constructor
      · intro q; omega
      · rintro rfl; exact absurd rfl e

theorem spec_reach (k : Nat) {a : List Int} {w h : Nat} (v : LawnV a w h) {c : Cell} (hc : gB a c = true) (hk : 101 < k) : ∃ S, spec_l01Reach k a [c.1, c.2] true = some S ∧ Dist S (comp (gB a) nb4 101 c) := by
  obtain ⟨k, rfl⟩ : ∃ n, k = n + 11 := ⟨k - 11, by omega⟩
  have h10 := gB_in v.toLawnS hc
  have hs := allC_small v
  unfold spec_l01Reach
  rw [reach_fill']
  simp only [show rd [c.1, c.2] 0 = c.1 from rfl, show rd [c.1, c.2] 1 = c.2 from rfl]
  rw [bT (p := 0 ≤ c.2) h10.2.1, bT (p := c.2 < 10) h10.2.2, bT (p := 0 ≤ c.1) h10.1.1, bT (p := c.1 < 10) h10.1.2]
  simp only [cond_true, Bool.and_true, Nat.zero_add, Nat.mul_one]
  unfold spec_l01Reach_l3
  obtain ⟨S', e, hd⟩ := reach_loop (k + 11) (fun y6 y7 => some y7) v (List.replicate 100 0) hk 101 0 (k + 11) _ [c] (by omega) (by omega) (dist_one h10) ⟨by simp, by simpa using hc⟩ (by omega)
  exact ⟨S', e, hd⟩



theorem piece_row {R : Type} (k : Nat) (K1 : (List Int) → Int → (List (List Int)) → (List Int) → (List Int) → (List Int) → Option R) (a : List Int) (h2 : Int) (rows : List (List Int)) (L : List Cell) (hL : ∀ c ∈ L, In10 c) (hl : L.length ≤ 100) (S : List Int) (P : List Cell) (hd : Dist S P) :
    ∀ (m j f : Nat) (M o : List Int) (T : Cell → Prop), j + m = L.length → m < f → MarkOf M T → o.length ≤ j * 2 →
      ∃ M', loopF (fun (rec : (List Int) × Int × Int × (List (List Int)) × (List Int) × (List Int) × (List Int) × (List Int) → Option R) (p : (List Int) × Int × Int × (List (List Int)) × (List Int) × (List Int) × (List Int) × (List Int)) => spec_l01Pieces_s0 k K1 (fun h1 h2 h3 h4 h5 h6 h7 h8 => rec (h1, h2, h3, h4, h5, h6, h7, h8)) p.1 p.2.1 p.2.2.1 p.2.2.2.1 p.2.2.2.2.1 p.2.2.2.2.2.1 p.2.2.2.2.2.2.1 p.2.2.2.2.2.2.2) f
        (a, h2, (j : Int), rows, M, fl L, S, o) = K1 a h2 rows M' (fl L) (o ++ fl ((L.drop j).filter fun c => decide (c ∈ P))) ∧ MarkOf M' (fun c => T c ∨ (c ∈ P ∧ c ∈ L.drop j)) := by
  intro m
  induction m with
  | zero =>
    intro j f M o T hj hf hM ho
    obtain ⟨f, rfl⟩ : ∃ g, f = g + 1 := ⟨f - 1, by omega⟩
    have hd0 : L.drop j = [] := List.drop_of_length_le (by omega)
    rw [hd0]
    refine ⟨M, ?_, markOf_congr hM fun x _ => by simp⟩
    rw [loopF]
    dsimp only
    rw [spec_l01Pieces_s0]
    simp (disch := omega) only [cnt_fl, bF, cond_false]
    simp [fl]
  | succ m ih =>
    intro j f M o T hj hf hM ho
    obtain ⟨f, rfl⟩ : ∃ g, f = g + 1 := ⟨f - 1, by omega⟩
    have hjl : j < L.length := by omega
    have hc10 := hL _ (getD_mem L (0, 0) hjl)
    rw [drop_getD L (0, 0) hjl, loopF]
    dsimp only
    rw [spec_l01Pieces_s0]
    simp only [cnt_fl, Int.toNat_natCast, fl_x, fl_y, List.filter_cons]
    generalize L.getD j (0, 0) = c at hc10 ⊢
    have hb : decide (o.length + 2 ≤ bigLen) = true := bT (by rw [bigLen_val]; omega)
    rw [wrap64 (x := (j : Int) + 1) (by omega), show (j : Int) + 1 = ((j + 1 : Nat) : Int) by omega, bT (p := (j : Int) < (L.length : Int)) (by omega), bT (p := (0 : Int) ≤ (j : Int)) (by omega), bT (p := 0 ≤ c.2) hc10.2.1, bT (p := c.2 < 10) hc10.2.2, bT (p := 0 ≤ c.1) hc10.1.1, bT (p := c.1 < 10) hc10.1.2]
    simp only [cond_true, Bool.and_true, hb, Nat.zero_add, Nat.mul_one]
    rw [show c.2.toNat * 10 + c.1.toNat = ixC c from rfl]
    by_cases hcp : c ∈ P
    · rw [bT ((hd.at_ c hc10).2 hcp), bT hcp]
      simp only [cond_true, if_true]
      obtain ⟨M', e, hm⟩ := ih (j + 1) f (List.set M (ixC c) 1) (o ++ [c.1, c.2]) _ (by omega) (by omega) (markOf_set hM hc10) (by simp only [List.length_append, List.length_cons, List.length_nil]; omega)
      refine ⟨M', ?_, markOf_congr hm fun x _ => ?_⟩
      · rw [e, List.append_assoc]
        rfl
      · simp only [List.mem_cons]
        constructor
        · rintro ((q | rfl) | q)
          · exact .inl q
          · exact .inr ⟨hcp, .inl rfl⟩
          · exact .inr ⟨q.1, .inr q.2⟩
        · rintro (q | ⟨q1, rfl | q2⟩)
          · exact .inl (.inl q)
          · exact .inl (.inr rfl)
          · exact .inr ⟨q1, q2⟩
    · rw [bF (fun q => hcp ((hd.at_ c hc10).1 q)), bF hcp]
      simp only [cond_false, Bool.false_eq_true, if_false]
      obtain ⟨M', e, hm⟩ := ih (j + 1) f M o T (by omega) (by omega) hM (by omega)
      refine ⟨M', e, markOf_congr hm fun x _ => ?_⟩
      simp only [List.mem_cons]
      constructor
      · rintro (q | q)
        · exact .inl q
        · exact .inr ⟨q.1, .inr q.2⟩
      · rintro (q | ⟨q1, rfl | q2⟩)
        · exact .inl q
        · exact absurd q1 hcp
        · exact .inr ⟨q1, q2⟩

theorem rowP_gB {a : List Int} {w h : Nat} {P : List Cell} (hP : ∀ x ∈ P, gB a x = true) : fl (((allC w h).filter (gB a)).filter fun c => decide (c ∈ P)) = rowP w h P := by
  unfold rowP
  congr 1
  rw [List.filter_filter]
  apply List.filter_congr
  intro c _
  by_cases hc : c ∈ P
  · simp [hc, hP c hc]
  · simp [hc]

theorem pieces_loop {R : Type} (k : Nat) (K1 : (List (List Int)) → Option R) {a : List Int} {w h : Nat} (v : LawnV a w h) (hk : 101 < k) :
    ∀ (m i f : Nat) (M : List Int) (s : List Cell × List (List Cell)), i + m = ((allC w h).filter (gB a)).length → m < f → MarkOf M (fun c => c ∈ s.1) → s.2.length ≤ i →
      loopF (fun (rec : (List Int) × Int × (List (List Int)) × (List Int) × (List Int) → Option R) (p : (List Int) × Int × (List (List Int)) × (List Int) × (List Int)) => spec_l01Pieces_s1 k K1 (fun h1 h2 h3 h4 h5 => rec (h1, h2, h3, h4, h5)) p.1 p.2.1 p.2.2.1 p.2.2.2.1 p.2.2.2.2) f
        (a, (i : Int), s.2.map (rowP w h), M, fl ((allC w h).filter (gB a))) = K1 (((((allC w h).filter (gB a)).drop i).foldl (stepO (gB a) nb4 101) s).2.map (rowP w h)) := by
  have hlen : ((allC w h).filter (gB a)).length ≤ 100 := Nat.le_trans (List.length_filter_le _ _) (allC_small v)
  have hall : ∀ c ∈ (allC w h).filter (gB a), gB a c = true := fun c hc => (List.mem_filter.1 hc).2
  intro m
  induction m with
  | zero =>
    intro i f M s hi hf hM hs
    obtain ⟨f, rfl⟩ : ∃ g, f = g + 1 := ⟨f - 1, by omega⟩
    have hd0 : ((allC w h).filter (gB a)).drop i = [] := List.drop_of_length_le (by omega)
    rw [hd0, loopF]
    dsimp only
    rw [spec_l01Pieces_s1]
    simp (disch := omega) only [cnt_fl, bF, cond_false]
    rfl
  | succ m ih =>
    intro i f M s hi hf hM hs
    obtain ⟨f, rfl⟩ : ∃ g, f = g + 1 := ⟨f - 1, by omega⟩
    have hil : i < ((allC w h).filter (gB a)).length := by omega
    have hgc := hall _ (getD_mem _ (0, 0) hil)
    rw [drop_getD _ (0, 0) hil, List.foldl_cons, loopF]
    dsimp only
    rw [spec_l01Pieces_s1]
    simp only [cnt_fl, Int.toNat_natCast, fl_x, fl_y]
    generalize ((allC w h).filter (gB a)).getD i (0, 0) = c at hgc ⊢
    have hc10 := gB_in v.toLawnS hgc
    rw [wrap64 (x := (i : Int) + 1) (by omega), show (i : Int) + 1 = ((i + 1 : Nat) : Int) by omega, bT (p := (i : Int) < (((allC w h).filter (gB a)).length : Int)) (by omega), bT (p := (0 : Int) ≤ (i : Int)) (by omega), bT (p := 0 ≤ c.2) hc10.2.1, bT (p := c.2 < 10) hc10.2.2, bT (p := 0 ≤ c.1) hc10.1.1, bT (p := c.1 < 10) hc10.1.2]
    simp only [cond_true, Bool.and_true, Nat.zero_add, Nat.mul_one]
    rw [show c.2.toNat * 10 + c.1.toNat = ixC c from rfl]
    by_cases hcs : c ∈ s.1
    · have e : stepO (gB a) nb4 101 s c = s := by unfold stepO; simp [hcs]
      rw [e, neT ((hM.at_ c hc10).2 hcs)]
      simp only [cond_true]
      exact ih (i + 1) f M s (by omega) (by omega) hM (by omega)
    · have e : stepO (gB a) nb4 101 s c = (s.1 ++ comp (gB a) nb4 101 c, s.2 ++ [comp (gB a) nb4 101 c]) := by unfold stepO; simp [hcs, hgc]
      have hz : rd M (ixC c) = 0 := by
        by_cases q : rd M (ixC c) = 0
        · exact q
        · exact absurd ((hM.at_ c hc10).1 q) hcs
      rw [neF hz]
      simp only [cond_false]
      obtain ⟨S, hS, hd⟩ := spec_reach k v hgc hk
      have hsm := allC_small v
      obtain ⟨hok, _, _⟩ := comp_spec (gB a) nb4 (fun x hx => gB_all v hx) (n := 101) (by omega) hgc
      rw [hS]
      simp only [Option.bind_some]
      unfold spec_l01Pieces_l0
      obtain ⟨M', e1, hM'⟩ := piece_row k (fun y2 y3 y4 y5 y6 y7 => cond (decide (y4.length + [y7].length ≤ bigLen)) ((loopF (fun (rec : (List Int) × Int × (List (List Int)) × (List Int) × (List Int) → Option R) (p : (List Int) × Int × (List (List Int)) × (List Int) × (List Int)) => spec_l01Pieces_s1 k K1 (fun h1 h2 h3 h4 h5 => rec (h1, h2, h3, h4, h5)) p.1 p.2.1 p.2.2.1 p.2.2.2.1 p.2.2.2.2) f) (y2, (IntKind.wrap .i64 (y3 + 1)), (y4 ++ [y7]), y5, y6)) none)
        a (i : Int) (s.2.map (rowP w h)) ((allC w h).filter (gB a)) (fun x hx => gB_in v.toLawnS (hall x hx)) hlen S _ hd _ 0 k M [] _ (Nat.zero_add _) (by omega) hM (by simp)
      refine (show _ = _ from e1).trans ?_
      rw [List.drop_zero] at hM' ⊢
      rw [List.nil_append, rowP_gB hok.all, bT (by rw [bigLen_val]; simp only [List.length_map, List.length_singleton]; omega)]
      simp only [cond_true]
      rw [wrap64 (x := (i : Int) + 1) (by omega), show (i : Int) + 1 = ((i + 1 : Nat) : Int) by omega, e]
      have := ih (i + 1) f M' (s.1 ++ comp (gB a) nb4 101 c, s.2 ++ [comp (gB a) nb4 101 c]) (by omega) (by omega) (markOf_congr hM' fun x _ => by
        simp only [List.mem_append, List.mem_filter]
        constructor
        · rintro (q | q)
          · exact .inl q
          · exact .inr q.1
        · rintro (q | q)
          · exact .inl q
          · exact .inr ⟨q, gB_all v (hok.all x q), hok.all x q⟩) (by simp only [List.length_append, List.length_singleton]; omega)
      rw [← this]
      simp only [List.map_append, List.map_cons, List.map_nil]

theorem spec_pieces (k : Nat) {a : List Int} {w h : Nat} (v : LawnV a w h) (hk : 101 < k) : spec_l01Pieces k a = some ((partsL (gB a) nb4 ((allC w h).filter (gB a))).map (rowP w h)) := by
  unfold spec_l01Pieces
  rw [spec_cells k v 0 hk, grass_filter v]
  simp only [Option.bind_some]
  unfold spec_l01Pieces_l1
  have hlen : ((allC w h).filter (gB a)).length ≤ 100 := Nat.le_trans (List.length_filter_le _ _) (allC_small v)
  exact pieces_loop k (fun y2 => some y2) v hk _ 0 k (List.replicate 100 0) ([], []) (Nat.zero_add _) (by omega) (markOf_congr markOf_nil fun x _ => by simp) (Nat.le_refl 0)

/-- The grass search of the program. -/
theorem nb4_in {a : List Int} (ha : LawnS a) (u c : Cell) (hu : gB a u = true) (hc : gB a c = true) (h : c ∈ nb4 u) : u ∈ nb4 c := by
  obtain ⟨⟨h1, h2⟩, h3, h4⟩ := gB_in ha hu
  obtain ⟨⟨h5, h6⟩, h7, h8⟩ := gB_in ha hc
  obtain ⟨u1, u2⟩ := u
  obtain ⟨c1, c2⟩ := c
  simp only [nb4, nbrs, List.mem_cons, List.not_mem_nil, or_false, Prod.mk.injEq] at h h1 h2 h3 h4 h5 h6 h7 h8 ⊢
  rw [wrap8 (x := u2 - 1) (by omega), wrap8 (x := u1 - 1) (by omega), wrap8 (x := u1 + 1) (by omega), wrap8 (x := u2 + 1) (by omega)] at h
  rw [wrap8 (x := c2 - 1) (by omega), wrap8 (x := c1 - 1) (by omega), wrap8 (x := c1 + 1) (by omega), wrap8 (x := c2 + 1) (by omega)]
  omega

theorem grass_srch (k : Nat) {a : List Int} {w h : Nat} (v : LawnV a w h) : Srch a (fun z2 => (impl_Lawn_grass k a [(rd z2 0), (rd z2 1)]).bind fun b => some b) (fun z3 => (impl_beside k [(rd z3 0), (rd z3 1)]).bind fun b => some b) (gB a) (gB a) nb4 (allC w h) := by
  refine ⟨fun c => ?_, fun c _ => impl_grassL k v.toLawnS c, fun u hu => rfl, fun u => by show 4 ≤ 100; decide, fun x hx => gB_all v hx, allC_small v, fun u c hu hc hm => nb4_in v.toLawnS u c hu hc hm⟩
  unfold gB grassB
  cases hasB a c.1 c.2 <;> rfl

theorem impl_pieces (k : Nat) {a : List Int} {w h : Nat} (v : LawnV a w h) (hk : 102 < k) : impl_Lawn_parts k a (fun z2 => (impl_Lawn_grass k a [(rd z2 0), (rd z2 1)]).bind fun b => some b) (fun z3 => (impl_beside k [(rd z3 0), (rd z3 1)]).bind fun b => some b) = some ((partsL (gB a) nb4 ((allC w h).filter (gB a))).map (rowP w h)) := impl_parts k v (grass_srch k v) hk



set_option maxRecDepth 100000




theorem eqCell_self (k : Nat) (a : List Int) : laws_eqCell k a a = some true := by
  unfold laws_eqCell
  simp

theorem eqCellS_loop {R : Type} (k : Nat) (K1 : Bool → Option R) (K2 : Option R) (a : List Int) (n : Nat) (h : a.length = n * 2) (hn : n ≤ 1048576) : ∀ (m i f : Nat), i + m = n → m < f →
    loopF (fun (rec : (List Int) × (List Int) × Int → Option R) (p : (List Int) × (List Int) × Int) => laws_eqCellS_s0 k K1 K2 (fun h1 h2 h3 => rec (h1, h2, h3)) p.1 p.2.1 p.2.2) f (a, a, (i : Int)) = K2 := by
  intro m
  induction m with
  | zero =>
    intro i f hi hf
    obtain ⟨f, rfl⟩ : ∃ g, f = g + 1 := ⟨f - 1, by omega⟩
    rw [loopF]
    dsimp only
    unfold laws_eqCellS_s0
    rw [cnt_two h, bF (by omega)]
    rfl
  | succ m ih =>
    intro i f hi hf
    obtain ⟨f, rfl⟩ : ∃ g, f = g + 1 := ⟨f - 1, by omega⟩
    rw [loopF]
    dsimp only
    unfold laws_eqCellS_s0
    rw [cnt_two h, bT (p := (i : Int) < (n : Int)) (by omega), bT (p := (0 : Int) ≤ (i : Int)) (by omega), eqCell_self]
    have e3 : IntKind.wrap .i64 ((i : Int) + 1) = ((i + 1 : Nat) : Int) := by rw [wrap64 (by omega)]; omega
    simp only [cond_true, Bool.and_true, Option.bind_some, Bool.not_true, cond_false]
    rw [e3]
    exact ih (i + 1) f (by omega) (by omega)

theorem eqCellS_self (k : Nat) (a : List Int) (n : Nat) (h : a.length = n * 2) (hn : n ≤ 1048576) (hk : n < k) : laws_eqCellS k a a = some true := by
  unfold laws_eqCellS laws_eqCellS_l0
  simp only [bne_self_eq_false, cond_false]
  exact eqCellS_loop k (fun y1 => some y1) (some true) a n h hn n 0 k (by omega) hk




/-! ## All cells -/




theorem impl_cells (k : Nat) {a : List Int} (ha : LawnR a) (L : List (Int × Int)) (hL : L.length ≤ 1000) (hk : 10 < k) (hk2 : L.length < k) :
    impl_cellsCode k a (fl L) = some (cond (lawnB a) (cond (L.any fun p => !(hasB a p.1 p.2)) 2 0) 1) := by
  unfold impl_cellsCode
  rw [impl_valid k hk ha]
  simp only [Option.bind_some]
  cases lawnB a with
  | false => rfl
  | true =>
    simp only [Bool.not_true, cond_false, cond_true]
    rw [containsFunc_cells k L _ (fun p => !(hasB a p.1 p.2)) (fun p _ => by unfold impl_cellsCode_1; rw [show impl_Lawn_has k a [rd [rd [p.1, p.2] 0, rd [p.1, p.2] 1] 0, rd [rd [p.1, p.2] 0, rd [p.1, p.2] 1] 1] = some (hasB a p.1 p.2) from impl_has k a p.1 p.2]; rfl) (by omega) hk2]
    simp only [Option.bind_some]
    cases (L.any fun p => !(hasB a p.1 p.2)) <;> rfl

theorem impl_cells_nil (k : Nat) {a : List Int} (ha : LawnR a) (hk : 10 < k) : impl_cellsCode k a [] = some (cond (lawnB a) 0 1) := by
  have := impl_cells k ha [] (by simp) hk (by simp; omega)
  simpa [fl] using this

theorem impl_cells_one (k : Nat) {a : List Int} (ha : LawnR a) (x y : Int) (hk : 10 < k) : impl_cellsCode k a [x, y] = some (cond (lawnB a) (cond (hasB a x y) 0 2) 1) := by
  have := impl_cells k ha [(x, y)] (by simp) hk (by simp; omega)
  simp only [fl, List.any_cons, List.any_nil, Bool.or_false] at this
  rw [this]
  cases hasB a x y <;> rfl



def mk8 (c : Int) (m : Nat) : List Int := (List.range m).map fun (j : Nat) => IntKind.wrap .i8 (c + (j : Int))

theorem mk8_len (c : Int) (m : Nat) : (mk8 c m).length = m := by simp [mk8]
theorem mk8_succ (c : Int) (m : Nat) : mk8 c (m + 1) = mk8 c m ++ [IntKind.wrap .i8 (c + (m : Int))] := by simp [mk8, List.range_succ]
theorem rd_mk8 (c : Int) {m j : Nat} (h : j < m) : rd (mk8 c m) j = IntKind.wrap .i8 (c + (j : Int)) := by
  unfold rd mk8
  rw [List.getD_eq_getElem?_getD, List.getElem?_map, List.getElem?_range h]
  rfl

theorem set_mid (A r : List Int) (x v : Int) {i : Nat} (h : A.length = i) : List.set (A ++ x :: r) i v = A ++ v :: r := by
  subst h
  rw [List.set_append_right _ _ (Nat.le_refl _), Nat.sub_self]
  rfl

theorem mark_cells (k : Nat) (l : List Int) (n : Nat) (c : Int) (hl : l.length = n * 2) (hn : n ≤ 1048576) (hc : 0 ≤ c ∧ c ≤ 1000000) (hk : n < k) : laws_markCellS k l c = some (c + 2 * (n : Int), mk8 c (n * 2)) := by
  unfold laws_markCellS laws_markCellS_l0
  have := loopF_go (R := Int × List Int) (step := fun (rec : Int × Int × (List Int) → Option (Int × List Int)) (p : Int × Int × (List Int)) => laws_markCellS_s0 k (fun y1 y2 => some (y1, y2)) (fun h1 h2 h3 => rec (h1, h2, h3)) p.1 p.2.1 p.2.2)
    (fun i => (c + 2 * (i : Int), (i : Int), mk8 c (i * 2) ++ l.drop (i * 2))) (fun _ _ => some (c + 2 * (n : Int), mk8 c (n * 2))) n ?_ ?_ n 0 k (by omega) (by omega)
  · simpa [mk8] using this
  · intro rec
    dsimp only
    unfold laws_markCellS_s0
    have e : l.drop (n * 2) = [] := List.drop_eq_nil_of_le (by omega)
    rw [e, List.append_nil, cnt_two (n := n) (mk8_len _ _)]
    simp (disch := omega) only [bF, cond_false]
  · intro i m hi rec hrec
    dsimp only at hrec ⊢
    unfold laws_markCellS_s0
    have e0 : ∀ v, cnt 2 (List.set (mk8 c (i * 2) ++ l.drop (i * 2)) (i * 2) v) = n := fun v => cnt_two (by rw [List.length_set, List.length_append, mk8_len, List.length_drop, hl]; omega)
    have e1 : cnt 2 (mk8 c (i * 2) ++ l.drop (i * 2)) = n := cnt_two (by rw [List.length_append, mk8_len, List.length_drop, hl]; omega)
    simp only [Int.toNat_natCast, e0, e1]
    simp (disch := omega) only [bT, cond_true, Bool.and_true, wrap64]
    rw [drop_rd (show i * 2 < l.length by omega), drop_rd (show i * 2 + 1 < l.length by omega), set_mid _ _ _ _ (mk8_len _ _)]
    have e2 : mk8 c (i * 2) ++ IntKind.wrap .i8 (c + 2 * (i : Int)) :: rd l (i * 2 + 1) :: l.drop (i * 2 + 1 + 1) = mk8 c (i * 2 + 1) ++ rd l (i * 2 + 1) :: l.drop (i * 2 + 1 + 1) := by
      rw [mk8_succ, show c + ((i * 2 : Nat) : Int) = c + 2 * (i : Int) by omega, List.append_assoc]
      rfl
    rw [e2, set_mid _ _ _ _ (mk8_len _ _)]
    have e3 : mk8 c (i * 2 + 1) ++ IntKind.wrap .i8 (c + 2 * (i : Int) + 1) :: l.drop (i * 2 + 1 + 1) = mk8 c ((i + 1) * 2) ++ l.drop ((i + 1) * 2) := by
      have q1 : (i + 1) * 2 = i * 2 + 1 + 1 := by omega
      rw [q1, mk8_succ c (i * 2 + 1), show c + ((i * 2 + 1 : Nat) : Int) = c + 2 * (i : Int) + 1 by omega, List.append_assoc]
      rfl
    rw [e3]
    have q2 : c + 2 * (i : Int) + 1 + 1 = c + 2 * ((i + 1 : Nat) : Int) := by omega
    rw [q2]
    exact hrec

theorem held_cells (k : Nat) (n : Nat) (c : Int) (hn : n ≤ 1048576) (hc : 0 ≤ c ∧ c ≤ 1000000) (hk : n < k) : laws_heldCellS k (mk8 c (n * 2)) c = some (c + 2 * (n : Int)) := by
  unfold laws_heldCellS laws_heldCellS_l0
  have := loopF_go (R := Int) (step := fun (rec : (List Int) × Int × Int → Option Int) (p : (List Int) × Int × Int) => laws_heldCellS_s0 k (fun y1 => some y1) (fun y2 => some y2) (fun h1 h2 h3 => rec (h1, h2, h3)) p.1 p.2.1 p.2.2)
    (fun i => (mk8 c (n * 2), c + 2 * (i : Int), (i : Int))) (fun _ _ => some (c + 2 * (n : Int))) n ?_ ?_ n 0 k (by omega) (by omega)
  · simpa using this
  · intro rec
    dsimp only
    unfold laws_heldCellS_s0
    rw [cnt_two (n := n) (mk8_len _ _)]
    simp (disch := omega) only [bF, cond_false]
  · intro i m hi rec hrec
    dsimp only at hrec ⊢
    unfold laws_heldCellS_s0
    rw [cnt_two (n := n) (mk8_len _ _)]
    simp only [Int.toNat_natCast]
    rw [rd_mk8 c (show i * 2 < n * 2 by omega), rd_mk8 c (show i * 2 + 1 < n * 2 by omega)]
    have e1 : c + ((i * 2 : Nat) : Int) = c + 2 * (i : Int) := by omega
    have e2 : c + ((i * 2 + 1 : Nat) : Int) = c + 2 * (i : Int) + 1 := by omega
    rw [e1, e2]
    have q2 : c + 2 * (i : Int) + 1 + 1 = c + 2 * ((i + 1 : Nat) : Int) := by omega
    simp (disch := omega) only [bT, cond_true, Bool.and_true, wrap64, bne_self_eq_false, cond_false]
    rw [q2]
    exact hrec

/-- A row that is marked holds its marks. -/
theorem marks_cells (k : Nat) (L : List (Int × Int)) (hL : L.length ≤ 1000) (hk : 1000 < k) : ∃ m l, laws_markCellS k (fl L) 1 = some (m, l) ∧ laws_heldCellS k l 1 = some m ∧ 0 ≤ m :=
  ⟨_, _, mark_cells k (fl L) L.length 1 (fl_length L) (by omega) (by omega) (by omega), held_cells k L.length 1 (by omega) (by omega) (by omega), by omega⟩

theorem eqCells_self (k : Nat) (L : List (Int × Int)) (hL : L.length ≤ 1000) (hk : 1000 < k) : laws_eqCellS k (fl L) (fl L) = some true :=
  eqCellS_self k (fl L) L.length (fl_length L) (by omega) (by omega)







theorem eqCellSS_self (k : Nat) {Ls : List Cs} (h : RowsR Ls) (hk : Ls.length < k) (hk2 : ∀ L ∈ Ls, L.length < k) : laws_eqCellSS k (Ls.map fl) (Ls.map fl) = some true := by
  have hc := h.cnt
  unfold laws_eqCellSS laws_eqCellSS_l0
  simp only [bne_self_eq_false, cond_false]
  have key := loopF_go (step := fun (rec : (List (List Int)) × (List (List Int)) × Int → Option Bool) (p : (List (List Int)) × (List (List Int)) × Int) => laws_eqCellSS_s0 k (fun y1 => some y1) (some true) (fun h1 h2 h3 => rec (h1, h2, h3)) p.1 p.2.1 p.2.2)
    (fun i => (Ls.map fl, Ls.map fl, (i : Int))) (fun _ _ => some true) Ls.length ?_ ?_ Ls.length 0 k (by omega) hk
  · exact key
  · intro rec
    dsimp only
    unfold laws_eqCellSS_s0
    rw [List.length_map, bF (by omega)]
    rfl
  · intro i m him rec hrec
    dsimp only at hrec ⊢
    unfold laws_eqCellSS_s0
    have hrow := h.len _ (getD_mem Ls [] (i := i) (by omega))
    have hrow2 := hk2 _ (getD_mem Ls [] (i := i) (by omega))
    rw [List.length_map, bT (p := (i : Int) < (Ls.length : Int)) (by omega), bT (p := (0 : Int) ≤ (i : Int)) (by omega)]
    simp only [cond_true, Bool.and_true, Int.toNat_natCast]
    rw [rdr_map, eqCellS_self k _ _ (fl_length _) hrow hrow2, wrap64_succ (by omega)]
    simp only [Option.bind_some, Bool.not_true, cond_false]
    exact hrec


end Go.Proofs.Ytkdpdmfkomnalaa.Tt
