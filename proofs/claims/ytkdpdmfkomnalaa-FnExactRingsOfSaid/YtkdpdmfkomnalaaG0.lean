/- Plain laws, joined: Y1 Y2 Y3 Y5 Y9a Y9 Y9g Y10 Y13 Y19 Y20 Y10b Y21 Y14n Y4a Y4 Y5b Y6 Y7 Y44 Y35b. -/
import Derived.Test.YtkdpdmfkomnalaaSh
import Derived.KernelRfl
set_option linter.unusedVariables false
set_option linter.unusedSimpArgs false
namespace Go.Proofs.Ytkdpdmfkomnalaa.Tt
open Go.Ev Go


set_option maxRecDepth 100000

theorem toByteA10_eq (n : Nat) (a : List Int) : laws_toByteA10 (n + 11) a = some (rds a 0 0 10) := by kernel_rfl

theorem toByteA10A10_eq (n : Nat) (a : List Int) : laws_toByteA10A10 (n + 11) a = some (rds (win a 0 10) 0 0 10 ++ (rds (win a 10 10) 0 0 10 ++ (rds (win a 20 10) 0 0 10 ++ (rds (win a 30 10) 0 0 10 ++ (rds (win a 40 10) 0 0 10 ++ (rds (win a 50 10) 0 0 10 ++ (rds (win a 60 10) 0 0 10 ++ (rds (win a 70 10) 0 0 10 ++ (rds (win a 80 10) 0 0 10 ++ rds (win a 90 10) 0 0 10))))))))) := by kernel_rfl

theorem rds_win (a : List Int) (off : Nat) : rds (win a off 10) 0 0 10 = rds a off 0 10 := by
  have h : ∀ (n j : Nat), j + n ≤ 10 → rds (win a off 10) 0 j n = rds a off j n := by
    intro n
    induction n with
    | zero => intro j _; rfl
    | succ n ih =>
      intro j hj
      simp only [rds]
      rw [ih (j + 1) (by omega), rd_win _ _ _ _ (by omega), Nat.zero_add]
  exact h 10 0 (by omega)

theorem rds_append (a : List Int) (off : Nat) : ∀ (n m j : Nat), rds a off j n ++ rds a off (j + n) m = rds a off j (n + m) := by
  intro n
  induction n with
  | zero => intro m j; simp [rds]
  | succ n ih =>
    intro m j
    have e : n + 1 + m = (n + m) + 1 := by omega
    rw [e]
    simp only [rds, List.cons_append]
    rw [← ih m (j + 1)]
    have : j + 1 + n = j + (n + 1) := by omega
    rw [this]

theorem rds_shift (a : List Int) : ∀ (n off j : Nat), rds a off j n = rds a 0 (off + j) n := by
  intro n
  induction n with
  | zero => intro off j; rfl
  | succ n ih =>
    intro off j
    simp only [rds, Nat.zero_add]
    rw [ih off (j + 1), Nat.add_assoc]

theorem toByteA10A10_id (n : Nat) (a : List Int) (h : a.length = 100) : laws_toByteA10A10 (n + 11) a = some a := by
  rw [toByteA10A10_eq]
  have e : ∀ off, rds (win a off 10) 0 0 10 = rds a 0 off 10 := fun off => by rw [rds_win, rds_shift]; rfl
  rw [e 0, e 10, e 20, e 30, e 40, e 50, e 60, e 70, e 80, e 90]
  rw [rds_append a 0 10 10 80, rds_append a 0 10 20 70, rds_append a 0 10 30 60, rds_append a 0 10 40 50, rds_append a 0 10 50 40, rds_append a 0 10 60 30, rds_append a 0 10 70 20, rds_append a 0 10 80 10, rds_append a 0 10 90 0]
  rw [rds_all a 100 h]

theorem toLawn_id (n : Nat) (a : List Int) (h : a.length = 102) : laws_toLawn (n + 11) a = some a := by
  unfold laws_toLawn
  rw [toByteA10A10_id n (win a 2 100) (win_length _ _ _ (by omega))]
  simp only [Option.bind_some]
  congr 1
  show List.take 2 (List.set (List.set (List.replicate 102 0) 0 (rd a 0)) 1 (rd a 1)) ++ (win a 2 100 ++ List.drop 102 (List.set (List.set (List.replicate 102 0) 0 (rd a 0)) 1 (rd a 1))) = a
  have e1 : List.take 2 (List.set (List.set (List.replicate 102 0) 0 (rd a 0)) 1 (rd a 1)) = [rd a 0, rd a 1] := rfl
  have e2 : List.drop 102 (List.set (List.set (List.replicate 102 0) 0 (rd a 0)) 1 (rd a 1)) = ([] : List Int) := List.drop_eq_nil_of_le (by simp)
  rw [e1, e2, List.append_nil]
  match a, h with
  | x :: y :: r, h =>
    have hr : r.length = 100 := by simpa using h
    show x :: y :: win (x :: y :: r) 2 100 = x :: y :: r
    have : win (x :: y :: r) 2 100 = r := by
      unfold win
      simp only [List.drop_succ_cons, List.drop_zero]
      exact List.take_of_length_le (by omega)
    rw [this]



theorem wrap64 {x : Int} (h : -9223372036854775808 ≤ x ∧ x < 9223372036854775808) : IntKind.wrap .i64 x = x := by
  simp only [IntKind.wrap, IntKind.bits, IntKind.signed]
  simp
  omega

theorem wrap8 {x : Int} (h : -128 ≤ x ∧ x < 128) : IntKind.wrap .i8 x = x := by
  simp only [IntKind.wrap, IntKind.bits, IntKind.signed]
  simp
  omega

theorem cnt_two {a : List Int} {n : Nat} (h : a.length = n * 2) : cnt 2 a = n := by unfold cnt; omega

theorem bT {p : Prop} [Decidable p] (h : p) : decide p = true := decide_eq_true h
theorem bF {p : Prop} [Decidable p] (h : ¬ p) : decide p = false := decide_eq_false h

theorem drop_rd {a : List Int} {i : Nat} (h : i < a.length) : a.drop i = rd a i :: a.drop (i + 1) := by
  rw [List.drop_eq_getElem_cons h]
  simp [rd, h]



/-- A lawn's numbers are those of its kinds. -/
structure LawnR (a : List Int) : Prop where
  len : a.length = 102
  wide : -128 ≤ rd a 0 ∧ rd a 0 < 128
  high : -128 ≤ rd a 1 ∧ rd a 1 < 128
  cell : ∀ j, j < 100 → 0 ≤ rd a (2 + j) ∧ rd a (2 + j) < 256

def sideB (n : Int) : Bool := decide (1 ≤ n) && decide (n ≤ 10)

def cellB (a : List Int) (y x : Nat) : Bool := decide (rd a (2 + y * 10 + x) ≤ 3) && (decide (rd a (2 + y * 10 + x) = 0) || (decide ((x : Int) < rd a 0) && decide ((y : Int) < rd a 1)))

def rowB (a : List Int) (y : Nat) : Nat → Nat → Bool
  | _, 0 => true
  | x, m + 1 => cellB a y x && rowB a y (x + 1) m

def rowsB (a : List Int) : Nat → Nat → Bool
  | _, 0 => true
  | y, m + 1 => rowB a y 0 10 && rowsB a (y + 1) m

def lawnB (a : List Int) : Bool := sideB (rd a 0) && (sideB (rd a 1) && rowsB a 0 10)

theorem spec_side (k : Nat) (n : Int) : spec_l01Side k n = some (sideB n) := by
  unfold spec_l01Side spec_l00In sideB
  by_cases h : 1 ≤ n
  · rw [bT (p := n ≥ 1) h]; rfl
  · rw [bF (p := n ≥ 1) h]; rfl

theorem impl_side (k : Nat) (n : Int) : impl_within k n 1 10 = some (sideB n) := by
  unfold impl_within sideB
  by_cases h : 1 ≤ n
  · rw [bT h]; rfl
  · rw [bF h]; rfl

theorem spec_is (k : Nat) {a : List Int} (ha : LawnR a) {x y : Int} (hx : -128 ≤ x ∧ x < 128) (hy : -128 ≤ y ∧ y < 128) :
    spec_l01Is k a [x, y] = some ((decide (0 ≤ x) && decide (x < rd a 0)) && (decide (0 ≤ y) && decide (y < rd a 1))) := by
  have hw := ha.wide
  have hh := ha.high
  unfold spec_l01Is spec_l00In
  have e1 : rd [x, y] 0 = x := rfl
  have e2 : rd [x, y] 1 = y := rfl
  rw [e1, e2, wrap64 (x := x) (by omega), wrap64 (x := y) (by omega), wrap64 (x := rd a 0) (by omega), wrap64 (x := rd a 1) (by omega), wrap64 (x := rd a 0 - 1) (by omega), wrap64 (x := rd a 1 - 1) (by omega)]
  by_cases h1 : 0 ≤ x
  · by_cases h2 : x < rd a 0
    · rw [bT (p := x ≥ 0) h1, bT h2]
      simp only [cond_true, Option.bind_some]
      rw [bT (p := x ≤ rd a 0 - 1) (by omega)]
      simp only [cond_true]
      by_cases h3 : 0 ≤ y
      · rw [bT (p := y ≥ 0) h3]
        simp only [cond_true, Option.bind_some, Bool.true_and]
        congr 1
        by_cases h4 : y < rd a 1
        · rw [bT h4, bT (by omega)]
        · rw [bF h4, bF (by omega)]
      · rw [bF (p := y ≥ 0) h3]; rfl
    · rw [bT (p := x ≥ 0) h1, bF h2]
      simp only [cond_true, Option.bind_some]
      rw [bF (p := x ≤ rd a 0 - 1) (by omega)]
      rfl
  · rw [bF (p := x ≥ 0) h1]; rfl

theorem impl_has (k : Nat) (a : List Int) (x y : Int) : impl_Lawn_has k a [x, y] = some ((decide (0 ≤ x) && decide (x < rd a 0)) && (decide (0 ≤ y) && decide (y < rd a 1))) := by
  unfold impl_Lawn_has
  have e1 : rd [x, y] 0 = x := rfl
  have e2 : rd [x, y] 1 = y := rfl
  rw [e1, e2]
  by_cases h1 : 0 ≤ x
  · rw [bT (p := x ≥ 0) h1]
    by_cases h2 : x < rd a 0
    · rw [bT h2]
      by_cases h3 : 0 ≤ y
      · rw [bT (p := y ≥ 0) h3]; rfl
      · rw [bF (p := y ≥ 0) h3]; rfl
    · rw [bF h2]; rfl
  · rw [bF (p := x ≥ 0) h1]; rfl

theorem impl_row {R : Type} (k : Nat) (K1 : Bool → Option R) (K2 : Int → List Int → Option R) {a : List Int} (ha : LawnR a) (y : Nat) (hy : y < 10) (h2 : Int) : ∀ (m x f : Nat), x + m = 10 → m < f →
    loopF (fun (rec : Int × Int × Int × (List Int) → Option R) (p : Int × Int × Int × (List Int)) => impl_ValidLawn_s0 k K1 K2 (fun h1 h2 h3 h4 => rec (h1, h2, h3, h4)) p.1 p.2.1 p.2.2.1 p.2.2.2) f ((y : Int), h2, (x : Int), a) =
      cond (rowB a y x m) (K2 h2 a) (K1 false) := by
  intro m
  induction m with
  | zero =>
    intro x f hx hf
    obtain ⟨f, rfl⟩ : ∃ g, f = g + 1 := ⟨f - 1, by omega⟩
    rw [loopF]
    dsimp only
    unfold impl_ValidLawn_s0
    rw [bF (by omega)]
    rfl
  | succ m ih =>
    intro x f hx hf
    obtain ⟨f, rfl⟩ : ∃ g, f = g + 1 := ⟨f - 1, by omega⟩
    rw [loopF]
    dsimp only
    unfold impl_ValidLawn_s0
    have hc := ha.cell (y * 10 + x) (by omega)
    have hcell : 2 + y * 10 + x = 2 + (y * 10 + x) := by omega
    rw [bT (p := (x : Int) < 10) (by omega), bT (p := (0 : Int) ≤ (y : Int)) (by omega), bT (p := (y : Int) < 10) (by omega), bT (p := (0 : Int) ≤ (x : Int)) (by omega)]
    simp only [cond_true, Bool.and_true]
    have e1 : (y : Int).toNat = y := by omega
    have e2 : (x : Int).toNat = x := by omega
    have e3 : IntKind.wrap .i8 ((x : Int) + 1) = ((x + 1 : Nat) : Int) := by rw [wrap8 (by omega)]; omega
    rw [e1, e2, e3, Nat.mul_one]
    have hrec := ih (x + 1) f (by omega) (by omega)
    simp only [rowB, cellB]
    by_cases g1 : rd a (2 + y * 10 + x) ≤ 3
    · rw [bF (p := rd a (2 + y * 10 + x) > 3) (by omega), bT g1]
      simp only [cond_false, Bool.true_and]
      by_cases g2 : rd a (2 + y * 10 + x) = 0
      · rw [g2]
        simp only [bne_self_eq_false, cond_false, decide_true, Bool.true_or, Bool.true_and]
        exact hrec
      · have : (rd a (2 + y * 10 + x) != 0) = true := by simp [g2]
        rw [this, bF g2, impl_has]
        simp only [cond_true, Option.bind_some, Bool.false_or]
        rw [bT (p := (0 : Int) ≤ (x : Int)) (by omega), bT (p := (0 : Int) ≤ (y : Int)) (by omega)]
        simp only [Bool.true_and]
        cases hq : (decide ((x : Int) < rd a 0) && decide ((y : Int) < rd a 1)) with
        | true => simp only [Bool.not_true, cond_false, Bool.true_and]; exact hrec
        | false => rfl
    · rw [bT (p := rd a (2 + y * 10 + x) > 3) (by omega), bF g1]
      rfl

theorem spec_row {R : Type} (k : Nat) (K1 : Bool → Option R) (K2 : List Int → Int → Option R) {a : List Int} (ha : LawnR a) (y : Nat) (hy : y < 10) : ∀ (m x f : Nat), x + m = 10 → m < f →
    loopF (fun (rec : (List Int) × Int × Int → Option R) (p : (List Int) × Int × Int) => spec_l01Ok_s0 k K1 K2 (fun h1 h2 h3 => rec (h1, h2, h3)) p.1 p.2.1 p.2.2) f (a, (y : Int), (x : Int)) =
      cond (rowB a y x m) (K2 a y) (K1 false) := by
  intro m
  induction m with
  | zero =>
    intro x f hx hf
    obtain ⟨f, rfl⟩ : ∃ g, f = g + 1 := ⟨f - 1, by omega⟩
    rw [loopF]
    dsimp only
    unfold spec_l01Ok_s0
    rw [bF (by omega)]
    rfl
  | succ m ih =>
    intro x f hx hf
    obtain ⟨f, rfl⟩ : ∃ g, f = g + 1 := ⟨f - 1, by omega⟩
    rw [loopF]
    dsimp only
    unfold spec_l01Ok_s0
    have hc := ha.cell (y * 10 + x) (by omega)
    have hcell : 2 + (y * 10 + x) = 2 + y * 10 + x := by omega
    rw [hcell] at hc
    rw [bT (p := (x : Int) < 10) (by omega), bT (p := (0 : Int) ≤ (y : Int)) (by omega), bT (p := (y : Int) < 10) (by omega), bT (p := (0 : Int) ≤ (x : Int)) (by omega)]
    simp only [cond_true, Bool.and_true]
    have e1 : (y : Int).toNat = y := by omega
    have e2 : (x : Int).toNat = x := by omega
    have e3 : IntKind.wrap .i8 ((x : Int) + 1) = ((x + 1 : Nat) : Int) := by rw [wrap8 (by omega)]; omega
    rw [e1, e2, e3, Nat.mul_one, wrap64 (x := rd a (2 + y * 10 + x)) (by omega)]
    have hrec := ih (x + 1) f (by omega) (by omega)
    simp only [rowB, cellB]
    have hkind : spec_l01Kind k (rd a (2 + y * 10 + x)) = some (decide (rd a (2 + y * 10 + x) ≤ 3)) := by
      unfold spec_l01Kind spec_l00In
      rw [bT (p := rd a (2 + y * 10 + x) ≥ 0) (by omega)]
      rfl
    rw [hkind]
    simp only [Option.bind_some]
    by_cases g1 : rd a (2 + y * 10 + x) ≤ 3
    · rw [bT g1]
      simp only [Bool.not_true, cond_false, Bool.true_and]
      by_cases g2 : rd a (2 + y * 10 + x) = 0
      · rw [g2]
        simp only [bne_self_eq_false, cond_false, decide_true, Bool.true_or, Bool.true_and]
        exact hrec
      · have : (rd a (2 + y * 10 + x) != 0) = true := by simp [g2]
        rw [this, bF g2, spec_is k ha (by omega) (by omega)]
        simp only [cond_true, Option.bind_some, Bool.false_or]
        rw [bT (p := (0 : Int) ≤ (x : Int)) (by omega), bT (p := (0 : Int) ≤ (y : Int)) (by omega)]
        simp only [Bool.true_and]
        cases hq : (decide ((x : Int) < rd a 0) && decide ((y : Int) < rd a 1)) with
        | true => simp only [Bool.not_true, cond_false, Bool.true_and]; exact hrec
        | false => rfl
    · rw [bF g1]
      rfl

theorem impl_rows {R : Type} (k : Nat) (hk : 10 < k) (K1 : Bool → Option R) (K2 : Option R) {a : List Int} (ha : LawnR a) : ∀ (m y f : Nat), y + m = 10 → m < f →
    loopF (fun (rec : Int × (List Int) → Option R) (p : Int × (List Int)) => impl_ValidLawn_s1 k K1 K2 (fun h1 h2 => rec (h1, h2)) p.1 p.2) f ((y : Int), a) = cond (rowsB a y m) K2 (K1 false) := by
  intro m
  induction m with
  | zero =>
    intro y f hy hf
    obtain ⟨f, rfl⟩ : ∃ g, f = g + 1 := ⟨f - 1, by omega⟩
    rw [loopF]
    dsimp only
    unfold impl_ValidLawn_s1
    rw [bF (by omega)]
    rfl
  | succ m ih =>
    intro y f hy hf
    obtain ⟨f, rfl⟩ : ∃ g, f = g + 1 := ⟨f - 1, by omega⟩
    rw [loopF]
    dsimp only
    unfold impl_ValidLawn_s1 impl_ValidLawn_l0
    rw [bT (p := (y : Int) < 10) (by omega)]
    simp only [cond_true]
    have h := impl_row k (fun y1 => K1 y1) (fun (y2 : Int) (y3 : List Int) => loopF (fun (rec : Int × (List Int) → Option R) (p : Int × (List Int)) => impl_ValidLawn_s1 k K1 K2 (fun h1 h2 => rec (h1, h2)) p.1 p.2) f (IntKind.wrap .i8 (y2 + 1), y3)) ha y (by omega) (y : Int) 10 0 k (by omega) hk
    have e3 : IntKind.wrap .i8 ((y : Int) + 1) = ((y + 1 : Nat) : Int) := by rw [wrap8 (by omega)]; omega
    rw [e3, ih (y + 1) f (by omega) (by omega)] at h
    refine Eq.trans h ?_
    simp only [rowsB]
    cases rowB a y 0 10 <;> rfl

theorem spec_rows {R : Type} (k : Nat) (hk : 10 < k) (K1 : Bool → Option R) (K2 : Option R) {a : List Int} (ha : LawnR a) : ∀ (m y f : Nat), y + m = 10 → m < f →
    loopF (fun (rec : (List Int) × Int → Option R) (p : (List Int) × Int) => spec_l01Ok_s1 k K1 K2 (fun h1 h2 => rec (h1, h2)) p.1 p.2) f (a, (y : Int)) = cond (rowsB a y m) K2 (K1 false) := by
  intro m
  induction m with
  | zero =>
    intro y f hy hf
    obtain ⟨f, rfl⟩ : ∃ g, f = g + 1 := ⟨f - 1, by omega⟩
    rw [loopF]
    dsimp only
    unfold spec_l01Ok_s1
    rw [bF (by omega)]
    rfl
  | succ m ih =>
    intro y f hy hf
    obtain ⟨f, rfl⟩ : ∃ g, f = g + 1 := ⟨f - 1, by omega⟩
    rw [loopF]
    dsimp only
    unfold spec_l01Ok_s1 spec_l01Ok_l0
    rw [bT (p := (y : Int) < 10) (by omega)]
    simp only [cond_true]
    have h := spec_row k (fun y1 => K1 y1) (fun (y2 : List Int) (y3 : Int) => loopF (fun (rec : (List Int) × Int → Option R) (p : (List Int) × Int) => spec_l01Ok_s1 k K1 K2 (fun h1 h2 => rec (h1, h2)) p.1 p.2) f (y2, IntKind.wrap .i8 (y3 + 1))) ha y (by omega) 10 0 k (by omega) hk
    have e3 : IntKind.wrap .i8 ((y : Int) + 1) = ((y + 1 : Nat) : Int) := by rw [wrap8 (by omega)]; omega
    rw [e3, ih (y + 1) f (by omega) (by omega)] at h
    refine Eq.trans h ?_
    simp only [rowsB]
    cases rowB a y 0 10 <;> rfl

theorem impl_valid (k : Nat) (hk : 10 < k) {a : List Int} (ha : LawnR a) : impl_ValidLawn k a = some (lawnB a) := by
  have hw := ha.wide
  have hh := ha.high
  unfold impl_ValidLawn impl_ValidLawn_l1 lawnB
  rw [wrap64 (x := rd a 0) (by omega), wrap64 (x := rd a 1) (by omega), impl_side, impl_side]
  simp only [Option.bind_some]
  have h := impl_rows k hk (fun y3 => some y3) (some true) ha 10 0 k (by omega) hk
  cases sideB (rd a 0) with
  | false => rfl
  | true =>
    cases sideB (rd a 1) with
    | false => rfl
    | true =>
      simp only [Bool.not_true, cond_false, Bool.true_and]
      refine Eq.trans h ?_
      cases rowsB a 0 10 <;> rfl

theorem spec_valid (k : Nat) (hk : 10 < k) {a : List Int} (ha : LawnR a) : spec_l01Ok k a = some (lawnB a) := by
  have hw := ha.wide
  have hh := ha.high
  unfold spec_l01Ok spec_l01Ok_l1 lawnB
  rw [wrap64 (x := rd a 0) (by omega), wrap64 (x := rd a 1) (by omega), spec_side, spec_side]
  simp only [Option.bind_some]
  have h := spec_rows k hk (fun y3 => some y3) (some true) ha 10 0 k (by omega) hk
  cases sideB (rd a 0) with
  | false => rfl
  | true =>
    cases sideB (rd a 1) with
    | false => rfl
    | true =>
      simp only [Bool.not_true, cond_false, Bool.true_and]
      refine Eq.trans h ?_
      cases rowsB a 0 10 <;> rfl



def hasB (a : List Int) (x y : Int) : Bool := (decide (0 ≤ x) && decide (x < rd a 0)) && (decide (0 ≤ y) && decide (y < rd a 1))
def kindV (a : List Int) (x y : Int) : Int := rd a (2 + y.toNat * 10 + x.toNat)
def openB (a : List Int) (x y : Int) : Bool := hasB a x y && ((kindV a x y == 0) || (kindV a x y == 3))

/-- A lawn whose sides are at most ten. -/
structure LawnS (a : List Int) : Prop extends LawnR a where
  w10 : rd a 0 ≤ 10
  h10 : rd a 1 ≤ 10

theorem hasB_true {a : List Int} {x y : Int} (h : hasB a x y = true) : 0 ≤ x ∧ x < rd a 0 ∧ 0 ≤ y ∧ y < rd a 1 := by
  unfold hasB at h
  simp only [Bool.and_eq_true, decide_eq_true_eq] at h
  omega

theorem kind_range {a : List Int} (ha : LawnS a) {x y : Int} (h : hasB a x y = true) : 0 ≤ kindV a x y ∧ kindV a x y < 256 := by
  obtain ⟨h1, h2, h3, h4⟩ := hasB_true h
  have := ha.w10
  have := ha.h10
  have hc := ha.cell (y.toNat * 10 + x.toNat) (by omega)
  unfold kindV
  have e : 2 + y.toNat * 10 + x.toNat = 2 + (y.toNat * 10 + x.toNat) := by omega
  rw [e]
  exact hc

theorem spec_at (k : Nat) {a : List Int} (ha : LawnS a) {x y : Int} (h : hasB a x y = true) : spec_l01At k a [x, y] = some (kindV a x y) := by
  obtain ⟨h1, h2, h3, h4⟩ := hasB_true h
  have := ha.w10
  have := ha.h10
  have hr := kind_range ha h
  unfold spec_l01At
  have e1 : rd [x, y] 0 = x := rfl
  have e2 : rd [x, y] 1 = y := rfl
  rw [e1, e2, bT (p := 0 ≤ y) h3, bT (p := y < 10) (by omega), bT (p := 0 ≤ x) h1, bT (p := x < 10) (by omega)]
  simp only [Bool.and_true, cond_true, Nat.mul_one]
  have e : rd a (2 + y.toNat * 10 + x.toNat) = kindV a x y := rfl
  rw [e, wrap64 (by omega)]

theorem impl_kind (k : Nat) {a : List Int} (ha : LawnS a) {x y : Int} (h : hasB a x y = true) : impl_Lawn_kind k a [x, y] = some (kindV a x y) := spec_at k ha h

theorem impl_is (k : Nat) {a : List Int} (ha : LawnS a) (x y v : Int) : impl_Lawn_is k a [x, y] v = some (hasB a x y && (kindV a x y == v)) := by
  unfold impl_Lawn_is
  have e : impl_Lawn_has k a [rd [x, y] 0, rd [x, y] 1] = some (hasB a x y) := impl_has k a x y
  rw [e]
  cases h : hasB a x y with
  | false => rfl
  | true =>
    simp only [Option.bind_some, cond_true, Bool.true_and]
    have e2 : impl_Lawn_kind k a [rd [x, y] 0, rd [x, y] 1] = some (kindV a x y) := impl_kind k ha h
    rw [e2]
    rfl



/-- A loop whose states are told by a number i, with m rounds left. -/
theorem loopF_go {S R : Type} {step : (S → Option R) → S → Option R} (σ : Nat → S) (V : Nat → Nat → Option R) (n : Nat)
    (h0 : ∀ rec : S → Option R, step rec (σ n) = V n 0)
    (hs : ∀ i m, i + (m + 1) = n → ∀ rec : S → Option R, rec (σ (i + 1)) = V (i + 1) m → step rec (σ i) = V i (m + 1)) :
    ∀ m i f, i + m = n → m < f → loopF step f (σ i) = V i m := by
  intro m
  induction m with
  | zero =>
    intro i f hi hf
    obtain ⟨f, rfl⟩ : ∃ g, f = g + 1 := ⟨f - 1, by omega⟩
    have : i = n := by omega
    subst this
    rw [loopF]
    exact h0 _
  | succ m ih =>
    intro i f hi hf
    obtain ⟨f, rfl⟩ : ∃ g, f = g + 1 := ⟨f - 1, by omega⟩
    rw [loopF]
    exact hs i m hi _ (ih (i + 1) f (by omega) (by omega))

/-- A loop with a bound that falls. -/
theorem loopF_wf {S R : Type} {step : (S → Option R) → S → Option R} (Inv : S → Prop) (μ : S → Nat) (V : S → Option R)
    (hs : ∀ s, Inv s → ∀ rec : S → Option R, (∀ s', Inv s' → μ s' < μ s → rec s' = V s') → step rec s = V s) : ∀ f s, Inv s → μ s < f → loopF step f s = V s := by
  intro f
  induction f with
  | zero => intro s _ h; omega
  | succ f ih =>
    intro s hi hf
    rw [loopF]
    exact hs s hi _ fun s' hi' hm => ih s' hi' (by omega)

/-! ## Pairs -/

def fl : List (Int × Int) → List Int
  | [] => []
  | (x, y) :: r => x :: y :: fl r

theorem fl_length : ∀ (L : List (Int × Int)), (fl L).length = L.length * 2 := by
  intro L
  induction L with
  | nil => rfl
  | cons p r ih => obtain ⟨x, y⟩ := p; simp only [fl, List.length_cons, ih]; omega

theorem fl_append : ∀ (L R : List (Int × Int)), fl (L ++ R) = fl L ++ fl R := by
  intro L R
  induction L with
  | nil => rfl
  | cons p r ih => obtain ⟨x, y⟩ := p; simp [fl, ih]

theorem cnt_fl (L : List (Int × Int)) : cnt 2 (fl L) = L.length := cnt_two (fl_length L)

theorem fl_x : ∀ (L : List (Int × Int)) (i : Nat), rd (fl L) (i * 2) = (L.getD i (0, 0)).1 := by
  intro L
  induction L with
  | nil => intro i; simp [fl, rd]
  | cons p r ih =>
    obtain ⟨x, y⟩ := p
    intro i
    cases i with
    | zero => rfl
    | succ i =>
      have e : (i + 1) * 2 = i * 2 + 1 + 1 := by omega
      rw [e]
      show rd (fl r) (i * 2) = _
      rw [ih]
      rfl

theorem fl_y : ∀ (L : List (Int × Int)) (i : Nat), rd (fl L) (i * 2 + 1) = (L.getD i (0, 0)).2 := by
  intro L
  induction L with
  | nil => intro i; simp [fl, rd]
  | cons p r ih =>
    obtain ⟨x, y⟩ := p
    intro i
    cases i with
    | zero => rfl
    | succ i =>
      have e : (i + 1) * 2 + 1 = i * 2 + 1 + 1 + 1 := by omega
      rw [e]
      show rd (fl r) (i * 2 + 1) = _
      rw [ih]
      rfl

/-! ## All cells of a lawn -/

def rowC (y : Nat) (w : Nat) : List (Int × Int) := (List.range w).map fun (x : Nat) => ((x : Int), (y : Int))
def allC (w h : Nat) : List (Int × Int) := (List.range h).flatMap fun (y : Nat) => rowC y w

theorem rowC_succ (y w : Nat) : rowC y (w + 1) = rowC y w ++ [((w : Int), (y : Int))] := by simp [rowC, List.range_succ]
theorem allC_succ (w h : Nat) : allC w (h + 1) = allC w h ++ rowC h w := by simp [allC, List.range_succ]
theorem allC_length (w h : Nat) : (allC w h).length = h * w := by
  induction h with
  | zero => simp [allC]
  | succ h ih => rw [allC_succ, List.length_append, ih, Nat.succ_mul]; simp [rowC]

theorem allC_mem {w h : Nat} {p : Int × Int} : p ∈ allC w h ↔ (0 ≤ p.1 ∧ p.1 < w ∧ 0 ≤ p.2 ∧ p.2 < h) := by
  obtain ⟨x, y⟩ := p
  simp only [allC, rowC, List.mem_flatMap, List.mem_range, List.mem_map, Prod.mk.injEq]
  constructor
  · rintro ⟨i, hi, j, hj, rfl, rfl⟩; omega
  · rintro ⟨h1, h2, h3, h4⟩
    exact ⟨y.toNat, by omega, x.toNat, by omega, by omega, by omega⟩

theorem rowC_length (y w : Nat) : (rowC y w).length = w := by simp [rowC]

theorem take_getD {α : Type} (L : List α) (d : α) {i : Nat} (h : i < L.length) : L.take (i + 1) = L.take i ++ [L.getD i d] := by
  rw [List.take_add_one, List.getD_eq_getElem?_getD]
  simp [h]

theorem getD_mem {α : Type} (L : List α) (d : α) {i : Nat} (h : i < L.length) : L.getD i d ∈ L := by
  simp [List.getD_eq_getElem?_getD, h]

theorem bigLen_val : bigLen = 4294967296 := rfl

/-- A lawn that is right, with its sides. -/
structure LawnV (a : List Int) (w h : Nat) : Prop extends LawnS a where
  wv : rd a 0 = (w : Int)
  hv : rd a 1 = (h : Int)
  w1 : 1 ≤ w
  h1 : 1 ≤ h

theorem LawnV.wle {a : List Int} {w h : Nat} (v : LawnV a w h) : w ≤ 10 := by have := v.wv; have := v.w10; omega
theorem LawnV.hle {a : List Int} {w h : Nat} (v : LawnV a w h) : h ≤ 10 := by have := v.hv; have := v.h10; omega

theorem lawnS_of' {a : List Int} (ha : LawnR a) (h : lawnB a = true) : LawnS a := by
  unfold lawnB sideB at h
  simp only [Bool.and_eq_true, decide_eq_true_eq] at h
  exact ⟨ha, h.1.2, h.2.1.2⟩

theorem lawnV_of {a : List Int} (ha : LawnR a) (h : lawnB a = true) : ∃ w h, LawnV a w h := by
  unfold lawnB sideB at h
  simp only [Bool.and_eq_true, decide_eq_true_eq] at h
  exact ⟨(rd a 0).toNat, (rd a 1).toNat, ⟨⟨ha, h.1.2, h.2.1.2⟩, by omega, by omega, by omega, by omega⟩⟩

/-! ## All cells -/



theorem spec_all_row {R : Type} (k : Nat) (K1 : (List Int) → Int → (List Int) → Option R) {a : List Int} {w h : Nat} (v : LawnV a w h) (y : Nat) (o : List Int) (ho : o.length ≤ 1000) (hk : w < k) :
    spec_l01All_l0 k K1 a (y : Int) 0 o = K1 a y (o ++ fl (rowC y w)) := by
  have hw := v.wv
  have hl := v.wle
  unfold spec_l01All_l0
  have := loopF_go (R := R) (step := fun (rec : (List Int) × Int × Int × (List Int) → Option R) (p : (List Int) × Int × Int × (List Int)) => spec_l01All_s0 k K1 (fun h1 h2 h3 h4 => rec (h1, h2, h3, h4)) p.1 p.2.1 p.2.2.1 p.2.2.2)
    (fun i => (a, (y : Int), (i : Int), o ++ fl (rowC y i))) (fun _ _ => K1 a y (o ++ fl (rowC y w))) w ?_ ?_ w 0 k (by omega) hk
  · simpa [rowC, fl] using this
  · intro rec
    dsimp only
    unfold spec_l01All_s0
    simp (disch := omega) only [hw, bF, cond_false]
  · intro i m hi rec hrec
    dsimp only at hrec ⊢
    unfold spec_l01All_s0
    simp (disch := omega) only [hw, bT, cond_true, List.length_append, fl_length, rowC_length, bigLen_val, wrap8]
    rw [rowC_succ, fl_append, ← List.append_assoc] at hrec
    exact hrec

theorem spec_all (k : Nat) {a : List Int} {w h : Nat} (v : LawnV a w h) (hk : 10 < k) : spec_l01All k a = some (fl (allC w h)) := by
  have hh := v.hv
  have hl := v.hle
  have hwl := v.wle
  unfold spec_l01All spec_l01All_l1
  have := loopF_go (step := fun (rec : (List Int) × Int × (List Int) → Option (List Int)) (p : (List Int) × Int × (List Int)) => spec_l01All_s1 k (fun y1 => some y1) (fun h1 h2 h3 => rec (h1, h2, h3)) p.1 p.2.1 p.2.2)
    (fun i => (a, (i : Int), fl (allC w i))) (fun _ _ => some (fl (allC w h))) h ?_ ?_ h 0 k (by omega) (by omega)
  · exact this
  · intro rec
    dsimp only
    unfold spec_l01All_s1
    simp (disch := omega) only [hh, bF, cond_false]
  · intro i m hi rec hrec
    dsimp only at hrec ⊢
    unfold spec_l01All_s1
    have hlen : (fl (allC w i)).length ≤ 1000 := by
      rw [fl_length, allC_length]
      have := Nat.mul_le_mul (show i ≤ 10 by omega) hwl
      omega
    rw [spec_all_row k _ v i _ hlen (by omega)]
    simp (disch := omega) only [hh, bT, cond_true, wrap8]
    rw [allC_succ, fl_append] at hrec
    exact hrec

theorem impl_all_row {R : Type} (k : Nat) (K1 : Int → Int → (List Int) → (List Int) → Option R) {a : List Int} {w h : Nat} (hl : w ≤ 10) (y : Nat) (q r : Int) (o : List Int) (ho : o.length ≤ 1000) (hk : w < k) :
    impl_Lawn_all_l0 k K1 (y : Int) q r (w : Int) 0 a o = K1 q r a (o ++ fl (rowC y w)) := by
  unfold impl_Lawn_all_l0
  have := loopF_go (R := R) (step := fun (rec : Int × Int × Int × Int × Int × (List Int) × (List Int) → Option R) (p : Int × Int × Int × Int × Int × (List Int) × (List Int)) => impl_Lawn_all_s0 k K1 (fun h1 h2 h3 h4 h5 h6 h7 => rec (h1, h2, h3, h4, h5, h6, h7)) p.1 p.2.1 p.2.2.1 p.2.2.2.1 p.2.2.2.2.1 p.2.2.2.2.2.1 p.2.2.2.2.2.2)
    (fun i => ((y : Int), q, r, (w : Int), (i : Int), a, o ++ fl (rowC y i))) (fun _ _ => K1 q r a (o ++ fl (rowC y w))) w ?_ ?_ w 0 k (by omega) hk
  · simpa [rowC, fl] using this
  · intro rec
    dsimp only
    unfold impl_Lawn_all_s0
    simp (disch := omega) only [bF, cond_false]
  · intro i m hi rec hrec
    dsimp only at hrec ⊢
    unfold impl_Lawn_all_s0
    simp (disch := omega) only [bT, cond_true, List.length_append, fl_length, rowC_length, bigLen_val, wrap8]
    rw [rowC_succ, fl_append, ← List.append_assoc] at hrec
    exact hrec

theorem impl_all (k : Nat) {a : List Int} {w h : Nat} (v : LawnV a w h) (hk : 10 < k) : impl_Lawn_all k a = some (fl (allC w h)) := by
  have hh := v.hv
  have hw := v.wv
  have hl := v.hle
  have hwl := v.wle
  unfold impl_Lawn_all impl_Lawn_all_l1
  rw [hh]
  have := loopF_go (step := fun (rec : Int × Int × (List Int) × (List Int) → Option (List Int)) (p : Int × Int × (List Int) × (List Int)) => impl_Lawn_all_s1 k (fun y1 => some y1) (fun h1 h2 h3 h4 => rec (h1, h2, h3, h4)) p.1 p.2.1 p.2.2.1 p.2.2.2)
    (fun i => ((h : Int), (i : Int), a, fl (allC w i))) (fun _ _ => some (fl (allC w h))) h ?_ ?_ h 0 k (by omega) (by omega)
  · exact this
  · intro rec
    dsimp only
    unfold impl_Lawn_all_s1
    simp (disch := omega) only [bF, cond_false]
  · intro i m hi rec hrec
    dsimp only at hrec ⊢
    unfold impl_Lawn_all_s1
    have hlen : (fl (allC w i)).length ≤ 1000 := by
      rw [fl_length, allC_length]
      have := Nat.mul_le_mul (show i ≤ 10 by omega) hwl
      omega
    rw [hw, impl_all_row (h := h) k _ hwl i _ _ _ hlen (by omega)]
    simp (disch := omega) only [bT, cond_true, wrap8]
    rw [allC_succ, fl_append] at hrec
    exact hrec

/-! ## Grass -/

def grassB (a : List Int) (x y : Int) : Bool := hasB a x y && (kindV a x y == 0)

theorem impl_grass (k : Nat) {a : List Int} (ha : LawnS a) (x y : Int) : impl_Lawn_grass k a [x, y] = some (grassB a x y) := by
  unfold impl_Lawn_grass grassB
  have e : impl_Lawn_is k a [rd [x, y] 0, rd [x, y] 1] 0 = some (hasB a x y && (kindV a x y == 0)) := impl_is k ha x y 0
  rw [e]
  rfl

theorem grass_range {a : List Int} (ha : LawnS a) {x y : Int} (h : grassB a x y = true) : 0 ≤ x ∧ x < rd a 0 ∧ 0 ≤ y ∧ y < rd a 1 := by
  unfold grassB at h
  rw [Bool.and_eq_true] at h
  exact hasB_true h.1




theorem eqT {a b : Int} (h : a = b) : (a == b) = true := by simp [h]
theorem eqF {a b : Int} (h : a ≠ b) : (a == b) = false := by simp [h]
theorem neT {a b : Int} (h : a ≠ b) : (a != b) = true := by simp [h]
theorem neF {a b : Int} (h : a = b) : (a != b) = false := by simp [h]

theorem tdiv2 {d : Int} (h : 0 ≤ d) : Int.tdiv d 2 = d / 2 := Int.tdiv_eq_ediv_of_nonneg h

def findI {α : Type} (g : α → Bool) : List α → Nat → Int
  | [], _ => -1
  | p :: r, i => cond (g p) (i : Int) (findI g r (i + 1))

theorem findI_any {α : Type} (g : α → Bool) : ∀ (L : List α) (i : Nat), decide (findI g L i ≥ 0) = L.any g := by
  intro L
  induction L with
  | nil => intro i; rfl
  | cons p r ih =>
    intro i
    simp only [findI, List.any_cons]
    have := ih (i + 1)
    by_cases h : g p = true
    · simp [h]
    · simpa [h] using this

theorem drop_getD {α : Type} (L : List α) (d : α) {i : Nat} (h : i < L.length) : L.drop i = L.getD i d :: L.drop (i + 1) := by
  rw [List.drop_eq_getElem_cons h]
  simp [List.getD_eq_getElem?_getD, h]

theorem indexFunc_cells (k : Nat) (L : List (Int × Int)) (f : List Int → Option Bool) (g : Int × Int → Bool) (hf : ∀ p ∈ L, f [p.1, p.2] = some (g p)) (hL : L.length ≤ 1048576) (hk : L.length < k) :
    slices_IndexFunc_impl_Cell k (fl L) f = some (findI g L 0) := by
  unfold slices_IndexFunc_impl_Cell slices_IndexFunc_impl_Cell_l0
  rw [cnt_fl]
  have := loopF_go (step := fun (rec : (List Int) × (List Int → Option Bool) × Int × Int → Option Int) (p : (List Int) × (List Int → Option Bool) × Int × Int) => slices_IndexFunc_impl_Cell_s0 k (fun y1 => some y1) (some (-1)) (fun h1 h2 h3 h4 => rec (h1, h2, h3, h4)) p.1 p.2.1 p.2.2.1 p.2.2.2)
    (fun i => (fl L, f, (L.length : Int), (i : Int))) (fun i _ => some (findI g (L.drop i) i)) L.length ?_ ?_ L.length 0 k (by omega) hk
  · exact this
  · intro rec
    dsimp only
    unfold slices_IndexFunc_impl_Cell_s0
    simp (disch := omega) only [bF, cond_false, List.drop_length, findI]
  · intro i m hi rec hrec
    dsimp only at hrec ⊢
    unfold slices_IndexFunc_impl_Cell_s0
    have hm := hf _ (getD_mem L (0, 0) (show i < L.length by omega))
    rw [drop_getD L (0, 0) (show i < L.length by omega)]
    simp (disch := omega) only [bT, cond_true, cnt_fl, Bool.and_true, Int.toNat_natCast, fl_x, fl_y, hm, Option.bind_some, wrap64, findI]
    cases g (L.getD i (0, 0)) with
    | true => rfl
    | false => simp only [cond_false]; exact hrec

theorem containsFunc_cells (k : Nat) (L : List (Int × Int)) (f : List Int → Option Bool) (g : Int × Int → Bool) (hf : ∀ p ∈ L, f [p.1, p.2] = some (g p)) (hL : L.length ≤ 1048576) (hk : L.length < k) :
    slices_ContainsFunc_impl_Cell k (fl L) f = some (L.any g) := by
  unfold slices_ContainsFunc_impl_Cell
  rw [indexFunc_cells k L f g hf hL hk]
  simp only [Option.bind_some]
  rw [findI_any]

/-! ## Cells 0 to 9, of whatever lawn -/

theorem spec_at10 (k : Nat) {a : List Int} (ha : LawnR a) {x y : Int} (hx : 0 ≤ x ∧ x < 10) (hy : 0 ≤ y ∧ y < 10) : spec_l01At k a [x, y] = some (kindV a x y) := by
  have hc := ha.cell (y.toNat * 10 + x.toNat) (by omega)
  have e : 2 + (y.toNat * 10 + x.toNat) = 2 + y.toNat * 10 + x.toNat := by omega
  rw [e] at hc
  unfold spec_l01At
  have e1 : rd [x, y] 0 = x := rfl
  have e2 : rd [x, y] 1 = y := rfl
  rw [e1, e2]
  simp (disch := omega) only [bT, cond_true, Bool.and_true, Nat.mul_one, wrap64]
  rfl

theorem impl_grass10 (k : Nat) {a : List Int} (ha : LawnR a) {x y : Int} (hx : 0 ≤ x ∧ x < 10) (hy : 0 ≤ y ∧ y < 10) : impl_Lawn_grass k a [x, y] = some (grassB a x y) := by
  unfold impl_Lawn_grass impl_Lawn_is grassB
  have e : impl_Lawn_has k a [rd [rd [x, y] 0, rd [x, y] 1] 0, rd [rd [x, y] 0, rd [x, y] 1] 1] = some (hasB a x y) := impl_has k a x y
  rw [e]
  cases h : hasB a x y with
  | false => rfl
  | true =>
    have e2 : impl_Lawn_kind k a [rd [rd [x, y] 0, rd [x, y] 1] 0, rd [rd [x, y] 0, rd [x, y] 1] 1] = some (kindV a x y) := spec_at10 k ha hx hy
    simp only [Option.bind_some, cond_true, e2, Bool.true_and]

theorem spec_in (k : Nat) (n lo hi : Int) : spec_l00In k n lo hi = some (decide (lo ≤ n) && decide (n ≤ hi)) := by
  unfold spec_l00In
  by_cases h : lo ≤ n
  · rw [bT (p := n ≥ lo) h]; rfl
  · rw [bF (p := n ≥ lo) h]; rfl

theorem impl_in (k : Nat) (n lo hi : Int) : impl_within k n lo hi = some (decide (lo ≤ n) && decide (n ≤ hi)) := by
  unfold impl_within
  by_cases h : lo ≤ n
  · rw [bT h]; rfl
  · rw [bF h]; rfl



theorem fl_set : ∀ (B : List (Int × Int)) (i : Nat) (x y : Int), i < B.length → setWin (fl B) (i * 2) 2 [x, y] = fl (B.set i (x, y)) := by
  intro B
  induction B with
  | nil => intro i x y h; simp at h
  | cons p r ih =>
    intro i x y h
    obtain ⟨px, py⟩ := p
    cases i with
    | zero => simp [setWin, fl]
    | succ i =>
      have := ih i x y (by simpa using h)
      unfold setWin at this ⊢
      have e1 : (i + 1) * 2 = i * 2 + 1 + 1 := by omega
      have e2 : (i + 1) * 2 + 2 = i * 2 + 2 + 1 + 1 := by omega
      rw [e1]
      simp only [fl, List.set_cons_succ, List.take_succ_cons, List.drop_succ_cons, List.cons_append]
      simpa using this

theorem fl_take : ∀ (B : List (Int × Int)) (i : Nat), (fl B).take (i * 2) = fl (B.take i) := by
  intro B
  induction B with
  | nil => intro i; simp [fl]
  | cons p r ih =>
    intro i
    obtain ⟨px, py⟩ := p
    cases i with
    | zero => rfl
    | succ i =>
      have e1 : (i + 1) * 2 = i * 2 + 1 + 1 := by omega
      rw [e1]
      simp only [fl, List.take_succ_cons, ih]

/-- DeleteFunc's list and how many it has kept, once it has looked at n. -/
def dB (g : Int × Int → Bool) (L : List (Int × Int)) : Nat → List (Int × Int) × Nat
  | 0 => (L, 0)
  | n + 1 => cond (g (L.getD n (0, 0))) (dB g L n) ((dB g L n).1.set (dB g L n).2 (L.getD n (0, 0)), (dB g L n).2 + 1)

theorem dB_inv (g : Int × Int → Bool) (L : List (Int × Int)) : ∀ n, n ≤ L.length → (dB g L n).1.length = L.length ∧ (dB g L n).2 ≤ n ∧ (dB g L n).1.take (dB g L n).2 = (L.take n).filter (fun p => !(g p)) ∧ (dB g L n).1.drop n = L.drop n := by
  intro n
  induction n with
  | zero => intro _; simp [dB]
  | succ n ih =>
    intro hn
    obtain ⟨h1, h2, h3, h4⟩ := ih (by omega)
    have hd : (dB g L n).1.drop (n + 1) = L.drop (n + 1) := by
      have := congrArg (List.drop 1) h4
      simpa [List.drop_drop, Nat.add_comm] using this
    rw [take_getD L (0, 0) (show n < L.length by omega), List.filter_append]
    simp only [dB]
    cases hg : g (L.getD n (0, 0)) with
    | true =>
      simp only [cond_true, List.filter_cons, hg, Bool.not_true, Bool.false_eq_true, if_false, List.filter_nil, List.append_nil]
      exact ⟨h1, by omega, h3, hd⟩
    | false =>
      simp only [cond_false, List.filter_cons, hg, Bool.not_false, if_true, List.filter_nil]
      refine ⟨by rw [List.length_set]; exact h1, by omega, ?_, ?_⟩
      · rw [List.take_add_one, List.take_set, h3, List.getElem?_set_self (by omega)]
        have : ((L.take n).filter fun p => !(g p)).length ≤ (dB g L n).2 := by rw [← h3, List.length_take]; omega
        rw [List.set_eq_of_length_le this]
        rfl
      · rw [List.drop_set_of_lt (by omega)]
        exact hd

theorem dB_start (g : Int × Int → Bool) (L : List (Int × Int)) : ∀ n, n ≤ L.length → (∀ i, i < n → g (L.getD i (0, 0)) = false) → dB g L n = (L, n) := by
  intro n
  induction n with
  | zero => intro _ _; rfl
  | succ n ih =>
    intro hn h
    simp only [dB]
    rw [ih (by omega) (fun i hi => h i (by omega)), h n (by omega)]
    simp only [cond_false]
    congr 1
    rw [List.getD_eq_getElem?_getD, List.getElem?_eq_getElem (show n < L.length by omega)]
    simp

theorem findI_spec {α : Type} (g : α → Bool) (d : α) : ∀ (L : List α) (i : Nat), (findI g L i = -1 ∧ ∀ p ∈ L, g p = false) ∨ ∃ j, j < L.length ∧ findI g L i = ((i + j : Nat) : Int) ∧ g (L.getD j d) = true ∧ ∀ t, t < j → g (L.getD t d) = false := by
  intro L
  induction L with
  | nil => intro i; exact .inl ⟨rfl, by simp⟩
  | cons p r ih =>
    intro i
    simp only [findI]
    cases hg : g p with
    | true => exact .inr ⟨0, by simp, rfl, hg, fun t ht => by omega⟩
    | false =>
      simp only [cond_false]
      rcases ih (i + 1) with ⟨h1, h2⟩ | ⟨j, h1, h2, h3, h4⟩
      · refine .inl ⟨h1, fun q hq => ?_⟩
        rcases List.mem_cons.1 hq with rfl | hq
        · exact hg
        · exact h2 q hq
      · refine .inr ⟨j + 1, by simp; omega, by rw [h2]; omega, by simpa using h3, fun t ht => ?_⟩
        cases t with
        | zero => simpa using hg
        | succ t => simpa using h4 t (by omega)

theorem win_setWin {l m : List Int} {off n : Nat} (h : off ≤ l.length) : win (setWin l off n m) 0 off = l.take off := by
  unfold win setWin
  rw [List.drop_zero, List.take_append_of_le_length (by rw [List.length_take]; omega), List.take_take, Nat.min_self]

theorem cnt_setWin {l : List Int} {i n : Nat} (h : l.length = n * 2) (hi : i ≤ n) : cnt 2 (setWin l (i * 2) ((n - i) * 2) (List.replicate ((n - i) * 2) 0)) = n := by
  apply cnt_two
  unfold setWin
  simp
  omega

theorem deleteFunc_cells (k : Nat) (L : List (Int × Int)) (f : List Int → Option Bool) (g : Int × Int → Bool) (hf : ∀ p ∈ L, f [p.1, p.2] = some (g p)) (hL : L.length ≤ 1048576) (hk : L.length < k) :
    slices_DeleteFunc_impl_Cell k (fl L) f = some (fl (L.filter fun p => !(g p))) := by
  unfold slices_DeleteFunc_impl_Cell
  rw [indexFunc_cells k L f g hf hL hk]
  simp only [Option.bind_some]
  rcases findI_spec g (0, 0) L 0 with ⟨h1, h2⟩ | ⟨j, h1, h2, h3, h4⟩
  · rw [h1]
    have : L.filter (fun p => !(g p)) = L := List.filter_eq_self.2 fun p hp => by rw [h2 p hp]; rfl
    rw [this]
    rfl
  · rw [h2]
    simp (disch := omega) only [eqF, cond_false, wrap64, Nat.zero_add]
    unfold slices_DeleteFunc_impl_Cell_l0
    have key := loopF_go (R := List Int) (step := fun (rec : (List Int → Option Bool) × Int × Int × (List Int) → Option (List Int)) (p : (List Int → Option Bool) × Int × Int × (List Int)) => slices_DeleteFunc_impl_Cell_s0 k (fun y2 y3 =>
          cond ((decide (0 ≤ y2)) && (decide (y2 ≤ ((cnt 2 y3) : Int))))
            (cond ((decide (0 ≤ y2)) && (decide (y2 ≤ ((cnt 2 (setWin y3 (y2.toNat * 2) (((cnt 2 y3) - y2.toNat) * 2) (List.replicate (((cnt 2 y3) - y2.toNat) * 2) 0))) : Int))))
              (some (win (setWin y3 (y2.toNat * 2) (((cnt 2 y3) - y2.toNat) * 2) (List.replicate (((cnt 2 y3) - y2.toNat) * 2) 0)) 0 (y2.toNat * 2)))
              none)
            none) (fun h1 h2 h3 h4 => rec (h1, h2, h3, h4)) p.1 p.2.1 p.2.2.1 p.2.2.2)
      (fun i => (f, ((dB g L i).2 : Int), (i : Int), fl (dB g L i).1)) (fun _ _ => some (fl (L.filter fun p => !(g p)))) L.length ?_ ?_ (L.length - (j + 1)) (j + 1) k (by omega) (by omega)
    · have e : dB g L (j + 1) = (L, j) := by
        simp only [dB]
        rw [h3, dB_start g L j (by omega) h4]
        rfl
      rw [e] at key
      have ej : ((j + 1 : Nat) : Int) = (j : Int) + 1 := by omega
      rw [ej] at key
      exact key
    · intro rec
      dsimp only
      unfold slices_DeleteFunc_impl_Cell_s0
      obtain ⟨i1, i2, i3, i4⟩ := dB_inv g L L.length (Nat.le_refl _)
      rw [List.take_length] at i3
      generalize dB g L L.length = s at i1 i2 i3 i4 ⊢
      simp (disch := omega) only [cnt_fl, i1, bF, cond_false, bT, Bool.and_true, cond_true, Int.toNat_natCast]
      rw [cnt_setWin (by rw [fl_length, i1]) i2]
      simp (disch := omega) only [bT, Bool.and_true, cond_true]
      rw [win_setWin (by rw [fl_length]; omega), fl_take, i3]
    · intro i m hi rec hrec
      dsimp only at hrec ⊢
      unfold slices_DeleteFunc_impl_Cell_s0
      have hil : i < L.length := by omega
      obtain ⟨i1, i2, i3, i4⟩ := dB_inv g L i (by omega)
      have hm := hf _ (getD_mem L (0, 0) hil)
      have hd : (dB g L i).1.getD i (0, 0) = L.getD i (0, 0) := by
        have := congrArg (fun q => q[0]?) i4
        simp only [List.getElem?_drop, Nat.add_zero] at this
        rw [List.getD_eq_getElem?_getD, List.getD_eq_getElem?_getD, this]
      simp only [dB] at hrec
      generalize dB g L i = s at i1 i2 i3 i4 hd hrec ⊢
      simp (disch := omega) only [cnt_fl, i1, bT, cond_true, Bool.and_true, Int.toNat_natCast, fl_x, fl_y, hd, hm, Option.bind_some, wrap64]
      cases hg : g (L.getD i (0, 0)) with
      | true =>
        rw [hg] at hrec
        simp only [Bool.not_true, cond_false]
        exact hrec
      | false =>
        rw [hg] at hrec
        simp only [Bool.not_false, cond_true]
        rw [fl_set _ _ _ _ (by omega)]
        exact hrec

theorem allC_small {a : List Int} {w h : Nat} (v : LawnV a w h) : (allC w h).length ≤ 100 := by
  rw [allC_length]
  have := Nat.mul_le_mul v.hle v.wle
  omega

theorem impl_those (k : Nat) {a : List Int} {w h : Nat} (v : LawnV a w h) (f : List Int → Option Bool) (g : Int × Int → Bool) (hf : ∀ p ∈ allC w h, f [p.1, p.2] = some (g p)) (hk : 101 < k) :
    impl_Lawn_those k a f = some (fl ((allC w h).filter g)) := by
  have hs := allC_small v
  unfold impl_Lawn_those
  rw [impl_all k v (by omega)]
  simp only [Option.bind_some]
  rw [deleteFunc_cells k (allC w h) _ (fun p => !(g p)) (fun p hp => by
    unfold impl_Lawn_those_1
    rw [show f [rd [rd [p.1, p.2] 0, rd [p.1, p.2] 1] 0, rd [rd [p.1, p.2] 0, rd [p.1, p.2] 1] 1] = some (g p) from hf p hp]
    rfl) (by omega) (by omega)]
  simp only [Option.bind_some, Bool.not_not]

theorem hasB_all {a : List Int} {w h : Nat} (v : LawnV a w h) {p : Int × Int} (hp : p ∈ allC w h) : hasB a p.1 p.2 = true := by
  have := allC_mem.1 hp
  have := v.wv
  have := v.hv
  unfold hasB
  simp (disch := omega) only [bT, Bool.and_true]

theorem spec_cells (k : Nat) {a : List Int} {w h : Nat} (v : LawnV a w h) (n : Int) (hk : 101 < k) : spec_l01Cells k a n = some (fl ((allC w h).filter fun p => kindV a p.1 p.2 == n)) := by
  have hs := allC_small v
  unfold spec_l01Cells
  rw [spec_all k v (by omega)]
  simp only [Option.bind_some]
  unfold spec_l01Cells_l0
  have := loopF_go (step := fun (rec : (List Int) × Int × Int × (List Int) × (List Int) → Option (List Int)) (p : (List Int) × Int × Int × (List Int) × (List Int)) => spec_l01Cells_s0 k (fun y2 => some y2) (fun h1 h2 h3 h4 h5 => rec (h1, h2, h3, h4, h5)) p.1 p.2.1 p.2.2.1 p.2.2.2.1 p.2.2.2.2)
    (fun i => (a, n, (i : Int), fl (((allC w h).take i).filter fun p => kindV a p.1 p.2 == n), fl (allC w h))) (fun _ _ => some (fl ((allC w h).filter fun p => kindV a p.1 p.2 == n))) (allC w h).length ?_ ?_ (allC w h).length 0 k (by omega) (by omega)
  · exact this
  · intro rec
    dsimp only
    unfold spec_l01Cells_s0
    simp (disch := omega) only [cnt_fl, bF, cond_false, List.take_length]
  · intro i m hi rec hrec
    dsimp only at hrec ⊢
    unfold spec_l01Cells_s0
    have hil : i < (allC w h).length := by omega
    have hm := hasB_all v (getD_mem (allC w h) (0, 0) hil)
    have hlen : (fl (((allC w h).take i).filter fun p => kindV a p.1 p.2 == n)).length ≤ 200 := by
      rw [fl_length]
      have h1 := List.length_filter_le (fun p => kindV a p.1 p.2 == n) ((allC w h).take i)
      rw [List.length_take] at h1
      omega
    rw [take_getD _ (0, 0) hil, List.filter_append, fl_append] at hrec
    simp only [cnt_fl, Int.toNat_natCast, fl_x, fl_y]
    generalize (allC w h).getD i (0, 0) = p at hm hrec ⊢
    generalize fl (((allC w h).take i).filter fun p => kindV a p.1 p.2 == n) = o at hlen hrec ⊢
    rw [spec_at k v.toLawnS hm]
    have hb : decide (o.length + 2 ≤ bigLen) = true := bT (by rw [bigLen_val]; omega)
    simp (disch := omega) only [bT, cond_true, Bool.and_true, Option.bind_some, wrap64, hb]
    cases hq : (kindV a p.1 p.2 == n) with
    | true =>
      simp only [List.filter_cons, hq, if_true, List.filter_nil] at hrec
      simp only [cond_true]
      exact hrec
    | false =>
      simp only [List.filter_cons, hq, Bool.false_eq_true, if_false, List.filter_nil] at hrec
      simp only [cond_false]
      rw [show fl ([] : List (Int × Int)) = [] from rfl, List.append_nil] at hrec
      exact hrec

theorem grass_filter {a : List Int} {w h : Nat} (v : LawnV a w h) : ((allC w h).filter fun p => kindV a p.1 p.2 == 0) = (allC w h).filter fun p => grassB a p.1 p.2 :=
  List.filter_congr fun p hp => by unfold grassB; rw [hasB_all v hp, Bool.true_and]

theorem impl_grassL (k : Nat) {a : List Int} (ha : LawnS a) (p : Int × Int) : ((fun z1 => (impl_Lawn_grass k a [rd z1 0, rd z1 1]).bind fun b => some b) [p.1, p.2]) = some (grassB a p.1 p.2) := by
  show (impl_Lawn_grass k a [p.1, p.2]).bind _ = _
  rw [impl_grass k ha]
  rfl



/-! ## Triples -/

def fl3 : List (Int × Int × Int) → List Int
  | [] => []
  | (x, y, n) :: r => x :: y :: n :: fl3 r

theorem fl3_length : ∀ (L : List (Int × Int × Int)), (fl3 L).length = L.length * 3 := by
  intro L
  induction L with
  | nil => rfl
  | cons p r ih => obtain ⟨x, y, n⟩ := p; simp only [fl3, List.length_cons, ih]; omega

theorem fl3_append : ∀ (L R : List (Int × Int × Int)), fl3 (L ++ R) = fl3 L ++ fl3 R := by
  intro L R
  induction L with
  | nil => rfl
  | cons p r ih => obtain ⟨x, y, n⟩ := p; simp [fl3, ih]

theorem cnt_fl3 (L : List (Int × Int × Int)) : cnt 3 (fl3 L) = L.length := by unfold cnt; rw [fl3_length]; omega

theorem fl3_all : ∀ (L : List (Int × Int × Int)) (i : Nat), rd (fl3 L) (i * 3) = (L.getD i (0, 0, 0)).1 ∧ rd (fl3 L) (i * 3 + 1) = (L.getD i (0, 0, 0)).2.1 ∧ rd (fl3 L) (i * 3 + 2) = (L.getD i (0, 0, 0)).2.2 := by
  intro L
  induction L with
  | nil => intro i; simp [fl3, rd]
  | cons p r ih =>
    obtain ⟨x, y, n⟩ := p
    intro i
    cases i with
    | zero => exact ⟨rfl, rfl, rfl⟩
    | succ i =>
      have e0 : (i + 1) * 3 = i * 3 + 1 + 1 + 1 := by omega
      have e1 : (i + 1) * 3 + 1 = i * 3 + 1 + 1 + 1 + 1 := by omega
      have e2 : i * 3 + 1 + 1 + 1 + 2 = i * 3 + 2 + 1 + 1 + 1 := by omega
      rw [e0, e2]
      exact ih i

theorem fl3_x (L : List (Int × Int × Int)) (i : Nat) : rd (fl3 L) (i * 3) = (L.getD i (0, 0, 0)).1 := (fl3_all L i).1
theorem fl3_y (L : List (Int × Int × Int)) (i : Nat) : rd (fl3 L) (i * 3 + 1) = (L.getD i (0, 0, 0)).2.1 := (fl3_all L i).2.1
theorem fl3_n (L : List (Int × Int × Int)) (i : Nat) : rd (fl3 L) (i * 3 + 2) = (L.getD i (0, 0, 0)).2.2 := (fl3_all L i).2.2

theorem cells_in' {a : List Int} {w h : Nat} (v : LawnV a w h) {p : Int × Int} (hp : p ∈ allC w h) : (0 ≤ p.1 ∧ p.1 < 10) ∧ (0 ≤ p.2 ∧ p.2 < 10) := by
  have := allC_mem.1 hp
  have := v.wle
  have := v.hle
  omega

/-! ## What runs are -/

def dxB (b : Bool) : Int := cond b 1 0
def dyB (b : Bool) : Int := cond b 0 1

def runLen (a : List Int) (b : Bool) : Nat → Int → Int → Nat
  | 0, _, _ => 0
  | m + 1, x, y => cond (grassB a x y) (runLen a b m (x + dxB b) (y + dyB b) + 1) 0

def longV (a : List Int) (b : Bool) (x y : Int) : Nat := runLen a b 11 x y
def startB (a : List Int) (b : Bool) (p : Int × Int) : Bool := grassB a p.1 p.2 && !(grassB a (p.1 - dxB b) (p.2 - dyB b))
def runOf (a : List Int) (b : Bool) (p : Int × Int) : Int × Int × Int := (p.1, p.2, (longV a b p.1 p.2 : Int))
def runsOf (a : List Int) (b : Bool) (L : List (Int × Int)) : List (Int × Int × Int) := (L.filter (startB a b)).map (runOf a b)

theorem runsOf_snoc (a : List Int) (b : Bool) (L : List (Int × Int)) (p : Int × Int) : runsOf a b (L ++ [p]) = cond (startB a b p) (runsOf a b L ++ [runOf a b p]) (runsOf a b L) := by
  unfold runsOf
  rw [List.filter_append, List.map_append, List.filter_cons]
  cases startB a b p <;> simp

theorem runsOf_len (a : List Int) (b : Bool) (L : List (Int × Int)) : (runsOf a b L).length ≤ L.length := by
  unfold runsOf
  rw [List.length_map]
  exact List.length_filter_le _ _

theorem runLen_le (a : List Int) (b : Bool) : ∀ m x y, runLen a b m x y ≤ m := by
  intro m
  induction m with
  | zero => intro x y; exact Nat.le_refl _
  | succ m ih =>
    intro x y
    simp only [runLen]
    have := ih (x + dxB b) (y + dyB b)
    cases grassB a x y with
    | true => simp only [cond_true]; omega
    | false => simp only [cond_false]; omega

/-- A run is as long with more room, once it has enough. -/
theorem runLen_more {a : List Int} {w h : Nat} (v : LawnV a w h) (b : Bool) : ∀ (m : Nat) (x y : Int), 10 ≤ x * dxB b + y * dyB b + m → ∀ j : Nat, runLen a b (m + j) x y = runLen a b m x y := by
  intro m
  have hw := v.wle
  have hh := v.hle
  have hwv := v.wv
  have hhv := v.hv
  induction m with
  | zero =>
    intro x y h j
    have : grassB a x y = false := by
      cases hg : grassB a x y with
      | false => rfl
      | true =>
        have := grass_range v.toLawnS hg
        exfalso
        cases b
        · simp only [dxB, dyB, cond_false] at h; omega
        · simp only [dxB, dyB, cond_true] at h; omega
    cases j with
    | zero => rfl
    | succ j => simp only [Nat.zero_add, runLen, this, cond_false]
  | succ m ih =>
    intro x y h j
    rw [show m + 1 + j = m + j + 1 by omega]
    simp only [runLen]
    rw [ih (x + dxB b) (y + dyB b) (by
      cases b
      · simp only [dxB, dyB, cond_false] at h ⊢; omega
      · simp only [dxB, dyB, cond_true] at h ⊢; omega) j]

theorem runs_same (a : List Int) (b : Bool) (L : List (Int × Int)) : runsOf a b (L.filter fun p => grassB a p.1 p.2) = runsOf a b L := by
  unfold runsOf
  rw [List.filter_filter]
  congr 1
  apply List.filter_congr
  intro p _
  unfold startB
  cases grassB a p.1 p.2 <;> simp


def longS (s p : Int × Int × Int) : Int × Int × Int := cond (decide (p.2.2 > s.2.2)) p s
def longL (L : List (Int × Int × Int)) : Int × Int × Int := L.foldl longS (0, 0, 0)
theorem longL_snoc (L : List (Int × Int × Int)) (p : Int × Int × Int) : longL (L ++ [p]) = longS (longL L) p := by simp [longL]

def longR (s : Int × Int × Int) : List Int × Int := cond (s.2.2 == 0) ([0, 0, 0], 6) ([s.1, s.2.1, s.2.2], 0)



/-- Does a run hold a cell among its first n? -/
def hitN (b : Bool) (ax ay x y : Int) (n : Int) : Bool := cond b ((y == ay) && (decide (x ≤ ax) && decide (ax < x + n))) ((x == ax) && (decide (y ≤ ay) && decide (ay < y + n)))
def hitR (b : Bool) (ax ay : Int) (r : Int × Int × Int) : Bool := hitN b ax ay r.1 r.2.1 r.2.2

def RunOK (r : Int × Int × Int) : Prop := (0 ≤ r.1 ∧ r.1 < 10) ∧ (0 ≤ r.2.1 ∧ r.2.1 < 10) ∧ (0 ≤ r.2.2 ∧ r.2.2 ≤ 11)

def stripeN (b : Bool) (ax ay : Int) (L : List (Int × Int × Int)) : Nat → Int
  | 0 => 0
  | i + 1 => cond (hitR b ax ay (L.getD i (0, 0, 0))) (i : Int) (stripeN b ax ay L i)

/-! ## One run holds a cell of grass, and one alone -/

theorem runLen_grass {a : List Int} {b : Bool} : ∀ (m : Nat) (x y : Int) (t : Nat), t < runLen a b m x y → grassB a (x + t * dxB b) (y + t * dyB b) = true := by
  intro m
  induction m with
  | zero => intro x y t h; simp [runLen] at h
  | succ m ih =>
    intro x y t h
    simp only [runLen] at h
    cases hg : grassB a x y with
    | false => rw [hg] at h; simp at h
    | true =>
      rw [hg] at h
      simp only [cond_true] at h
      cases t with
      | zero => simpa using hg
      | succ t =>
        have := ih (x + dxB b) (y + dyB b) t (by omega)
        have e1 : x + ((t + 1 : Nat) : Int) * dxB b = x + dxB b + t * dxB b := by cases b <;> simp [dxB]; omega
        have e2 : y + ((t + 1 : Nat) : Int) * dyB b = y + dyB b + t * dyB b := by cases b <;> simp [dyB]; omega
        rw [e1, e2]
        exact this

theorem runLen_ge {a : List Int} {b : Bool} : ∀ (m : Nat) (x y : Int) (t : Nat), t ≤ m → (∀ i : Nat, i < t → grassB a (x + i * dxB b) (y + i * dyB b) = true) → t ≤ runLen a b m x y := by
  intro m
  induction m with
  | zero => intro x y t h _; omega
  | succ m ih =>
    intro x y t ht h
    cases t with
    | zero => omega
    | succ t =>
      have h0 := h 0 (by omega)
      have e0 : grassB a x y = true := by simpa using h0
      simp only [runLen, e0, cond_true]
      have := ih (x + dxB b) (y + dyB b) t (by omega) (fun i hi => by
        have := h (i + 1) (by omega)
        have e1 : x + ((i + 1 : Nat) : Int) * dxB b = x + dxB b + i * dxB b := by cases b <;> simp [dxB]; omega
        have e2 : y + ((i + 1 : Nat) : Int) * dyB b = y + dyB b + i * dyB b := by cases b <;> simp [dyB]; omega
        rw [e1, e2] at this
        exact this)
      omega

theorem hit_iff (b : Bool) (ax ay x y : Int) (n : Nat) : hitN b ax ay x y (n : Int) = true ↔ ∃ t : Nat, t < n ∧ ax = x + t * dxB b ∧ ay = y + t * dyB b := by
  unfold hitN
  cases b
  · simp only [cond_false, Bool.and_eq_true, beq_iff_eq, decide_eq_true_eq, dxB, dyB]
    constructor
    · rintro ⟨h1, h2, h3⟩
      exact ⟨(ay - y).toNat, by omega, by omega, by omega⟩
    · rintro ⟨t, h1, h2, h3⟩
      omega
  · simp only [cond_true, Bool.and_eq_true, beq_iff_eq, decide_eq_true_eq, dxB, dyB]
    constructor
    · rintro ⟨h1, h2, h3⟩
      exact ⟨(ax - x).toNat, by omega, by omega, by omega⟩
    · rintro ⟨t, h1, h2, h3⟩
      omega

theorem walk_back {a : List Int} {w h : Nat} (v : LawnV a w h) (b : Bool) : ∀ (n : Nat) (ax ay : Int), ax * dxB b + ay * dyB b < n → grassB a ax ay = true →
    ∃ t : Nat, t < n ∧ startB a b (ax - t * dxB b, ay - t * dyB b) = true ∧ ∀ i : Nat, i ≤ t → grassB a (ax - i * dxB b) (ay - i * dyB b) = true := by
  intro n
  induction n with
  | zero =>
    intro ax ay h hg
    have := grass_range v.toLawnS hg
    cases b
    · simp only [dxB, dyB, cond_false] at h; omega
    · simp only [dxB, dyB, cond_true] at h; omega
  | succ n ih =>
    intro ax ay h hg
    cases hp : grassB a (ax - dxB b) (ay - dyB b) with
    | false =>
      refine ⟨0, by omega, ?_, ?_⟩
      · unfold startB
        simp [hg, hp]
      · intro i hi
        have : i = 0 := by omega
        subst this
        simpa using hg
    | true =>
      obtain ⟨t, h1, h2, h3⟩ := ih (ax - dxB b) (ay - dyB b) (by
        cases b
        · simp only [dxB, dyB, cond_false] at h ⊢; omega
        · simp only [dxB, dyB, cond_true] at h ⊢; omega) hp
      have e1 : ∀ i : Nat, ax - ((i + 1 : Nat) : Int) * dxB b = ax - dxB b - i * dxB b := fun i => by cases b <;> simp [dxB]; omega
      have e2 : ∀ i : Nat, ay - ((i + 1 : Nat) : Int) * dyB b = ay - dyB b - i * dyB b := fun i => by cases b <;> simp [dyB]; omega
      refine ⟨t + 1, by omega, by rw [e1, e2]; exact h2, fun i hi => ?_⟩
      cases i with
      | zero => simpa using hg
      | succ i => rw [e1, e2]; exact h3 i (by omega)

theorem allC_nodup (w h : Nat) : (allC w h).Nodup := by
  have hrow : ∀ (y w : Nat), (rowC y w).Nodup := by
    intro y w
    induction w with
    | zero => simp [rowC]
    | succ w ih =>
      rw [rowC_succ]
      refine List.nodup_append.2 ⟨ih, by simp, ?_⟩
      intro p hp q hq e
      simp only [rowC, List.mem_map, List.mem_range] at hp
      simp only [List.mem_singleton] at hq
      obtain ⟨x, hx, rfl⟩ := hp
      rw [hq, Prod.mk.injEq] at e
      omega
  induction h with
  | zero => simp [allC]
  | succ h ih =>
    rw [allC_succ]
    refine List.nodup_append.2 ⟨ih, hrow h w, ?_⟩
    intro p hp q hq e
    have h1 := allC_mem.1 hp
    simp only [rowC, List.mem_map, List.mem_range] at hq
    obtain ⟨x, hx, rfl⟩ := hq
    rw [e] at h1
    simp only at h1
    omega

theorem stripeN_at (b : Bool) (ax ay : Int) (L : List (Int × Int × Int)) (j : Nat) (hj : hitR b ax ay (L.getD j (0, 0, 0)) = true) : ∀ n, n ≤ L.length → j < n → (∀ i, i < n → hitR b ax ay (L.getD i (0, 0, 0)) = true → i = j) → stripeN b ax ay L n = j := by
  intro n
  induction n with
  | zero => intro _ h; omega
  | succ n ih =>
    intro hn hjn hu
    simp only [stripeN]
    cases hh : hitR b ax ay (L.getD n (0, 0, 0)) with
    | true =>
      have := hu n (by omega) hh
      rw [this]
      rfl
    | false =>
      simp only [cond_false]
      refine ih (by omega) ?_ (fun i hi => hu i (by omega))
      rcases Nat.lt_or_ge j n with h | h
      · exact h
      · have : j = n := by omega
        rw [this, hh] at hj
        cases hj

theorem runs_ok {a : List Int} {w h : Nat} (v : LawnV a w h) (b : Bool) : ∀ r ∈ runsOf a b (allC w h), RunOK r := by
  intro r hr
  unfold runsOf at hr
  obtain ⟨p, hp, rfl⟩ := List.mem_map.1 hr
  have := cells_in' v (List.mem_filter.1 hp).1
  have h3 := runLen_le a b 11 p.1 p.2
  refine ⟨this.1, this.2, ?_⟩
  show 0 ≤ ((longV a b p.1 p.2 : Nat) : Int) ∧ ((longV a b p.1 p.2 : Nat) : Int) ≤ 11
  unfold longV
  omega

theorem one_run {a : List Int} {w h : Nat} (v : LawnV a w h) (b : Bool) {ax ay : Int} (hg : grassB a ax ay = true) :
    ∃ j, j < (runsOf a b (allC w h)).length ∧ hitR b ax ay ((runsOf a b (allC w h)).getD j (0, 0, 0)) = true ∧ ∀ i, i < (runsOf a b (allC w h)).length → hitR b ax ay ((runsOf a b (allC w h)).getD i (0, 0, 0)) = true → i = j := by
  have hgr := grass_range v.toLawnS hg
  have hwv := v.wv
  have hhv := v.hv
  have hw := v.wle
  have hh := v.hle
  have hS : (runsOf a b (allC w h)).length = ((allC w h).filter (startB a b)).length := by unfold runsOf; rw [List.length_map]
  have hget : ∀ i, i < (runsOf a b (allC w h)).length → (runsOf a b (allC w h)).getD i (0, 0, 0) = runOf a b (((allC w h).filter (startB a b)).getD i (0, 0)) := by
    intro i hi
    unfold runsOf
    rw [List.getD_eq_getElem?_getD, List.getElem?_map, List.getD_eq_getElem?_getD]
    rw [hS] at hi
    rw [List.getElem?_eq_getElem hi]
    rfl
  have hnd : ((allC w h).filter (startB a b)).Nodup := (allC_nodup w h).filter _
  obtain ⟨t, h1, h2, h3⟩ := walk_back v b 10 ax ay (by
    cases b
    · simp only [dxB, dyB, cond_false]; omega
    · simp only [dxB, dyB, cond_true]; omega) hg
  have hsin : (ax - t * dxB b, ay - t * dyB b) ∈ (allC w h).filter (startB a b) := by
    refine List.mem_filter.2 ⟨?_, h2⟩
    have := grass_range v.toLawnS (h3 t (Nat.le_refl _))
    rw [hwv, hhv] at this
    exact allC_mem.2 this
  obtain ⟨j, hj, hje⟩ := List.mem_iff_getElem.1 hsin
  have hjd : ((allC w h).filter (startB a b)).getD j (0, 0) = (ax - t * dxB b, ay - t * dyB b) := by
    rw [List.getD_eq_getElem?_getD, List.getElem?_eq_getElem hj, hje]
    rfl
  have hjl : j < (runsOf a b (allC w h)).length := by rw [hS]; exact hj
  refine ⟨j, hjl, ?_, ?_⟩
  · rw [hget j hjl, hjd]
    show hitN b ax ay (ax - t * dxB b) (ay - t * dyB b) ((longV a b (ax - t * dxB b) (ay - t * dyB b) : Nat) : Int) = true
    rw [hit_iff]
    refine ⟨t, ?_, by omega, by omega⟩
    have := runLen_ge (a := a) (b := b) 11 (ax - t * dxB b) (ay - t * dyB b) (t + 1) (by omega) (fun i hi => by
      have := h3 (t - i) (by omega)
      have e1 : ax - ((t - i : Nat) : Int) * dxB b = ax - t * dxB b + i * dxB b := by
        cases b
        · simp [dxB]
        · simp only [dxB, cond_true]; omega
      have e2 : ay - ((t - i : Nat) : Int) * dyB b = ay - t * dyB b + i * dyB b := by
        cases b
        · simp only [dyB, cond_false]; omega
        · simp [dyB]
      rw [e1, e2] at this
      exact this)
    unfold longV
    omega
  · intro i hi hit
    rw [hget i hi] at hit
    have hil : i < ((allC w h).filter (startB a b)).length := by rw [hS] at hi; exact hi
    have hsi : startB a b (((allC w h).filter (startB a b)).getD i (0, 0)) = true := (List.mem_filter.1 (getD_mem _ (0, 0) hil)).2
    have hsame : ((allC w h).filter (startB a b)).getD i (0, 0) = ((allC w h).filter (startB a b)).getD j (0, 0) := by
      rw [hjd]
      generalize ((allC w h).filter (startB a b)).getD i (0, 0) = s at hit hsi
      obtain ⟨x, y⟩ := s
      have hit : hitN b ax ay x y ((longV a b x y : Nat) : Int) = true := hit
      rw [hit_iff] at hit
      obtain ⟨u, u1, u2, u3⟩ := hit
      have hrun : ∀ m : Nat, m < longV a b x y → grassB a (x + m * dxB b) (y + m * dyB b) = true := fun m hm => runLen_grass 11 x y m hm
      unfold startB at hsi h2
      rw [Bool.and_eq_true, Bool.not_eq_true'] at hsi h2
      have htu : u = t := by
        rcases Nat.lt_trichotomy u t with hlt | he | hlt
        · exfalso
          have := h3 (u + 1) (by omega)
          have e1 : ax - ((u + 1 : Nat) : Int) * dxB b = x - dxB b := by cases b <;> simp [dxB] at u2 ⊢ <;> omega
          have e2 : ay - ((u + 1 : Nat) : Int) * dyB b = y - dyB b := by cases b <;> simp [dyB] at u3 ⊢ <;> omega
          rw [e1, e2, hsi.2] at this
          cases this
        · exact he
        · exfalso
          have := hrun (u - (t + 1)) (by omega)
          have e1 : x + ((u - (t + 1) : Nat) : Int) * dxB b = ax - t * dxB b - dxB b := by
            cases b
            · simp [dxB] at u2 ⊢; omega
            · simp only [dxB, cond_true] at u2 ⊢; omega
          have e2 : y + ((u - (t + 1) : Nat) : Int) * dyB b = ay - t * dyB b - dyB b := by
            cases b
            · simp only [dyB, cond_false] at u3 ⊢; omega
            · simp [dyB] at u3 ⊢; omega
          rw [e1, e2, h2.2] at this
          cases this
      subst htu
      rw [Prod.mk.injEq]
      constructor <;> omega
    have hgi : ((allC w h).filter (startB a b))[i]'hil = ((allC w h).filter (startB a b))[j]'hj := by
      rw [List.getD_eq_getElem?_getD, List.getD_eq_getElem?_getD, List.getElem?_eq_getElem hil, List.getElem?_eq_getElem hj] at hsame
      exact hsame
    rcases Nat.lt_trichotomy i j with hlt | he | hlt
    · exact absurd hgi (List.pairwise_iff_getElem.1 hnd i j hil hj hlt)
    · exact he
    · exact absurd hgi.symm (List.pairwise_iff_getElem.1 hnd j i hj hil hlt)


theorem wrap8_range (n : Int) : -128 ≤ IntKind.wrap .i8 n ∧ IntKind.wrap .i8 n < 128 := by
  simp only [IntKind.wrap, IntKind.bits, IntKind.signed]
  simp
  omega

def nbrs (x y : Int) : List (Int × Int) := [(x, IntKind.wrap .i8 (y - 1)), (IntKind.wrap .i8 (x - 1), y), (IntKind.wrap .i8 (x + 1), y), (x, IntKind.wrap .i8 (y + 1))]

theorem nbrs_range {x y : Int} (hx : -128 ≤ x ∧ x < 128) (hy : -128 ≤ y ∧ y < 128) : ∀ p ∈ nbrs x y, (-128 ≤ p.1 ∧ p.1 < 128) ∧ (-128 ≤ p.2 ∧ p.2 < 128) := by
  intro p hp
  have w1 := wrap8_range (y - 1)
  have w2 := wrap8_range (x - 1)
  have w3 := wrap8_range (x + 1)
  have w4 := wrap8_range (y + 1)
  simp only [nbrs, List.mem_cons, List.not_mem_nil, or_false] at hp
  rcases hp with rfl | rfl | rfl | rfl
  · exact ⟨hx, w1⟩
  · exact ⟨w2, hy⟩
  · exact ⟨w3, hy⟩
  · exact ⟨hx, w4⟩




theorem copy_step {a : List Int} {n i : Nat} (h : a.length = n * 2) (hi : i < n) :
    setWin (a.take (i * 2) ++ List.replicate ((n - i) * 2) 0) (i * 2) 2 [rd a (i * 2), rd a (i * 2 + 1)] = a.take ((i + 1) * 2) ++ List.replicate ((n - (i + 1)) * 2) 0 := by
  have hl : (a.take (i * 2)).length = i * 2 := by rw [List.length_take]; omega
  unfold setWin
  rw [List.take_append_of_le_length (by omega), List.take_of_length_le (by omega)]
  have e1 : List.drop (i * 2 + 2) (a.take (i * 2) ++ List.replicate ((n - i) * 2) 0) = List.replicate ((n - (i + 1)) * 2) 0 := by
    rw [List.drop_append, List.drop_eq_nil_of_le (by omega), List.nil_append, hl, List.drop_replicate]
    congr 1
    omega
  rw [e1]
  have e2 : a.take ((i + 1) * 2) = a.take (i * 2) ++ [rd a (i * 2), rd a (i * 2 + 1)] := by
    have : (i + 1) * 2 = i * 2 + 2 := by omega
    rw [this, List.take_add]
    congr 1
    rw [drop_rd (by omega), drop_rd (by omega)]
    rfl
  rw [e2, List.append_assoc]



theorem sq_small (d : Int) (h : -9 ≤ d ∧ d ≤ 9) : 0 ≤ d * d ∧ d * d ≤ 81 ∧ (d * d ≤ 1 ↔ -1 ≤ d ∧ d ≤ 1) ∧ (d * d = 0 ↔ d = 0) := by
  have : d = -9 ∨ d = -8 ∨ d = -7 ∨ d = -6 ∨ d = -5 ∨ d = -4 ∨ d = -3 ∨ d = -2 ∨ d = -1 ∨ d = 0 ∨ d = 1 ∨ d = 2 ∨ d = 3 ∨ d = 4 ∨ d = 5 ∨ d = 6 ∨ d = 7 ∨ d = 8 ∨ d = 9 := by omega
  rcases this with rfl | rfl | rfl | rfl | rfl | rfl | rfl | rfl | rfl | rfl | rfl | rfl | rfl | rfl | rfl | rfl | rfl | rfl | rfl <;> decide

def nearB (px py x y : Int) : Bool := decide ((px - x) * (px - x) + (py - y) * (py - y) ≤ 1)

theorem eqL_two (a b c d : Int) : eqL [a, b] [c, d] = ((a == c) && (b == d)) := by
  simp [eqL]

theorem near_eq {px py x y : Int} (h1 : 0 ≤ px ∧ px < 10) (h2 : 0 ≤ py ∧ py < 10) (h3 : 0 ≤ x ∧ x < 10) (h4 : 0 ≤ y ∧ y < 10) :
    (eqL [x, y] [px, py] || (eqL [px, py] [x, y - 1] || (eqL [px, py] [x - 1, y] || (eqL [px, py] [x + 1, y] || eqL [px, py] [x, y + 1])))) = nearB px py x y := by
  have s1 := sq_small (px - x) (by omega)
  have s2 := sq_small (py - y) (by omega)
  rw [eqL_two, eqL_two, eqL_two, eqL_two, eqL_two]
  unfold nearB
  rw [Bool.eq_iff_iff]
  simp only [Bool.or_eq_true, Bool.and_eq_true, beq_iff_eq, decide_eq_true_eq]
  constructor
  · intro h
    have hx : px - x = 0 ∨ py - y = 0 := by omega
    rcases hx with hx | hx
    · have : (px - x) * (px - x) = 0 := s1.2.2.2.2 hx
      have : (py - y) * (py - y) ≤ 1 := s2.2.2.1.2 (by omega)
      omega
    · have : (py - y) * (py - y) = 0 := s2.2.2.2.2 hx
      have : (px - x) * (px - x) ≤ 1 := s1.2.2.1.2 (by omega)
      omega
  · intro h
    have a1 := s1.2.2.1.1 (by omega)
    have a2 := s2.2.2.1.1 (by omega)
    have a3 : (px - x) * (px - x) = 0 ∨ (py - y) * (py - y) = 0 := by omega
    rcases a3 with a3 | a3
    · have := s1.2.2.2.1 a3; omega
    · have := s2.2.2.2.1 a3; omega



def cx (l : List Int) (i : Nat) : Int := rd l (i * 2)
def cy (l : List Int) (i : Nat) : Int := rd l (i * 2 + 1)

def stepB (a l : List Int) (i : Nat) : Bool := openB a (cx l i) (cy l i) && (decide (i = 0) || nearB (cx l (i - 1)) (cy l (i - 1)) (cx l i) (cy l i))

def walkB (a l : List Int) : Nat → Nat → Bool
  | _, 0 => true
  | i, m + 1 => stepB a l i && walkB a l (i + 1) m

structure CellsR (l : List Int) (n : Nat) : Prop where
  len : l.length = n * 2
  small : n ≤ 1048576
  rng : ∀ j, j < l.length → -128 ≤ rd l j ∧ rd l j < 128

theorem open_range {a : List Int} (ha : LawnS a) {x y : Int} (h : openB a x y = true) : (0 ≤ x ∧ x < 10) ∧ (0 ≤ y ∧ y < 10) := by
  unfold openB at h
  rw [Bool.and_eq_true] at h
  obtain ⟨h1, h2, h3, h4⟩ := hasB_true h.1
  have := ha.w10
  have := ha.h10
  omega


abbrev Cs := List (Int × Int)

structure RowsR (Ls : List Cs) : Prop where
  cnt : Ls.length ≤ 1048576
  len : ∀ L ∈ Ls, L.length ≤ 1048576
  rng : ∀ L ∈ Ls, ∀ p ∈ L, (-128 ≤ p.1 ∧ p.1 < 128) ∧ (-128 ≤ p.2 ∧ p.2 < 128)

theorem rdr_map (Ls : List Cs) (i : Nat) : rdr (Ls.map fl) i = fl (Ls.getD i []) := by
  unfold rdr
  rw [List.getD_eq_getElem?_getD, List.getD_eq_getElem?_getD, List.getElem?_map]
  cases Ls[i]? <;> rfl

theorem fl_of : ∀ (n : Nat) (l : List Int), l.length = n * 2 → ∃ L : Cs, l = fl L ∧ L.length = n := by
  intro n
  induction n with
  | zero => intro l h; exact ⟨[], List.eq_nil_of_length_eq_zero (by omega), rfl⟩
  | succ n ih =>
    intro l h
    cases l with
    | nil => simp at h
    | cons x l =>
      cases l with
      | nil => simp at h; omega
      | cons y r =>
        obtain ⟨L, rfl, h2⟩ := ih r (by simp at h; omega)
        exact ⟨(x, y) :: L, rfl, by simp [h2]⟩

theorem rd_mem_fl : ∀ (L : Cs) (p : Int × Int), p ∈ L → ∃ j, j + 1 < (fl L).length ∧ rd (fl L) j = p.1 ∧ rd (fl L) (j + 1) = p.2 := by
  intro L
  induction L with
  | nil => intro p h; cases h
  | cons q r ih =>
    intro p h
    obtain ⟨x, y⟩ := q
    rcases List.mem_cons.1 h with rfl | h
    · exact ⟨0, by simp [fl], rfl, rfl⟩
    · obtain ⟨j, h1, h2, h3⟩ := ih p h
      exact ⟨j + 2, by simp only [fl, List.length_cons]; omega, h2, h3⟩

theorem cellsR_fl {L : Cs} (h1 : L.length ≤ 1048576) (h2 : ∀ p ∈ L, (-128 ≤ p.1 ∧ p.1 < 128) ∧ (-128 ≤ p.2 ∧ p.2 < 128)) : CellsR (fl L) L.length := by
  refine ⟨fl_length L, h1, fun j hj => ?_⟩
  rw [fl_length] at hj
  have hm := getD_mem L (0, 0) (i := j / 2) (by omega)
  obtain ⟨q1, q2⟩ := h2 _ hm
  rcases Nat.mod_two_eq_zero_or_one j with e | e
  · have : j = j / 2 * 2 := by omega
    rw [this, fl_x]
    exact q1
  · have : j = j / 2 * 2 + 1 := by omega
    rw [this, fl_y]
    exact q2

theorem RowsR.row {Ls : List Cs} (h : RowsR Ls) {i : Nat} (hi : i < Ls.length) : CellsR (fl (Ls.getD i [])) (Ls.getD i []).length :=
  cellsR_fl (h.len _ (getD_mem _ _ hi)) (h.rng _ (getD_mem _ _ hi))

theorem wrap64_succ {i : Nat} (h : i < 4294967296) : IntKind.wrap .i64 ((i : Int) + 1) = ((i + 1 : Nat) : Int) := by rw [wrap64 (by omega)]; omega

theorem set_take_rep {α : Type} (L : List α) (z d : α) {i : Nat} (hi : i < L.length) : List.set (L.take i ++ List.replicate (L.length - i) z) i (L.getD i d) = L.take (i + 1) ++ List.replicate (L.length - (i + 1)) z := by
  rw [List.set_append_right _ _ (by rw [List.length_take]; omega), List.length_take, Nat.min_eq_left (by omega), Nat.sub_self]
  have : L.length - i = (L.length - (i + 1)) + 1 := by omega
  rw [this, List.replicate_succ, List.set_cons_zero, take_getD L d hi]
  simp


theorem spec_beside_cells (k : Nat) {a : List Int} {w h : Nat} (v : LawnV a w h) {x y : Int} (hx : -128 ≤ x ∧ x < 128) (hy : -128 ≤ y ∧ y < 128) (hk : 5 < k) : spec_l01Beside k a [x, y] = some (fl ((nbrs x y).filter fun p => hasB a p.1 p.2)) := by
  unfold spec_l01Beside
  rw [show ([(rd [x, y] 0), (IntKind.wrap .i8 ((rd [x, y] 1) - 1)), (IntKind.wrap .i8 ((rd [x, y] 0) - 1)), (rd [x, y] 1), (IntKind.wrap .i8 ((rd [x, y] 0) + 1)), (rd [x, y] 1), (rd [x, y] 0), (IntKind.wrap .i8 ((rd [x, y] 1) + 1))] : List Int) = fl (nbrs x y) from rfl]
  have hl4 : (nbrs x y).length = 4 := rfl
  unfold spec_l01Beside_l0
  have := loopF_go (R := List Int) (step := fun (rec : (List Int) × Int × (List Int) × (List Int) → Option (List Int)) (p : (List Int) × Int × (List Int) × (List Int)) => spec_l01Beside_s0 k (fun y1 => some y1) (fun h1 h2 h3 h4 => rec (h1, h2, h3, h4)) p.1 p.2.1 p.2.2.1 p.2.2.2)
    (fun i => (a, (i : Int), fl (nbrs x y), fl (((nbrs x y).take i).filter fun p => hasB a p.1 p.2))) (fun _ _ => some (fl ((nbrs x y).filter fun p => hasB a p.1 p.2))) (nbrs x y).length ?_ ?_ 4 0 k rfl (by omega)
  · exact this
  · intro rec
    dsimp only
    unfold spec_l01Beside_s0
    simp (disch := omega) only [cnt_fl, bF, cond_false, List.take_length]
  · intro i m hi rec hrec
    dsimp only at hrec ⊢
    unfold spec_l01Beside_s0
    have hil : i < (nbrs x y).length := by omega
    have hr := nbrs_range hx hy _ (getD_mem (nbrs x y) (0, 0) hil)
    have hlen : (fl (((nbrs x y).take i).filter fun p => hasB a p.1 p.2)).length ≤ 20 := by
      rw [fl_length]
      have h1 := List.length_filter_le (fun p => hasB a p.1 p.2) ((nbrs x y).take i)
      rw [List.length_take] at h1
      omega
    rw [take_getD _ (0, 0) hil, List.filter_append, fl_append] at hrec
    simp only [cnt_fl, Int.toNat_natCast, fl_x, fl_y]
    generalize (nbrs x y).getD i (0, 0) = p at hr hrec ⊢
    generalize fl (((nbrs x y).take i).filter fun p => hasB a p.1 p.2) = o at hlen hrec ⊢
    have hb : decide (o.length + 2 ≤ bigLen) = true := bT (by rw [bigLen_val]; omega)
    rw [show spec_l01Is k a [p.1, p.2] = some (hasB a p.1 p.2) from spec_is k v.toLawnR hr.1 hr.2, wrap64 (x := (i : Int) + 1) (by omega), bT (p := (i : Int) < ((nbrs x y).length : Int)) (by omega), bT (p := (0 : Int) ≤ (i : Int)) (by omega)]
    simp only [cond_true, Bool.and_true, Option.bind_some, hb]
    cases hq : hasB a p.1 p.2 with
    | true =>
      simp only [List.filter_cons, hq, if_true, List.filter_nil] at hrec
      simp only [cond_true]
      exact hrec
    | false =>
      simp only [List.filter_cons, hq, Bool.false_eq_true, if_false, List.filter_nil] at hrec
      simp only [cond_false]
      rw [show fl ([] : List (Int × Int)) = [] from rfl, List.append_nil] at hrec
      exact hrec


end Go.Proofs.Ytkdpdmfkomnalaa.Tt
