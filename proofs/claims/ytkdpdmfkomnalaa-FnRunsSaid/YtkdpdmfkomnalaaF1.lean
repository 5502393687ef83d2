/- Plain laws, joined: Y1 Y2 Y3 Y5 Y9a Y9 Y9g Y10 Y13 Y19 Y20 Y10b Y21. -/
import Derived.Test.YtkdpdmfkomnalaaSh
import Derived.KernelRfl
set_option linter.unusedVariables false
set_option linter.unusedSimpArgs false
namespace Go.Proofs.Ytkdpdmfkomnalaa.Tt
open Go.Ev Go


set_option maxRecDepth 100000

theorem rds_win (a : List Int) (off : Nat) : rds (win a off 10) 0 0 10 = rds a off 0 10 := by
  have h : ∀ (n j : Nat), j + n ≤ 10 → rds (win a off 10) 0 j n = rds a off j n := by
    intro n
    induction n with
    | zero => intro j _; rfl
    | succ n ih =>
      intro j hj
      simp only [rds]
      rw [ih (j + 1) (by omega), rd_win _ _ _ _ (by omega), Nat.zero_add]
  exact h 10 0 (by omega)

theorem rds_append (a : List Int) (off : Nat) : ∀ (n m j : Nat), rds a off j n ++ rds a off (j + n) m = rds a off j (n + m) := by
  intro n
  induction n with
  | zero => intro m j; simp [rds]
  | succ n ih =>
    intro m j
    have e : n + 1 + m = (n + m) + 1 := by omega
    rw [e]
    simp only [rds, List.cons_append]
    rw [← ih m (j + 1)]
    have : j + 1 + n = j + (n + 1) := by omega
    rw [this]

theorem rds_shift (a : List Int) : ∀ (n off j : Nat), rds a off j n = rds a 0 (off + j) n := by
  intro n
  induction n with
  | zero => intro off j; rfl
  | succ n ih =>
    intro off j
    simp only [rds, Nat.zero_add]
    rw [ih off (j + 1), Nat.add_assoc]


theorem wrap64 {x : Int} (h : -9223372036854775808 ≤ x ∧ x < 9223372036854775808) : IntKind.wrap .i64 x = x := by
  simp only [IntKind.wrap, IntKind.bits, IntKind.signed]
  simp
  omega

theorem wrap8 {x : Int} (h : -128 ≤ x ∧ x < 128) : IntKind.wrap .i8 x = x := by
  simp only [IntKind.wrap, IntKind.bits, IntKind.signed]
  simp
  omega

theorem cnt_two {a : List Int} {n : Nat} (h : a.length = n * 2) : cnt 2 a = n := by unfold cnt; omega

theorem bT {p : Prop} [Decidable p] (h : p) : decide p = true := decide_eq_true h
theorem bF {p : Prop} [Decidable p] (h : ¬ p) : decide p = false := decide_eq_false h

theorem drop_rd {a : List Int} {i : Nat} (h : i < a.length) : a.drop i = rd a i :: a.drop (i + 1) := by
  rw [List.drop_eq_getElem_cons h]
  simp [rd, h]



/-- A lawn's numbers are those of its kinds. -/
structure LawnR (a : List Int) : Prop where
  len : a.length = 102
  wide : -128 ≤ rd a 0 ∧ rd a 0 < 128
  high : -128 ≤ rd a 1 ∧ rd a 1 < 128
  cell : ∀ j, j < 100 → 0 ≤ rd a (2 + j) ∧ rd a (2 + j) < 256

def sideB (n : Int) : Bool := decide (1 ≤ n) && decide (n ≤ 10)

def cellB (a : List Int) (y x : Nat) : Bool := decide (rd a (2 + y * 10 + x) ≤ 3) && (decide (rd a (2 + y * 10 + x) = 0) || (decide ((x : Int) < rd a 0) && decide ((y : Int) < rd a 1)))

def rowB (a : List Int) (y : Nat) : Nat → Nat → Bool
  | _, 0 => true
  | x, m + 1 => cellB a y x && rowB a y (x + 1) m

def rowsB (a : List Int) : Nat → Nat → Bool
  | _, 0 => true
  | y, m + 1 => rowB a y 0 10 && rowsB a (y + 1) m

def lawnB (a : List Int) : Bool := sideB (rd a 0) && (sideB (rd a 1) && rowsB a 0 10)

theorem spec_side (k : Nat) (n : Int) : spec_l01Side k n = some (sideB n) := by
  unfold spec_l01Side spec_l00In sideB
  by_cases h : 1 ≤ n
  · rw [bT (p := n ≥ 1) h]; rfl
  · rw [bF (p := n ≥ 1) h]; rfl

theorem impl_side (k : Nat) (n : Int) : impl_within k n 1 10 = some (sideB n) := by
  unfold impl_within sideB
  by_cases h : 1 ≤ n
  · rw [bT h]; rfl
  · rw [bF h]; rfl

theorem spec_is (k : Nat) {a : List Int} (ha : LawnR a) {x y : Int} (hx : -128 ≤ x ∧ x < 128) (hy : -128 ≤ y ∧ y < 128) :
    spec_l01Is k a [x, y] = some ((decide (0 ≤ x) && decide (x < rd a 0)) && (decide (0 ≤ y) && decide (y < rd a 1))) := by
  have hw := ha.wide
  have hh := ha.high
  unfold spec_l01Is spec_l00In
  have e1 : rd [x, y] 0 = x := rfl
  have e2 : rd [x, y] 1 = y := rfl
  rw [e1, e2, wrap64 (x := x) (by omega), wrap64 (x := y) (by omega), wrap64 (x := rd a 0) (by omega), wrap64 (x := rd a 1) (by omega), wrap64 (x := rd a 0 - 1) (by omega), wrap64 (x := rd a 1 - 1) (by omega)]
  by_cases h1 : 0 ≤ x
  · by_cases h2 : x < rd a 0
    · rw [bT (p := x ≥ 0) h1, bT h2]
      simp only [cond_true, Option.bind_some]
      rw [bT (p := x ≤ rd a 0 - 1) (by omega)]
      simp only [cond_true]
      by_cases h3 : 0 ≤ y
      · rw [bT (p := y ≥ 0) h3]
        simp only [cond_true, Option.bind_some, Bool.true_and]
        congr 1
        by_cases h4 : y < rd a 1
        · rw [bT h4, bT (by omega)]
        · rw [bF h4, bF (by omega)]
      · rw [bF (p := y ≥ 0) h3]; rfl
    · rw [bT (p := x ≥ 0) h1, bF h2]
      simp only [cond_true, Option.bind_some]
      rw [bF (p := x ≤ rd a 0 - 1) (by omega)]
      rfl
  · rw [bF (p := x ≥ 0) h1]; rfl

theorem impl_has (k : Nat) (a : List Int) (x y : Int) : impl_Lawn_has k a [x, y] = some ((decide (0 ≤ x) && decide (x < rd a 0)) && (decide (0 ≤ y) && decide (y < rd a 1))) := by
  unfold impl_Lawn_has
  have e1 : rd [x, y] 0 = x := rfl
  have e2 : rd [x, y] 1 = y := rfl
  rw [e1, e2]
  by_cases h1 : 0 ≤ x
  · rw [bT (p := x ≥ 0) h1]
    by_cases h2 : x < rd a 0
    · rw [bT h2]
      by_cases h3 : 0 ≤ y
      · rw [bT (p := y ≥ 0) h3]; rfl
      · rw [bF (p := y ≥ 0) h3]; rfl
    · rw [bF h2]; rfl
  · rw [bF (p := x ≥ 0) h1]; rfl

theorem impl_row {R : Type} (k : Nat) (K1 : Bool → Option R) (K2 : Int → List Int → Option R) {a : List Int} (ha : LawnR a) (y : Nat) (hy : y < 10) (h2 : Int) : ∀ (m x f : Nat), x + m = 10 → m < f →
    loopF (fun (rec : Int × Int × Int × (List Int) → Option R) (p : Int × Int × Int × (List Int)) => impl_ValidLawn_s0 k K1 K2 (fun h1 h2 h3 h4 => rec (h1, h2, h3, h4)) p.1 p.2.1 p.2.2.1 p.2.2.2) f ((y : Int), h2, (x : Int), a) =
      cond (rowB a y x m) (K2 h2 a) (K1 false) := by
  intro m
  induction m with
  | zero =>
    intro x f hx hf
    obtain ⟨f, rfl⟩ : ∃ g, f = g + 1 := ⟨f - 1, by omega⟩
    rw [loopF]
    dsimp only
    unfold impl_ValidLawn_s0
    rw [bF (by omega)]
    rfl
  | succ m ih =>
    intro x f hx hf
    obtain ⟨f, rfl⟩ : ∃ g, f = g + 1 := ⟨f - 1, by omega⟩
    rw [loopF]
    dsimp only
    unfold impl_ValidLawn_s0
    have hc := ha.cell (y * 10 + x) (by omega)
    have hcell : 2 + y * 10 + x = 2 + (y * 10 + x) := by omega
    rw [bT (p := (x : Int) < 10) (by omega), bT (p := (0 : Int) ≤ (y : Int)) (by omega), bT (p := (y : Int) < 10) (by omega), bT (p := (0 : Int) ≤ (x : Int)) (by omega)]
    simp only [cond_true, Bool.and_true]
    have e1 : (y : Int).toNat = y := by omega
    have e2 : (x : Int).toNat = x := by omega
    have e3 : IntKind.wrap .i8 ((x : Int) + 1) = ((x + 1 : Nat) : Int) := by rw [wrap8 (by omega)]; omega
    rw [e1, e2, e3, Nat.mul_one]
    have hrec := ih (x + 1) f (by omega) (by omega)
    simp only [rowB, cellB]
    by_cases g1 : rd a (2 + y * 10 + x) ≤ 3
    · rw [bF (p := rd a (2 + y * 10 + x) > 3) (by omega), bT g1]
      simp only [cond_false, Bool.true_and]
      by_cases g2 : rd a (2 + y * 10 + x) = 0
      · rw [g2]
        simp only [bne_self_eq_false, cond_false, decide_true, Bool.true_or, Bool.true_and]
        exact hrec
      · have : (rd a (2 + y * 10 + x) != 0) = true := by simp [g2]
        rw [this, bF g2, impl_has]
        simp only [cond_true, Option.bind_some, Bool.false_or]
        rw [bT (p := (0 : Int) ≤ (x : Int)) (by omega), bT (p := (0 : Int) ≤ (y : Int)) (by omega)]
        simp only [Bool.true_and]
        cases hq : (decide ((x : Int) < rd a 0) && decide ((y : Int) < rd a 1)) with
        | true => simp only [Bool.not_true, cond_false, Bool.true_and]; exact hrec
        | false => rfl
    · rw [bT (p := rd a (2 + y * 10 + x) > 3) (by omega), bF g1]
      rfl

theorem spec_row {R : Type} (k : Nat) (K1 : Bool → Option R) (K2 : List Int → Int → Option R) {a : List Int} (ha : LawnR a) (y : Nat) (hy : y < 10) : ∀ (m x f : Nat), x + m = 10 → m < f →
    loopF (fun (rec : (List Int) × Int × Int → Option R) (p : (List Int) × Int × Int) => spec_l01Ok_s0 k K1 K2 (fun h1 h2 h3 => rec (h1, h2, h3)) p.1 p.2.1 p.2.2) f (a, (y : Int), (x : Int)) =
      cond (rowB a y x m) (K2 a y) (K1 false) := by
  intro m
  induction m with
  | zero =>
    intro x f hx hf
    obtain ⟨f, rfl⟩ : ∃ g, f = g + 1 := ⟨f - 1, by omega⟩
    rw [loopF]
    dsimp only
    unfold spec_l01Ok_s0
    rw [bF (by omega)]
    rfl
  | succ m ih =>
    intro x f hx hf
    obtain ⟨f, rfl⟩ : ∃ g, f = g + 1 := ⟨f - 1, by omega⟩
    rw [loopF]
    dsimp only
    unfold spec_l01Ok_s0
    have hc := ha.cell (y * 10 + x) (by omega)
    have hcell : 2 + (y * 10 + x) = 2 + y * 10 + x := by omega
    rw [hcell] at hc
    rw [bT (p := (x : Int) < 10) (by omega), bT (p := (0 : Int) ≤ (y : Int)) (by omega), bT (p := (y : Int) < 10) (by omega), bT (p := (0 : Int) ≤ (x : Int)) (by omega)]
    simp only [cond_true, Bool.and_true]
    have e1 : (y : Int).toNat = y := by omega
    have e2 : (x : Int).toNat = x := by omega
    have e3 : IntKind.wrap .i8 ((x : Int) + 1) = ((x + 1 : Nat) : Int) := by rw [wrap8 (by omega)]; omega
    rw [e1, e2, e3, Nat.mul_one, wrap64 (x := rd a (2 + y * 10 + x)) (by omega)]
    have hrec := ih (x + 1) f (by omega) (by omega)
    simp only [rowB, cellB]
    have hkind : spec_l01Kind k (rd a (2 + y * 10 + x)) = some (decide (rd a (2 + y * 10 + x) ≤ 3)) := by
      unfold spec_l01Kind spec_l00In
      rw [bT (p := rd a (2 + y * 10 + x) ≥ 0) (by omega)]
      rfl
    rw [hkind]
    simp only [Option.bind_some]
    by_cases g1 : rd a (2 + y * 10 + x) ≤ 3
    · rw [bT g1]
      simp only [Bool.not_true, cond_false, Bool.true_and]
      by_cases g2 : rd a (2 + y * 10 + x) = 0
      · rw [g2]
        simp only [bne_self_eq_false, cond_false, decide_true, Bool.true_or, Bool.true_and]
        exact hrec
      · have : (rd a (2 + y * 10 + x) != 0) = true := by simp [g2]
        rw [this, bF g2, spec_is k ha (by omega) (by omega)]
        simp only [cond_true, Option.bind_some, Bool.false_or]
        rw [bT (p := (0 : Int) ≤ (x : Int)) (by omega), bT (p := (0 : Int) ≤ (y : Int)) (by omega)]
        simp only [Bool.true_and]
        cases hq : (decide ((x : Int) < rd a 0) && decide ((y : Int) < rd a 1)) with
        | true => simp only [Bool.not_true, cond_false, Bool.true_and]; exact hrec
        | false => rfl
    · rw [bF g1]
      rfl

theorem impl_rows {R : Type} (k : Nat) (hk : 10 < k) (K1 : Bool → Option R) (K2 : Option R) {a : List Int} (ha : LawnR a) : ∀ (m y f : Nat), y + m = 10 → m < f →
    loopF (fun (rec : Int × (List Int) → Option R) (p : Int × (List Int)) => impl_ValidLawn_s1 k K1 K2 (fun h1 h2 => rec (h1, h2)) p.1 p.2) f ((y : Int), a) = cond (rowsB a y m) K2 (K1 false) := by
  intro m
  induction m with
  | zero =>
    intro y f hy hf
    obtain ⟨f, rfl⟩ : ∃ g, f = g + 1 := ⟨f - 1, by omega⟩
    rw [loopF]
    dsimp only
    unfold impl_ValidLawn_s1
    rw [bF (by omega)]
    rfl
  | succ m ih =>
    intro y f hy hf
    obtain ⟨f, rfl⟩ : ∃ g, f = g + 1 := ⟨f - 1, by omega⟩
    rw [loopF]
    dsimp only
    unfold impl_ValidLawn_s1 impl_ValidLawn_l0
    rw [bT (p := (y : Int) < 10) (by omega)]
    simp only [cond_true]
    have h := impl_row k (fun y1 => K1 y1) (fun (y2 : Int) (y3 : List Int) => loopF (fun (rec : Int × (List Int) → Option R) (p : Int × (List Int)) => impl_ValidLawn_s1 k K1 K2 (fun h1 h2 => rec (h1, h2)) p.1 p.2) f (IntKind.wrap .i8 (y2 + 1), y3)) ha y (by omega) (y : Int) 10 0 k (by omega) hk
    have e3 : IntKind.wrap .i8 ((y : Int) + 1) = ((y + 1 : Nat) : Int) := by rw [wrap8 (by omega)]; omega
    rw [e3, ih (y + 1) f (by omega) (by omega)] at h
    refine Eq.trans h ?_
    simp only [rowsB]
    cases rowB a y 0 10 <;> rfl

theorem spec_rows {R : Type} (k : Nat) (hk : 10 < k) (K1 : Bool → Option R) (K2 : Option R) {a : List Int} (ha : LawnR a) : ∀ (m y f : Nat), y + m = 10 → m < f →
    loopF (fun (rec : (List Int) × Int → Option R) (p : (List Int) × Int) => spec_l01Ok_s1 k K1 K2 (fun h1 h2 => rec (h1, h2)) p.1 p.2) f (a, (y : Int)) = cond (rowsB a y m) K2 (K1 false) := by
  intro m
  induction m with
  | zero =>
    intro y f hy hf
    obtain ⟨f, rfl⟩ : ∃ g, f = g + 1 := ⟨f - 1, by omega⟩
    rw [loopF]
    dsimp only
    unfold spec_l01Ok_s1
    rw [bF (by omega)]
    rfl
  | succ m ih =>
    intro y f hy hf
    obtain ⟨f, rfl⟩ : ∃ g, f = g + 1 := ⟨f - 1, by omega⟩
    rw [loopF]
    dsimp only
    unfold spec_l01Ok_s1 spec_l01Ok_l0
    rw [bT (p := (y : Int) < 10) (by omega)]
    simp only [cond_true]
    have h := spec_row k (fun y1 => K1 y1) (fun (y2 : List Int) (y3 : Int) => loopF (fun (rec : (List Int) × Int → Option R) (p : (List Int) × Int) => spec_l01Ok_s1 k K1 K2 (fun h1 h2 => rec (h1, h2)) p.1 p.2) f (y2, IntKind.wrap .i8 (y3 + 1))) ha y (by omega) 10 0 k (by omega) hk
    have e3 : IntKind.wrap .i8 ((y : Int) + 1) = ((y + 1 : Nat) : Int) := by rw [wrap8 (by omega)]; omega
    rw [e3, ih (y + 1) f (by omega) (by omega)] at h
    refine Eq.trans h ?_
    simp only [rowsB]
    cases rowB a y 0 10 <;> rfl

theorem impl_valid (k : Nat) (hk : 10 < k) {a : List Int} (ha : LawnR a) : impl_ValidLawn k a = some (lawnB a) := by
  have hw := ha.wide
  have hh := ha.high
  unfold impl_ValidLawn impl_ValidLawn_l1 lawnB
  rw [wrap64 (x := rd a 0) (by omega), wrap64 (x := rd a 1) (by omega), impl_side, impl_side]
  simp only [Option.bind_some]
  have h := impl_rows k hk (fun y3 => some y3) (some true) ha 10 0 k (by omega) hk
  cases sideB (rd a 0) with
  | false => rfl
  | true =>
    cases sideB (rd a 1) with
    | false => rfl
    | true =>
      simp only [Bool.not_true, cond_false, Bool.true_and]
      refine Eq.trans h ?_
      cases rowsB a 0 10 <;> rfl

theorem spec_valid (k : Nat) (hk : 10 < k) {a : List Int} (ha : LawnR a) : spec_l01Ok k a = some (lawnB a) := by
  have hw := ha.wide
  have hh := ha.high
  unfold spec_l01Ok spec_l01Ok_l1 lawnB
  rw [wrap64 (x := rd a 0) (by omega), wrap64 (x := rd a 1) (by omega), spec_side, spec_side]
  simp only [Option.bind_some]
  have h := spec_rows k hk (fun y3 => some y3) (some true) ha 10 0 k (by omega) hk
  cases sideB (rd a 0) with
  | false => rfl
  | true =>
    cases sideB (rd a 1) with
    | false => rfl
    | true =>
      simp only [Bool.not_true, cond_false, Bool.true_and]
      refine Eq.trans h ?_
      cases rowsB a 0 10 <;> rfl



def hasB (a : List Int) (x y : Int) : Bool := (decide (0 ≤ x) && decide (x < rd a 0)) && (decide (0 ≤ y) && decide (y < rd a 1))
def kindV (a : List Int) (x y : Int) : Int := rd a (2 + y.toNat * 10 + x.toNat)
def openB (a : List Int) (x y : Int) : Bool := hasB a x y && ((kindV a x y == 0) || (kindV a x y == 3))

/-- A lawn whose sides are at most ten. -/
structure LawnS (a : List Int) : Prop extends LawnR a where
  w10 : rd a 0 ≤ 10
  h10 : rd a 1 ≤ 10

theorem hasB_true {a : List Int} {x y : Int} (h : hasB a x y = true) : 0 ≤ x ∧ x < rd a 0 ∧ 0 ≤ y ∧ y < rd a 1 := by
  unfold hasB at h
  simp only [Bool.and_eq_true, decide_eq_true_eq] at h
  omega

theorem kind_range {a : List Int} (ha : LawnS a) {x y : Int} (h : hasB a x y = true) : 0 ≤ kindV a x y ∧ kindV a x y < 256 := by
  obtain ⟨h1, h2, h3, h4⟩ := hasB_true h
  have := ha.w10
  have := ha.h10
  have hc := ha.cell (y.toNat * 10 + x.toNat) (by omega)
  unfold kindV
  have e : 2 + y.toNat * 10 + x.toNat = 2 + (y.toNat * 10 + x.toNat) := by omega
  rw [e]
  exact hc

theorem spec_at (k : Nat) {a : List Int} (ha : LawnS a) {x y : Int} (h : hasB a x y = true) : spec_l01At k a [x, y] = some (kindV a x y) := by
  obtain ⟨h1, h2, h3, h4⟩ := hasB_true h
  have := ha.w10
  have := ha.h10
  have hr := kind_range ha h
  unfold spec_l01At
  have e1 : rd [x, y] 0 = x := rfl
  have e2 : rd [x, y] 1 = y := rfl
  rw [e1, e2, bT (p := 0 ≤ y) h3, bT (p := y < 10) (by omega), bT (p := 0 ≤ x) h1, bT (p := x < 10) (by omega)]
  simp only [Bool.and_true, cond_true, Nat.mul_one]
  have e : rd a (2 + y.toNat * 10 + x.toNat) = kindV a x y := rfl
  rw [e, wrap64 (by omega)]

theorem impl_kind (k : Nat) {a : List Int} (ha : LawnS a) {x y : Int} (h : hasB a x y = true) : impl_Lawn_kind k a [x, y] = some (kindV a x y) := spec_at k ha h

theorem impl_is (k : Nat) {a : List Int} (ha : LawnS a) (x y v : Int) : impl_Lawn_is k a [x, y] v = some (hasB a x y && (kindV a x y == v)) := by
  unfold impl_Lawn_is
  have e : impl_Lawn_has k a [rd [x, y] 0, rd [x, y] 1] = some (hasB a x y) := impl_has k a x y
  rw [e]
  cases h : hasB a x y with
  | false => rfl
  | true =>
    simp only [Option.bind_some, cond_true, Bool.true_and]
    have e2 : impl_Lawn_kind k a [rd [x, y] 0, rd [x, y] 1] = some (kindV a x y) := impl_kind k ha h
    rw [e2]
    rfl



/-- A loop whose states are told by a number i, with m rounds left. -/
theorem loopF_go {S R : Type} {step : (S → Option R) → S → Option R} (σ : Nat → S) (V : Nat → Nat → Option R) (n : Nat)
    (h0 : ∀ rec : S → Option R, step rec (σ n) = V n 0)
    (hs : ∀ i m, i + (m + 1) = n → ∀ rec : S → Option R, rec (σ (i + 1)) = V (i + 1) m → step rec (σ i) = V i (m + 1)) :
    ∀ m i f, i + m = n → m < f → loopF step f (σ i) = V i m := by
  intro m
  induction m with
  | zero =>
    intro i f hi hf
    obtain ⟨f, rfl⟩ : ∃ g, f = g + 1 := ⟨f - 1, by omega⟩
    have : i = n := by omega
    subst this
    rw [loopF]
    exact h0 _
  | succ m ih =>
    intro i f hi hf
    obtain ⟨f, rfl⟩ : ∃ g, f = g + 1 := ⟨f - 1, by omega⟩
    rw [loopF]
    exact hs i m hi _ (ih (i + 1) f (by omega) (by omega))

/-- A loop with a bound that falls. -/
theorem loopF_wf {S R : Type} {step : (S → Option R) → S → Option R} (Inv : S → Prop) (μ : S → Nat) (V : S → Option R)
    (hs : ∀ s, Inv s → ∀ rec : S → Option R, (∀ s', Inv s' → μ s' < μ s → rec s' = V s') → step rec s = V s) : ∀ f s, Inv s → μ s < f → loopF step f s = V s := by
  intro f
  induction f with
  | zero => intro s _ h; omega
  | succ f ih =>
    intro s hi hf
    rw [loopF]
    exact hs s hi _ fun s' hi' hm => ih s' hi' (by omega)

/-! ## Pairs -/

def fl : List (Int × Int) → List Int
  | [] => []
  | (x, y) :: r => x :: y :: fl r

theorem fl_length : ∀ (L : List (Int × Int)), (fl L).length = L.length * 2 := by
  intro L
  induction L with
  | nil => rfl
  | cons p r ih => obtain ⟨x, y⟩ := p; simp only [fl, List.length_cons, ih]; omega

theorem fl_append : ∀ (L R : List (Int × Int)), fl (L ++ R) = fl L ++ fl R := by
  intro L R
  induction L with
  | nil => rfl
  | cons p r ih => obtain ⟨x, y⟩ := p; simp [fl, ih]

theorem cnt_fl (L : List (Int × Int)) : cnt 2 (fl L) = L.length := cnt_two (fl_length L)

theorem fl_x : ∀ (L : List (Int × Int)) (i : Nat), rd (fl L) (i * 2) = (L.getD i (0, 0)).1 := by
  intro L
  induction L with
  | nil => intro i; simp [fl, rd]
  | cons p r ih =>
    obtain ⟨x, y⟩ := p
    intro i
    cases i with
    | zero => rfl
    | succ i =>
      have e : (i + 1) * 2 = i * 2 + 1 + 1 := by omega
      rw [e]
      show rd (fl r) (i * 2) = _
      rw [ih]
      rfl

theorem fl_y : ∀ (L : List (Int × Int)) (i : Nat), rd (fl L) (i * 2 + 1) = (L.getD i (0, 0)).2 := by
  intro L
  induction L with
  | nil => intro i; simp [fl, rd]
  | cons p r ih =>
    obtain ⟨x, y⟩ := p
    intro i
    cases i with
    | zero => rfl
    | succ i =>
      have e : (i + 1) * 2 + 1 = i * 2 + 1 + 1 + 1 := by omega
      rw [e]
      show rd (fl r) (i * 2 + 1) = _
      rw [ih]
      rfl

/-! ## All cells of a lawn -/

def rowC (y : Nat) (w : Nat) : List (Int × Int) := (List.range w).map fun (x : Nat) => ((x : Int), (y : Int))
def allC (w h : Nat) : List (Int × Int) := (List.range h).flatMap fun (y : Nat) => rowC y w

theorem rowC_succ (y w : Nat) : rowC y (w + 1) = rowC y w ++ [((w : Int), (y : Int))] := by simp [rowC, List.range_succ]
theorem allC_succ (w h : Nat) : allC w (h + 1) = allC w h ++ rowC h w := by simp [allC, List.range_succ]
theorem allC_length (w h : Nat) : (allC w h).length = h * w := by
  induction h with
  | zero => simp [allC]
  | succ h ih => rw [allC_succ, List.length_append, ih, Nat.succ_mul]; simp [rowC]

theorem allC_mem {w h : Nat} {p : Int × Int} : p ∈ allC w h ↔ (0 ≤ p.1 ∧ p.1 < w ∧ 0 ≤ p.2 ∧ p.2 < h) := by
  obtain ⟨x, y⟩ := p
  simp only [allC, rowC, List.mem_flatMap, List.mem_range, List.mem_map, Prod.mk.injEq]
  constructor
  · rintro ⟨i, hi, j, hj, rfl, rfl⟩; omega
  · rintro ⟨h1, h2, h3, h4⟩
    exact ⟨y.toNat, by omega, x.toNat, by omega, by omega, by omega⟩

theorem rowC_length (y w : Nat) : (rowC y w).length = w := by simp [rowC]

theorem take_getD {α : Type} (L : List α) (d : α) {i : Nat} (h : i < L.length) : L.take (i + 1) = L.take i ++ [L.getD i d] := by
  rw [List.take_add_one, List.getD_eq_getElem?_getD]
  simp [h]

theorem getD_mem {α : Type} (L : List α) (d : α) {i : Nat} (h : i < L.length) : L.getD i d ∈ L := by
  simp [List.getD_eq_getElem?_getD, h]

theorem bigLen_val : bigLen = 4294967296 := rfl

/-- A lawn that is right, with its sides. -/
structure LawnV (a : List Int) (w h : Nat) : Prop extends LawnS a where
  wv : rd a 0 = (w : Int)
  hv : rd a 1 = (h : Int)
  w1 : 1 ≤ w
  h1 : 1 ≤ h

theorem LawnV.wle {a : List Int} {w h : Nat} (v : LawnV a w h) : w ≤ 10 := by have := v.wv; have := v.w10; omega
theorem LawnV.hle {a : List Int} {w h : Nat} (v : LawnV a w h) : h ≤ 10 := by have := v.hv; have := v.h10; omega

theorem lawnS_of' {a : List Int} (ha : LawnR a) (h : lawnB a = true) : LawnS a := by
  unfold lawnB sideB at h
  simp only [Bool.and_eq_true, decide_eq_true_eq] at h
  exact ⟨ha, h.1.2, h.2.1.2⟩

theorem lawnV_of {a : List Int} (ha : LawnR a) (h : lawnB a = true) : ∃ w h, LawnV a w h := by
  unfold lawnB sideB at h
  simp only [Bool.and_eq_true, decide_eq_true_eq] at h
  exact ⟨(rd a 0).toNat, (rd a 1).toNat, ⟨⟨ha, h.1.2, h.2.1.2⟩, by omega, by omega, by omega, by omega⟩⟩

/-! ## All cells -/



theorem spec_all_row {R : Type} (k : Nat) (K1 : (List Int) → Int → (List Int) → Option R) {a : List Int} {w h : Nat} (v : LawnV a w h) (y : Nat) (o : List Int) (ho : o.length ≤ 1000) (hk : w < k) :
    spec_l01All_l0 k K1 a (y : Int) 0 o = K1 a y (o ++ fl (rowC y w)) := by
  have hw := v.wv
  have hl := v.wle
  unfold spec_l01All_l0
  have := loopF_go (R := R) (step := fun (rec : (List Int) × Int × Int × (List Int) → Option R) (p : (List Int) × Int × Int × (List Int)) => spec_l01All_s0 k K1 (fun h1 h2 h3 h4 => rec (h1, h2, h3, h4)) p.1 p.2.1 p.2.2.1 p.2.2.2)
    (fun i => (a, (y : Int), (i : Int), o ++ fl (rowC y i))) (fun _ _ => K1 a y (o ++ fl (rowC y w))) w ?_ ?_ w 0 k (by omega) hk
  · simpa [rowC, fl] using this
  · intro rec
    dsimp only
    unfold spec_l01All_s0
    simp (disch := omega) only [hw, bF, cond_false]
  · intro i m hi rec hrec
    dsimp only at hrec ⊢
    unfold spec_l01All_s0
    simp (disch := omega) only [hw, bT, cond_true, List.length_append, fl_length, rowC_length, bigLen_val, wrap8]
    rw [rowC_succ, fl_append, ← List.append_assoc] at hrec
    exact hrec

theorem spec_all (k : Nat) {a : List Int} {w h : Nat} (v : LawnV a w h) (hk : 10 < k) : spec_l01All k a = some (fl (allC w h)) := by
  have hh := v.hv
  have hl := v.hle
  have hwl := v.wle
  unfold spec_l01All spec_l01All_l1
  have := loopF_go (step := fun (rec : (List Int) × Int × (List Int) → Option (List Int)) (p : (List Int) × Int × (List Int)) => spec_l01All_s1 k (fun y1 => some y1) (fun h1 h2 h3 => rec (h1, h2, h3)) p.1 p.2.1 p.2.2)
    (fun i => (a, (i : Int), fl (allC w i))) (fun _ _ => some (fl (allC w h))) h ?_ ?_ h 0 k (by omega) (by omega)
  · exact this
  · intro rec
    dsimp only
    unfold spec_l01All_s1
    simp (disch := omega) only [hh, bF, cond_false]
  · intro i m hi rec hrec
    dsimp only at hrec ⊢
    unfold spec_l01All_s1
    have hlen : (fl (allC w i)).length ≤ 1000 := by
      rw [fl_length, allC_length]
      have := Nat.mul_le_mul (show i ≤ 10 by omega) hwl
      omega
    rw [spec_all_row k _ v i _ hlen (by omega)]
    simp (disch := omega) only [hh, bT, cond_true, wrap8]
    rw [allC_succ, fl_append] at hrec
    exact hrec

theorem impl_all_row {R : Type} (k : Nat) (K1 : Int → Int → (List Int) → (List Int) → Option R) {a : List Int} {w h : Nat} (hl : w ≤ 10) (y : Nat) (q r : Int) (o : List Int) (ho : o.length ≤ 1000) (hk : w < k) :
    impl_Lawn_all_l0 k K1 (y : Int) q r (w : Int) 0 a o = K1 q r a (o ++ fl (rowC y w)) := by
  unfold impl_Lawn_all_l0
  have := loopF_go (R := R) (step := fun (rec : Int × Int × Int × Int × Int × (List Int) × (List Int) → Option R) (p : Int × Int × Int × Int × Int × (List Int) × (List Int)) => impl_Lawn_all_s0 k K1 (fun h1 h2 h3 h4 h5 h6 h7 => rec (h1, h2, h3, h4, h5, h6, h7)) p.1 p.2.1 p.2.2.1 p.2.2.2.1 p.2.2.2.2.1 p.2.2.2.2.2.1 p.2.2.2.2.2.2)
    (fun i => ((y : Int), q, r, (w : Int), (i : Int), a, o ++ fl (rowC y i))) (fun _ _ => K1 q r a (o ++ fl (rowC y w))) w ?_ ?_ w 0 k (by omega) hk
  · simpa [rowC, fl] using this
  · intro rec
    dsimp only
    unfold impl_Lawn_all_s0
    simp (disch := omega) only [bF, cond_false]
  · intro i m hi rec hrec
    dsimp only at hrec ⊢
    unfold impl_Lawn_all_s0
    simp (disch := omega) only [bT, cond_true, List.length_append, fl_length, rowC_length, bigLen_val, wrap8]
    rw [rowC_succ, fl_append, ← List.append_assoc] at hrec
    exact hrec

theorem impl_all (k : Nat) {a : List Int} {w h : Nat} (v : LawnV a w h) (hk : 10 < k) : impl_Lawn_all k a = some (fl (allC w h)) := by
  have hh := v.hv
  have hw := v.wv
  have hl := v.hle
  have hwl := v.wle
  unfold impl_Lawn_all impl_Lawn_all_l1
  rw [hh]
  have := loopF_go (step := fun (rec : Int × Int × (List Int) × (List Int) → Option (List Int)) (p : Int × Int × (List Int) × (List Int)) => impl_Lawn_all_s1 k (fun y1 => some y1) (fun h1 h2 h3 h4 => rec (h1, h2, h3, h4)) p.1 p.2.1 p.2.2.1 p.2.2.2)
    (fun i => ((h : Int), (i : Int), a, fl (allC w i))) (fun _ _ => some (fl (allC w h))) h ?_ ?_ h 0 k (by omega) (by omega)
  · exact this
  · intro rec
    dsimp only
    unfold impl_Lawn_all_s1
    simp (disch := omega) only [bF, cond_false]
  · intro i m hi rec hrec
    dsimp only at hrec ⊢
    unfold impl_Lawn_all_s1
    have hlen : (fl (allC w i)).length ≤ 1000 := by
      rw [fl_length, allC_length]
      have := Nat.mul_le_mul (show i ≤ 10 by omega) hwl
      omega
    rw [hw, impl_all_row (h := h) k _ hwl i _ _ _ hlen (by omega)]
    simp (disch := omega) only [bT, cond_true, wrap8]
    rw [allC_succ, fl_append] at hrec
    exact hrec

/-! ## Grass -/

def grassB (a : List Int) (x y : Int) : Bool := hasB a x y && (kindV a x y == 0)

theorem impl_grass (k : Nat) {a : List Int} (ha : LawnS a) (x y : Int) : impl_Lawn_grass k a [x, y] = some (grassB a x y) := by
  unfold impl_Lawn_grass grassB
  have e : impl_Lawn_is k a [rd [x, y] 0, rd [x, y] 1] 0 = some (hasB a x y && (kindV a x y == 0)) := impl_is k ha x y 0
  rw [e]
  rfl

theorem grass_range {a : List Int} (ha : LawnS a) {x y : Int} (h : grassB a x y = true) : 0 ≤ x ∧ x < rd a 0 ∧ 0 ≤ y ∧ y < rd a 1 := by
  unfold grassB at h
  rw [Bool.and_eq_true] at h
  exact hasB_true h.1



theorem spec_grass (k : Nat) {a : List Int} (ha : LawnS a) {x y : Int} (hx : -128 ≤ x ∧ x < 128) (hy : -128 ≤ y ∧ y < 128) : spec_l01Grass k a [x, y] = some (grassB a x y) := by
  unfold spec_l01Grass grassB
  have e : spec_l01Is k a [rd [x, y] 0, rd [x, y] 1] = some (hasB a x y) := spec_is k ha.toLawnR hx hy
  rw [e]
  cases h : hasB a x y with
  | false => rfl
  | true =>
    have e2 : spec_l01At k a [rd [x, y] 0, rd [x, y] 1] = some (kindV a x y) := spec_at k ha h
    simp only [Option.bind_some, cond_true, e2, Bool.true_and]



theorem eqT {a b : Int} (h : a = b) : (a == b) = true := by simp [h]
theorem eqF {a b : Int} (h : a ≠ b) : (a == b) = false := by simp [h]
theorem neT {a b : Int} (h : a ≠ b) : (a != b) = true := by simp [h]
theorem neF {a b : Int} (h : a = b) : (a != b) = false := by simp [h]

theorem tdiv2 {d : Int} (h : 0 ≤ d) : Int.tdiv d 2 = d / 2 := Int.tdiv_eq_ediv_of_nonneg h

def findI {α : Type} (g : α → Bool) : List α → Nat → Int
  | [], _ => -1
  | p :: r, i => cond (g p) (i : Int) (findI g r (i + 1))

theorem findI_any {α : Type} (g : α → Bool) : ∀ (L : List α) (i : Nat), decide (findI g L i ≥ 0) = L.any g := by
  intro L
  induction L with
  | nil => intro i; rfl
  | cons p r ih =>
    intro i
    simp only [findI, List.any_cons]
    have := ih (i + 1)
    by_cases h : g p = true
    · simp [h]
    · simpa [h] using this

theorem drop_getD {α : Type} (L : List α) (d : α) {i : Nat} (h : i < L.length) : L.drop i = L.getD i d :: L.drop (i + 1) := by
  rw [List.drop_eq_getElem_cons h]
  simp [List.getD_eq_getElem?_getD, h]

theorem indexFunc_cells (k : Nat) (L : List (Int × Int)) (f : List Int → Option Bool) (g : Int × Int → Bool) (hf : ∀ p ∈ L, f [p.1, p.2] = some (g p)) (hL : L.length ≤ 1048576) (hk : L.length < k) :
    slices_IndexFunc_impl_Cell k (fl L) f = some (findI g L 0) := by
  unfold slices_IndexFunc_impl_Cell slices_IndexFunc_impl_Cell_l0
  rw [cnt_fl]
  have := loopF_go (step := fun (rec : (List Int) × (List Int → Option Bool) × Int × Int → Option Int) (p : (List Int) × (List Int → Option Bool) × Int × Int) => slices_IndexFunc_impl_Cell_s0 k (fun y1 => some y1) (some (-1)) (fun h1 h2 h3 h4 => rec (h1, h2, h3, h4)) p.1 p.2.1 p.2.2.1 p.2.2.2)
    (fun i => (fl L, f, (L.length : Int), (i : Int))) (fun i _ => some (findI g (L.drop i) i)) L.length ?_ ?_ L.length 0 k (by omega) hk
  · exact this
  · intro rec
    dsimp only
    unfold slices_IndexFunc_impl_Cell_s0
    simp (disch := omega) only [bF, cond_false, List.drop_length, findI]
  · intro i m hi rec hrec
    dsimp only at hrec ⊢
    unfold slices_IndexFunc_impl_Cell_s0
    have hm := hf _ (getD_mem L (0, 0) (show i < L.length by omega))
    rw [drop_getD L (0, 0) (show i < L.length by omega)]
    simp (disch := omega) only [bT, cond_true, cnt_fl, Bool.and_true, Int.toNat_natCast, fl_x, fl_y, hm, Option.bind_some, wrap64, findI]
    cases g (L.getD i (0, 0)) with
    | true => rfl
    | false => simp only [cond_false]; exact hrec

theorem containsFunc_cells (k : Nat) (L : List (Int × Int)) (f : List Int → Option Bool) (g : Int × Int → Bool) (hf : ∀ p ∈ L, f [p.1, p.2] = some (g p)) (hL : L.length ≤ 1048576) (hk : L.length < k) :
    slices_ContainsFunc_impl_Cell k (fl L) f = some (L.any g) := by
  unfold slices_ContainsFunc_impl_Cell
  rw [indexFunc_cells k L f g hf hL hk]
  simp only [Option.bind_some]
  rw [findI_any]

theorem impl_cells (k : Nat) {a : List Int} (ha : LawnR a) (L : List (Int × Int)) (hL : L.length ≤ 1000) (hk : 10 < k) (hk2 : L.length < k) :
    impl_cellsCode k a (fl L) = some (cond (lawnB a) (cond (L.any fun p => !(hasB a p.1 p.2)) 2 0) 1) := by
  unfold impl_cellsCode
  rw [impl_valid k hk ha]
  simp only [Option.bind_some]
  cases lawnB a with
  | false => rfl
  | true =>
    simp only [Bool.not_true, cond_false, cond_true]
    rw [containsFunc_cells k L _ (fun p => !(hasB a p.1 p.2)) (fun p _ => by unfold impl_cellsCode_1; rw [show impl_Lawn_has k a [rd [rd [p.1, p.2] 0, rd [p.1, p.2] 1] 0, rd [rd [p.1, p.2] 0, rd [p.1, p.2] 1] 1] = some (hasB a p.1 p.2) from impl_has k a p.1 p.2]; rfl) (by omega) hk2]
    simp only [Option.bind_some]
    cases (L.any fun p => !(hasB a p.1 p.2)) <;> rfl

theorem impl_cells_nil (k : Nat) {a : List Int} (ha : LawnR a) (hk : 10 < k) : impl_cellsCode k a [] = some (cond (lawnB a) 0 1) := by
  have := impl_cells k ha [] (by simp) hk (by simp; omega)
  simpa [fl] using this

theorem impl_cells_one (k : Nat) {a : List Int} (ha : LawnR a) (x y : Int) (hk : 10 < k) : impl_cellsCode k a [x, y] = some (cond (lawnB a) (cond (hasB a x y) 0 2) 1) := by
  have := impl_cells k ha [(x, y)] (by simp) hk (by simp; omega)
  simp only [fl, List.any_cons, List.any_nil, Bool.or_false] at this
  rw [this]
  cases hasB a x y <;> rfl

/-! ## Cells 0 to 9, of whatever lawn -/

theorem spec_at10 (k : Nat) {a : List Int} (ha : LawnR a) {x y : Int} (hx : 0 ≤ x ∧ x < 10) (hy : 0 ≤ y ∧ y < 10) : spec_l01At k a [x, y] = some (kindV a x y) := by
  have hc := ha.cell (y.toNat * 10 + x.toNat) (by omega)
  have e : 2 + (y.toNat * 10 + x.toNat) = 2 + y.toNat * 10 + x.toNat := by omega
  rw [e] at hc
  unfold spec_l01At
  have e1 : rd [x, y] 0 = x := rfl
  have e2 : rd [x, y] 1 = y := rfl
  rw [e1, e2]
  simp (disch := omega) only [bT, cond_true, Bool.and_true, Nat.mul_one, wrap64]
  rfl

theorem impl_grass10 (k : Nat) {a : List Int} (ha : LawnR a) {x y : Int} (hx : 0 ≤ x ∧ x < 10) (hy : 0 ≤ y ∧ y < 10) : impl_Lawn_grass k a [x, y] = some (grassB a x y) := by
  unfold impl_Lawn_grass impl_Lawn_is grassB
  have e : impl_Lawn_has k a [rd [rd [x, y] 0, rd [x, y] 1] 0, rd [rd [x, y] 0, rd [x, y] 1] 1] = some (hasB a x y) := impl_has k a x y
  rw [e]
  cases h : hasB a x y with
  | false => rfl
  | true =>
    have e2 : impl_Lawn_kind k a [rd [rd [x, y] 0, rd [x, y] 1] 0, rd [rd [x, y] 0, rd [x, y] 1] 1] = some (kindV a x y) := spec_at10 k ha hx hy
    simp only [Option.bind_some, cond_true, e2, Bool.true_and]

theorem spec_in (k : Nat) (n lo hi : Int) : spec_l00In k n lo hi = some (decide (lo ≤ n) && decide (n ≤ hi)) := by
  unfold spec_l00In
  by_cases h : lo ≤ n
  · rw [bT (p := n ≥ lo) h]; rfl
  · rw [bF (p := n ≥ lo) h]; rfl

theorem impl_in (k : Nat) (n lo hi : Int) : impl_within k n lo hi = some (decide (lo ≤ n) && decide (n ≤ hi)) := by
  unfold impl_within
  by_cases h : lo ≤ n
  · rw [bT h]; rfl
  · rw [bF h]; rfl



theorem fl_set : ∀ (B : List (Int × Int)) (i : Nat) (x y : Int), i < B.length → setWin (fl B) (i * 2) 2 [x, y] = fl (B.set i (x, y)) := by
  intro B
  induction B with
  | nil => intro i x y h; simp at h
  | cons p r ih =>
    intro i x y h
    obtain ⟨px, py⟩ := p
    cases i with
    | zero => simp [setWin, fl]
    | succ i =>
      have := ih i x y (by simpa using h)
      unfold setWin at this ⊢
      have e1 : (i + 1) * 2 = i * 2 + 1 + 1 := by omega
      have e2 : (i + 1) * 2 + 2 = i * 2 + 2 + 1 + 1 := by omega
      rw [e1]
      simp only [fl, List.set_cons_succ, List.take_succ_cons, List.drop_succ_cons, List.cons_append]
      simpa using this

theorem fl_take : ∀ (B : List (Int × Int)) (i : Nat), (fl B).take (i * 2) = fl (B.take i) := by
  intro B
  induction B with
  | nil => intro i; simp [fl]
  | cons p r ih =>
    intro i
    obtain ⟨px, py⟩ := p
    cases i with
    | zero => rfl
    | succ i =>
      have e1 : (i + 1) * 2 = i * 2 + 1 + 1 := by omega
      rw [e1]
      simp only [fl, List.take_succ_cons, ih]

/-- DeleteFunc's list and how many it has kept, once it has looked at n. -/
def dB (g : Int × Int → Bool) (L : List (Int × Int)) : Nat → List (Int × Int) × Nat
  | 0 => (L, 0)
  | n + 1 => cond (g (L.getD n (0, 0))) (dB g L n) ((dB g L n).1.set (dB g L n).2 (L.getD n (0, 0)), (dB g L n).2 + 1)

theorem dB_inv (g : Int × Int → Bool) (L : List (Int × Int)) : ∀ n, n ≤ L.length → (dB g L n).1.length = L.length ∧ (dB g L n).2 ≤ n ∧ (dB g L n).1.take (dB g L n).2 = (L.take n).filter (fun p => !(g p)) ∧ (dB g L n).1.drop n = L.drop n := by
  intro n
  induction n with
  | zero => intro _; simp [dB]
  | succ n ih =>
    intro hn
    obtain ⟨h1, h2, h3, h4⟩ := ih (by omega)
    have hd : (dB g L n).1.drop (n + 1) = L.drop (n + 1) := by
      have := congrArg (List.drop 1) h4
      simpa [List.drop_drop, Nat.add_comm] using this
    rw [take_getD L (0, 0) (show n < L.length by omega), List.filter_append]
    simp only [dB]
    cases hg : g (L.getD n (0, 0)) with
    | true =>
      simp only [cond_true, List.filter_cons, hg, Bool.not_true, Bool.false_eq_true, if_false, List.filter_nil, List.append_nil]
      exact ⟨h1, by omega, h3, hd⟩
    | false =>
      simp only [cond_false, List.filter_cons, hg, Bool.not_false, if_true, List.filter_nil]
      refine ⟨by rw [List.length_set]; exact h1, by omega, ?_, ?_⟩
      · rw [List.take_add_one, List.take_set, h3, List.getElem?_set_self (by omega)]
        have : ((L.take n).filter fun p => !(g p)).length ≤ (dB g L n).2 := by rw [← h3, List.length_take]; omega
        rw [List.set_eq_of_length_le this]
        rfl
      · rw [List.drop_set_of_lt (by omega)]
        exact hd

theorem dB_start (g : Int × Int → Bool) (L : List (Int × Int)) : ∀ n, n ≤ L.length → (∀ i, i < n → g (L.getD i (0, 0)) = false) → dB g L n = (L, n) := by
  intro n
  induction n with
  | zero => intro _ _; rfl
  | succ n ih =>
    intro hn h
    simp only [dB]
    rw [ih (by omega) (fun i hi => h i (by omega)), h n (by omega)]
    simp only [cond_false]
    congr 1
    rw [List.getD_eq_getElem?_getD, List.getElem?_eq_getElem (show n < L.length by omega)]
    simp

theorem findI_spec {α : Type} (g : α → Bool) (d : α) : ∀ (L : List α) (i : Nat), (findI g L i = -1 ∧ ∀ p ∈ L, g p = false) ∨ ∃ j, j < L.length ∧ findI g L i = ((i + j : Nat) : Int) ∧ g (L.getD j d) = true ∧ ∀ t, t < j → g (L.getD t d) = false := by
  intro L
  induction L with
  | nil => intro i; exact .inl ⟨rfl, by simp⟩
  | cons p r ih =>
    intro i
    simp only [findI]
    cases hg : g p with
    | true => exact .inr ⟨0, by simp, rfl, hg, fun t ht => by omega⟩
    | false =>
      simp only [cond_false]
      rcases ih (i + 1) with ⟨h1, h2⟩ | ⟨j, h1, h2, h3, h4⟩
      · refine .inl ⟨h1, fun q hq => ?_⟩
        rcases List.mem_cons.1 hq with rfl | hq
        · exact hg
        · exact h2 q hq
      · refine .inr ⟨j + 1, by simp; omega, by rw [h2]; omega, by simpa using h3, fun t ht => ?_⟩
        cases t with
        | zero => simpa using hg
        | succ t => simpa using h4 t (by omega)

theorem win_setWin {l m : List Int} {off n : Nat} (h : off ≤ l.length) : win (setWin l off n m) 0 off = l.take off := by
  unfold win setWin
  rw [List.drop_zero, List.take_append_of_le_length (by rw [List.length_take]; omega), List.take_take, Nat.min_self]

theorem cnt_setWin {l : List Int} {i n : Nat} (h : l.length = n * 2) (hi : i ≤ n) : cnt 2 (setWin l (i * 2) ((n - i) * 2) (List.replicate ((n - i) * 2) 0)) = n := by
  apply cnt_two
  unfold setWin
  simp
  omega

theorem allC_small {a : List Int} {w h : Nat} (v : LawnV a w h) : (allC w h).length ≤ 100 := by
  rw [allC_length]
  have := Nat.mul_le_mul v.hle v.wle
  omega

theorem hasB_all {a : List Int} {w h : Nat} (v : LawnV a w h) {p : Int × Int} (hp : p ∈ allC w h) : hasB a p.1 p.2 = true := by
  have := allC_mem.1 hp
  have := v.wv
  have := v.hv
  unfold hasB
  simp (disch := omega) only [bT, Bool.and_true]

theorem spec_cells (k : Nat) {a : List Int} {w h : Nat} (v : LawnV a w h) (n : Int) (hk : 101 < k) : spec_l01Cells k a n = some (fl ((allC w h).filter fun p => kindV a p.1 p.2 == n)) := by
  have hs := allC_small v
  unfold spec_l01Cells
  rw [spec_all k v (by omega)]
  simp only [Option.bind_some]
  unfold spec_l01Cells_l0
  have := loopF_go (step := fun (rec : (List Int) × Int × Int × (List Int) × (List Int) → Option (List Int)) (p : (List Int) × Int × Int × (List Int) × (List Int)) => spec_l01Cells_s0 k (fun y2 => some y2) (fun h1 h2 h3 h4 h5 => rec (h1, h2, h3, h4, h5)) p.1 p.2.1 p.2.2.1 p.2.2.2.1 p.2.2.2.2)
    (fun i => (a, n, (i : Int), fl (((allC w h).take i).filter fun p => kindV a p.1 p.2 == n), fl (allC w h))) (fun _ _ => some (fl ((allC w h).filter fun p => kindV a p.1 p.2 == n))) (allC w h).length ?_ ?_ (allC w h).length 0 k (by omega) (by omega)
  · exact this
  · intro rec
    dsimp only
    unfold spec_l01Cells_s0
    simp (disch := omega) only [cnt_fl, bF, cond_false, List.take_length]
  · intro i m hi rec hrec
    dsimp only at hrec ⊢
    unfold spec_l01Cells_s0
    have hil : i < (allC w h).length := by omega
    have hm := hasB_all v (getD_mem (allC w h) (0, 0) hil)
    have hlen : (fl (((allC w h).take i).filter fun p => kindV a p.1 p.2 == n)).length ≤ 200 := by
      rw [fl_length]
      have h1 := List.length_filter_le (fun p => kindV a p.1 p.2 == n) ((allC w h).take i)
      rw [List.length_take] at h1
      omega
    rw [take_getD _ (0, 0) hil, List.filter_append, fl_append] at hrec
    simp only [cnt_fl, Int.toNat_natCast, fl_x, fl_y]
    generalize (allC w h).getD i (0, 0) = p at hm hrec ⊢
    generalize fl (((allC w h).take i).filter fun p => kindV a p.1 p.2 == n) = o at hlen hrec ⊢
    rw [spec_at k v.toLawnS hm]
    have hb : decide (o.length + 2 ≤ bigLen) = true := bT (by rw [bigLen_val]; omega)
    simp (disch := omega) only [bT, cond_true, Bool.and_true, Option.bind_some, wrap64, hb]
    cases hq : (kindV a p.1 p.2 == n) with
    | true =>
      simp only [List.filter_cons, hq, if_true, List.filter_nil] at hrec
      simp only [cond_true]
      exact hrec
    | false =>
      simp only [List.filter_cons, hq, Bool.false_eq_true, if_false, List.filter_nil] at hrec
      simp only [cond_false]
      rw [show fl ([] : List (Int × Int)) = [] from rfl, List.append_nil] at hrec
      exact hrec

theorem grass_filter {a : List Int} {w h : Nat} (v : LawnV a w h) : ((allC w h).filter fun p => kindV a p.1 p.2 == 0) = (allC w h).filter fun p => grassB a p.1 p.2 :=
  List.filter_congr fun p hp => by unfold grassB; rw [hasB_all v hp, Bool.true_and]

theorem impl_grassL (k : Nat) {a : List Int} (ha : LawnS a) (p : Int × Int) : ((fun z1 => (impl_Lawn_grass k a [rd z1 0, rd z1 1]).bind fun b => some b) [p.1, p.2]) = some (grassB a p.1 p.2) := by
  show (impl_Lawn_grass k a [p.1, p.2]).bind _ = _
  rw [impl_grass k ha]
  rfl



/-! ## Triples -/

def fl3 : List (Int × Int × Int) → List Int
  | [] => []
  | (x, y, n) :: r => x :: y :: n :: fl3 r

theorem fl3_length : ∀ (L : List (Int × Int × Int)), (fl3 L).length = L.length * 3 := by
  intro L
  induction L with
  | nil => rfl
  | cons p r ih => obtain ⟨x, y, n⟩ := p; simp only [fl3, List.length_cons, ih]; omega

theorem fl3_append : ∀ (L R : List (Int × Int × Int)), fl3 (L ++ R) = fl3 L ++ fl3 R := by
  intro L R
  induction L with
  | nil => rfl
  | cons p r ih => obtain ⟨x, y, n⟩ := p; simp [fl3, ih]

theorem cnt_fl3 (L : List (Int × Int × Int)) : cnt 3 (fl3 L) = L.length := by unfold cnt; rw [fl3_length]; omega

theorem fl3_all : ∀ (L : List (Int × Int × Int)) (i : Nat), rd (fl3 L) (i * 3) = (L.getD i (0, 0, 0)).1 ∧ rd (fl3 L) (i * 3 + 1) = (L.getD i (0, 0, 0)).2.1 ∧ rd (fl3 L) (i * 3 + 2) = (L.getD i (0, 0, 0)).2.2 := by
  intro L
  induction L with
  | nil => intro i; simp [fl3, rd]
  | cons p r ih =>
    obtain ⟨x, y, n⟩ := p
    intro i
    cases i with
    | zero => exact ⟨rfl, rfl, rfl⟩
    | succ i =>
      have e0 : (i + 1) * 3 = i * 3 + 1 + 1 + 1 := by omega
      have e1 : (i + 1) * 3 + 1 = i * 3 + 1 + 1 + 1 + 1 := by omega
      have e2 : i * 3 + 1 + 1 + 1 + 2 = i * 3 + 2 + 1 + 1 + 1 := by omega
      rw [e0, e2]
      exact ih i

theorem fl3_x (L : List (Int × Int × Int)) (i : Nat) : rd (fl3 L) (i * 3) = (L.getD i (0, 0, 0)).1 := (fl3_all L i).1
theorem fl3_y (L : List (Int × Int × Int)) (i : Nat) : rd (fl3 L) (i * 3 + 1) = (L.getD i (0, 0, 0)).2.1 := (fl3_all L i).2.1
theorem fl3_n (L : List (Int × Int × Int)) (i : Nat) : rd (fl3 L) (i * 3 + 2) = (L.getD i (0, 0, 0)).2.2 := (fl3_all L i).2.2

theorem cells_in' {a : List Int} {w h : Nat} (v : LawnV a w h) {p : Int × Int} (hp : p ∈ allC w h) : (0 ≤ p.1 ∧ p.1 < 10) ∧ (0 ≤ p.2 ∧ p.2 < 10) := by
  have := allC_mem.1 hp
  have := v.wle
  have := v.hle
  omega

/-! ## What runs are -/

def dxB (b : Bool) : Int := cond b 1 0
def dyB (b : Bool) : Int := cond b 0 1

def runLen (a : List Int) (b : Bool) : Nat → Int → Int → Nat
  | 0, _, _ => 0
  | m + 1, x, y => cond (grassB a x y) (runLen a b m (x + dxB b) (y + dyB b) + 1) 0

def longV (a : List Int) (b : Bool) (x y : Int) : Nat := runLen a b 11 x y
def startB (a : List Int) (b : Bool) (p : Int × Int) : Bool := grassB a p.1 p.2 && !(grassB a (p.1 - dxB b) (p.2 - dyB b))
def runOf (a : List Int) (b : Bool) (p : Int × Int) : Int × Int × Int := (p.1, p.2, (longV a b p.1 p.2 : Int))
def runsOf (a : List Int) (b : Bool) (L : List (Int × Int)) : List (Int × Int × Int) := (L.filter (startB a b)).map (runOf a b)

theorem runsOf_snoc (a : List Int) (b : Bool) (L : List (Int × Int)) (p : Int × Int) : runsOf a b (L ++ [p]) = cond (startB a b p) (runsOf a b L ++ [runOf a b p]) (runsOf a b L) := by
  unfold runsOf
  rw [List.filter_append, List.map_append, List.filter_cons]
  cases startB a b p <;> simp

theorem runsOf_len (a : List Int) (b : Bool) (L : List (Int × Int)) : (runsOf a b L).length ≤ L.length := by
  unfold runsOf
  rw [List.length_map]
  exact List.length_filter_le _ _

theorem runLen_le (a : List Int) (b : Bool) : ∀ m x y, runLen a b m x y ≤ m := by
  intro m
  induction m with
  | zero => intro x y; exact Nat.le_refl _
  | succ m ih =>
    intro x y
    simp only [runLen]
    have := ih (x + dxB b) (y + dyB b)
    cases grassB a x y with
    | true => simp only [cond_true]; omega
    | false => simp only [cond_false]; omega

/-- A run is as long with more room, once it has enough. -/
theorem runLen_more {a : List Int} {w h : Nat} (v : LawnV a w h) (b : Bool) : ∀ (m : Nat) (x y : Int), 10 ≤ x * dxB b + y * dyB b + m → ∀ j : Nat, runLen a b (m + j) x y = runLen a b m x y := by
  intro m
  have hw := v.wle
  have hh := v.hle
  have hwv := v.wv
  have hhv := v.hv
  induction m with
  | zero =>
    intro x y h j
    have : grassB a x y = false := by
      cases hg : grassB a x y with
      | false => rfl
      | true =>
        have := grass_range v.toLawnS hg
        exfalso
        cases b
        · simp only [dxB, dyB, cond_false] at h; omega
        · simp only [dxB, dyB, cond_true] at h; omega
    cases j with
    | zero => rfl
    | succ j => simp only [Nat.zero_add, runLen, this, cond_false]
  | succ m ih =>
    intro x y h j
    rw [show m + 1 + j = m + j + 1 by omega]
    simp only [runLen]
    rw [ih (x + dxB b) (y + dyB b) (by
      cases b
      · simp only [dxB, dyB, cond_false] at h ⊢; omega
      · simp only [dxB, dyB, cond_true] at h ⊢; omega) j]

/-! ## The program's runs -/

theorem impl_run_loop {R : Type} (k : Nat) (K1 : Int → Int → Int → Int → Int → (List Int) → (List Int) → (List Int) → (List Int) → Option R) {a : List Int} {w h : Nat} (v : LawnV a w h) (b : Bool) (q r : Int) (o : List Int) (x y : Int) (hx : 0 ≤ x ∧ x < 10) (hy : 0 ≤ y ∧ y < 10) (c : List Int) :
    ∀ (m n f : Nat), n + m = 11 → 10 ≤ (x + n * dxB b) * dxB b + (y + n * dyB b) * dyB b + m → m < f →
    loopF (fun (rec : Int × Int × Int × Int × Int × (List Int) × (List Int) × (List Int) × (List Int) → Option R) (p : Int × Int × Int × Int × Int × (List Int) × (List Int) × (List Int) × (List Int)) => impl_Lawn_runs_s0 k K1 (fun h1 h2 h3 h4 h5 h6 h7 h8 h9 => rec (h1, h2, h3, h4, h5, h6, h7, h8, h9)) p.1 p.2.1 p.2.2.1 p.2.2.2.1 p.2.2.2.2.1 p.2.2.2.2.2.1 p.2.2.2.2.2.2.1 p.2.2.2.2.2.2.2.1 p.2.2.2.2.2.2.2.2) f (dxB b, dyB b, (n : Int), q, r, a, o, [x, y], c) =
      K1 (dxB b) (dyB b) ((n + runLen a b m (x + n * dxB b) (y + n * dyB b) : Nat) : Int) q r a o [x, y] c := by
  intro m
  have hw := v.wle
  have hh := v.hle
  have hwv := v.wv
  have hhv := v.hv
  induction m with
  | zero =>
    intro n f hn hc hf
    obtain ⟨f, rfl⟩ : ∃ g, f = g + 1 := ⟨f - 1, by omega⟩
    rw [loopF]
    dsimp only
    unfold impl_Lawn_runs_s0
    have e1 : rd [x, y] 0 = x := rfl
    have e2 : rd [x, y] 1 = y := rfl
    rw [e1, e2, impl_grass k v.toLawnS]
    have hg : grassB a (IntKind.wrap .i8 (x + IntKind.wrap .i8 (n * dxB b))) (IntKind.wrap .i8 (y + IntKind.wrap .i8 (n * dyB b))) = false := by
      cases b
      · simp only [dxB, dyB, cond_false] at hc ⊢
        simp (disch := omega) only [wrap8]
        cases hg : grassB a (x + (n : Int) * 0) (y + (n : Int) * 1) with
        | false => rfl
        | true => have := grass_range v.toLawnS hg; omega
      · simp only [dxB, dyB, cond_true] at hc ⊢
        simp (disch := omega) only [wrap8]
        cases hg : grassB a (x + (n : Int) * 1) (y + (n : Int) * 0) with
        | false => rfl
        | true => have := grass_range v.toLawnS hg; omega
    rw [hg]
    rfl
  | succ m ih =>
    intro n f hn hc hf
    obtain ⟨f, rfl⟩ : ∃ g, f = g + 1 := ⟨f - 1, by omega⟩
    rw [loopF]
    dsimp only
    unfold impl_Lawn_runs_s0
    have e1 : rd [x, y] 0 = x := rfl
    have e2 : rd [x, y] 1 = y := rfl
    have hrec := ih (n + 1) f (by omega) (by
      cases b
      · simp only [dxB, dyB, cond_false] at hc ⊢; omega
      · simp only [dxB, dyB, cond_true] at hc ⊢; omega) (by omega)
    have hg : grassB a (IntKind.wrap .i8 (x + IntKind.wrap .i8 (n * dxB b))) (IntKind.wrap .i8 (y + IntKind.wrap .i8 (n * dyB b))) = grassB a (x + n * dxB b) (y + n * dyB b) := by
      cases b
      · simp only [dxB, dyB, cond_false]
        simp (disch := omega) only [wrap8]
      · simp only [dxB, dyB, cond_true]
        simp (disch := omega) only [wrap8]
    have hx1 : x + ((n + 1 : Nat) : Int) * dxB b = x + n * dxB b + dxB b := by
      cases b
      · simp only [dxB, cond_false]; omega
      · simp only [dxB, cond_true]; omega
    have hy1 : y + ((n + 1 : Nat) : Int) * dyB b = y + n * dyB b + dyB b := by
      cases b
      · simp only [dyB, cond_false]; omega
      · simp only [dyB, cond_true]; omega
    rw [e1, e2, impl_grass k v.toLawnS, hg]
    simp only [Option.bind_some, runLen]
    cases grassB a (x + n * dxB b) (y + n * dyB b) with
    | false => rfl
    | true =>
      simp only [cond_true]
      rw [wrap8 (x := (n : Int) + 1) (by omega), show (n : Int) + 1 = ((n + 1 : Nat) : Int) by omega]
      refine Eq.trans hrec ?_
      rw [hx1, hy1, show n + 1 + runLen a b m (x + n * dxB b + dxB b) (y + n * dyB b + dyB b) = n + (runLen a b m (x + n * dxB b + dxB b) (y + n * dyB b + dyB b) + 1) by omega]

theorem impl_run {R : Type} (k : Nat) (K1 : Int → Int → Int → Int → Int → (List Int) → (List Int) → (List Int) → (List Int) → Option R) {a : List Int} {w h : Nat} (v : LawnV a w h) (b : Bool) (q r : Int) (o : List Int) (x y : Int) (hx : 0 ≤ x ∧ x < 10) (hy : 0 ≤ y ∧ y < 10) (c : List Int) (hk : 11 < k) :
    impl_Lawn_runs_l0 k K1 (dxB b) (dyB b) 0 q r a o [x, y] c = K1 (dxB b) (dyB b) (longV a b x y) q r a o [x, y] c := by
  unfold impl_Lawn_runs_l0
  have := impl_run_loop k K1 v b q r o x y hx hy c 11 0 k (by omega) (by
    cases b
    · simp only [dxB, dyB, cond_false]; omega
    · simp only [dxB, dyB, cond_true]; omega) hk
  have e0 : x + ((0 : Nat) : Int) * dxB b = x := by simp
  have e1 : y + ((0 : Nat) : Int) * dyB b = y := by simp
  rw [e0, e1, Nat.zero_add] at this
  exact this

theorem impl_runs_loop (k : Nat) {a : List Int} {w h : Nat} (v : LawnV a w h) (b : Bool) (hk : 101 < k) :
    impl_Lawn_runs_l1 k (fun y2 => some y2) (dxB b) (dyB b) ((allC w h).length : Int) 0 a [] (fl (allC w h)) = some (fl3 (runsOf a b (allC w h))) := by
  have hsm := allC_small v
  have hw := v.wle
  have hh := v.hle
  unfold impl_Lawn_runs_l1
  have := loopF_go (R := List Int) (step := fun (rec : Int × Int × Int × Int × (List Int) × (List Int) × (List Int) → Option (List Int)) (p : Int × Int × Int × Int × (List Int) × (List Int) × (List Int)) => impl_Lawn_runs_s1 k (fun y2 => some y2) (fun h1 h2 h3 h4 h5 h6 h7 => rec (h1, h2, h3, h4, h5, h6, h7)) p.1 p.2.1 p.2.2.1 p.2.2.2.1 p.2.2.2.2.1 p.2.2.2.2.2.1 p.2.2.2.2.2.2)
    (fun i => (dxB b, dyB b, ((allC w h).length : Int), (i : Int), a, fl3 (runsOf a b ((allC w h).take i)), fl (allC w h))) (fun _ _ => some (fl3 (runsOf a b (allC w h)))) (allC w h).length ?_ ?_ (allC w h).length 0 k (by omega) (by omega)
  · exact this
  · intro rec
    dsimp only
    unfold impl_Lawn_runs_s1
    simp (disch := omega) only [bF, cond_false, List.take_length]
  · intro i m hi rec hrec
    dsimp only at hrec ⊢
    unfold impl_Lawn_runs_s1
    have hil : i < (allC w h).length := by omega
    have hc := cells_in' v (getD_mem (allC w h) (0, 0) hil)
    have hlen : (fl3 (runsOf a b ((allC w h).take i))).length ≤ 300 := by
      have h1 := runsOf_len a b ((allC w h).take i)
      rw [List.length_take] at h1
      rw [fl3_length]
      omega
    rw [take_getD _ (0, 0) hil, runsOf_snoc] at hrec
    simp only [cnt_fl, Int.toNat_natCast, fl_x, fl_y]
    generalize (allC w h).getD i (0, 0) = p at hrec hc ⊢
    generalize runsOf a b ((allC w h).take i) = o at hrec hlen ⊢
    have hb : decide ((fl3 o).length + 3 ≤ bigLen) = true := bT (by rw [bigLen_val]; omega)
    have hg : grassB a (IntKind.wrap .i8 (p.1 - dxB b)) (IntKind.wrap .i8 (p.2 - dyB b)) = grassB a (p.1 - dxB b) (p.2 - dyB b) := by
      cases b
      · simp only [dxB, dyB, cond_false]
        simp (disch := omega) only [wrap8]
      · simp only [dxB, dyB, cond_true]
        simp (disch := omega) only [wrap8]
    rw [impl_grass k v.toLawnS, impl_grass k v.toLawnS, hg]
    simp (disch := omega) only [bT, cond_true, Bool.and_true, Option.bind_some, wrap64 (x := (i : Int) + 1)]
    unfold startB at hrec
    cases h1 : grassB a p.1 p.2 with
    | false =>
      rw [h1] at hrec
      simp only [Bool.not_false, cond_true, Bool.false_and, cond_false] at hrec ⊢
      exact hrec
    | true =>
      rw [h1] at hrec
      simp only [Bool.not_true, cond_false, Bool.true_and] at hrec ⊢
      cases h2 : grassB a (p.1 - dxB b) (p.2 - dyB b) with
      | true =>
        rw [h2] at hrec
        simp only [Bool.not_true, cond_true, cond_false] at hrec ⊢
        exact hrec
      | false =>
        rw [h2, Bool.not_false, cond_true, fl3_append] at hrec
        simp only [cond_false]
        rw [impl_run k _ v b _ _ _ p.1 p.2 hc.1 hc.2 _ (by omega)]
        rw [wrap64 (by omega)]
        simp only [hb, cond_true]
        exact hrec

theorem impl_runs (k : Nat) {a : List Int} {w h : Nat} (v : LawnV a w h) (b : Bool) (hk : 101 < k) : impl_Lawn_runs k a b = some (fl3 (runsOf a b (allC w h))) := by
  unfold impl_Lawn_runs
  rw [impl_all k v (by omega)]
  simp only [Option.bind_some, cnt_fl]
  have := impl_runs_loop k v b hk
  cases b
  · exact this
  · exact this

/-! ## The reference's runs -/

theorem spec_run_loop {R : Type} (k : Nat) (K1 : (List Int) → Bool → Int → (List Int) → (List Int) → (List Int) → Option R) {a : List Int} {w h : Nat} (v : LawnV a w h) (b : Bool) (i : Nat) (o : List Int) (G : List (Int × Int)) (hi : i < G.length) (hx : 0 ≤ (G.getD i (0, 0)).1 ∧ (G.getD i (0, 0)).1 < 10) (hy : 0 ≤ (G.getD i (0, 0)).2 ∧ (G.getD i (0, 0)).2 < 10) :
    ∀ (m n f : Nat), n + m = 11 → 10 ≤ ((G.getD i (0, 0)).1 + n * dxB b) * dxB b + ((G.getD i (0, 0)).2 + n * dyB b) * dyB b + m → m < f →
    loopF (fun (rec : (List Int) × Bool × Int × (List Int) × (List Int) × (List Int) → Option R) (p : (List Int) × Bool × Int × (List Int) × (List Int) × (List Int)) => spec_l01Runs_s0 k K1 (fun h1 h2 h3 h4 h5 h6 => rec (h1, h2, h3, h4, h5, h6)) p.1 p.2.1 p.2.2.1 p.2.2.2.1 p.2.2.2.2.1 p.2.2.2.2.2) f (a, b, (i : Int), o, fl G, [(G.getD i (0, 0)).1, (G.getD i (0, 0)).2, (n : Int)]) =
      K1 a b i o (fl G) [(G.getD i (0, 0)).1, (G.getD i (0, 0)).2, ((n + runLen a b m ((G.getD i (0, 0)).1 + n * dxB b) ((G.getD i (0, 0)).2 + n * dyB b) : Nat) : Int)] := by
  intro m
  have hw := v.wle
  have hh := v.hle
  have hwv := v.wv
  have hhv := v.hv
  have hback : ∀ (n : Nat), n ≤ 11 → spec_l01Back k [(G.getD i (0, 0)).1, (G.getD i (0, 0)).2] b (IntKind.wrap .i8 (0 - (n : Int))) = some [(G.getD i (0, 0)).1 + n * dxB b, (G.getD i (0, 0)).2 + n * dyB b] := by
    intro n hn
    unfold spec_l01Back
    have e1 : rd [(G.getD i (0, 0)).1, (G.getD i (0, 0)).2] 0 = (G.getD i (0, 0)).1 := rfl
    have e2 : rd [(G.getD i (0, 0)).1, (G.getD i (0, 0)).2] 1 = (G.getD i (0, 0)).2 := rfl
    rw [e1, e2]
    cases b
    · simp (disch := omega) only [cond_false, wrap8, dxB, dyB]
      congr 2
      · omega
      · congr 1; omega
    · simp (disch := omega) only [cond_true, wrap8, dxB, dyB]
      congr 2
      · omega
      · congr 1; omega
  induction m with
  | zero =>
    intro n f hn hc hf
    obtain ⟨f, rfl⟩ : ∃ g, f = g + 1 := ⟨f - 1, by omega⟩
    rw [loopF]
    dsimp only
    unfold spec_l01Runs_s0
    have e3 : rd [(G.getD i (0, 0)).1, (G.getD i (0, 0)).2, (n : Int)] 2 = n := rfl
    simp only [cnt_fl, Int.toNat_natCast, fl_x, fl_y, e3]
    rw [hback n (by omega)]
    simp (disch := omega) only [bT, cond_true, Bool.and_true, Option.bind_some]
    have hg : spec_l01Grass k a [(G.getD i (0, 0)).1 + n * dxB b, (G.getD i (0, 0)).2 + n * dyB b] = some false := by
      cases b
      · simp only [dxB, dyB, cond_false] at hc ⊢
        rw [spec_grass k v.toLawnS (by omega) (by omega)]
        cases hg : grassB a ((G.getD i (0, 0)).1 + (n : Int) * 0) ((G.getD i (0, 0)).2 + (n : Int) * 1) with
        | false => rfl
        | true => have := grass_range v.toLawnS hg; omega
      · simp only [dxB, dyB, cond_true] at hc ⊢
        rw [spec_grass k v.toLawnS (by omega) (by omega)]
        cases hg : grassB a ((G.getD i (0, 0)).1 + (n : Int) * 1) ((G.getD i (0, 0)).2 + (n : Int) * 0) with
        | false => rfl
        | true => have := grass_range v.toLawnS hg; omega
    rw [hg]
    rfl
  | succ m ih =>
    intro n f hn hc hf
    obtain ⟨f, rfl⟩ : ∃ g, f = g + 1 := ⟨f - 1, by omega⟩
    rw [loopF]
    dsimp only
    unfold spec_l01Runs_s0
    have e3 : rd [(G.getD i (0, 0)).1, (G.getD i (0, 0)).2, (n : Int)] 2 = n := rfl
    have hrec := ih (n + 1) f (by omega) (by
      cases b
      · simp only [dxB, dyB, cond_false] at hc ⊢; omega
      · simp only [dxB, dyB, cond_true] at hc ⊢; omega) (by omega)
    have hx1 : (G.getD i (0, 0)).1 + ((n + 1 : Nat) : Int) * dxB b = (G.getD i (0, 0)).1 + n * dxB b + dxB b := by
      cases b
      · simp only [dxB, cond_false]; omega
      · simp only [dxB, cond_true]; omega
    have hy1 : (G.getD i (0, 0)).2 + ((n + 1 : Nat) : Int) * dyB b = (G.getD i (0, 0)).2 + n * dyB b + dyB b := by
      cases b
      · simp only [dyB, cond_false]; omega
      · simp only [dyB, cond_true]; omega
    simp only [cnt_fl, Int.toNat_natCast, fl_x, fl_y, e3]
    rw [hback n (by omega)]
    have hg : spec_l01Grass k a [(G.getD i (0, 0)).1 + n * dxB b, (G.getD i (0, 0)).2 + n * dyB b] = some (grassB a ((G.getD i (0, 0)).1 + n * dxB b) ((G.getD i (0, 0)).2 + n * dyB b)) := by
      apply spec_grass k v.toLawnS
      · cases b
        · simp only [dxB, cond_false]; omega
        · simp only [dxB, cond_true]; omega
      · cases b
        · simp only [dyB, cond_false]; omega
        · simp only [dyB, cond_true]; omega
    simp (disch := omega) only [bT, cond_true, Bool.and_true, Option.bind_some]
    rw [hg]
    simp only [Option.bind_some, runLen]
    cases grassB a ((G.getD i (0, 0)).1 + n * dxB b) ((G.getD i (0, 0)).2 + n * dyB b) with
    | false => rfl
    | true =>
      simp only [cond_true]
      rw [wrap8 (x := (n : Int) + 1) (by omega), show (n : Int) + 1 = ((n + 1 : Nat) : Int) by omega]
      refine Eq.trans hrec ?_
      rw [hx1, hy1, show n + 1 + runLen a b m ((G.getD i (0, 0)).1 + n * dxB b + dxB b) ((G.getD i (0, 0)).2 + n * dyB b + dyB b) = n + (runLen a b m ((G.getD i (0, 0)).1 + n * dxB b + dxB b) ((G.getD i (0, 0)).2 + n * dyB b + dyB b) + 1) by omega]

theorem spec_runs (k : Nat) {a : List Int} {w h : Nat} (v : LawnV a w h) (b : Bool) (hk : 101 < k) : spec_l01Runs k a b = some (fl3 (runsOf a b ((allC w h).filter fun p => grassB a p.1 p.2))) := by
  have hw := v.wle
  have hh := v.hle
  have hsm : ((allC w h).filter fun p => grassB a p.1 p.2).length ≤ 100 := Nat.le_trans (List.length_filter_le _ _) (allC_small v)
  have hgr : ∀ p ∈ (allC w h).filter (fun p => grassB a p.1 p.2), grassB a p.1 p.2 = true ∧ ((0 ≤ p.1 ∧ p.1 < 10) ∧ (0 ≤ p.2 ∧ p.2 < 10)) := fun p hp => by
    obtain ⟨h1, h2⟩ := List.mem_filter.1 hp
    exact ⟨h2, cells_in' v h1⟩
  unfold spec_l01Runs
  rw [spec_cells k v 0 hk, grass_filter v]
  generalize (allC w h).filter (fun p => grassB a p.1 p.2) = G at hsm hgr ⊢
  simp only [Option.bind_some]
  unfold spec_l01Runs_l1
  have := loopF_go (R := List Int) (step := fun (rec : (List Int) × Bool × Int × (List Int) × (List Int) → Option (List Int)) (p : (List Int) × Bool × Int × (List Int) × (List Int)) => spec_l01Runs_s1 k (fun y2 => some y2) (fun h1 h2 h3 h4 h5 => rec (h1, h2, h3, h4, h5)) p.1 p.2.1 p.2.2.1 p.2.2.2.1 p.2.2.2.2)
    (fun i => (a, b, (i : Int), fl3 (runsOf a b (G.take i)), fl G)) (fun _ _ => some (fl3 (runsOf a b G))) G.length ?_ ?_ G.length 0 k (by omega) (by omega)
  · exact this
  · intro rec
    dsimp only
    unfold spec_l01Runs_s1
    simp (disch := omega) only [cnt_fl, bF, cond_false, List.take_length]
  · intro i m hi rec hrec
    dsimp only at hrec ⊢
    unfold spec_l01Runs_s1
    have hil : i < G.length := by omega
    obtain ⟨hg, hc1, hc2⟩ := hgr _ (getD_mem G (0, 0) hil)
    have hlen : (fl3 (runsOf a b (G.take i))).length ≤ 300 := by
      have h1 := runsOf_len a b (G.take i)
      rw [List.length_take] at h1
      rw [fl3_length]
      omega
    rw [take_getD _ (0, 0) hil, runsOf_snoc] at hrec
    simp only [cnt_fl, Int.toNat_natCast, fl_x, fl_y]
    generalize runsOf a b (G.take i) = o at hrec hlen ⊢
    have hb : decide ((fl3 o).length + 3 ≤ bigLen) = true := bT (by rw [bigLen_val]; omega)
    have hback : spec_l01Back k [(G.getD i (0, 0)).1, (G.getD i (0, 0)).2] b 1 = some [(G.getD i (0, 0)).1 - dxB b, (G.getD i (0, 0)).2 - dyB b] := by
      unfold spec_l01Back
      have e1 : rd [(G.getD i (0, 0)).1, (G.getD i (0, 0)).2] 0 = (G.getD i (0, 0)).1 := rfl
      have e2 : rd [(G.getD i (0, 0)).1, (G.getD i (0, 0)).2] 1 = (G.getD i (0, 0)).2 := rfl
      rw [e1, e2]
      cases b
      · simp (disch := omega) only [cond_false, wrap8, dxB, dyB, Int.sub_zero]
      · simp (disch := omega) only [cond_true, wrap8, dxB, dyB, Int.sub_zero]
    have hgb : spec_l01Grass k a [(G.getD i (0, 0)).1 - dxB b, (G.getD i (0, 0)).2 - dyB b] = some (grassB a ((G.getD i (0, 0)).1 - dxB b) ((G.getD i (0, 0)).2 - dyB b)) := by
      apply spec_grass k v.toLawnS
      · cases b
        · simp only [dxB, cond_false]; omega
        · simp only [dxB, cond_true]; omega
      · cases b
        · simp only [dyB, cond_false]; omega
        · simp only [dyB, cond_true]; omega
    rw [hback]
    simp (disch := omega) only [bT, cond_true, Bool.and_true, Option.bind_some, wrap64 (x := (i : Int) + 1)]
    rw [hgb]
    simp only [Option.bind_some]
    unfold startB at hrec
    rw [hg, Bool.true_and] at hrec
    cases h2 : grassB a ((G.getD i (0, 0)).1 - dxB b) ((G.getD i (0, 0)).2 - dyB b) with
    | true =>
      rw [h2] at hrec
      simp only [Bool.not_true, cond_true, cond_false] at hrec ⊢
      exact hrec
    | false =>
      rw [h2, Bool.not_false, cond_true, fl3_append] at hrec
      simp only [cond_false]
      unfold spec_l01Runs_l0
      have key := spec_run_loop k (fun y3 y4 y5 y6 y7 y8 =>
                  cond (decide (y6.length + 3 ≤ bigLen))
                    (rec (y3, y4, (IntKind.wrap .i64 (y5 + 1)), (y6 ++ [(rd y8 0), (rd y8 1), (rd y8 2)]), y7))
                    none) v b i (fl3 o) G hil hc1 hc2 11 0 k (by omega) (by
        cases b
        · simp only [dxB, dyB, cond_false]; omega
        · simp only [dxB, dyB, cond_true]; omega) (by omega)
      refine Eq.trans key ?_
      have e0 : (G.getD i (0, 0)).1 + ((0 : Nat) : Int) * dxB b = (G.getD i (0, 0)).1 := by simp
      have e1 : (G.getD i (0, 0)).2 + ((0 : Nat) : Int) * dyB b = (G.getD i (0, 0)).2 := by simp
      rw [e0, e1, Nat.zero_add]
      rw [wrap64 (by omega)]
      simp only [hb, cond_true]
      exact hrec

theorem runs_same (a : List Int) (b : Bool) (L : List (Int × Int)) : runsOf a b (L.filter fun p => grassB a p.1 p.2) = runsOf a b L := by
  unfold runsOf
  rw [List.filter_filter]
  congr 1
  apply List.filter_congr
  intro p _
  unfold startB
  cases grassB a p.1 p.2 <;> simp

theorem spec_runs' (k : Nat) {a : List Int} {w h : Nat} (v : LawnV a w h) (b : Bool) (hk : 101 < k) : spec_l01Runs k a b = some (fl3 (runsOf a b (allC w h))) := by
  rw [spec_runs k v b hk, runs_same]



def longS (s p : Int × Int × Int) : Int × Int × Int := cond (decide (p.2.2 > s.2.2)) p s
def longL (L : List (Int × Int × Int)) : Int × Int × Int := L.foldl longS (0, 0, 0)
theorem longL_snoc (L : List (Int × Int × Int)) (p : Int × Int × Int) : longL (L ++ [p]) = longS (longL L) p := by simp [longL]

def longR (s : Int × Int × Int) : List Int × Int := cond (s.2.2 == 0) ([0, 0, 0], 6) ([s.1, s.2.1, s.2.2], 0)

theorem spec_long_loop (k : Nat) (L : List (Int × Int × Int)) (hl : L.length ≤ 100) (hk : 101 < k) :
    spec_LongestRun_l0 k (fun (y3 : List Int) y4 => cond ((rd y4 2) == 0) (some ([0, 0, 0], (6 : Int))) (some ([(rd y4 0), (rd y4 1), (rd y4 2)], 0))) 0 [0, 0, 0] [0, 0, 0] (fl3 L) = some (longR (longL L)) := by
  unfold spec_LongestRun_l0
  have := loopF_go (R := List Int × Int) (step := fun (rec : Int × (List Int) × (List Int) × (List Int) → Option (List Int × Int)) (p : Int × (List Int) × (List Int) × (List Int)) => spec_LongestRun_s0 k (fun (y3 : List Int) y4 => cond ((rd y4 2) == 0) (some ([0, 0, 0], (6 : Int))) (some ([(rd y4 0), (rd y4 1), (rd y4 2)], 0))) (fun h1 h2 h3 h4 => rec (h1, h2, h3, h4)) p.1 p.2.1 p.2.2.1 p.2.2.2)
    (fun i => ((i : Int), [0, 0, 0], [(longL (L.take i)).1, (longL (L.take i)).2.1, (longL (L.take i)).2.2], fl3 L)) (fun _ _ => some (longR (longL L))) L.length ?_ ?_ L.length 0 k (by omega) (by omega)
  · exact this
  · intro rec
    dsimp only
    unfold spec_LongestRun_s0
    simp (disch := omega) only [cnt_fl3, bF, cond_false, List.take_length]
    unfold longR
    show cond ((longL L).2.2 == 0) _ _ = _
    cases ((longL L).2.2 == 0) <;> rfl
  · intro i m hi rec hrec
    dsimp only at hrec ⊢
    unfold spec_LongestRun_s0
    have hil : i < L.length := by omega
    rw [take_getD _ (0, 0, 0) hil, longL_snoc] at hrec
    simp only [cnt_fl3, Int.toNat_natCast, fl3_x, fl3_y, fl3_n]
    generalize L.getD i (0, 0, 0) = p at hrec ⊢
    generalize longL (L.take i) = s at hrec ⊢
    rw [show rd [s.1, s.2.1, s.2.2] 2 = s.2.2 from rfl]
    simp (disch := omega) only [bT, cond_true, Bool.and_true, wrap64 (x := (i : Int) + 1)]
    unfold longS at hrec
    cases h2 : decide (p.2.2 > s.2.2) with
    | true => rw [h2] at hrec; simp only [cond_true] at hrec ⊢; exact hrec
    | false => rw [h2] at hrec; simp only [cond_false] at hrec ⊢; exact hrec

theorem impl_long_loop (k : Nat) (L : List (Int × Int × Int)) (hl : L.length ≤ 100) (hk : 101 < k) :
    impl_LongestRun_l0 k (fun (y3 : List Int) y4 => cond ((rd y4 2) == 0) (some ([0, 0, 0], (6 : Int))) (some ([(rd y4 0), (rd y4 1), (rd y4 2)], 0))) (L.length : Int) 0 [0, 0, 0] [0, 0, 0] (fl3 L) = some (longR (longL L)) := by
  unfold impl_LongestRun_l0
  have := loopF_go (R := List Int × Int) (step := fun (rec : Int × Int × (List Int) × (List Int) × (List Int) → Option (List Int × Int)) (p : Int × Int × (List Int) × (List Int) × (List Int)) => impl_LongestRun_s0 k (fun (y3 : List Int) y4 => cond ((rd y4 2) == 0) (some ([0, 0, 0], (6 : Int))) (some ([(rd y4 0), (rd y4 1), (rd y4 2)], 0))) (fun h1 h2 h3 h4 h5 => rec (h1, h2, h3, h4, h5)) p.1 p.2.1 p.2.2.1 p.2.2.2.1 p.2.2.2.2)
    (fun i => ((L.length : Int), (i : Int), [0, 0, 0], [(longL (L.take i)).1, (longL (L.take i)).2.1, (longL (L.take i)).2.2], fl3 L)) (fun _ _ => some (longR (longL L))) L.length ?_ ?_ L.length 0 k (by omega) (by omega)
  · exact this
  · intro rec
    dsimp only
    unfold impl_LongestRun_s0
    simp (disch := omega) only [bF, cond_false, List.take_length]
    unfold longR
    show cond ((longL L).2.2 == 0) _ _ = _
    cases ((longL L).2.2 == 0) <;> rfl
  · intro i m hi rec hrec
    dsimp only at hrec ⊢
    unfold impl_LongestRun_s0
    have hil : i < L.length := by omega
    rw [take_getD _ (0, 0, 0) hil, longL_snoc] at hrec
    simp only [cnt_fl3, Int.toNat_natCast, fl3_x, fl3_y, fl3_n]
    generalize L.getD i (0, 0, 0) = p at hrec ⊢
    generalize longL (L.take i) = s at hrec ⊢
    rw [show rd [s.1, s.2.1, s.2.2] 2 = s.2.2 from rfl]
    simp (disch := omega) only [bT, cond_true, Bool.and_true, wrap64 (x := (i : Int) + 1)]
    unfold longS at hrec
    cases h2 : decide (p.2.2 > s.2.2) with
    | true => rw [h2] at hrec; simp only [cond_true] at hrec ⊢; exact hrec
    | false => rw [h2] at hrec; simp only [cond_false] at hrec ⊢; exact hrec

theorem longestRun_eq (k : Nat) {a : List Int} (ha : LawnR a) (b : Bool) (hk : 101 < k) : spec_LongestRun k a b = impl_LongestRun k a b ∧ ∃ r, impl_LongestRun k a b = some r := by
  unfold spec_LongestRun impl_LongestRun
  rw [spec_valid k (by omega) ha, impl_cells_nil k ha (by omega)]
  cases hv : lawnB a with
  | false => exact ⟨rfl, _, rfl⟩
  | true =>
    obtain ⟨w, h, v⟩ := lawnV_of ha hv
    have hl : (runsOf a b (allC w h)).length ≤ 100 := Nat.le_trans (runsOf_len _ _ _) (allC_small v)
    have e1 := spec_runs' k v b hk
    have e2 := impl_runs k v b hk
    simp only [Option.bind_some, Bool.not_true, cond_false, cond_true, bne_self_eq_false, e1, e2, cnt_fl3]
    rw [spec_long_loop k _ hl hk, impl_long_loop k _ hl hk]
    exact ⟨rfl, _, rfl⟩


theorem spec_told (k : Nat) {a : List Int} (ha : LawnR a) (hk : 10 < k) (b : Bool) : spec_l01Told k a b = some (cond (lawnB a) (cond b 0 2) 1) := by
  unfold spec_l01Told
  rw [spec_valid k hk ha]
  cases lawnB a <;> cases b <;> rfl



/-- Does a run hold a cell among its first n? -/
def hitN (b : Bool) (ax ay x y : Int) (n : Int) : Bool := cond b ((y == ay) && (decide (x ≤ ax) && decide (ax < x + n))) ((x == ax) && (decide (y ≤ ay) && decide (ay < y + n)))
def hitR (b : Bool) (ax ay : Int) (r : Int × Int × Int) : Bool := hitN b ax ay r.1 r.2.1 r.2.2

def RunOK (r : Int × Int × Int) : Prop := (0 ≤ r.1 ∧ r.1 < 10) ∧ (0 ≤ r.2.1 ∧ r.2.1 < 10) ∧ (0 ≤ r.2.2 ∧ r.2.2 ≤ 11)

def stripeN (b : Bool) (ax ay : Int) (L : List (Int × Int × Int)) : Nat → Int
  | 0 => 0
  | i + 1 => cond (hitR b ax ay (L.getD i (0, 0, 0))) (i : Int) (stripeN b ax ay L i)

theorem indexFunc_runs (k : Nat) (L : List (Int × Int × Int)) (f : List Int → Option Bool) (g : Int × Int × Int → Bool) (hf : ∀ p ∈ L, f [p.1, p.2.1, p.2.2] = some (g p)) (hL : L.length ≤ 1048576) (hk : L.length < k) :
    slices_IndexFunc_impl_Run k (fl3 L) f = some (findI g L 0) := by
  unfold slices_IndexFunc_impl_Run slices_IndexFunc_impl_Run_l0
  rw [cnt_fl3]
  have := loopF_go (step := fun (rec : (List Int) × (List Int → Option Bool) × Int × Int → Option Int) (p : (List Int) × (List Int → Option Bool) × Int × Int) => slices_IndexFunc_impl_Run_s0 k (fun y1 => some y1) (some (-1)) (fun h1 h2 h3 h4 => rec (h1, h2, h3, h4)) p.1 p.2.1 p.2.2.1 p.2.2.2)
    (fun i => (fl3 L, f, (L.length : Int), (i : Int))) (fun i _ => some (findI g (L.drop i) i)) L.length ?_ ?_ L.length 0 k (by omega) hk
  · exact this
  · intro rec
    dsimp only
    unfold slices_IndexFunc_impl_Run_s0
    simp (disch := omega) only [bF, cond_false, List.drop_length, findI]
  · intro i m hi rec hrec
    dsimp only at hrec ⊢
    unfold slices_IndexFunc_impl_Run_s0
    have hm := hf _ (getD_mem L (0, 0, 0) (show i < L.length by omega))
    rw [drop_getD L (0, 0, 0) (show i < L.length by omega)]
    simp (disch := omega) only [bT, cond_true, cnt_fl3, Bool.and_true, Int.toNat_natCast, fl3_x, fl3_y, fl3_n, hm, Option.bind_some, wrap64, findI]
    cases g (L.getD i (0, 0, 0)) with
    | true => rfl
    | false => simp only [cond_false]; exact hrec

theorem impl_stripe_f (k : Nat) (b : Bool) (ax ay : Int) {p : Int × Int × Int} (hp : RunOK p) : ((fun z4 => (impl_StripeOf_1 k [(rd z4 0), (rd z4 1), (rd z4 2)] [(cond b (1 : Int) 0)] [ax, ay]).bind fun b => some b) [p.1, p.2.1, p.2.2]) = some (hitR b ax ay p) := by
  obtain ⟨hx, hy, hn⟩ := hp
  show (impl_StripeOf_1 k [p.1, p.2.1, p.2.2] [(cond b (1 : Int) 0)] [ax, ay]).bind _ = _
  unfold impl_StripeOf_1 hitR hitN
  have e1 : rd [p.1, p.2.1, p.2.2] 0 = p.1 := rfl
  have e2 : rd [p.1, p.2.1, p.2.2] 1 = p.2.1 := rfl
  have e3 : rd [p.1, p.2.1, p.2.2] 2 = p.2.2 := rfl
  have e4 : rd [ax, ay] 0 = ax := rfl
  have e5 : rd [ax, ay] 1 = ay := rfl
  rw [e1, e2, e3, e4, e5]
  cases b
  · have e6 : (rd [cond false (1 : Int) 0] 0 != 0) = false := rfl
    rw [e6, wrap8 (x := p.2.1 + p.2.2) (by omega)]
    simp only [cond_false]
    cases (p.1 == ax) with
    | false => rfl
    | true =>
      by_cases c : p.2.1 ≤ ay
      · rw [bT (p := ay ≥ p.2.1) c]; simp
      · rw [bF (p := ay ≥ p.2.1) c]; simp
  · have e6 : (rd [cond true (1 : Int) 0] 0 != 0) = true := rfl
    rw [e6, wrap8 (x := p.1 + p.2.2) (by omega)]
    simp only [cond_true]
    cases (p.2.1 == ay) with
    | false => rfl
    | true =>
      by_cases c : p.1 ≤ ax
      · rw [bT (p := ax ≥ p.1) c]; simp
      · rw [bF (p := ax ≥ p.1) c]; simp

/-! ## One run holds a cell of grass, and one alone -/

theorem runLen_grass {a : List Int} {b : Bool} : ∀ (m : Nat) (x y : Int) (t : Nat), t < runLen a b m x y → grassB a (x + t * dxB b) (y + t * dyB b) = true := by
  intro m
  induction m with
  | zero => intro x y t h; simp [runLen] at h
  | succ m ih =>
    intro x y t h
    simp only [runLen] at h
    cases hg : grassB a x y with
    | false => rw [hg] at h; simp at h
    | true =>
      rw [hg] at h
      simp only [cond_true] at h
      cases t with
      | zero => simpa using hg
      | succ t =>
        have := ih (x + dxB b) (y + dyB b) t (by omega)
        have e1 : x + ((t + 1 : Nat) : Int) * dxB b = x + dxB b + t * dxB b := by cases b <;> simp [dxB]; omega
        have e2 : y + ((t + 1 : Nat) : Int) * dyB b = y + dyB b + t * dyB b := by cases b <;> simp [dyB]; omega
        rw [e1, e2]
        exact this

theorem runLen_ge {a : List Int} {b : Bool} : ∀ (m : Nat) (x y : Int) (t : Nat), t ≤ m → (∀ i : Nat, i < t → grassB a (x + i * dxB b) (y + i * dyB b) = true) → t ≤ runLen a b m x y := by
  intro m
  induction m with
  | zero => intro x y t h _; omega
  | succ m ih =>
    intro x y t ht h
    cases t with
    | zero => omega
    | succ t =>
      have h0 := h 0 (by omega)
      have e0 : grassB a x y = true := by simpa using h0
      simp only [runLen, e0, cond_true]
      have := ih (x + dxB b) (y + dyB b) t (by omega) (fun i hi => by
        have := h (i + 1) (by omega)
        have e1 : x + ((i + 1 : Nat) : Int) * dxB b = x + dxB b + i * dxB b := by cases b <;> simp [dxB]; omega
        have e2 : y + ((i + 1 : Nat) : Int) * dyB b = y + dyB b + i * dyB b := by cases b <;> simp [dyB]; omega
        rw [e1, e2] at this
        exact this)
      omega

theorem hit_iff (b : Bool) (ax ay x y : Int) (n : Nat) : hitN b ax ay x y (n : Int) = true ↔ ∃ t : Nat, t < n ∧ ax = x + t * dxB b ∧ ay = y + t * dyB b := by
  unfold hitN
  cases b
  · simp only [cond_false, Bool.and_eq_true, beq_iff_eq, decide_eq_true_eq, dxB, dyB]
    constructor
    · rintro ⟨h1, h2, h3⟩
      exact ⟨(ay - y).toNat, by omega, by omega, by omega⟩
    · rintro ⟨t, h1, h2, h3⟩
      omega
  · simp only [cond_true, Bool.and_eq_true, beq_iff_eq, decide_eq_true_eq, dxB, dyB]
    constructor
    · rintro ⟨h1, h2, h3⟩
      exact ⟨(ax - x).toNat, by omega, by omega, by omega⟩
    · rintro ⟨t, h1, h2, h3⟩
      omega

theorem walk_back {a : List Int} {w h : Nat} (v : LawnV a w h) (b : Bool) : ∀ (n : Nat) (ax ay : Int), ax * dxB b + ay * dyB b < n → grassB a ax ay = true →
    ∃ t : Nat, t < n ∧ startB a b (ax - t * dxB b, ay - t * dyB b) = true ∧ ∀ i : Nat, i ≤ t → grassB a (ax - i * dxB b) (ay - i * dyB b) = true := by
  intro n
  induction n with
  | zero =>
    intro ax ay h hg
    have := grass_range v.toLawnS hg
    cases b
    · simp only [dxB, dyB, cond_false] at h; omega
    · simp only [dxB, dyB, cond_true] at h; omega
  | succ n ih =>
    intro ax ay h hg
    cases hp : grassB a (ax - dxB b) (ay - dyB b) with
    | false =>
      refine ⟨0, by omega, ?_, ?_⟩
      · unfold startB
        simp [hg, hp]
      · intro i hi
        have : i = 0 := by omega
        subst this
        simpa using hg
    | true =>
      obtain ⟨t, h1, h2, h3⟩ := ih (ax - dxB b) (ay - dyB b) (by
        cases b
        · simp only [dxB, dyB, cond_false] at h ⊢; omega
        · simp only [dxB, dyB, cond_true] at h ⊢; omega) hp
      have e1 : ∀ i : Nat, ax - ((i + 1 : Nat) : Int) * dxB b = ax - dxB b - i * dxB b := fun i => by cases b <;> simp [dxB]; omega
      have e2 : ∀ i : Nat, ay - ((i + 1 : Nat) : Int) * dyB b = ay - dyB b - i * dyB b := fun i => by cases b <;> simp [dyB]; omega
      refine ⟨t + 1, by omega, by rw [e1, e2]; exact h2, fun i hi => ?_⟩
      cases i with
      | zero => simpa using hg
      | succ i => rw [e1, e2]; exact h3 i (by omega)

theorem allC_nodup (w h : Nat) : (allC w h).Nodup := by
  have hrow : ∀ (y w : Nat), (rowC y w).Nodup := by
    intro y w
    induction w with
    | zero => simp [rowC]
    | succ w ih =>
      rw [rowC_succ]
      refine List.nodup_append.2 ⟨ih, by simp, ?_⟩
      intro p hp q hq e
      simp only [rowC, List.mem_map, List.mem_range] at hp
      simp only [List.mem_singleton] at hq
      obtain ⟨x, hx, rfl⟩ := hp
      rw [hq, Prod.mk.injEq] at e
      omega
  induction h with
  | zero => simp [allC]
  | succ h ih =>
    rw [allC_succ]
    refine List.nodup_append.2 ⟨ih, hrow h w, ?_⟩
    intro p hp q hq e
    have h1 := allC_mem.1 hp
    simp only [rowC, List.mem_map, List.mem_range] at hq
    obtain ⟨x, hx, rfl⟩ := hq
    rw [e] at h1
    simp only at h1
    omega

theorem stripeN_at (b : Bool) (ax ay : Int) (L : List (Int × Int × Int)) (j : Nat) (hj : hitR b ax ay (L.getD j (0, 0, 0)) = true) : ∀ n, n ≤ L.length → j < n → (∀ i, i < n → hitR b ax ay (L.getD i (0, 0, 0)) = true → i = j) → stripeN b ax ay L n = j := by
  intro n
  induction n with
  | zero => intro _ h; omega
  | succ n ih =>
    intro hn hjn hu
    simp only [stripeN]
    cases hh : hitR b ax ay (L.getD n (0, 0, 0)) with
    | true =>
      have := hu n (by omega) hh
      rw [this]
      rfl
    | false =>
      simp only [cond_false]
      refine ih (by omega) ?_ (fun i hi => hu i (by omega))
      rcases Nat.lt_or_ge j n with h | h
      · exact h
      · have : j = n := by omega
        rw [this, hh] at hj
        cases hj

theorem runs_ok {a : List Int} {w h : Nat} (v : LawnV a w h) (b : Bool) : ∀ r ∈ runsOf a b (allC w h), RunOK r := by
  intro r hr
  unfold runsOf at hr
  obtain ⟨p, hp, rfl⟩ := List.mem_map.1 hr
  have := cells_in' v (List.mem_filter.1 hp).1
  have h3 := runLen_le a b 11 p.1 p.2
  refine ⟨this.1, this.2, ?_⟩
  show 0 ≤ ((longV a b p.1 p.2 : Nat) : Int) ∧ ((longV a b p.1 p.2 : Nat) : Int) ≤ 11
  unfold longV
  omega

theorem one_run {a : List Int} {w h : Nat} (v : LawnV a w h) (b : Bool) {ax ay : Int} (hg : grassB a ax ay = true) :
    ∃ j, j < (runsOf a b (allC w h)).length ∧ hitR b ax ay ((runsOf a b (allC w h)).getD j (0, 0, 0)) = true ∧ ∀ i, i < (runsOf a b (allC w h)).length → hitR b ax ay ((runsOf a b (allC w h)).getD i (0, 0, 0)) = true → i = j := by
  have hgr := grass_range v.toLawnS hg
  have hwv := v.wv
  have hhv := v.hv
  have hw := v.wle
  have hh := v.hle
  have hS : (runsOf a b (allC w h)).length = ((allC w h).filter (startB a b)).length := by unfold runsOf; rw [List.length_map]
  have hget : ∀ i, i < (runsOf a b (allC w h)).length → (runsOf a b (allC w h)).getD i (0, 0, 0) = runOf a b (((allC w h).filter (startB a b)).getD i (0, 0)) := by
    intro i hi
    unfold runsOf
    rw [List.getD_eq_getElem?_getD, List.getElem?_map, List.getD_eq_getElem?_getD]
    rw [hS] at hi
    rw [List.getElem?_eq_getElem hi]
    rfl
  have hnd : ((allC w h).filter (startB a b)).Nodup := (allC_nodup w h).filter _
  obtain ⟨t, h1, h2, h3⟩ := walk_back v b 10 ax ay (by
    cases b
    · simp only [dxB, dyB, cond_false]; omega
    · simp only [dxB, dyB, cond_true]; omega) hg
  have hsin : (ax - t * dxB b, ay - t * dyB b) ∈ (allC w h).filter (startB a b) := by
    refine List.mem_filter.2 ⟨?_, h2⟩
    have := grass_range v.toLawnS (h3 t (Nat.le_refl _))
    rw [hwv, hhv] at this
    exact allC_mem.2 this
  obtain ⟨j, hj, hje⟩ := List.mem_iff_getElem.1 hsin
  have hjd : ((allC w h).filter (startB a b)).getD j (0, 0) = (ax - t * dxB b, ay - t * dyB b) := by
    rw [List.getD_eq_getElem?_getD, List.getElem?_eq_getElem hj, hje]
    rfl
  have hjl : j < (runsOf a b (allC w h)).length := by rw [hS]; exact hj
  refine ⟨j, hjl, ?_, ?_⟩
  · rw [hget j hjl, hjd]
    show hitN b ax ay (ax - t * dxB b) (ay - t * dyB b) ((longV a b (ax - t * dxB b) (ay - t * dyB b) : Nat) : Int) = true
    rw [hit_iff]
    refine ⟨t, ?_, by omega, by omega⟩
    have := runLen_ge (a := a) (b := b) 11 (ax - t * dxB b) (ay - t * dyB b) (t + 1) (by omega) (fun i hi => by
      have := h3 (t - i) (by omega)
      have e1 : ax - ((t - i : Nat) : Int) * dxB b = ax - t * dxB b + i * dxB b := by
        cases b
        · simp [dxB]
        · simp only [dxB, cond_true]; omega
      have e2 : ay - ((t - i : Nat) : Int) * dyB b = ay - t * dyB b + i * dyB b := by
        cases b
        · simp only [dyB, cond_false]; omega
        · simp [dyB]
      rw [e1, e2] at this
      exact this)
    unfold longV
    omega
  · intro i hi hit
    rw [hget i hi] at hit
    have hil : i < ((allC w h).filter (startB a b)).length := by rw [hS] at hi; exact hi
    have hsi : startB a b (((allC w h).filter (startB a b)).getD i (0, 0)) = true := (List.mem_filter.1 (getD_mem _ (0, 0) hil)).2
    have hsame : ((allC w h).filter (startB a b)).getD i (0, 0) = ((allC w h).filter (startB a b)).getD j (0, 0) := by
      rw [hjd]
      generalize ((allC w h).filter (startB a b)).getD i (0, 0) = s at hit hsi
      obtain ⟨x, y⟩ := s
      have hit : hitN b ax ay x y ((longV a b x y : Nat) : Int) = true := hit
      rw [hit_iff] at hit
      obtain ⟨u, u1, u2, u3⟩ := hit
      have hrun : ∀ m : Nat, m < longV a b x y → grassB a (x + m * dxB b) (y + m * dyB b) = true := fun m hm => runLen_grass 11 x y m hm
      unfold startB at hsi h2
      rw [Bool.and_eq_true, Bool.not_eq_true'] at hsi h2
      have htu : u = t := by
        rcases Nat.lt_trichotomy u t with hlt | he | hlt
        · exfalso
          have := h3 (u + 1) (by omega)
          have e1 : ax - ((u + 1 : Nat) : Int) * dxB b = x - dxB b := by cases b <;> simp [dxB] at u2 ⊢ <;> omega
          have e2 : ay - ((u + 1 : Nat) : Int) * dyB b = y - dyB b := by cases b <;> simp [dyB] at u3 ⊢ <;> omega
          rw [e1, e2, hsi.2] at this
          cases this
        · exact he
        · exfalso
          have := hrun (u - (t + 1)) (by omega)
          have e1 : x + ((u - (t + 1) : Nat) : Int) * dxB b = ax - t * dxB b - dxB b := by
            cases b
            · simp [dxB] at u2 ⊢; omega
            · simp only [dxB, cond_true] at u2 ⊢; omega
          have e2 : y + ((u - (t + 1) : Nat) : Int) * dyB b = ay - t * dyB b - dyB b := by
            cases b
            · simp only [dyB, cond_false] at u3 ⊢; omega
            · simp [dyB] at u3 ⊢; omega
          rw [e1, e2, h2.2] at this
          cases this
      subst htu
      rw [Prod.mk.injEq]
      constructor <;> omega
    have hgi : ((allC w h).filter (startB a b))[i]'hil = ((allC w h).filter (startB a b))[j]'hj := by
      rw [List.getD_eq_getElem?_getD, List.getD_eq_getElem?_getD, List.getElem?_eq_getElem hil, List.getElem?_eq_getElem hj] at hsame
      exact hsame
    rcases Nat.lt_trichotomy i j with hlt | he | hlt
    · exact absurd hgi (List.pairwise_iff_getElem.1 hnd i j hil hj hlt)
    · exact he
    · exact absurd hgi.symm (List.pairwise_iff_getElem.1 hnd j i hj hil hlt)

end Go.Proofs.Ytkdpdmfkomnalaa.Tt
