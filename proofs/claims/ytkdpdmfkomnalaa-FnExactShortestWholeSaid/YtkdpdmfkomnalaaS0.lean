/- Plain laws, joined: Y1 Y2 Y3 Y5 Y9a Y9 Y10 Y13 Y10b Y14n Y31o Y31 Y35a Y35b Y35 Y36a Y39 Y4a Y4 Y5b Y6 Y7 Y44 Y38. -/
import Derived.Test.YtkdpdmfkomnalaaSh
import Derived.KernelRfl
set_option linter.unusedVariables false
set_option linter.unusedSimpArgs false
namespace Go.Proofs.Ytkdpdmfkomnalaa.Tt
open Go.Ev Go


set_option maxRecDepth 100000

theorem toByteA10_eq (n : Nat) (a : List Int) : laws_toByteA10 (n + 11) a = some (rds a 0 0 10) := by kernel_rfl

theorem toByteA10A10_eq (n : Nat) (a : List Int) : laws_toByteA10A10 (n + 11) a = some (rds (win a 0 10) 0 0 10 ++ (rds (win a 10 10) 0 0 10 ++ (rds (win a 20 10) 0 0 10 ++ (rds (win a 30 10) 0 0 10 ++ (rds (win a 40 10) 0 0 10 ++ (rds (win a 50 10) 0 0 10 ++ (rds (win a 60 10) 0 0 10 ++ (rds (win a 70 10) 0 0 10 ++ (rds (win a 80 10) 0 0 10 ++ rds (win a 90 10) 0 0 10))))))))) := by kernel_rfl

theorem rds_win (a : List Int) (off : Nat) : rds (win a off 10) 0 0 10 = rds a off 0 10 := by
  have h : ∀ (n j : Nat), j + n ≤ 10 → rds (win a off 10) 0 j n = rds a off j n := by
    intro n
    induction n with
    | zero => intro j _; rfl
    | succ n ih =>
      intro j hj
      simp only [rds]
      rw [ih (j + 1) (by omega), rd_win _ _ _ _ (by omega), Nat.zero_add]
  exact h 10 0 (by omega)

theorem rds_append (a : List Int) (off : Nat) : ∀ (n m j : Nat), rds a off j n ++ rds a off (j + n) m = rds a off j (n + m) := by
  intro n
  induction n with
  | zero => intro m j; simp [rds]
  | succ n ih =>
    intro m j
    have e : n + 1 + m = (n + m) + 1 := by omega
    rw [e]
    simp only [rds, List.cons_append]
    rw [← ih m (j + 1)]
    have : j + 1 + n = j + (n + 1) := by omega
    rw [this]

theorem rds_shift (a : List Int) : ∀ (n off j : Nat), rds a off j n = rds a 0 (off + j) n := by
  intro n
  induction n with
  | zero => intro off j; rfl
  | succ n ih =>
    intro off j
    simp only [rds, Nat.zero_add]
    rw [ih off (j + 1), Nat.add_assoc]

theorem toByteA10A10_id (n : Nat) (a : List Int) (h : a.length = 100) : laws_toByteA10A10 (n + 11) a = some a := by
  rw [toByteA10A10_eq]
  have e : ∀ off, rds (win a off 10) 0 0 10 = rds a 0 off 10 := fun off => by rw [rds_win, rds_shift]; rfl
  rw [e 0, e 10, e 20, e 30, e 40, e 50, e 60, e 70, e 80, e 90]
  rw [rds_append a 0 10 10 80, rds_append a 0 10 20 70, rds_append a 0 10 30 60, rds_append a 0 10 40 50, rds_append a 0 10 50 40, rds_append a 0 10 60 30, rds_append a 0 10 70 20, rds_append a 0 10 80 10, rds_append a 0 10 90 0]
  rw [rds_all a 100 h]

theorem toLawn_id (n : Nat) (a : List Int) (h : a.length = 102) : laws_toLawn (n + 11) a = some a := by
  unfold laws_toLawn
  rw [toByteA10A10_id n (win a 2 100) (win_length _ _ _ (by omega))]
  simp only [Option.bind_some]
  congr 1
  show List.take 2 (List.set (List.set (List.replicate 102 0) 0 (rd a 0)) 1 (rd a 1)) ++ (win a 2 100 ++ List.drop 102 (List.set (List.set (List.replicate 102 0) 0 (rd a 0)) 1 (rd a 1))) = a
  have e1 : List.take 2 (List.set (List.set (List.replicate 102 0) 0 (rd a 0)) 1 (rd a 1)) = [rd a 0, rd a 1] := rfl
  have e2 : List.drop 102 (List.set (List.set (List.replicate 102 0) 0 (rd a 0)) 1 (rd a 1)) = ([] : List Int) := List.drop_eq_nil_of_le (by simp)
  rw [e1, e2, List.append_nil]
  match a, h with
  | x :: y :: r, h =>
    have hr : r.length = 100 := by simpa using h
    show x :: y :: win (x :: y :: r) 2 100 = x :: y :: r
    have : win (x :: y :: r) 2 100 = r := by
      unfold win
      simp only [List.drop_succ_cons, List.drop_zero]
      exact List.take_of_length_le (by omega)
    rw [this]



theorem wrap64 {x : Int} (h : -9223372036854775808 ≤ x ∧ x < 9223372036854775808) : IntKind.wrap .i64 x = x := by
  simp only [IntKind.wrap, IntKind.bits, IntKind.signed]
  simp
  omega

theorem wrap8 {x : Int} (h : -128 ≤ x ∧ x < 128) : IntKind.wrap .i8 x = x := by
  simp only [IntKind.wrap, IntKind.bits, IntKind.signed]
  simp
  omega

theorem cnt_two {a : List Int} {n : Nat} (h : a.length = n * 2) : cnt 2 a = n := by unfold cnt; omega

theorem bT {p : Prop} [Decidable p] (h : p) : decide p = true := decide_eq_true h
theorem bF {p : Prop} [Decidable p] (h : ¬ p) : decide p = false := decide_eq_false h

theorem drop_rd {a : List Int} {i : Nat} (h : i < a.length) : a.drop i = rd a i :: a.drop (i + 1) := by
  rw [List.drop_eq_getElem_cons h]
  simp [rd, h]



/-- A lawn's numbers are those of its kinds. -/
structure LawnR (a : List Int) : Prop where
  len : a.length = 102
  wide : -128 ≤ rd a 0 ∧ rd a 0 < 128
  high : -128 ≤ rd a 1 ∧ rd a 1 < 128
  cell : ∀ j, j < 100 → 0 ≤ rd a (2 + j) ∧ rd a (2 + j) < 256

def sideB (n : Int) : Bool := decide (1 ≤ n) && decide (n ≤ 10)

def cellB (a : List Int) (y x : Nat) : Bool := decide (rd a (2 + y * 10 + x) ≤ 3) && (decide (rd a (2 + y * 10 + x) = 0) || (decide ((x : Int) < rd a 0) && decide ((y : Int) < rd a 1)))

def rowB (a : List Int) (y : Nat) : Nat → Nat → Bool
  | _, 0 => true
  | x, m + 1 => cellB a y x && rowB a y (x + 1) m

def rowsB (a : List Int) : Nat → Nat → Bool
  | _, 0 => true
  | y, m + 1 => rowB a y 0 10 && rowsB a (y + 1) m

def lawnB (a : List Int) : Bool := sideB (rd a 0) && (sideB (rd a 1) && rowsB a 0 10)

theorem spec_side (k : Nat) (n : Int) : spec_l01Side k n = some (sideB n) := by
  unfold spec_l01Side spec_l00In sideB
  by_cases h : 1 ≤ n
  · rw [bT (p := n ≥ 1) h]; rfl
  · rw [bF (p := n ≥ 1) h]; rfl

theorem impl_side (k : Nat) (n : Int) : impl_within k n 1 10 = some (sideB n) := by
  unfold impl_within sideB
  by_cases h : 1 ≤ n
  · rw [bT h]; rfl
  · rw [bF h]; rfl

theorem spec_is (k : Nat) {a : List Int} (ha : LawnR a) {x y : Int} (hx : -128 ≤ x ∧ x < 128) (hy : -128 ≤ y ∧ y < 128) :
    spec_l01Is k a [x, y] = some ((decide (0 ≤ x) && decide (x < rd a 0)) && (decide (0 ≤ y) && decide (y < rd a 1))) := by
  have hw := ha.wide
  have hh := ha.high
  unfold spec_l01Is spec_l00In
  have e1 : rd [x, y] 0 = x := rfl
  have e2 : rd [x, y] 1 = y := rfl
  rw [e1, e2, wrap64 (x := x) (by omega), wrap64 (x := y) (by omega), wrap64 (x := rd a 0) (by omega), wrap64 (x := rd a 1) (by omega), wrap64 (x := rd a 0 - 1) (by omega), wrap64 (x := rd a 1 - 1) (by omega)]
  by_cases h1 : 0 ≤ x
  · by_cases h2 : x < rd a 0
    · rw [bT (p := x ≥ 0) h1, bT h2]
      simp only [cond_true, Option.bind_some]
      rw [bT (p := x ≤ rd a 0 - 1) (by omega)]
      simp only [cond_true]
      by_cases h3 : 0 ≤ y
      · rw [bT (p := y ≥ 0) h3]
        simp only [cond_true, Option.bind_some, Bool.true_and]
        congr 1
        by_cases h4 : y < rd a 1
        · rw [bT h4, bT (by omega)]
        · rw [bF h4, bF (by omega)]
      · rw [bF (p := y ≥ 0) h3]; rfl
    · rw [bT (p := x ≥ 0) h1, bF h2]
      simp only [cond_true, Option.bind_some]
      rw [bF (p := x ≤ rd a 0 - 1) (by omega)]
      rfl
  · rw [bF (p := x ≥ 0) h1]; rfl

theorem impl_has (k : Nat) (a : List Int) (x y : Int) : impl_Lawn_has k a [x, y] = some ((decide (0 ≤ x) && decide (x < rd a 0)) && (decide (0 ≤ y) && decide (y < rd a 1))) := by
  unfold impl_Lawn_has
  have e1 : rd [x, y] 0 = x := rfl
  have e2 : rd [x, y] 1 = y := rfl
  rw [e1, e2]
  by_cases h1 : 0 ≤ x
  · rw [bT (p := x ≥ 0) h1]
    by_cases h2 : x < rd a 0
    · rw [bT h2]
      by_cases h3 : 0 ≤ y
      · rw [bT (p := y ≥ 0) h3]; rfl
      · rw [bF (p := y ≥ 0) h3]; rfl
    · rw [bF h2]; rfl
  · rw [bF (p := x ≥ 0) h1]; rfl

theorem impl_row {R : Type} (k : Nat) (K1 : Bool → Option R) (K2 : Int → List Int → Option R) {a : List Int} (ha : LawnR a) (y : Nat) (hy : y < 10) (h2 : Int) : ∀ (m x f : Nat), x + m = 10 → m < f →
    loopF (fun (rec : Int × Int × Int × (List Int) → Option R) (p : Int × Int × Int × (List Int)) => impl_ValidLawn_s0 k K1 K2 (fun h1 h2 h3 h4 => rec (h1, h2, h3, h4)) p.1 p.2.1 p.2.2.1 p.2.2.2) f ((y : Int), h2, (x : Int), a) =
      cond (rowB a y x m) (K2 h2 a) (K1 false) := by
  intro m
  induction m with
  | zero =>
    intro x f hx hf
    obtain ⟨f, rfl⟩ : ∃ g, f = g + 1 := ⟨f - 1, by omega⟩
    rw [loopF]
    dsimp only
    unfold impl_ValidLawn_s0
    rw [bF (by omega)]
    rfl
  | succ m ih =>
    intro x f hx hf
    obtain ⟨f, rfl⟩ : ∃ g, f = g + 1 := ⟨f - 1, by omega⟩
    rw [loopF]
    dsimp only
    unfold impl_ValidLawn_s0
    have hc := ha.cell (y * 10 + x) (by omega)
    have hcell : 2 + y * 10 + x = 2 + (y * 10 + x) := by omega
    rw [bT (p := (x : Int) < 10) (by omega), bT (p := (0 : Int) ≤ (y : Int)) (by omega), bT (p := (y : Int) < 10) (by omega), bT (p := (0 : Int) ≤ (x : Int)) (by omega)]
    simp only [cond_true, Bool.and_true]
    have e1 : (y : Int).toNat = y := by omega
    have e2 : (x : Int).toNat = x := by omega
    have e3 : IntKind.wrap .i8 ((x : Int) + 1) = ((x + 1 : Nat) : Int) := by rw [wrap8 (by omega)]; omega
    rw [e1, e2, e3, Nat.mul_one]
    have hrec := ih (x + 1) f (by omega) (by omega)
    simp only [rowB, cellB]
    by_cases g1 : rd a (2 + y * 10 + x) ≤ 3
    · rw [bF (p := rd a (2 + y * 10 + x) > 3) (by omega), bT g1]
      simp only [cond_false, Bool.true_and]
      by_cases g2 : rd a (2 + y * 10 + x) = 0
      · rw [g2]
        simp only [bne_self_eq_false, cond_false, decide_true, Bool.true_or, Bool.true_and]
        exact hrec
      · have : (rd a (2 + y * 10 + x) != 0) = true := by simp [g2]
        rw [this, bF g2, impl_has]
        simp only [cond_true, Option.bind_some, Bool.false_or]
        rw [bT (p := (0 : Int) ≤ (x : Int)) (by omega), bT (p := (0 : Int) ≤ (y : Int)) (by omega)]
        simp only [Bool.true_and]
        cases hq : (decide ((x : Int) < rd a 0) && decide ((y : Int) < rd a 1)) with
        | true => simp only [Bool.not_true, cond_false, Bool.true_and]; exact hrec
        | false => rfl
    · rw [bT (p := rd a (2 + y * 10 + x) > 3) (by omega), bF g1]
      rfl

theorem spec_row {R : Type} (k : Nat) (K1 : Bool → Option R) (K2 : List Int → Int → Option R) {a : List Int} (ha : LawnR a) (y : Nat) (hy : y < 10) : ∀ (m x f : Nat), x + m = 10 → m < f →
    loopF (fun (rec : (List Int) × Int × Int → Option R) (p : (List Int) × Int × Int) => spec_l01Ok_s0 k K1 K2 (fun h1 h2 h3 => rec (h1, h2, h3)) p.1 p.2.1 p.2.2) f (a, (y : Int), (x : Int)) =
      cond (rowB a y x m) (K2 a y) (K1 false) := by
  intro m
  induction m with
  | zero =>
    intro x f hx hf
    obtain ⟨f, rfl⟩ : ∃ g, f = g + 1 := ⟨f - 1, by omega⟩
    rw [loopF]
    dsimp only
    unfold spec_l01Ok_s0
    rw [bF (by omega)]
    rfl
  | succ m ih =>
    intro x f hx hf
    obtain ⟨f, rfl⟩ : ∃ g, f = g + 1 := ⟨f - 1, by omega⟩
    rw [loopF]
    dsimp only
    unfold spec_l01Ok_s0
    have hc := ha.cell (y * 10 + x) (by omega)
    have hcell : 2 + (y * 10 + x) = 2 + y * 10 + x := by omega
    rw [hcell] at hc
    rw [bT (p := (x : Int) < 10) (by omega), bT (p := (0 : Int) ≤ (y : Int)) (by omega), bT (p := (y : Int) < 10) (by omega), bT (p := (0 : Int) ≤ (x : Int)) (by omega)]
    simp only [cond_true, Bool.and_true]
    have e1 : (y : Int).toNat = y := by omega
    have e2 : (x : Int).toNat = x := by omega
    have e3 : IntKind.wrap .i8 ((x : Int) + 1) = ((x + 1 : Nat) : Int) := by rw [wrap8 (by omega)]; omega
    rw [e1, e2, e3, Nat.mul_one, wrap64 (x := rd a (2 + y * 10 + x)) (by omega)]
    have hrec := ih (x + 1) f (by omega) (by omega)
    simp only [rowB, cellB]
    have hkind : spec_l01Kind k (rd a (2 + y * 10 + x)) = some (decide (rd a (2 + y * 10 + x) ≤ 3)) := by
      unfold spec_l01Kind spec_l00In
      rw [bT (p := rd a (2 + y * 10 + x) ≥ 0) (by omega)]
      rfl
    rw [hkind]
    simp only [Option.bind_some]
    by_cases g1 : rd a (2 + y * 10 + x) ≤ 3
    · rw [bT g1]
      simp only [Bool.not_true, cond_false, Bool.true_and]
      by_cases g2 : rd a (2 + y * 10 + x) = 0
      · rw [g2]
        simp only [bne_self_eq_false, cond_false, decide_true, Bool.true_or, Bool.true_and]
        exact hrec
      · have : (rd a (2 + y * 10 + x) != 0) = true := by simp [g2]
        rw [this, bF g2, spec_is k ha (by omega) (by omega)]
        simp only [cond_true, Option.bind_some, Bool.false_or]
        rw [bT (p := (0 : Int) ≤ (x : Int)) (by omega), bT (p := (0 : Int) ≤ (y : Int)) (by omega)]
        simp only [Bool.true_and]
        cases hq : (decide ((x : Int) < rd a 0) && decide ((y : Int) < rd a 1)) with
        | true => simp only [Bool.not_true, cond_false, Bool.true_and]; exact hrec
        | false => rfl
    · rw [bF g1]
      rfl

theorem impl_rows {R : Type} (k : Nat) (hk : 10 < k) (K1 : Bool → Option R) (K2 : Option R) {a : List Int} (ha : LawnR a) : ∀ (m y f : Nat), y + m = 10 → m < f →
    loopF (fun (rec : Int × (List Int) → Option R) (p : Int × (List Int)) => impl_ValidLawn_s1 k K1 K2 (fun h1 h2 => rec (h1, h2)) p.1 p.2) f ((y : Int), a) = cond (rowsB a y m) K2 (K1 false) := by
  intro m
  induction m with
  | zero =>
    intro y f hy hf
    obtain ⟨f, rfl⟩ : ∃ g, f = g + 1 := ⟨f - 1, by omega⟩
    rw [loopF]
    dsimp only
    unfold impl_ValidLawn_s1
    rw [bF (by omega)]
    rfl
  | succ m ih =>
    intro y f hy hf
    obtain ⟨f, rfl⟩ : ∃ g, f = g + 1 := ⟨f - 1, by omega⟩
    rw [loopF]
    dsimp only
    unfold impl_ValidLawn_s1 impl_ValidLawn_l0
    rw [bT (p := (y : Int) < 10) (by omega)]
    simp only [cond_true]
    have h := impl_row k (fun y1 => K1 y1) (fun (y2 : Int) (y3 : List Int) => loopF (fun (rec : Int × (List Int) → Option R) (p : Int × (List Int)) => impl_ValidLawn_s1 k K1 K2 (fun h1 h2 => rec (h1, h2)) p.1 p.2) f (IntKind.wrap .i8 (y2 + 1), y3)) ha y (by omega) (y : Int) 10 0 k (by omega) hk
    have e3 : IntKind.wrap .i8 ((y : Int) + 1) = ((y + 1 : Nat) : Int) := by rw [wrap8 (by omega)]; omega
    rw [e3, ih (y + 1) f (by omega) (by omega)] at h
    refine Eq.trans h ?_
    simp only [rowsB]
    cases rowB a y 0 10 <;> rfl

theorem spec_rows {R : Type} (k : Nat) (hk : 10 < k) (K1 : Bool → Option R) (K2 : Option R) {a : List Int} (ha : LawnR a) : ∀ (m y f : Nat), y + m = 10 → m < f →
    loopF (fun (rec : (List Int) × Int → Option R) (p : (List Int) × Int) => spec_l01Ok_s1 k K1 K2 (fun h1 h2 => rec (h1, h2)) p.1 p.2) f (a, (y : Int)) = cond (rowsB a y m) K2 (K1 false) := by
  intro m
  induction m with
  | zero =>
    intro y f hy hf
    obtain ⟨f, rfl⟩ : ∃ g, f = g + 1 := ⟨f - 1, by omega⟩
    rw [loopF]
    dsimp only
    unfold spec_l01Ok_s1
    rw [bF (by omega)]
    rfl
  | succ m ih =>
    intro y f hy hf
    obtain ⟨f, rfl⟩ : ∃ g, f = g + 1 := ⟨f - 1, by omega⟩
    rw [loopF]
    dsimp only
    unfold spec_l01Ok_s1 spec_l01Ok_l0
    rw [bT (p := (y : Int) < 10) (by omega)]
    simp only [cond_true]
    have h := spec_row k (fun y1 => K1 y1) (fun (y2 : List Int) (y3 : Int) => loopF (fun (rec : (List Int) × Int → Option R) (p : (List Int) × Int) => spec_l01Ok_s1 k K1 K2 (fun h1 h2 => rec (h1, h2)) p.1 p.2) f (y2, IntKind.wrap .i8 (y3 + 1))) ha y (by omega) 10 0 k (by omega) hk
    have e3 : IntKind.wrap .i8 ((y : Int) + 1) = ((y + 1 : Nat) : Int) := by rw [wrap8 (by omega)]; omega
    rw [e3, ih (y + 1) f (by omega) (by omega)] at h
    refine Eq.trans h ?_
    simp only [rowsB]
    cases rowB a y 0 10 <;> rfl

theorem impl_valid (k : Nat) (hk : 10 < k) {a : List Int} (ha : LawnR a) : impl_ValidLawn k a = some (lawnB a) := by
  have hw := ha.wide
  have hh := ha.high
  unfold impl_ValidLawn impl_ValidLawn_l1 lawnB
  rw [wrap64 (x := rd a 0) (by omega), wrap64 (x := rd a 1) (by omega), impl_side, impl_side]
  simp only [Option.bind_some]
  have h := impl_rows k hk (fun y3 => some y3) (some true) ha 10 0 k (by omega) hk
  cases sideB (rd a 0) with
  | false => rfl
  | true =>
    cases sideB (rd a 1) with
    | false => rfl
    | true =>
      simp only [Bool.not_true, cond_false, Bool.true_and]
      refine Eq.trans h ?_
      cases rowsB a 0 10 <;> rfl

theorem spec_valid (k : Nat) (hk : 10 < k) {a : List Int} (ha : LawnR a) : spec_l01Ok k a = some (lawnB a) := by
  have hw := ha.wide
  have hh := ha.high
  unfold spec_l01Ok spec_l01Ok_l1 lawnB
  rw [wrap64 (x := rd a 0) (by omega), wrap64 (x := rd a 1) (by omega), spec_side, spec_side]
  simp only [Option.bind_some]
  have h := spec_rows k hk (fun y3 => some y3) (some true) ha 10 0 k (by omega) hk
  cases sideB (rd a 0) with
  | false => rfl
  | true =>
    cases sideB (rd a 1) with
    | false => rfl
    | true =>
      simp only [Bool.not_true, cond_false, Bool.true_and]
      refine Eq.trans h ?_
      cases rowsB a 0 10 <;> rfl



def hasB (a : List Int) (x y : Int) : Bool := (decide (0 ≤ x) && decide (x < rd a 0)) && (decide (0 ≤ y) && decide (y < rd a 1))
def kindV (a : List Int) (x y : Int) : Int := rd a (2 + y.toNat * 10 + x.toNat)
def openB (a : List Int) (x y : Int) : Bool := hasB a x y && ((kindV a x y == 0) || (kindV a x y == 3))

/-- A lawn whose sides are at most ten. -/
structure LawnS (a : List Int) : Prop extends LawnR a where
  w10 : rd a 0 ≤ 10
  h10 : rd a 1 ≤ 10

theorem hasB_true {a : List Int} {x y : Int} (h : hasB a x y = true) : 0 ≤ x ∧ x < rd a 0 ∧ 0 ≤ y ∧ y < rd a 1 := by
  unfold hasB at h
  simp only [Bool.and_eq_true, decide_eq_true_eq] at h
  omega

theorem kind_range {a : List Int} (ha : LawnS a) {x y : Int} (h : hasB a x y = true) : 0 ≤ kindV a x y ∧ kindV a x y < 256 := by
  obtain ⟨h1, h2, h3, h4⟩ := hasB_true h
  have := ha.w10
  have := ha.h10
  have hc := ha.cell (y.toNat * 10 + x.toNat) (by omega)
  unfold kindV
  have e : 2 + y.toNat * 10 + x.toNat = 2 + (y.toNat * 10 + x.toNat) := by omega
  rw [e]
  exact hc

theorem spec_at (k : Nat) {a : List Int} (ha : LawnS a) {x y : Int} (h : hasB a x y = true) : spec_l01At k a [x, y] = some (kindV a x y) := by
  obtain ⟨h1, h2, h3, h4⟩ := hasB_true h
  have := ha.w10
  have := ha.h10
  have hr := kind_range ha h
  unfold spec_l01At
  have e1 : rd [x, y] 0 = x := rfl
  have e2 : rd [x, y] 1 = y := rfl
  rw [e1, e2, bT (p := 0 ≤ y) h3, bT (p := y < 10) (by omega), bT (p := 0 ≤ x) h1, bT (p := x < 10) (by omega)]
  simp only [Bool.and_true, cond_true, Nat.mul_one]
  have e : rd a (2 + y.toNat * 10 + x.toNat) = kindV a x y := rfl
  rw [e, wrap64 (by omega)]

theorem impl_kind (k : Nat) {a : List Int} (ha : LawnS a) {x y : Int} (h : hasB a x y = true) : impl_Lawn_kind k a [x, y] = some (kindV a x y) := spec_at k ha h

theorem impl_is (k : Nat) {a : List Int} (ha : LawnS a) (x y v : Int) : impl_Lawn_is k a [x, y] v = some (hasB a x y && (kindV a x y == v)) := by
  unfold impl_Lawn_is
  have e : impl_Lawn_has k a [rd [x, y] 0, rd [x, y] 1] = some (hasB a x y) := impl_has k a x y
  rw [e]
  cases h : hasB a x y with
  | false => rfl
  | true =>
    simp only [Option.bind_some, cond_true, Bool.true_and]
    have e2 : impl_Lawn_kind k a [rd [x, y] 0, rd [x, y] 1] = some (kindV a x y) := impl_kind k ha h
    rw [e2]
    rfl



/-- A loop whose states are told by a number i, with m rounds left. -/
theorem loopF_go {S R : Type} {step : (S → Option R) → S → Option R} (σ : Nat → S) (V : Nat → Nat → Option R) (n : Nat)
    (h0 : ∀ rec : S → Option R, step rec (σ n) = V n 0)
    (hs : ∀ i m, i + (m + 1) = n → ∀ rec : S → Option R, rec (σ (i + 1)) = V (i + 1) m → step rec (σ i) = V i (m + 1)) :
    ∀ m i f, i + m = n → m < f → loopF step f (σ i) = V i m := by
  intro m
  induction m with
  | zero =>
    intro i f hi hf
    obtain ⟨f, rfl⟩ : ∃ g, f = g + 1 := ⟨f - 1, by omega⟩
    have : i = n := by omega
    subst this
    rw [loopF]
    exact h0 _
  | succ m ih =>
    intro i f hi hf
    obtain ⟨f, rfl⟩ : ∃ g, f = g + 1 := ⟨f - 1, by omega⟩
    rw [loopF]
    exact hs i m hi _ (ih (i + 1) f (by omega) (by omega))

/-- A loop with a bound that falls. -/
theorem loopF_wf {S R : Type} {step : (S → Option R) → S → Option R} (Inv : S → Prop) (μ : S → Nat) (V : S → Option R)
    (hs : ∀ s, Inv s → ∀ rec : S → Option R, (∀ s', Inv s' → μ s' < μ s → rec s' = V s') → step rec s = V s) : ∀ f s, Inv s → μ s < f → loopF step f s = V s := by
  intro f
  induction f with
  | zero => intro s _ h; omega
  | succ f ih =>
    intro s hi hf
    rw [loopF]
    exact hs s hi _ fun s' hi' hm => ih s' hi' (by omega)

/-! ## Pairs -/

def fl : List (Int × Int) → List Int
  | [] => []
  | (x, y) :: r => x :: y :: fl r

theorem fl_length : ∀ (L : List (Int × Int)), (fl L).length = L.length * 2 := by
  intro L
  induction L with
  | nil => rfl
  | cons p r ih => obtain ⟨x, y⟩ := p; simp only [fl, List.length_cons, ih]; omega

theorem fl_append : ∀ (L R : List (Int × Int)), fl (L ++ R) = fl L ++ fl R := by
  intro L R
  induction L with
  | nil => rfl
  | cons p r ih => obtain ⟨x, y⟩ := p; simp [fl, ih]

theorem cnt_fl (L : List (Int × Int)) : cnt 2 (fl L) = L.length := cnt_two (fl_length L)

theorem fl_x : ∀ (L : List (Int × Int)) (i : Nat), rd (fl L) (i * 2) = (L.getD i (0, 0)).1 := by
  intro L
  induction L with
  | nil => intro i; simp [fl, rd]
  | cons p r ih =>
    obtain ⟨x, y⟩ := p
    intro i
    cases i with
    | zero => rfl
    | succ i =>
      have e : (i + 1) * 2 = i * 2 + 1 + 1 := by omega
      rw [e]
      show rd (fl r) (i * 2) = _
      rw [ih]
      rfl

theorem fl_y : ∀ (L : List (Int × Int)) (i : Nat), rd (fl L) (i * 2 + 1) = (L.getD i (0, 0)).2 := by
  intro L
  induction L with
  | nil => intro i; simp [fl, rd]
  | cons p r ih =>
    obtain ⟨x, y⟩ := p
    intro i
    cases i with
    | zero => rfl
    | succ i =>
      have e : (i + 1) * 2 + 1 = i * 2 + 1 + 1 + 1 := by omega
      rw [e]
      show rd (fl r) (i * 2 + 1) = _
      rw [ih]
      rfl

/-! ## All cells of a lawn -/

def rowC (y : Nat) (w : Nat) : List (Int × Int) := (List.range w).map fun (x : Nat) => ((x : Int), (y : Int))
def allC (w h : Nat) : List (Int × Int) := (List.range h).flatMap fun (y : Nat) => rowC y w

theorem rowC_succ (y w : Nat) : rowC y (w + 1) = rowC y w ++ [((w : Int), (y : Int))] := by simp [rowC, List.range_succ]
theorem allC_succ (w h : Nat) : allC w (h + 1) = allC w h ++ rowC h w := by simp [allC, List.range_succ]
theorem allC_length (w h : Nat) : (allC w h).length = h * w := by
  induction h with
  | zero => simp [allC]
  | succ h ih => rw [allC_succ, List.length_append, ih, Nat.succ_mul]; simp [rowC]

theorem allC_mem {w h : Nat} {p : Int × Int} : p ∈ allC w h ↔ (0 ≤ p.1 ∧ p.1 < w ∧ 0 ≤ p.2 ∧ p.2 < h) := by
  obtain ⟨x, y⟩ := p
  simp only [allC, rowC, List.mem_flatMap, List.mem_range, List.mem_map, Prod.mk.injEq]
  constructor
  · rintro ⟨i, hi, j, hj, rfl, rfl⟩; omega
  · rintro ⟨h1, h2, h3, h4⟩
    exact ⟨y.toNat, by omega, x.toNat, by omega, by omega, by omega⟩

theorem rowC_length (y w : Nat) : (rowC y w).length = w := by simp [rowC]

theorem take_getD {α : Type} (L : List α) (d : α) {i : Nat} (h : i < L.length) : L.take (i + 1) = L.take i ++ [L.getD i d] := by
  rw [List.take_add_one, List.getD_eq_getElem?_getD]
  simp [h]

theorem getD_mem {α : Type} (L : List α) (d : α) {i : Nat} (h : i < L.length) : L.getD i d ∈ L := by
  simp [List.getD_eq_getElem?_getD, h]

theorem bigLen_val : bigLen = 4294967296 := rfl

/-- A lawn that is right, with its sides. -/
structure LawnV (a : List Int) (w h : Nat) : Prop extends LawnS a where
  wv : rd a 0 = (w : Int)
  hv : rd a 1 = (h : Int)
  w1 : 1 ≤ w
  h1 : 1 ≤ h

theorem LawnV.wle {a : List Int} {w h : Nat} (v : LawnV a w h) : w ≤ 10 := by have := v.wv; have := v.w10; omega
theorem LawnV.hle {a : List Int} {w h : Nat} (v : LawnV a w h) : h ≤ 10 := by have := v.hv; have := v.h10; omega

theorem lawnS_of' {a : List Int} (ha : LawnR a) (h : lawnB a = true) : LawnS a := by
  unfold lawnB sideB at h
  simp only [Bool.and_eq_true, decide_eq_true_eq] at h
  exact ⟨ha, h.1.2, h.2.1.2⟩

theorem lawnV_of {a : List Int} (ha : LawnR a) (h : lawnB a = true) : ∃ w h, LawnV a w h := by
  unfold lawnB sideB at h
  simp only [Bool.and_eq_true, decide_eq_true_eq] at h
  exact ⟨(rd a 0).toNat, (rd a 1).toNat, ⟨⟨ha, h.1.2, h.2.1.2⟩, by omega, by omega, by omega, by omega⟩⟩

/-! ## All cells -/



theorem spec_all_row {R : Type} (k : Nat) (K1 : (List Int) → Int → (List Int) → Option R) {a : List Int} {w h : Nat} (v : LawnV a w h) (y : Nat) (o : List Int) (ho : o.length ≤ 1000) (hk : w < k) :
    spec_l01All_l0 k K1 a (y : Int) 0 o = K1 a y (o ++ fl (rowC y w)) := by
  have hw := v.wv
  have hl := v.wle
  unfold spec_l01All_l0
  have := loopF_go (R := R) (step := fun (rec : (List Int) × Int × Int × (List Int) → Option R) (p : (List Int) × Int × Int × (List Int)) => spec_l01All_s0 k K1 (fun h1 h2 h3 h4 => rec (h1, h2, h3, h4)) p.1 p.2.1 p.2.2.1 p.2.2.2)
    (fun i => (a, (y : Int), (i : Int), o ++ fl (rowC y i))) (fun _ _ => K1 a y (o ++ fl (rowC y w))) w ?_ ?_ w 0 k (by omega) hk
  · simpa [rowC, fl] using this
  · intro rec
    dsimp only
    unfold spec_l01All_s0
    simp (disch := omega) only [hw, bF, cond_false]
  · intro i m hi rec hrec
    dsimp only at hrec ⊢
    unfold spec_l01All_s0
    simp (disch := omega) only [hw, bT, cond_true, List.length_append, fl_length, rowC_length, bigLen_val, wrap8]
    rw [rowC_succ, fl_append, ← List.append_assoc] at hrec
    exact hrec

theorem spec_all (k : Nat) {a : List Int} {w h : Nat} (v : LawnV a w h) (hk : 10 < k) : spec_l01All k a = some (fl (allC w h)) := by
  have hh := v.hv
  have hl := v.hle
  have hwl := v.wle
  unfold spec_l01All spec_l01All_l1
  have := loopF_go (step := fun (rec : (List Int) × Int × (List Int) → Option (List Int)) (p : (List Int) × Int × (List Int)) => spec_l01All_s1 k (fun y1 => some y1) (fun h1 h2 h3 => rec (h1, h2, h3)) p.1 p.2.1 p.2.2)
    (fun i => (a, (i : Int), fl (allC w i))) (fun _ _ => some (fl (allC w h))) h ?_ ?_ h 0 k (by omega) (by omega)
  · exact this
  · intro rec
    dsimp only
    unfold spec_l01All_s1
    simp (disch := omega) only [hh, bF, cond_false]
  · intro i m hi rec hrec
    dsimp only at hrec ⊢
    unfold spec_l01All_s1
    have hlen : (fl (allC w i)).length ≤ 1000 := by
      rw [fl_length, allC_length]
      have := Nat.mul_le_mul (show i ≤ 10 by omega) hwl
      omega
    rw [spec_all_row k _ v i _ hlen (by omega)]
    simp (disch := omega) only [hh, bT, cond_true, wrap8]
    rw [allC_succ, fl_append] at hrec
    exact hrec

theorem impl_all_row {R : Type} (k : Nat) (K1 : Int → Int → (List Int) → (List Int) → Option R) {a : List Int} {w h : Nat} (hl : w ≤ 10) (y : Nat) (q r : Int) (o : List Int) (ho : o.length ≤ 1000) (hk : w < k) :
    impl_Lawn_all_l0 k K1 (y : Int) q r (w : Int) 0 a o = K1 q r a (o ++ fl (rowC y w)) := by
  unfold impl_Lawn_all_l0
  have := loopF_go (R := R) (step := fun (rec : Int × Int × Int × Int × Int × (List Int) × (List Int) → Option R) (p : Int × Int × Int × Int × Int × (List Int) × (List Int)) => impl_Lawn_all_s0 k K1 (fun h1 h2 h3 h4 h5 h6 h7 => rec (h1, h2, h3, h4, h5, h6, h7)) p.1 p.2.1 p.2.2.1 p.2.2.2.1 p.2.2.2.2.1 p.2.2.2.2.2.1 p.2.2.2.2.2.2)
    (fun i => ((y : Int), q, r, (w : Int), (i : Int), a, o ++ fl (rowC y i))) (fun _ _ => K1 q r a (o ++ fl (rowC y w))) w ?_ ?_ w 0 k (by omega) hk
  · simpa [rowC, fl] using this
  · intro rec
    dsimp only
    unfold impl_Lawn_all_s0
    simp (disch := omega) only [bF, cond_false]
  · intro i m hi rec hrec
    dsimp only at hrec ⊢
    unfold impl_Lawn_all_s0
    simp (disch := omega) only [bT, cond_true, List.length_append, fl_length, rowC_length, bigLen_val, wrap8]
    rw [rowC_succ, fl_append, ← List.append_assoc] at hrec
    exact hrec

theorem impl_all (k : Nat) {a : List Int} {w h : Nat} (v : LawnV a w h) (hk : 10 < k) : impl_Lawn_all k a = some (fl (allC w h)) := by
  have hh := v.hv
  have hw := v.wv
  have hl := v.hle
  have hwl := v.wle
  unfold impl_Lawn_all impl_Lawn_all_l1
  rw [hh]
  have := loopF_go (step := fun (rec : Int × Int × (List Int) × (List Int) → Option (List Int)) (p : Int × Int × (List Int) × (List Int)) => impl_Lawn_all_s1 k (fun y1 => some y1) (fun h1 h2 h3 h4 => rec (h1, h2, h3, h4)) p.1 p.2.1 p.2.2.1 p.2.2.2)
    (fun i => ((h : Int), (i : Int), a, fl (allC w i))) (fun _ _ => some (fl (allC w h))) h ?_ ?_ h 0 k (by omega) (by omega)
  · exact this
  · intro rec
    dsimp only
    unfold impl_Lawn_all_s1
    simp (disch := omega) only [bF, cond_false]
  · intro i m hi rec hrec
    dsimp only at hrec ⊢
    unfold impl_Lawn_all_s1
    have hlen : (fl (allC w i)).length ≤ 1000 := by
      rw [fl_length, allC_length]
      have := Nat.mul_le_mul (show i ≤ 10 by omega) hwl
      omega
    rw [hw, impl_all_row (h := h) k _ hwl i _ _ _ hlen (by omega)]
    simp (disch := omega) only [bT, cond_true, wrap8]
    rw [allC_succ, fl_append] at hrec
    exact hrec

/-! ## Grass -/

def grassB (a : List Int) (x y : Int) : Bool := hasB a x y && (kindV a x y == 0)

theorem impl_grass (k : Nat) {a : List Int} (ha : LawnS a) (x y : Int) : impl_Lawn_grass k a [x, y] = some (grassB a x y) := by
  unfold impl_Lawn_grass grassB
  have e : impl_Lawn_is k a [rd [x, y] 0, rd [x, y] 1] 0 = some (hasB a x y && (kindV a x y == 0)) := impl_is k ha x y 0
  rw [e]
  rfl

theorem grass_range {a : List Int} (ha : LawnS a) {x y : Int} (h : grassB a x y = true) : 0 ≤ x ∧ x < rd a 0 ∧ 0 ≤ y ∧ y < rd a 1 := by
  unfold grassB at h
  rw [Bool.and_eq_true] at h
  exact hasB_true h.1



theorem eqT {a b : Int} (h : a = b) : (a == b) = true := by simp [h]
theorem eqF {a b : Int} (h : a ≠ b) : (a == b) = false := by simp [h]
theorem neT {a b : Int} (h : a ≠ b) : (a != b) = true := by simp [h]
theorem neF {a b : Int} (h : a = b) : (a != b) = false := by simp [h]

theorem tdiv2 {d : Int} (h : 0 ≤ d) : Int.tdiv d 2 = d / 2 := Int.tdiv_eq_ediv_of_nonneg h

def findI {α : Type} (g : α → Bool) : List α → Nat → Int
  | [], _ => -1
  | p :: r, i => cond (g p) (i : Int) (findI g r (i + 1))

theorem findI_any {α : Type} (g : α → Bool) : ∀ (L : List α) (i : Nat), decide (findI g L i ≥ 0) = L.any g := by
  intro L
  induction L with
  | nil => intro i; rfl
  | cons p r ih =>
    intro i
    simp only [findI, List.any_cons]
    have := ih (i + 1)
    by_cases h : g p = true
    · simp [h]
    · simpa [h] using this

theorem drop_getD {α : Type} (L : List α) (d : α) {i : Nat} (h : i < L.length) : L.drop i = L.getD i d :: L.drop (i + 1) := by
  rw [List.drop_eq_getElem_cons h]
  simp [List.getD_eq_getElem?_getD, h]

theorem indexFunc_cells (k : Nat) (L : List (Int × Int)) (f : List Int → Option Bool) (g : Int × Int → Bool) (hf : ∀ p ∈ L, f [p.1, p.2] = some (g p)) (hL : L.length ≤ 1048576) (hk : L.length < k) :
    slices_IndexFunc_impl_Cell k (fl L) f = some (findI g L 0) := by
  unfold slices_IndexFunc_impl_Cell slices_IndexFunc_impl_Cell_l0
  rw [cnt_fl]
  have := loopF_go (step := fun (rec : (List Int) × (List Int → Option Bool) × Int × Int → Option Int) (p : (List Int) × (List Int → Option Bool) × Int × Int) => slices_IndexFunc_impl_Cell_s0 k (fun y1 => some y1) (some (-1)) (fun h1 h2 h3 h4 => rec (h1, h2, h3, h4)) p.1 p.2.1 p.2.2.1 p.2.2.2)
    (fun i => (fl L, f, (L.length : Int), (i : Int))) (fun i _ => some (findI g (L.drop i) i)) L.length ?_ ?_ L.length 0 k (by omega) hk
  · exact this
  · intro rec
    dsimp only
    unfold slices_IndexFunc_impl_Cell_s0
    simp (disch := omega) only [bF, cond_false, List.drop_length, findI]
  · intro i m hi rec hrec
    dsimp only at hrec ⊢
    unfold slices_IndexFunc_impl_Cell_s0
    have hm := hf _ (getD_mem L (0, 0) (show i < L.length by omega))
    rw [drop_getD L (0, 0) (show i < L.length by omega)]
    simp (disch := omega) only [bT, cond_true, cnt_fl, Bool.and_true, Int.toNat_natCast, fl_x, fl_y, hm, Option.bind_some, wrap64, findI]
    cases g (L.getD i (0, 0)) with
    | true => rfl
    | false => simp only [cond_false]; exact hrec

theorem containsFunc_cells (k : Nat) (L : List (Int × Int)) (f : List Int → Option Bool) (g : Int × Int → Bool) (hf : ∀ p ∈ L, f [p.1, p.2] = some (g p)) (hL : L.length ≤ 1048576) (hk : L.length < k) :
    slices_ContainsFunc_impl_Cell k (fl L) f = some (L.any g) := by
  unfold slices_ContainsFunc_impl_Cell
  rw [indexFunc_cells k L f g hf hL hk]
  simp only [Option.bind_some]
  rw [findI_any]

theorem impl_cells (k : Nat) {a : List Int} (ha : LawnR a) (L : List (Int × Int)) (hL : L.length ≤ 1000) (hk : 10 < k) (hk2 : L.length < k) :
    impl_cellsCode k a (fl L) = some (cond (lawnB a) (cond (L.any fun p => !(hasB a p.1 p.2)) 2 0) 1) := by
  unfold impl_cellsCode
  rw [impl_valid k hk ha]
  simp only [Option.bind_some]
  cases lawnB a with
  | false => rfl
  | true =>
    simp only [Bool.not_true, cond_false, cond_true]
    rw [containsFunc_cells k L _ (fun p => !(hasB a p.1 p.2)) (fun p _ => by unfold impl_cellsCode_1; rw [show impl_Lawn_has k a [rd [rd [p.1, p.2] 0, rd [p.1, p.2] 1] 0, rd [rd [p.1, p.2] 0, rd [p.1, p.2] 1] 1] = some (hasB a p.1 p.2) from impl_has k a p.1 p.2]; rfl) (by omega) hk2]
    simp only [Option.bind_some]
    cases (L.any fun p => !(hasB a p.1 p.2)) <;> rfl

theorem impl_cells_nil (k : Nat) {a : List Int} (ha : LawnR a) (hk : 10 < k) : impl_cellsCode k a [] = some (cond (lawnB a) 0 1) := by
  have := impl_cells k ha [] (by simp) hk (by simp; omega)
  simpa [fl] using this

theorem impl_cells_one (k : Nat) {a : List Int} (ha : LawnR a) (x y : Int) (hk : 10 < k) : impl_cellsCode k a [x, y] = some (cond (lawnB a) (cond (hasB a x y) 0 2) 1) := by
  have := impl_cells k ha [(x, y)] (by simp) hk (by simp; omega)
  simp only [fl, List.any_cons, List.any_nil, Bool.or_false] at this
  rw [this]
  cases hasB a x y <;> rfl

/-! ## Cells 0 to 9, of whatever lawn -/

theorem spec_at10 (k : Nat) {a : List Int} (ha : LawnR a) {x y : Int} (hx : 0 ≤ x ∧ x < 10) (hy : 0 ≤ y ∧ y < 10) : spec_l01At k a [x, y] = some (kindV a x y) := by
  have hc := ha.cell (y.toNat * 10 + x.toNat) (by omega)
  have e : 2 + (y.toNat * 10 + x.toNat) = 2 + y.toNat * 10 + x.toNat := by omega
  rw [e] at hc
  unfold spec_l01At
  have e1 : rd [x, y] 0 = x := rfl
  have e2 : rd [x, y] 1 = y := rfl
  rw [e1, e2]
  simp (disch := omega) only [bT, cond_true, Bool.and_true, Nat.mul_one, wrap64]
  rfl

theorem impl_grass10 (k : Nat) {a : List Int} (ha : LawnR a) {x y : Int} (hx : 0 ≤ x ∧ x < 10) (hy : 0 ≤ y ∧ y < 10) : impl_Lawn_grass k a [x, y] = some (grassB a x y) := by
  unfold impl_Lawn_grass impl_Lawn_is grassB
  have e : impl_Lawn_has k a [rd [rd [x, y] 0, rd [x, y] 1] 0, rd [rd [x, y] 0, rd [x, y] 1] 1] = some (hasB a x y) := impl_has k a x y
  rw [e]
  cases h : hasB a x y with
  | false => rfl
  | true =>
    have e2 : impl_Lawn_kind k a [rd [rd [x, y] 0, rd [x, y] 1] 0, rd [rd [x, y] 0, rd [x, y] 1] 1] = some (kindV a x y) := spec_at10 k ha hx hy
    simp only [Option.bind_some, cond_true, e2, Bool.true_and]

theorem spec_in (k : Nat) (n lo hi : Int) : spec_l00In k n lo hi = some (decide (lo ≤ n) && decide (n ≤ hi)) := by
  unfold spec_l00In
  by_cases h : lo ≤ n
  · rw [bT (p := n ≥ lo) h]; rfl
  · rw [bF (p := n ≥ lo) h]; rfl

theorem impl_in (k : Nat) (n lo hi : Int) : impl_within k n lo hi = some (decide (lo ≤ n) && decide (n ≤ hi)) := by
  unfold impl_within
  by_cases h : lo ≤ n
  · rw [bT h]; rfl
  · rw [bF h]; rfl



theorem fl_set : ∀ (B : List (Int × Int)) (i : Nat) (x y : Int), i < B.length → setWin (fl B) (i * 2) 2 [x, y] = fl (B.set i (x, y)) := by
  intro B
  induction B with
  | nil => intro i x y h; simp at h
  | cons p r ih =>
    intro i x y h
    obtain ⟨px, py⟩ := p
    cases i with
    | zero => simp [setWin, fl]
    | succ i =>
      have := ih i x y (by simpa using h)
      unfold setWin at this ⊢
      have e1 : (i + 1) * 2 = i * 2 + 1 + 1 := by omega
      have e2 : (i + 1) * 2 + 2 = i * 2 + 2 + 1 + 1 := by omega
      rw [e1]
      simp only [fl, List.set_cons_succ, List.take_succ_cons, List.drop_succ_cons, List.cons_append]
      simpa using this

theorem fl_take : ∀ (B : List (Int × Int)) (i : Nat), (fl B).take (i * 2) = fl (B.take i) := by
  intro B
  induction B with
  | nil => intro i; simp [fl]
  | cons p r ih =>
    intro i
    obtain ⟨px, py⟩ := p
    cases i with
    | zero => rfl
    | succ i =>
      have e1 : (i + 1) * 2 = i * 2 + 1 + 1 := by omega
      rw [e1]
      simp only [fl, List.take_succ_cons, ih]

/-- DeleteFunc's list and how many it has kept, once it has looked at n. -/
def dB (g : Int × Int → Bool) (L : List (Int × Int)) : Nat → List (Int × Int) × Nat
  | 0 => (L, 0)
  | n + 1 => cond (g (L.getD n (0, 0))) (dB g L n) ((dB g L n).1.set (dB g L n).2 (L.getD n (0, 0)), (dB g L n).2 + 1)

theorem dB_inv (g : Int × Int → Bool) (L : List (Int × Int)) : ∀ n, n ≤ L.length → (dB g L n).1.length = L.length ∧ (dB g L n).2 ≤ n ∧ (dB g L n).1.take (dB g L n).2 = (L.take n).filter (fun p => !(g p)) ∧ (dB g L n).1.drop n = L.drop n := by
  intro n
  induction n with
  | zero => intro _; simp [dB]
  | succ n ih =>
    intro hn
    obtain ⟨h1, h2, h3, h4⟩ := ih (by omega)
    have hd : (dB g L n).1.drop (n + 1) = L.drop (n + 1) := by
      have := congrArg (List.drop 1) h4
      simpa [List.drop_drop, Nat.add_comm] using this
    rw [take_getD L (0, 0) (show n < L.length by omega), List.filter_append]
    simp only [dB]
    cases hg : g (L.getD n (0, 0)) with
    | true =>
      simp only [cond_true, List.filter_cons, hg, Bool.not_true, Bool.false_eq_true, if_false, List.filter_nil, List.append_nil]
      exact ⟨h1, by omega, h3, hd⟩
    | false =>
      simp only [cond_false, List.filter_cons, hg, Bool.not_false, if_true, List.filter_nil]
      refine ⟨by rw [List.length_set]; exact h1, by omega, ?_, ?_⟩
      · rw [List.take_add_one, List.take_set, h3, List.getElem?_set_self (by omega)]
        have : ((L.take n).filter fun p => !(g p)).length ≤ (dB g L n).2 := by rw [← h3, List.length_take]; omega
        rw [List.set_eq_of_length_le this]
        rfl
      · rw [List.drop_set_of_lt (by omega)]
        exact hd

theorem dB_start (g : Int × Int → Bool) (L : List (Int × Int)) : ∀ n, n ≤ L.length → (∀ i, i < n → g (L.getD i (0, 0)) = false) → dB g L n = (L, n) := by
  intro n
  induction n with
  | zero => intro _ _; rfl
  | succ n ih =>
    intro hn h
    simp only [dB]
    rw [ih (by omega) (fun i hi => h i (by omega)), h n (by omega)]
    simp only [cond_false]
    congr 1
    rw [List.getD_eq_getElem?_getD, List.getElem?_eq_getElem (show n < L.length by omega)]
    simp

theorem findI_spec {α : Type} (g : α → Bool) (d : α) : ∀ (L : List α) (i : Nat), (findI g L i = -1 ∧ ∀ p ∈ L, g p = false) ∨ ∃ j, j < L.length ∧ findI g L i = ((i + j : Nat) : Int) ∧ g (L.getD j d) = true ∧ ∀ t, t < j → g (L.getD t d) = false := by
  intro L
  induction L with
  | nil => intro i; exact .inl ⟨rfl, by simp⟩
  | cons p r ih =>
    intro i
    simp only [findI]
    cases hg : g p with
    | true => exact .inr ⟨0, by simp, rfl, hg, fun t ht => by omega⟩
    | false =>
      simp only [cond_false]
      rcases ih (i + 1) with ⟨h1, h2⟩ | ⟨j, h1, h2, h3, h4⟩
      · refine .inl ⟨h1, fun q hq => ?_⟩
        rcases List.mem_cons.1 hq with rfl | hq
        · exact hg
        · exact h2 q hq
      · refine .inr ⟨j + 1, by simp; omega, by rw [h2]; omega, by simpa using h3, fun t ht => ?_⟩
        cases t with
        | zero => simpa using hg
        | succ t => simpa using h4 t (by omega)

theorem win_setWin {l m : List Int} {off n : Nat} (h : off ≤ l.length) : win (setWin l off n m) 0 off = l.take off := by
  unfold win setWin
  rw [List.drop_zero, List.take_append_of_le_length (by rw [List.length_take]; omega), List.take_take, Nat.min_self]

theorem cnt_setWin {l : List Int} {i n : Nat} (h : l.length = n * 2) (hi : i ≤ n) : cnt 2 (setWin l (i * 2) ((n - i) * 2) (List.replicate ((n - i) * 2) 0)) = n := by
  apply cnt_two
  unfold setWin
  simp
  omega

theorem deleteFunc_cells (k : Nat) (L : List (Int × Int)) (f : List Int → Option Bool) (g : Int × Int → Bool) (hf : ∀ p ∈ L, f [p.1, p.2] = some (g p)) (hL : L.length ≤ 1048576) (hk : L.length < k) :
    slices_DeleteFunc_impl_Cell k (fl L) f = some (fl (L.filter fun p => !(g p))) := by
  unfold slices_DeleteFunc_impl_Cell
  rw [indexFunc_cells k L f g hf hL hk]
  simp only [Option.bind_some]
  rcases findI_spec g (0, 0) L 0 with ⟨h1, h2⟩ | ⟨j, h1, h2, h3, h4⟩
  · rw [h1]
    have : L.filter (fun p => !(g p)) = L := List.filter_eq_self.2 fun p hp => by rw [h2 p hp]; rfl
    rw [this]
    rfl
  · rw [h2]
    simp (disch := omega) only [eqF, cond_false, wrap64, Nat.zero_add]
    unfold slices_DeleteFunc_impl_Cell_l0
    have key := loopF_go (R := List Int) (step := fun (rec : (List Int → Option Bool) × Int × Int × (List Int) → Option (List Int)) (p : (List Int → Option Bool) × Int × Int × (List Int)) => slices_DeleteFunc_impl_Cell_s0 k (fun y2 y3 =>
          cond ((decide (0 ≤ y2)) && (decide (y2 ≤ ((cnt 2 y3) : Int))))
            (cond ((decide (0 ≤ y2)) && (decide (y2 ≤ ((cnt 2 (setWin y3 (y2.toNat * 2) (((cnt 2 y3) - y2.toNat) * 2) (List.replicate (((cnt 2 y3) - y2.toNat) * 2) 0))) : Int))))
              (some (win (setWin y3 (y2.toNat * 2) (((cnt 2 y3) - y2.toNat) * 2) (List.replicate (((cnt 2 y3) - y2.toNat) * 2) 0)) 0 (y2.toNat * 2)))
              none)
            none) (fun h1 h2 h3 h4 => rec (h1, h2, h3, h4)) p.1 p.2.1 p.2.2.1 p.2.2.2)
      (fun i => (f, ((dB g L i).2 : Int), (i : Int), fl (dB g L i).1)) (fun _ _ => some (fl (L.filter fun p => !(g p)))) L.length ?_ ?_ (L.length - (j + 1)) (j + 1) k (by omega) (by omega)
    · have e : dB g L (j + 1) = (L, j) := by
        simp only [dB]
        rw [h3, dB_start g L j (by omega) h4]
        rfl
      rw [e] at key
      have ej : ((j + 1 : Nat) : Int) = (j : Int) + 1 := by omega
      rw [ej] at key
      exact key
    · intro rec
      dsimp only
      unfold slices_DeleteFunc_impl_Cell_s0
      obtain ⟨i1, i2, i3, i4⟩ := dB_inv g L L.length (Nat.le_refl _)
      rw [List.take_length] at i3
      generalize dB g L L.length = s at i1 i2 i3 i4 ⊢
      simp (disch := omega) only [cnt_fl, i1, bF, cond_false, bT, Bool.and_true, cond_true, Int.toNat_natCast]
      rw [cnt_setWin (by rw [fl_length, i1]) i2]
      simp (disch := omega) only [bT, Bool.and_true, cond_true]
      rw [win_setWin (by rw [fl_length]; omega), fl_take, i3]
    · intro i m hi rec hrec
      dsimp only at hrec ⊢
      unfold slices_DeleteFunc_impl_Cell_s0
      have hil : i < L.length := by omega
      obtain ⟨i1, i2, i3, i4⟩ := dB_inv g L i (by omega)
      have hm := hf _ (getD_mem L (0, 0) hil)
      have hd : (dB g L i).1.getD i (0, 0) = L.getD i (0, 0) := by
        have := congrArg (fun q => q[0]?) i4
        simp only [List.getElem?_drop, Nat.add_zero] at this
        rw [List.getD_eq_getElem?_getD, List.getD_eq_getElem?_getD, this]
      simp only [dB] at hrec
      generalize dB g L i = s at i1 i2 i3 i4 hd hrec ⊢
      simp (disch := omega) only [cnt_fl, i1, bT, cond_true, Bool.and_true, Int.toNat_natCast, fl_x, fl_y, hd, hm, Option.bind_some, wrap64]
      cases hg : g (L.getD i (0, 0)) with
      | true =>
        rw [hg] at hrec
        simp only [Bool.not_true, cond_false]
        exact hrec
      | false =>
        rw [hg] at hrec
        simp only [Bool.not_false, cond_true]
        rw [fl_set _ _ _ _ (by omega)]
        exact hrec

theorem allC_small {a : List Int} {w h : Nat} (v : LawnV a w h) : (allC w h).length ≤ 100 := by
  rw [allC_length]
  have := Nat.mul_le_mul v.hle v.wle
  omega

theorem impl_those (k : Nat) {a : List Int} {w h : Nat} (v : LawnV a w h) (f : List Int → Option Bool) (g : Int × Int → Bool) (hf : ∀ p ∈ allC w h, f [p.1, p.2] = some (g p)) (hk : 101 < k) :
    impl_Lawn_those k a f = some (fl ((allC w h).filter g)) := by
  have hs := allC_small v
  unfold impl_Lawn_those
  rw [impl_all k v (by omega)]
  simp only [Option.bind_some]
  rw [deleteFunc_cells k (allC w h) _ (fun p => !(g p)) (fun p hp => by
    unfold impl_Lawn_those_1
    rw [show f [rd [rd [p.1, p.2] 0, rd [p.1, p.2] 1] 0, rd [rd [p.1, p.2] 0, rd [p.1, p.2] 1] 1] = some (g p) from hf p hp]
    rfl) (by omega) (by omega)]
  simp only [Option.bind_some, Bool.not_not]

theorem hasB_all {a : List Int} {w h : Nat} (v : LawnV a w h) {p : Int × Int} (hp : p ∈ allC w h) : hasB a p.1 p.2 = true := by
  have := allC_mem.1 hp
  have := v.wv
  have := v.hv
  unfold hasB
  simp (disch := omega) only [bT, Bool.and_true]

theorem spec_cells (k : Nat) {a : List Int} {w h : Nat} (v : LawnV a w h) (n : Int) (hk : 101 < k) : spec_l01Cells k a n = some (fl ((allC w h).filter fun p => kindV a p.1 p.2 == n)) := by
  have hs := allC_small v
  unfold spec_l01Cells
  rw [spec_all k v (by omega)]
  simp only [Option.bind_some]
  unfold spec_l01Cells_l0
  have := loopF_go (step := fun (rec : (List Int) × Int × Int × (List Int) × (List Int) → Option (List Int)) (p : (List Int) × Int × Int × (List Int) × (List Int)) => spec_l01Cells_s0 k (fun y2 => some y2) (fun h1 h2 h3 h4 h5 => rec (h1, h2, h3, h4, h5)) p.1 p.2.1 p.2.2.1 p.2.2.2.1 p.2.2.2.2)
    (fun i => (a, n, (i : Int), fl (((allC w h).take i).filter fun p => kindV a p.1 p.2 == n), fl (allC w h))) (fun _ _ => some (fl ((allC w h).filter fun p => kindV a p.1 p.2 == n))) (allC w h).length ?_ ?_ (allC w h).length 0 k (by omega) (by omega)
  · exact this
  · intro rec
    dsimp only
    unfold spec_l01Cells_s0
    simp (disch := omega) only [cnt_fl, bF, cond_false, List.take_length]
  · intro i m hi rec hrec
    dsimp only at hrec ⊢
    unfold spec_l01Cells_s0
    have hil : i < (allC w h).length := by omega
    have hm := hasB_all v (getD_mem (allC w h) (0, 0) hil)
    have hlen : (fl (((allC w h).take i).filter fun p => kindV a p.1 p.2 == n)).length ≤ 200 := by
      rw [fl_length]
      have h1 := List.length_filter_le (fun p => kindV a p.1 p.2 == n) ((allC w h).take i)
      rw [List.length_take] at h1
      omega
    rw [take_getD _ (0, 0) hil, List.filter_append, fl_append] at hrec
    simp only [cnt_fl, Int.toNat_natCast, fl_x, fl_y]
    generalize (allC w h).getD i (0, 0) = p at hm hrec ⊢
    generalize fl (((allC w h).take i).filter fun p => kindV a p.1 p.2 == n) = o at hlen hrec ⊢
    rw [spec_at k v.toLawnS hm]
    have hb : decide (o.length + 2 ≤ bigLen) = true := bT (by rw [bigLen_val]; omega)
    simp (disch := omega) only [bT, cond_true, Bool.and_true, Option.bind_some, wrap64, hb]
    cases hq : (kindV a p.1 p.2 == n) with
    | true =>
      simp only [List.filter_cons, hq, if_true, List.filter_nil] at hrec
      simp only [cond_true]
      exact hrec
    | false =>
      simp only [List.filter_cons, hq, Bool.false_eq_true, if_false, List.filter_nil] at hrec
      simp only [cond_false]
      rw [show fl ([] : List (Int × Int)) = [] from rfl, List.append_nil] at hrec
      exact hrec

theorem grass_filter {a : List Int} {w h : Nat} (v : LawnV a w h) : ((allC w h).filter fun p => kindV a p.1 p.2 == 0) = (allC w h).filter fun p => grassB a p.1 p.2 :=
  List.filter_congr fun p hp => by unfold grassB; rw [hasB_all v hp, Bool.true_and]

theorem impl_grassL (k : Nat) {a : List Int} (ha : LawnS a) (p : Int × Int) : ((fun z1 => (impl_Lawn_grass k a [rd z1 0, rd z1 1]).bind fun b => some b) [p.1, p.2]) = some (grassB a p.1 p.2) := by
  show (impl_Lawn_grass k a [p.1, p.2]).bind _ = _
  rw [impl_grass k ha]
  rfl



theorem spec_told (k : Nat) {a : List Int} (ha : LawnR a) (hk : 10 < k) (b : Bool) : spec_l01Told k a b = some (cond (lawnB a) (cond b 0 2) 1) := by
  unfold spec_l01Told
  rw [spec_valid k hk ha]
  cases lawnB a <;> cases b <;> rfl



theorem wrap8_range (n : Int) : -128 ≤ IntKind.wrap .i8 n ∧ IntKind.wrap .i8 n < 128 := by
  simp only [IntKind.wrap, IntKind.bits, IntKind.signed]
  simp
  omega

def nbrs (x y : Int) : List (Int × Int) := [(x, IntKind.wrap .i8 (y - 1)), (IntKind.wrap .i8 (x - 1), y), (IntKind.wrap .i8 (x + 1), y), (x, IntKind.wrap .i8 (y + 1))]

theorem nbrs_range {x y : Int} (hx : -128 ≤ x ∧ x < 128) (hy : -128 ≤ y ∧ y < 128) : ∀ p ∈ nbrs x y, (-128 ≤ p.1 ∧ p.1 < 128) ∧ (-128 ≤ p.2 ∧ p.2 < 128) := by
  intro p hp
  have w1 := wrap8_range (y - 1)
  have w2 := wrap8_range (x - 1)
  have w3 := wrap8_range (x + 1)
  have w4 := wrap8_range (y + 1)
  simp only [nbrs, List.mem_cons, List.not_mem_nil, or_false] at hp
  rcases hp with rfl | rfl | rfl | rfl
  · exact ⟨hx, w1⟩
  · exact ⟨w2, hy⟩
  · exact ⟨w3, hy⟩
  · exact ⟨hx, w4⟩



def openP (a : List Int) (p : Int × Int) : Bool := openB a p.1 p.2

theorem impl_openP (k : Nat) {a : List Int} (ha : LawnS a) (p : Int × Int) : impl_Lawn_open k a [p.1, p.2] = some (openP a p) := by
  unfold impl_Lawn_open openP openB
  have e : ∀ v, impl_Lawn_is k a [rd [p.1, p.2] 0, rd [p.1, p.2] 1] v = some (hasB a p.1 p.2 && (kindV a p.1 p.2 == v)) := fun v => impl_is k ha p.1 p.2 v
  rw [e, e]
  cases hasB a p.1 p.2 <;> cases (kindV a p.1 p.2 == 0) <;> rfl



def letterV (c : Int) : Int := if c = 78 then 0 else if c = 87 then 1 else if c = 69 then 2 else if c = 83 then 3 else -1

theorem letterV_lt (c : Int) : letterV c < 4 := by unfold letterV; repeat' split <;> omega

set_option maxRecDepth 100000 in
theorem index_letter : ∀ n : Nat, n < 256 → Lib.indexByte [78, 87, 69, 83] n.toUInt8 = letterV (n : Int) := by decide +kernel

/-- The bytes of a way. -/
def byteN (s : ByteArray) (i : Nat) : Int := ((s.data.toList.getD i 0).toNat : Int)

theorem byteN_range (s : ByteArray) (i : Nat) : 0 ≤ byteN s i ∧ byteN s i < 256 := by
  unfold byteN
  have := (s.data.toList.getD i 0).toNat_lt
  omega

theorem index_byte (k : Nat) {c : Int} (hc : 0 ≤ c ∧ c < 256) : strings_IndexByte k (ByteArray.mk #[78, 87, 69, 83]) c = some (letterV c) := by
  unfold strings_IndexByte
  obtain ⟨n, rfl⟩ : ∃ n : Nat, c = (n : Int) := ⟨c.toNat, by omega⟩
  rw [Int.toNat_natCast]
  have := index_letter n (by omega)
  show some (Lib.indexByte [78, 87, 69, 83] n.toUInt8) = _
  rw [this]

/-! ## The code of a way -/

def wayN (s : ByteArray) : Nat → Nat → Bool
  | _, 0 => true
  | i, m + 1 => !(decide (letterV (byteN s i) < 0)) && wayN s (i + 1) m
def wayV (s : ByteArray) : Int := cond (decide ((s.size : Int) > 200)) 3 (cond (wayN s 0 s.size) 0 5)

theorem wayN_all {s : ByteArray} : ∀ m i, wayN s i m = true → ∀ j, i ≤ j → j < i + m → 0 ≤ letterV (byteN s j) := by
  intro m
  induction m with
  | zero => intro i _ j h1 h2; omega
  | succ m ih =>
    intro i h j h1 h2
    simp only [wayN, Bool.and_eq_true, Bool.not_eq_true', decide_eq_false_iff_not] at h
    by_cases e : j = i
    · rw [e]; omega
    · exact ih (i + 1) h.2 j (by omega) (by omega)

/-! ## The cells of a way -/

def nextV (p : Int × Int) (c : Int) : Int × Int := (nbrs p.1 p.2).getD (letterV c).toNat (0, 0)
def posN (p : Int × Int) (s : ByteArray) : Nat → Int × Int
  | 0 => p
  | i + 1 => nextV (posN p s i) (byteN s i)
def posL (p : Int × Int) (s : ByteArray) (i : Nat) : List (Int × Int) := (List.range (i + 1)).map (posN p s)

theorem posL_succ (p : Int × Int) (s : ByteArray) (i : Nat) : posL p s (i + 1) = posL p s i ++ [posN p s (i + 1)] := by
  unfold posL
  rw [List.range_succ, List.map_append]
  rfl
theorem posL_len (p : Int × Int) (s : ByteArray) (i : Nat) : (posL p s i).length = i + 1 := by simp [posL]
theorem posL_get (p : Int × Int) (s : ByteArray) {i j : Nat} (h : j < i + 1) : (posL p s i).getD j (0, 0) = posN p s j := by
  unfold posL
  rw [List.getD_eq_getElem?_getD, List.getElem?_map, List.getElem?_range h]
  rfl

def In8 (p : Int × Int) : Prop := (-128 ≤ p.1 ∧ p.1 < 128) ∧ (-128 ≤ p.2 ∧ p.2 < 128)

theorem posN_in {p : Int × Int} (hp : In8 p) {s : ByteArray} {n : Nat} (hw : ∀ j, j < n → 0 ≤ letterV (byteN s j)) : ∀ i, i ≤ n → In8 (posN p s i) := by
  intro i
  induction i with
  | zero => intro _; exact hp
  | succ i ih =>
    intro hi
    obtain ⟨h1, h2⟩ := ih (by omega)
    have hl := hw i (by omega)
    have h4 := letterV_lt (byteN s i)
    have hm : nextV (posN p s i) (byteN s i) ∈ nbrs (posN p s i).1 (posN p s i).2 := getD_mem _ (0, 0) (by show (letterV (byteN s i)).toNat < 4; omega)
    exact nbrs_range h1 h2 _ hm

theorem spec_next (k : Nat) (p : Int × Int) (c : Int) (h : 0 ≤ letterV c) : spec_l02Next k [p.1, p.2] (letterV c) = some [(nextV p c).1, (nextV p c).2] := by
  have h4 := letterV_lt c
  unfold spec_l02Next nextV
  have e : letterV c = 0 ∨ letterV c = 1 ∨ letterV c = 2 ∨ letterV c = 3 := by omega
  rcases e with e | e | e | e <;> rw [e] <;> rfl

theorem impl_go (k : Nat) (p : Int × Int) {c : Int} (hc : 0 ≤ c ∧ c < 256) (h : 0 ≤ letterV c) : impl_go1 k [p.1, p.2] c = some [(nextV p c).1, (nextV p c).2] := by
  have h4 := letterV_lt c
  unfold impl_go1
  rw [show impl_beside k [rd [p.1, p.2] 0, rd [p.1, p.2] 1] = some (fl (nbrs p.1 p.2)) from rfl, index_byte k hc]
  simp only [Option.bind_some, cnt_fl, fl_x, fl_y]
  rw [bT (p := 0 ≤ letterV c) h, bT (p := letterV c < ((nbrs p.1 p.2).length : Int)) (by show letterV c < 4; omega)]
  rfl

theorem spec_free (k : Nat) {a : List Int} (ha : LawnS a) {p : Int × Int} (hp : In8 p) : spec_l02Free k a [p.1, p.2] = some (openP a p) := by
  unfold spec_l02Free openP openB
  have e : spec_l01Is k a [rd [p.1, p.2] 0, rd [p.1, p.2] 1] = some (hasB a p.1 p.2) := spec_is k ha.toLawnR hp.1 hp.2
  rw [e]
  cases h : hasB a p.1 p.2 with
  | false => rfl
  | true =>
    simp only [Option.bind_some, cond_true, Bool.true_and]
    unfold spec_l01Open
    have e2 : spec_l01At k a [rd [rd [p.1, p.2] 0, rd [p.1, p.2] 1] 0, rd [rd [p.1, p.2] 0, rd [p.1, p.2] 1] 1] = some (kindV a p.1 p.2) := spec_at k ha h
    rw [e2]
    simp only [Option.bind_some]
    cases (kindV a p.1 p.2 == 0) <;> rfl

def comeS (a : List Int) (p : Int × Int) (s : ByteArray) : Nat → Nat → List Int × Bool
  | i, 0 => (fl (posL p s i), true)
  | i, m + 1 => cond (openP a (posN p s (i + 1))) (comeS a p s (i + 1) m) (fl (posL p s i), false)
def comeI (a : List Int) (p : Int × Int) (s : ByteArray) : Nat → Nat → List Int × Bool
  | i, 0 => (fl (posL p s i), openP a p)
  | i, m + 1 => cond (openP a (posN p s (i + 1))) (comeI a p s (i + 1) m) (fl (posL p s (i + 1)), false)

theorem come_same (a : List Int) (p : Int × Int) (s : ByteArray) (ho : openP a p = true) : ∀ m i, (comeS a p s i m).2 = (comeI a p s i m).2 ∧ ((comeS a p s i m).2 = true → (comeS a p s i m).1 = fl (posL p s (i + m)) ∧ (comeI a p s i m).1 = fl (posL p s (i + m))) := by
  intro m
  induction m with
  | zero => intro i; exact ⟨ho.symm, fun _ => ⟨rfl, rfl⟩⟩
  | succ m ih =>
    intro i
    simp only [comeS, comeI]
    cases openP a (posN p s (i + 1)) with
    | false => exact ⟨rfl, fun h => by cases h⟩
    | true =>
      have := ih (i + 1)
      rw [show i + 1 + m = i + (m + 1) by omega] at this
      exact this

theorem comeI_closed (a : List Int) (p : Int × Int) (s : ByteArray) (ho : openP a p = false) : ∀ m i, (comeI a p s i m).2 = false := by
  intro m
  induction m with
  | zero => intro i; exact ho
  | succ m ih =>
    intro i
    simp only [comeI]
    cases openP a (posN p s (i + 1)) with
    | false => rfl
    | true => exact ih (i + 1)


theorem filter_le {α : Type} (q q' : α → Bool) : ∀ (L : List α), (∀ x ∈ L, q' x = true → q x = true) → (L.filter q').length ≤ (L.filter q).length := by
  intro L
  induction L with
  | nil => intro _; simp
  | cons y r ih =>
    intro h1
    have := ih fun x hx => h1 x (by simp [hx])
    have hy := h1 y (by simp)
    simp only [List.filter_cons]
    cases e1 : q' y with
    | true => rw [hy e1]; simpa using this
    | false => cases q y <;> simp <;> omega

theorem filter_lt {α : Type} (q q' : α → Bool) : ∀ (L : List α), (∀ x ∈ L, q' x = true → q x = true) → (∃ x ∈ L, q x = true ∧ q' x = false) → (L.filter q').length < (L.filter q).length := by
  intro L
  induction L with
  | nil => intro _ h; obtain ⟨x, hx, _⟩ := h; simp at hx
  | cons p r ih =>
    intro h1 h2
    have hle := filter_le q q' r fun x hx => h1 x (by simp [hx])
    simp only [List.filter_cons]
    obtain ⟨x, hx, g1, g2⟩ := h2
    rcases List.mem_cons.1 hx with rfl | hx
    · rw [g1, g2]
      simp
      omega
    · have := ih (fun x hx => h1 x (by simp [hx])) ⟨x, hx, g1, g2⟩
      have hp := h1 p (by simp)
      cases e1 : q' p with
      | true => rw [hp e1]; simpa using this
      | false => cases q p <;> simp <;> omega




theorem wrapu64 {x : Int} (h : 0 ≤ x ∧ x < 18446744073709551616) : IntKind.wrap .u64 x = x := by
  simp only [IntKind.wrap, IntKind.bits, IntKind.signed]
  simp
  omega

theorem cnt1 (l : List Int) : cnt 1 l = l.length := by unfold cnt; omega

/-! ## The search -/

def ix (p : Int × Int) : Nat := p.2.toNat * 10 + p.1.toNat

/-- A look at a cell beside u: if it is open and new, it is told one step more and goes to the end of the queue. -/
def vis (a : List Int) (u : Int × Int) (s : List Int × List (Int × Int)) (c : Int × Int) : List Int × List (Int × Int) :=
  cond (openP a c && decide (rd s.1 (ix c) < 0)) (List.set s.1 (ix c) (IntKind.wrap .i64 (rd s.1 (ix u) + 1)), s.2 ++ [c]) s

theorem rd_set4 (l : List Int) (i j : Nat) (v : Int) : rd (List.set l i v) j = if i = j ∧ i < l.length then v else rd l j := by
  unfold rd
  rw [List.getD_eq_getElem?_getD, List.getD_eq_getElem?_getD, List.getElem?_set]
  by_cases h : i = j
  · subst h
    by_cases h2 : i < l.length
    · simp [h2]
    · simp [h2]
  · simp [h]

def negs (w h : Nat) (S : List Int) : Nat := ((allC w h).filter fun p => decide (rd S (ix p) < 0)).length

structure BI (a : List Int) (w h : Nat) (S : List Int) (Q : List (Int × Int)) : Prop where
  len : S.length = 100
  low : ∀ j, -1 ≤ rd S j
  high : ∀ j, rd S j < (Q.length : Int)
  qin : ∀ p ∈ Q, openP a p = true ∧ 0 ≤ rd S (ix p)
  few : negs w h S + Q.length ≤ 101

theorem open_in {a : List Int} {w h : Nat} (v : LawnV a w h) {p : Int × Int} (hp : openP a p = true) : p ∈ allC w h ∧ (0 ≤ p.1 ∧ p.1 < 10) ∧ (0 ≤ p.2 ∧ p.2 < 10) := by
  unfold openP openB at hp
  rw [Bool.and_eq_true] at hp
  obtain ⟨h1, h2, h3, h4⟩ := hasB_true hp.1
  rw [v.wv, v.hv] at *
  have := v.wle
  have := v.hle
  exact ⟨allC_mem.2 ⟨h1, by omega, h3, by omega⟩, by omega, by omega⟩

theorem vis_BI {a : List Int} {w h : Nat} (v : LawnV a w h) {S : List Int} {Q : List (Int × Int)} (b : BI a w h S Q) {u : Int × Int} (hu : u ∈ Q) (c : Int × Int) : BI a w h (vis a u (S, Q) c).1 (vis a u (S, Q) c).2 := by
  unfold vis
  cases hq : (openP a c && decide (rd S (ix c) < 0)) with
  | false => exact b
  | true =>
    rw [Bool.and_eq_true, decide_eq_true_eq] at hq
    obtain ⟨ho, hneg⟩ := hq
    obtain ⟨hin, hx, hy⟩ := open_in v ho
    have hu1 := (b.qin u hu).2
    have hu2 := b.high (ix u)
    have hfew := b.few
    have hix : ix c < 100 := by unfold ix; omega
    have hval : IntKind.wrap .i64 (rd S (ix u) + 1) = rd S (ix u) + 1 := wrap64 (by omega)
    simp only [cond_true, hval]
    have hlt : negs w h (List.set S (ix c) (rd S (ix u) + 1)) < negs w h S := by
      unfold negs
      refine filter_lt _ _ _ ?_ ⟨c, hin, by simpa using hneg, ?_⟩
      · intro p _ hp
        rw [rd_set4] at hp
        split at hp
        · simp at hp; omega
        · exact hp
      · rw [rd_set4, if_pos ⟨rfl, by rw [b.len]; exact hix⟩]
        simp
        omega
    refine ⟨by rw [List.length_set]; exact b.len, fun j => ?_, fun j => ?_, fun p hp => ?_, by rw [List.length_append]; simp only [List.length_cons, List.length_nil]; omega⟩
    · rw [rd_set4]
      have := b.low j
      split <;> omega
    · rw [rd_set4, List.length_append]
      have := b.high j
      simp only [List.length_cons, List.length_nil]
      split <;> omega
    · rw [List.mem_append, List.mem_singleton] at hp
      rw [rd_set4]
      rcases hp with hp | rfl
      · obtain ⟨h1, h2⟩ := b.qin p hp
        refine ⟨h1, ?_⟩
        split <;> omega
      · refine ⟨ho, ?_⟩
        rw [if_pos ⟨rfl, by rw [b.len]; exact hix⟩]
        omega

/-- The queue only grows. -/
theorem vis_grow (a : List Int) (u c : Int × Int) (s : List Int × List (Int × Int)) : ∃ r, (vis a u s c).2 = s.2 ++ r := by
  unfold vis
  cases (openP a c && decide (rd s.1 (ix c) < 0)) with
  | false => exact ⟨[], by simp⟩
  | true => exact ⟨[c], rfl⟩

theorem visL_BI {a : List Int} {w h : Nat} (v : LawnV a w h) {u : Int × Int} : ∀ (L : List (Int × Int)) (S : List Int) (Q : List (Int × Int)), BI a w h S Q → u ∈ Q → BI a w h (L.foldl (vis a u) (S, Q)).1 (L.foldl (vis a u) (S, Q)).2 ∧ ∃ r, (L.foldl (vis a u) (S, Q)).2 = Q ++ r := by
  intro L
  induction L with
  | nil => intro S Q b _; exact ⟨b, [], by simp⟩
  | cons c r ih =>
    intro S Q b hu
    rw [List.foldl_cons]
    have hb := vis_BI v b hu c
    obtain ⟨t, ht⟩ := vis_grow a u c (S, Q)
    have hu2 : u ∈ (vis a u (S, Q) c).2 := by rw [ht]; exact List.mem_append_left _ hu
    obtain ⟨h1, t2, ht2⟩ := ih _ _ hb hu2
    exact ⟨h1, t ++ t2, by rw [ht2, ht, List.append_assoc]⟩

theorem vis_few {a : List Int} {w h : Nat} (v : LawnV a w h) {S : List Int} {Q : List (Int × Int)} (b : BI a w h S Q) {u : Int × Int} (hu : u ∈ Q) (c : Int × Int) : negs w h (vis a u (S, Q) c).1 + (vis a u (S, Q) c).2.length ≤ negs w h S + Q.length := by
  unfold vis
  cases hq : (openP a c && decide (rd S (ix c) < 0)) with
  | false => exact Nat.le_refl _
  | true =>
    rw [Bool.and_eq_true, decide_eq_true_eq] at hq
    obtain ⟨ho, hneg⟩ := hq
    obtain ⟨hin, hx, hy⟩ := open_in v ho
    have hu1 := (b.qin u hu).2
    have hu2 := b.high (ix u)
    have hfew := b.few
    have hix : ix c < 100 := by unfold ix; omega
    have hval : IntKind.wrap .i64 (rd S (ix u) + 1) = rd S (ix u) + 1 := wrap64 (by omega)
    simp only [cond_true, hval]
    have hlt : negs w h (List.set S (ix c) (rd S (ix u) + 1)) < negs w h S := by
      unfold negs
      refine filter_lt _ _ _ ?_ ⟨c, hin, by simpa using hneg, ?_⟩
      · intro p _ hp
        rw [rd_set4] at hp
        split at hp
        · simp at hp; omega
        · exact hp
      · rw [rd_set4, if_pos ⟨rfl, by rw [b.len]; exact hix⟩]
        simp
        omega
    rw [List.length_append]
    simp only [List.length_cons, List.length_nil]
    omega

theorem visL_few {a : List Int} {w h : Nat} (v : LawnV a w h) {u : Int × Int} : ∀ (L : List (Int × Int)) (S : List Int) (Q : List (Int × Int)), BI a w h S Q → u ∈ Q → negs w h (L.foldl (vis a u) (S, Q)).1 + (L.foldl (vis a u) (S, Q)).2.length ≤ negs w h S + Q.length := by
  intro L
  induction L with
  | nil => intro S Q _ _; exact Nat.le_refl _
  | cons c r ih =>
    intro S Q b hu
    rw [List.foldl_cons]
    have hb := vis_BI v b hu c
    obtain ⟨t, ht⟩ := vis_grow a u c (S, Q)
    have hu2 : u ∈ (vis a u (S, Q) c).2 := by rw [ht]; exact List.mem_append_left _ hu
    exact Nat.le_trans (ih _ _ hb hu2) (vis_few v b hu c)

theorem getD_app {α : Type} (Q r : List α) (d : α) {i : Nat} (h : i < Q.length) : (Q ++ r).getD i d = Q.getD i d := by
  rw [List.getD_eq_getElem?_getD, List.getD_eq_getElem?_getD, List.getElem?_append_left h]

/-! ## The reference's search -/

theorem spec_openL (k : Nat) {a : List Int} (ha : LawnS a) {p : Int × Int} (h : hasB a p.1 p.2 = true) : spec_l01Open k a [p.1, p.2] = some (openP a p) := by
  unfold spec_l01Open openP openB
  rw [show spec_l01At k a [rd [p.1, p.2] 0, rd [p.1, p.2] 1] = some (kindV a p.1 p.2) from spec_at k ha h, h]
  simp only [Option.bind_some, Bool.true_and]
  cases (kindV a p.1 p.2 == 0) <;> rfl

theorem vis_has (a : List Int) (u : Int × Int) : ∀ (L : List (Int × Int)) (s : List Int × List (Int × Int)), (L.filter fun p => hasB a p.1 p.2).foldl (vis a u) s = L.foldl (vis a u) s := by
  intro L
  induction L with
  | nil => intro s; rfl
  | cons c r ih =>
    intro s
    rw [List.filter_cons]
    cases hh : hasB a c.1 c.2 with
    | true => simp only [if_true, List.foldl_cons]; exact ih _
    | false =>
      have hv : vis a u s c = s := by
        unfold vis openP openB
        rw [hh]
        rfl
      simp only [Bool.false_eq_true, if_false, List.foldl_cons, hv]
      exact ih _

/-! ## The program's search -/

/-- What the program keeps of steps: a number for each cell of the lawn. -/
def tabV (w h : Nat) (S : List Int) : List Int := (allC w h).map fun p => rd S (ix p)

theorem tabV_len (w h : Nat) (S : List Int) : (tabV w h S).length = h * w := by unfold tabV; rw [List.length_map, allC_length]

theorem allC_get (w : Nat) : ∀ (h : Nat) (x y : Nat), x < w → y < h → (allC w h)[y * w + x]? = some ((x : Int), (y : Int)) := by
  intro h
  induction h with
  | zero => intro x y _ hy; omega
  | succ h ih =>
    intro x y hx hy
    rw [allC_succ]
    by_cases e : y = h
    · subst e
      rw [List.getElem?_append_right (by rw [allC_length]; omega), allC_length]
      have : y * w + x - y * w = x := by omega
      rw [this]
      simp [rowC, hx]
    · rw [List.getElem?_append_left (by
        rw [allC_length]
        have := Nat.mul_le_mul_right w (show y + 1 ≤ h by omega)
        rw [Nat.succ_mul] at this
        omega)]
      exact ih x y hx (by omega)

theorem rd_some {l : List Int} {i : Nat} {n : Int} (h : l[i]? = some n) : rd l i = n := by
  unfold rd
  rw [List.getD_eq_getElem?_getD, h]
  rfl

theorem tabV_get {w h : Nat} (S : List Int) {p : Int × Int} (hp : p ∈ allC w h) : rd (tabV w h S) (p.2.toNat * w + p.1.toNat) = rd S (ix p) := by
  have hm := allC_mem.1 hp
  obtain ⟨x, y⟩ := p
  simp only at hm
  have hg := allC_get w h x.toNat y.toNat (by omega) (by omega)
  have e1 : ((x.toNat : Nat) : Int) = x := by omega
  have e2 : ((y.toNat : Nat) : Int) = y := by omega
  rw [e1, e2] at hg
  refine rd_some ?_
  unfold tabV
  rw [List.getElem?_map, hg]
  rfl

theorem tabV_set {w h : Nat} (hw : w ≤ 10) (hh : h ≤ 10) (S : List Int) (hS : S.length = 100) {c : Int × Int} (hc : c ∈ allC w h) (n : Int) : List.set (tabV w h S) (c.2.toNat * w + c.1.toNat) n = tabV w h (List.set S (ix c) n) := by
  have hm := allC_mem.1 hc
  apply List.ext_getElem?
  intro j
  rw [List.getElem?_set]
  unfold tabV
  rw [List.getElem?_map, List.getElem?_map, List.length_map, allC_length]
  have hcix : ix c < 100 := by unfold ix; omega
  have hcpos : c.2.toNat * w + c.1.toNat < h * w := by
    have := Nat.mul_le_mul_right w (show c.2.toNat + 1 ≤ h by omega)
    rw [Nat.succ_mul] at this
    omega
  rcases Nat.lt_or_ge j (h * w) with hj | hj
  · have hjl : j < (allC w h).length := by rw [allC_length]; exact hj
    have hmem := List.getElem_mem hjl
    have hmj := allC_mem.1 hmem
    rw [List.getElem?_eq_getElem hjl]
    simp only [Option.map_some]
    rw [rd_set4, hS]
    have hw0 : 0 < w := by omega
    have hg := allC_get w h (j % w) (j / w) (Nat.mod_lt _ hw0) (by rw [Nat.div_lt_iff_lt_mul hw0]; exact hj)
    have hdm : j / w * w + j % w = j := by rw [Nat.mul_comm]; exact Nat.div_add_mod j w
    rw [hdm, List.getElem?_eq_getElem hjl] at hg
    injection hg with hg
    have hmod := Nat.mod_lt j hw0
    by_cases e : c.2.toNat * w + c.1.toNat = j
    · rw [if_pos e, if_pos hcpos]
      have hgc := allC_get w h c.1.toNat c.2.toNat (by omega) (by omega)
      rw [e, List.getElem?_eq_getElem hjl] at hgc
      injection hgc with hgc
      rw [if_pos]
      refine ⟨?_, hcix⟩
      rw [hgc]
      unfold ix
      simp only [Int.toNat_natCast]
    · rw [if_neg e, if_neg]
      rintro ⟨h1, _⟩
      apply e
      unfold ix at h1
      have hx : (allC w h)[j].1 = c.1 := by omega
      have hy : (allC w h)[j].2 = c.2 := by omega
      rw [hg] at hx hy
      simp only at hx hy
      rw [← hx, ← hy, Int.toNat_natCast, Int.toNat_natCast]
      exact hdm
  · rw [List.getElem?_eq_none (by rw [allC_length]; exact hj), if_neg (by omega)]
    rfl

/-! ## Both -/

theorem visL_I {a : List Int} {w h : Nat} (v : LawnV a w h) {I : List Int → Prop} {u : Int × Int} (hI : ∀ (S : List Int) (Q : List (Int × Int)) (c : Int × Int), BI a w h S Q → u ∈ Q → c ∈ nbrs u.1 u.2 → I S → I (vis a u (S, Q) c).1) :
    ∀ (L : List (Int × Int)) (S : List Int) (Q : List (Int × Int)), (∀ c ∈ L, c ∈ nbrs u.1 u.2) → BI a w h S Q → u ∈ Q → I S → I (L.foldl (vis a u) (S, Q)).1 := by
  intro L
  induction L with
  | nil => intro S Q _ _ _ h; exact h
  | cons c r ih =>
    intro S Q hL b hu h
    have b2 := vis_BI v b hu c
    obtain ⟨x, hx⟩ := vis_grow a u c (S, Q)
    have hq : u ∈ (vis a u (S, Q) c).2 := by rw [hx]; exact List.mem_append_left _ hu
    exact ih _ _ (fun c' hc' => hL c' (List.mem_cons_of_mem _ hc')) b2 hq (hI S Q c b hu (hL c (by simp)) h)


theorem impl_openC (k : Nat) {a : List Int} (ha : LawnR a) (L : List (Int × Int)) (hL : L.length ≤ 1000) (hk : 10 < k) (hk2 : L.length < k) :
    impl_openCode k a (fl L) = some (cond (lawnB a) (cond (L.any fun p => !(hasB a p.1 p.2)) 2 (cond (L.any fun p => !(openP a p)) 4 0)) 1) := by
  unfold impl_openCode
  rw [impl_cells k ha L hL hk hk2]
  simp only [Option.bind_some]
  cases hv : lawnB a with
  | false => rfl
  | true =>
    cases (L.any fun p => !(hasB a p.1 p.2)) with
    | true => rfl
    | false =>
      simp only [cond_true, cond_false, beq_self_eq_true]
      rw [containsFunc_cells k L _ (fun p => !(openP a p)) (fun p _ => by
        show (impl_openCode_1 k [p.1, p.2] a).bind _ = _
        unfold impl_openCode_1
        rw [show impl_Lawn_open k a [rd [p.1, p.2] 0, rd [p.1, p.2] 1] = some (openP a p) from impl_openP k (lawnS_of' ha hv) p]
        rfl) (by omega) hk2]
      simp only [Option.bind_some]
      cases (L.any fun p => !(openP a p)) <;> rfl

theorem rd_rep (n : Nat) (v : Int) (j : Nat) : rd (List.replicate n v) j = v ∨ rd (List.replicate n v) j = 0 := by
  unfold rd
  rw [List.getD_eq_getElem?_getD, List.getElem?_replicate]
  split
  · exact .inl rfl
  · exact .inr rfl

/-- Where the search begins. -/
def begS (p : Int × Int) : List Int := List.set (List.replicate 100 (-1)) (ix p) 0

theorem begS_BI {a : List Int} {w h : Nat} (v : LawnV a w h) {p : Int × Int} (ho : openP a p = true) : BI a w h (begS p) [p] := by
  obtain ⟨hin, hx, hy⟩ := open_in v ho
  have hix : ix p < 100 := by unfold ix; omega
  have hv : ∀ j, rd (begS p) j = -1 ∨ rd (begS p) j = 0 := by
    intro j
    unfold begS
    rw [rd_set4]
    split
    · exact .inr rfl
    · exact rd_rep 100 (-1) j
  refine ⟨by simp [begS], fun j => ?_, fun j => ?_, fun q hq => ?_, ?_⟩
  · rcases hv j with e | e <;> omega
  · rcases hv j with e | e <;> rw [e] <;> simp
  · rw [List.mem_singleton] at hq
    subst hq
    refine ⟨ho, ?_⟩
    unfold begS
    rw [rd_set4, if_pos ⟨rfl, by simpa using hix⟩]
    omega
  · have h1 : negs w h (begS p) ≤ (allC w h).length := List.length_filter_le _ _
    have h2 := allC_small v
    show negs w h (begS p) + 1 ≤ 101
    omega

theorem tabV_rep {w h : Nat} (hw : w ≤ 10) (hh : h ≤ 10) : tabV w h (List.replicate 100 (-1)) = List.replicate (h * w) (-1) := by
  apply List.ext_getElem?
  intro j
  unfold tabV
  rw [List.getElem?_map, List.getElem?_replicate]
  split
  · rename_i hj
    have hjl : j < (allC w h).length := by rw [allC_length]; exact hj
    rw [List.getElem?_eq_getElem hjl]
    have hm := allC_mem.1 (List.getElem_mem hjl)
    simp only [Option.map_some]
    have : ix (allC w h)[j] < 100 := by unfold ix; omega
    unfold rd
    rw [List.getD_eq_getElem?_getD, List.getElem?_replicate, if_pos this]
    rfl
  · rename_i hj
    rw [List.getElem?_eq_none (by rw [allC_length]; omega)]
    rfl

theorem openF (k : Nat) {a : List Int} (ha : LawnS a) (p : Int × Int) : ((fun z2 => (impl_Lawn_open k a [(rd z2 0), (rd z2 1)]).bind fun b => some b) [p.1, p.2]) = some (openP a p) := by
  show (impl_Lawn_open k a [p.1, p.2]).bind _ = _
  rw [impl_openP k ha]
  rfl



theorem decT {p : Prop} {i : Decidable p} (h : p) : @decide p i = true := by simp [h]

/-! ## What steps tell -/

theorem ix_inj {a : List Int} {w h : Nat} (v : LawnV a w h) {p q : Int × Int} (hp : openP a p = true) (hq : openP a q = true) (e : ix p = ix q) : p = q := by
  obtain ⟨_, h1, h2⟩ := open_in v hp
  obtain ⟨_, h3, h4⟩ := open_in v hq
  unfold ix at e
  exact Prod.ext (by omega) (by omega)

theorem nbrs_sym {p q : Int × Int} (hp : (0 ≤ p.1 ∧ p.1 < 10) ∧ (0 ≤ p.2 ∧ p.2 < 10)) (hq : (0 ≤ q.1 ∧ q.1 < 10) ∧ (0 ≤ q.2 ∧ q.2 < 10)) (h : q ∈ nbrs p.1 p.2) : p ∈ nbrs q.1 q.2 := by
  obtain ⟨x, y⟩ := p
  obtain ⟨z, u⟩ := q
  simp only at hp hq h ⊢
  unfold nbrs at h ⊢
  simp (disch := omega) only [wrap8] at h ⊢
  simp only [List.mem_cons, Prod.mk.injEq, List.not_mem_nil, or_false] at h ⊢
  omega

structure Par (a : List Int) (p0 : Int × Int) (S : List Int) : Prop where
  zero : rd S (ix p0) = 0
  only : ∀ p, openP a p = true → rd S (ix p) = 0 → p = p0
  back : ∀ p, openP a p = true → 0 < rd S (ix p) → ∃ d ∈ nbrs p.1 p.2, openP a d = true ∧ rd S (ix d) = rd S (ix p) - 1

theorem par_beg {a : List Int} {w h : Nat} (v : LawnV a w h) {p0 : Int × Int} (ho : openP a p0 = true) : Par a p0 (begS p0) := by
  obtain ⟨_, hx, hy⟩ := open_in v ho
  have hix : ix p0 < 100 := by unfold ix; omega
  have hv : ∀ p, openP a p = true → rd (begS p0) (ix p) = if ix p0 = ix p then 0 else -1 := by
    intro p hp
    obtain ⟨_, h1, h2⟩ := open_in v hp
    have hip : ix p < 100 := by unfold ix; omega
    unfold begS
    rw [rd_set4]
    by_cases e : ix p0 = ix p
    · rw [if_pos e, if_pos ⟨e, by simpa using hix⟩]
    · rw [if_neg e, if_neg (fun h => e h.1)]
      unfold rd
      rw [List.getD_eq_getElem?_getD, List.getElem?_replicate, if_pos hip]
      rfl
  refine ⟨by rw [hv p0 ho, if_pos rfl], fun p hp h => ?_, fun p hp h => ?_⟩
  · rw [hv p hp] at h
    by_cases e : ix p0 = ix p
    · exact (ix_inj v ho hp e).symm
    · rw [if_neg e] at h; omega
  · rw [hv p hp] at h
    split at h <;> omega

theorem par_vis {a : List Int} {w h : Nat} (v : LawnV a w h) {p0 : Int × Int} (u : Int × Int) (S : List Int) (Q : List (Int × Int)) (c : Int × Int) (b : BI a w h S Q) (hu : u ∈ Q) (hc : c ∈ nbrs u.1 u.2) (hP : Par a p0 S) : Par a p0 (vis a u (S, Q) c).1 := by
  unfold vis
  cases hq : (openP a c && decide (rd S (ix c) < 0)) with
  | false => exact hP
  | true =>
    rw [Bool.and_eq_true, decide_eq_true_eq] at hq
    obtain ⟨ho, hneg⟩ := hq
    obtain ⟨hou, hu1⟩ := b.qin u hu
    obtain ⟨_, hux, huy⟩ := open_in v hou
    obtain ⟨_, hcx, hcy⟩ := open_in v ho
    have hu2 := b.high (ix u)
    have hfew := b.few
    have hix : ix c < S.length := by rw [b.len]; unfold ix; omega
    have hval : IntKind.wrap .i64 (rd S (ix u) + 1) = rd S (ix u) + 1 := wrap64 (by omega)
    simp only [cond_true, hval]
    have hz := hP.zero
    refine ⟨?_, fun p hp h => ?_, fun p hp h => ?_⟩
    · rw [rd_set4, if_neg (fun e => by rw [e.1] at hneg; omega)]
      exact hz
    · rw [rd_set4] at h
      split at h
      · omega
      · exact hP.only p hp h
    · by_cases e : ix c = ix p
      · have := ix_inj v ho hp e
        subst this
        refine ⟨u, nbrs_sym ⟨hux, huy⟩ ⟨hcx, hcy⟩ hc, hou, ?_⟩
        rw [rd_set4, rd_set4, if_neg (fun e => by rw [e.1] at hneg; omega), if_pos ⟨rfl, hix⟩]
        omega
      · rw [rd_set4, if_neg (fun x => e x.1)] at h
        obtain ⟨d, d1, d2, d3⟩ := hP.back p hp h
        refine ⟨d, d1, d2, ?_⟩
        rw [rd_set4, rd_set4, if_neg (fun x => by rw [x.1] at hneg; omega), if_neg (fun x => e x.1)]
        exact d3

/-! ## One step home -/

def goodH (a S : List Int) (u d : Int × Int) : Bool := openP a d && (rd S (ix d) == rd S (ix u) - 1)
/-- Which of the cells beside u is the next one. -/
def numH (a S : List Int) (u : Int × Int) : Nat := (findI (goodH a S u) (nbrs u.1 u.2) 0).toNat
def stepH (a S : List Int) (u : Int × Int) : Int × Int := (nbrs u.1 u.2).getD (numH a S u) (0, 0)

theorem step_spec {a S : List Int} {p0 u : Int × Int} (hP : Par a p0 S) (ho : openP a u = true) (h : 0 < rd S (ix u)) :
    numH a S u < 4 ∧ goodH a S u (stepH a S u) = true ∧ ∀ t, t < numH a S u → goodH a S u ((nbrs u.1 u.2).getD t (0, 0)) = false := by
  obtain ⟨d, d1, d2, d3⟩ := hP.back u ho h
  rcases findI_spec (goodH a S u) (0, 0) (nbrs u.1 u.2) 0 with ⟨_, hn⟩ | ⟨j, j1, j2, j3, j4⟩
  · have := hn d d1
    unfold goodH at this
    rw [d2, d3] at this
    simp at this
  · have e : numH a S u = j := by unfold numH; rw [j2]; omega
    unfold stepH
    rw [e]
    exact ⟨j1, j3, j4⟩

def letB (j : Nat) : ByteArray := (ByteArray.mk #[78, 87, 69, 83]).extract j (j + 1)
theorem letB_size : ∀ j, j < 4 → (letB j).size = 1 := by decide

theorem next_at (k : Nat) (u : Int × Int) : ∀ j, j < 4 → spec_l02Next k [u.1, u.2] ((j : Nat) : Int) = some [((nbrs u.1 u.2).getD j (0, 0)).1, ((nbrs u.1 u.2).getD j (0, 0)).2] := by
  intro j hj
  match j, hj with
  | 0, _ => rfl
  | 1, _ => rfl
  | 2, _ => rfl
  | 3, _ => rfl

theorem spec_freeH (k : Nat) {a : List Int} (ha : LawnS a) {p : Int × Int} (h1 : -128 ≤ p.1 ∧ p.1 < 128) (h2 : -128 ≤ p.2 ∧ p.2 < 128) : spec_l02Free k a [p.1, p.2] = some (openP a p) := by
  unfold spec_l02Free openP openB
  have e : spec_l01Is k a [rd [p.1, p.2] 0, rd [p.1, p.2] 1] = some (hasB a p.1 p.2) := spec_is k ha.toLawnR h1 h2
  rw [e]
  cases h : hasB a p.1 p.2 with
  | false => rfl
  | true =>
    simp only [Option.bind_some, cond_true, Bool.true_and]
    unfold spec_l01Open
    have e2 : spec_l01At k a [rd [rd [p.1, p.2] 0, rd [p.1, p.2] 1] 0, rd [rd [p.1, p.2] 0, rd [p.1, p.2] 1] 1] = some (kindV a p.1 p.2) := spec_at k ha h
    rw [e2]
    simp only [Option.bind_some]
    cases (kindV a p.1 p.2 == 0) <;> rfl

/-! ## The way home -/

def posH (a S : List Int) (p : Int × Int) : Nat → Int × Int
  | 0 => p
  | i + 1 => stepH a S (posH a S p i)
def outH (a S : List Int) (p : Int × Int) : Nat → ByteArray
  | 0 => ByteArray.mk #[]
  | i + 1 => outH a S p i ++ letB (numH a S (posH a S p i))
def cellsH (a S : List Int) (p : Int × Int) (i : Nat) : List (Int × Int) := (List.range (i + 1)).map (posH a S p)

theorem cellsH_succ (a S : List Int) (p : Int × Int) (i : Nat) : cellsH a S p (i + 1) = cellsH a S p i ++ [posH a S p (i + 1)] := by
  unfold cellsH
  rw [List.range_succ, List.map_append]
  rfl
theorem cellsH_len (a S : List Int) (p : Int × Int) (i : Nat) : (cellsH a S p i).length = i + 1 := by simp [cellsH]
theorem cellsH_get (a S : List Int) (p : Int × Int) {i j : Nat} (h : j < i + 1) : (cellsH a S p i).getD j (0, 0) = posH a S p j := by
  unfold cellsH
  rw [List.getD_eq_getElem?_getD, List.getElem?_map, List.getElem?_range h]
  rfl

theorem posH_ok {a S : List Int} {p0 p : Int × Int} (hP : Par a p0 S) (ho : openP a p = true) {n : Nat} (hn : rd S (ix p) = (n : Int)) : ∀ i, i ≤ n → openP a (posH a S p i) = true ∧ rd S (ix (posH a S p i)) = ((n - i : Nat) : Int) := by
  intro i
  induction i with
  | zero => intro _; exact ⟨ho, hn⟩
  | succ i ih =>
    intro hi
    obtain ⟨h1, h2⟩ := ih (by omega)
    obtain ⟨_, n2, _⟩ := step_spec hP h1 (by rw [h2]; omega)
    unfold goodH at n2
    rw [Bool.and_eq_true, beq_iff_eq, h2] at n2
    exact ⟨n2.1, by show rd S (ix (stepH a S (posH a S p i))) = _; rw [n2.2]; omega⟩

theorem outH_size {a S : List Int} {p0 p : Int × Int} (hP : Par a p0 S) (ho : openP a p = true) {n : Nat} (hn : rd S (ix p) = (n : Int)) : ∀ i, i ≤ n → (outH a S p i).size = i := by
  intro i
  induction i with
  | zero => intro _; rfl
  | succ i ih =>
    intro hi
    obtain ⟨h1, h2⟩ := posH_ok hP ho hn i (by omega)
    obtain ⟨n1, _, _⟩ := step_spec hP h1 (by rw [h2]; omega)
    show (outH a S p i ++ letB _).size = _
    rw [ByteArray.size_append, ih (by omega), letB_size _ n1]

theorem eqL2 (p q : Int × Int) : eqL [p.1, p.2] [q.1, q.2] = (p == q) := by
  obtain ⟨x, y⟩ := p
  obtain ⟨z, u⟩ := q
  simp only [eqL, Bool.and_true]
  rfl



theorem copy_step {a : List Int} {n i : Nat} (h : a.length = n * 2) (hi : i < n) :
    setWin (a.take (i * 2) ++ List.replicate ((n - i) * 2) 0) (i * 2) 2 [rd a (i * 2), rd a (i * 2 + 1)] = a.take ((i + 1) * 2) ++ List.replicate ((n - (i + 1)) * 2) 0 := by
  have hl : (a.take (i * 2)).length = i * 2 := by rw [List.length_take]; omega
  unfold setWin
  rw [List.take_append_of_le_length (by omega), List.take_of_length_le (by omega)]
  have e1 : List.drop (i * 2 + 2) (a.take (i * 2) ++ List.replicate ((n - i) * 2) 0) = List.replicate ((n - (i + 1)) * 2) 0 := by
    rw [List.drop_append, List.drop_eq_nil_of_le (by omega), List.nil_append, hl, List.drop_replicate]
    congr 1
    omega
  rw [e1]
  have e2 : a.take ((i + 1) * 2) = a.take (i * 2) ++ [rd a (i * 2), rd a (i * 2 + 1)] := by
    have : (i + 1) * 2 = i * 2 + 2 := by omega
    rw [this, List.take_add]
    congr 1
    rw [drop_rd (by omega), drop_rd (by omega)]
    rfl
  rw [e2, List.append_assoc]


theorem impl_open (k : Nat) {a : List Int} (ha : LawnS a) (x y : Int) : impl_Lawn_open k a [x, y] = some (openB a x y) := by
  unfold impl_Lawn_open openB
  have e : ∀ v, impl_Lawn_is k a [rd [x, y] 0, rd [x, y] 1] v = some (hasB a x y && (kindV a x y == v)) := fun v => impl_is k ha x y v
  rw [e, e]
  cases hasB a x y <;> cases (kindV a x y == 0) <;> rfl



theorem sq_small (d : Int) (h : -9 ≤ d ∧ d ≤ 9) : 0 ≤ d * d ∧ d * d ≤ 81 ∧ (d * d ≤ 1 ↔ -1 ≤ d ∧ d ≤ 1) ∧ (d * d = 0 ↔ d = 0) := by
  have : d = -9 ∨ d = -8 ∨ d = -7 ∨ d = -6 ∨ d = -5 ∨ d = -4 ∨ d = -3 ∨ d = -2 ∨ d = -1 ∨ d = 0 ∨ d = 1 ∨ d = 2 ∨ d = 3 ∨ d = 4 ∨ d = 5 ∨ d = 6 ∨ d = 7 ∨ d = 8 ∨ d = 9 := by omega
  rcases this with rfl | rfl | rfl | rfl | rfl | rfl | rfl | rfl | rfl | rfl | rfl | rfl | rfl | rfl | rfl | rfl | rfl | rfl | rfl <;> decide

def nearB (px py x y : Int) : Bool := decide ((px - x) * (px - x) + (py - y) * (py - y) ≤ 1)

theorem eqL_two (a b c d : Int) : eqL [a, b] [c, d] = ((a == c) && (b == d)) := by
  simp [eqL]

theorem near_eq {px py x y : Int} (h1 : 0 ≤ px ∧ px < 10) (h2 : 0 ≤ py ∧ py < 10) (h3 : 0 ≤ x ∧ x < 10) (h4 : 0 ≤ y ∧ y < 10) :
    (eqL [x, y] [px, py] || (eqL [px, py] [x, y - 1] || (eqL [px, py] [x - 1, y] || (eqL [px, py] [x + 1, y] || eqL [px, py] [x, y + 1])))) = nearB px py x y := by
  have s1 := sq_small (px - x) (by omega)
  have s2 := sq_small (py - y) (by omega)
  rw [eqL_two, eqL_two, eqL_two, eqL_two, eqL_two]
  unfold nearB
  rw [Bool.eq_iff_iff]
  simp only [Bool.or_eq_true, Bool.and_eq_true, beq_iff_eq, decide_eq_true_eq]
  constructor
  · intro h
    have hx : px - x = 0 ∨ py - y = 0 := by omega
    rcases hx with hx | hx
    · have : (px - x) * (px - x) = 0 := s1.2.2.2.2 hx
      have : (py - y) * (py - y) ≤ 1 := s2.2.2.1.2 (by omega)
      omega
    · have : (py - y) * (py - y) = 0 := s2.2.2.2.2 hx
      have : (px - x) * (px - x) ≤ 1 := s1.2.2.1.2 (by omega)
      omega
  · intro h
    have a1 := s1.2.2.1.1 (by omega)
    have a2 := s2.2.2.1.1 (by omega)
    have a3 : (px - x) * (px - x) = 0 ∨ (py - y) * (py - y) = 0 := by omega
    rcases a3 with a3 | a3
    · have := s1.2.2.2.1 a3; omega
    · have := s2.2.2.2.1 a3; omega



def cx (l : List Int) (i : Nat) : Int := rd l (i * 2)
def cy (l : List Int) (i : Nat) : Int := rd l (i * 2 + 1)

def stepB (a l : List Int) (i : Nat) : Bool := openB a (cx l i) (cy l i) && (decide (i = 0) || nearB (cx l (i - 1)) (cy l (i - 1)) (cx l i) (cy l i))

def walkB (a l : List Int) : Nat → Nat → Bool
  | _, 0 => true
  | i, m + 1 => stepB a l i && walkB a l (i + 1) m

structure CellsR (l : List Int) (n : Nat) : Prop where
  len : l.length = n * 2
  small : n ≤ 1048576
  rng : ∀ j, j < l.length → -128 ≤ rd l j ∧ rd l j < 128

theorem open_range {a : List Int} (ha : LawnS a) {x y : Int} (h : openB a x y = true) : (0 ≤ x ∧ x < 10) ∧ (0 ≤ y ∧ y < 10) := by
  unfold openB at h
  rw [Bool.and_eq_true] at h
  obtain ⟨h1, h2, h3, h4⟩ := hasB_true h.1
  have := ha.w10
  have := ha.h10
  omega


abbrev Cs := List (Int × Int)

structure RowsR (Ls : List Cs) : Prop where
  cnt : Ls.length ≤ 1048576
  len : ∀ L ∈ Ls, L.length ≤ 1048576
  rng : ∀ L ∈ Ls, ∀ p ∈ L, (-128 ≤ p.1 ∧ p.1 < 128) ∧ (-128 ≤ p.2 ∧ p.2 < 128)

theorem rdr_map (Ls : List Cs) (i : Nat) : rdr (Ls.map fl) i = fl (Ls.getD i []) := by
  unfold rdr
  rw [List.getD_eq_getElem?_getD, List.getD_eq_getElem?_getD, List.getElem?_map]
  cases Ls[i]? <;> rfl

theorem fl_of : ∀ (n : Nat) (l : List Int), l.length = n * 2 → ∃ L : Cs, l = fl L ∧ L.length = n := by
  intro n
  induction n with
  | zero => intro l h; exact ⟨[], List.eq_nil_of_length_eq_zero (by omega), rfl⟩
  | succ n ih =>
    intro l h
    cases l with
    | nil => simp at h
    | cons x l =>
      cases l with
      | nil => simp at h; omega
      | cons y r =>
        obtain ⟨L, rfl, h2⟩ := ih r (by simp at h; omega)
        exact ⟨(x, y) :: L, rfl, by simp [h2]⟩

theorem rd_mem_fl : ∀ (L : Cs) (p : Int × Int), p ∈ L → ∃ j, j + 1 < (fl L).length ∧ rd (fl L) j = p.1 ∧ rd (fl L) (j + 1) = p.2 := by
  intro L
  induction L with
  | nil => intro p h; cases h
  | cons q r ih =>
    intro p h
    obtain ⟨x, y⟩ := q
    rcases List.mem_cons.1 h with rfl | h
    · exact ⟨0, by simp [fl], rfl, rfl⟩
    · obtain ⟨j, h1, h2, h3⟩ := ih p h
      exact ⟨j + 2, by simp only [fl, List.length_cons]; omega, h2, h3⟩

theorem cellsR_fl {L : Cs} (h1 : L.length ≤ 1048576) (h2 : ∀ p ∈ L, (-128 ≤ p.1 ∧ p.1 < 128) ∧ (-128 ≤ p.2 ∧ p.2 < 128)) : CellsR (fl L) L.length := by
  refine ⟨fl_length L, h1, fun j hj => ?_⟩
  rw [fl_length] at hj
  have hm := getD_mem L (0, 0) (i := j / 2) (by omega)
  obtain ⟨q1, q2⟩ := h2 _ hm
  rcases Nat.mod_two_eq_zero_or_one j with e | e
  · have : j = j / 2 * 2 := by omega
    rw [this, fl_x]
    exact q1
  · have : j = j / 2 * 2 + 1 := by omega
    rw [this, fl_y]
    exact q2

theorem RowsR.row {Ls : List Cs} (h : RowsR Ls) {i : Nat} (hi : i < Ls.length) : CellsR (fl (Ls.getD i [])) (Ls.getD i []).length :=
  cellsR_fl (h.len _ (getD_mem _ _ hi)) (h.rng _ (getD_mem _ _ hi))

theorem wrap64_succ {i : Nat} (h : i < 4294967296) : IntKind.wrap .i64 ((i : Int) + 1) = ((i + 1 : Nat) : Int) := by rw [wrap64 (by omega)]; omega

theorem set_take_rep {α : Type} (L : List α) (z d : α) {i : Nat} (hi : i < L.length) : List.set (L.take i ++ List.replicate (L.length - i) z) i (L.getD i d) = L.take (i + 1) ++ List.replicate (L.length - (i + 1)) z := by
  rw [List.set_append_right _ _ (by rw [List.length_take]; omega), List.length_take, Nat.min_eq_left (by omega), Nat.sub_self]
  have : L.length - i = (L.length - (i + 1)) + 1 := by omega
  rw [this, List.replicate_succ, List.set_cons_zero, take_getD L d hi]
  simp


/-! ## The least charge of a home -/

def mostS (S : List Int) (m : Int) (p : Int × Int) : Int := maxI m (rd S (ix p))
def mostL (S : List Int) (L : List (Int × Int)) : Int := L.foldl (mostS S) 0
def wholeL (S : List Int) (L : List (Int × Int)) : Bool := L.all fun p => decide (rd S (ix p) ≥ 0)

theorem mostL_snoc (S : List Int) (L : List (Int × Int)) (p : Int × Int) : mostL S (L ++ [p]) = maxI (mostL S L) (rd S (ix p)) := by simp [mostL, mostS]
theorem wholeL_snoc (S : List Int) (L : List (Int × Int)) (p : Int × Int) : wholeL S (L ++ [p]) = (wholeL S L && decide (rd S (ix p) ≥ 0)) := by simp [wholeL]

theorem most_range {S : List Int} (hS : ∀ j, -1 ≤ rd S j ∧ rd S j ≤ 1000) : ∀ (L : List (Int × Int)) (m : Int), 0 ≤ m ∧ m ≤ 1000 → 0 ≤ L.foldl (mostS S) m ∧ L.foldl (mostS S) m ≤ 1000 := by
  intro L
  induction L with
  | nil => intro m h; exact h
  | cons p r ih =>
    intro m h
    refine ih _ ?_
    have := hS (ix p)
    unfold mostS maxI
    split <;> omega

def bestR (s : Int × (Int × Int)) : List Int × Int × Int := cond (decide (s.1 < 0)) ([0, 0], 0, 6) ([s.2.1, s.2.2], s.1, 0)

end Go.Proofs.Ytkdpdmfkomnalaa.Tt
