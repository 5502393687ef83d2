/- Plain laws, joined: Y1 Y2 Y3 Y4a Y4 Y5 Y5b Y6 Y7 Y9a Y44 Y9 Y10 Y10b Y13 Y14n Y35b. -/
import Derived.Test.YtkdpdmfkomnalaaSh
import Derived.KernelRfl
set_option linter.unusedVariables false
set_option linter.unusedSimpArgs false
namespace Go.Proofs.Ytkdpdmfkomnalaa.Tt
open Go.Ev Go


set_option maxRecDepth 100000

theorem rds_win (a : List Int) (off : Nat) : rds (win a off 10) 0 0 10 = rds a off 0 10 := by
  have h : ∀ (n j : Nat), j + n ≤ 10 → rds (win a off 10) 0 j n = rds a off j n := by
    intro n
    induction n with
    | zero => intro j _; rfl
    | succ n ih =>
      intro j hj
      simp only [rds]
      rw [ih (j + 1) (by omega), rd_win _ _ _ _ (by omega), Nat.zero_add]
  exact h 10 0 (by omega)

theorem rds_append (a : List Int) (off : Nat) : ∀ (n m j : Nat), rds a off j n ++ rds a off (j + n) m = rds a off j (n + m) := by
  intro n
  induction n with
  | zero => intro m j; simp [rds]
  | succ n ih =>
    intro m j
    have e : n + 1 + m = (n + m) + 1 := by omega
    rw [e]
    simp only [rds, List.cons_append]
    rw [← ih m (j + 1)]
    have : j + 1 + n = j + (n + 1) := by omega
    rw [this]

theorem rds_shift (a : List Int) : ∀ (n off j : Nat), rds a off j n = rds a 0 (off + j) n := by
  intro n
  induction n with
  | zero => intro off j; rfl
  | succ n ih =>
    intro off j
    simp only [rds, Nat.zero_add]
    rw [ih off (j + 1), Nat.add_assoc]


theorem wrap64 {x : Int} (h : -9223372036854775808 ≤ x ∧ x < 9223372036854775808) : IntKind.wrap .i64 x = x := by
  simp only [IntKind.wrap, IntKind.bits, IntKind.signed]
  simp
  omega

theorem wrap8 {x : Int} (h : -128 ≤ x ∧ x < 128) : IntKind.wrap .i8 x = x := by
  simp only [IntKind.wrap, IntKind.bits, IntKind.signed]
  simp
  omega

theorem cnt_two {a : List Int} {n : Nat} (h : a.length = n * 2) : cnt 2 a = n := by unfold cnt; omega

theorem bT {p : Prop} [Decidable p] (h : p) : decide p = true := decide_eq_true h
theorem bF {p : Prop} [Decidable p] (h : ¬ p) : decide p = false := decide_eq_false h

theorem drop_rd {a : List Int} {i : Nat} (h : i < a.length) : a.drop i = rd a i :: a.drop (i + 1) := by
  rw [List.drop_eq_getElem_cons h]
  simp [rd, h]



/-- A lawn's numbers are those of its kinds. -/
structure LawnR (a : List Int) : Prop where
  len : a.length = 102
  wide : -128 ≤ rd a 0 ∧ rd a 0 < 128
  high : -128 ≤ rd a 1 ∧ rd a 1 < 128
  cell : ∀ j, j < 100 → 0 ≤ rd a (2 + j) ∧ rd a (2 + j) < 256

def sideB (n : Int) : Bool := decide (1 ≤ n) && decide (n ≤ 10)

def cellB (a : List Int) (y x : Nat) : Bool := decide (rd a (2 + y * 10 + x) ≤ 3) && (decide (rd a (2 + y * 10 + x) = 0) || (decide ((x : Int) < rd a 0) && decide ((y : Int) < rd a 1)))

def rowB (a : List Int) (y : Nat) : Nat → Nat → Bool
  | _, 0 => true
  | x, m + 1 => cellB a y x && rowB a y (x + 1) m

def rowsB (a : List Int) : Nat → Nat → Bool
  | _, 0 => true
  | y, m + 1 => rowB a y 0 10 && rowsB a (y + 1) m

def lawnB (a : List Int) : Bool := sideB (rd a 0) && (sideB (rd a 1) && rowsB a 0 10)

theorem impl_side (k : Nat) (n : Int) : impl_within k n 1 10 = some (sideB n) := by
  unfold impl_within sideB
  by_cases h : 1 ≤ n
  · rw [bT h]; rfl
  · rw [bF h]; rfl


theorem eqCell_self (k : Nat) (a : List Int) : laws_eqWeather k a a = some true := by
  unfold laws_eqWeather
  simp

theorem eqCellS_loop {R : Type} (k : Nat) (K1 : Bool → Option R) (K2 : Option R) (a : List Int) (n : Nat) (h : a.length = n * 2) (hn : n ≤ 1048576) : ∀ (m i f : Nat), i + m = n → m < f →
    loopF (fun (rec : (List Int) × (List Int) × Int → Option R) (p : (List Int) × (List Int) × Int) => laws_eqWeatherS_s0 k K1 K2 (fun h1 h2 h3 => rec (h1, h2, h3)) p.1 p.2.1 p.2.2) f (a, a, (i : Int)) = K2 := by
  intro m
  induction m with
  | zero =>
    intro i f hi hf
    obtain ⟨f, rfl⟩ : ∃ g, f = g + 1 := ⟨f - 1, by omega⟩
    rw [loopF]
    dsimp only
    unfold laws_eqWeatherS_s0
    rw [cnt_two h, bF (by omega)]
    rfl
  | succ m ih =>
    intro i f hi hf
    obtain ⟨f, rfl⟩ : ∃ g, f = g + 1 := ⟨f - 1, by omega⟩
    rw [loopF]
    dsimp only
    unfold laws_eqWeatherS_s0
    rw [cnt_two h, bT (p := (i : Int) < (n : Int)) (by omega), bT (p := (0 : Int) ≤ (i : Int)) (by omega), eqCell_self]
    have e3 : IntKind.wrap .i64 ((i : Int) + 1) = ((i + 1 : Nat) : Int) := by rw [wrap64 (by omega)]; omega
    simp only [cond_true, Bool.and_true, Option.bind_some, Bool.not_true, cond_false]
    rw [e3]
    exact ih (i + 1) f (by omega) (by omega)

theorem eqCellS_self (k : Nat) (a : List Int) (n : Nat) (h : a.length = n * 2) (hn : n ≤ 1048576) (hk : n < k) : laws_eqWeatherS k a a = some true := by
  unfold laws_eqWeatherS laws_eqWeatherS_l0
  simp only [bne_self_eq_false, cond_false]
  exact eqCellS_loop k (fun y1 => some y1) (some true) a n h hn n 0 k (by omega) hk



theorem copy_step {a : List Int} {n i : Nat} (h : a.length = n * 2) (hi : i < n) :
    setWin (a.take (i * 2) ++ List.replicate ((n - i) * 2) 0) (i * 2) 2 [rd a (i * 2), rd a (i * 2 + 1)] = a.take ((i + 1) * 2) ++ List.replicate ((n - (i + 1)) * 2) 0 := by
  have hl : (a.take (i * 2)).length = i * 2 := by rw [List.length_take]; omega
  unfold setWin
  rw [List.take_append_of_le_length (by omega), List.take_of_length_le (by omega)]
  have e1 : List.drop (i * 2 + 2) (a.take (i * 2) ++ List.replicate ((n - i) * 2) 0) = List.replicate ((n - (i + 1)) * 2) 0 := by
    rw [List.drop_append, List.drop_eq_nil_of_le (by omega), List.nil_append, hl, List.drop_replicate]
    congr 1
    omega
  rw [e1]
  have e2 : a.take ((i + 1) * 2) = a.take (i * 2) ++ [rd a (i * 2), rd a (i * 2 + 1)] := by
    have : (i + 1) * 2 = i * 2 + 2 := by omega
    rw [this, List.take_add]
    congr 1
    rw [drop_rd (by omega), drop_rd (by omega)]
    rfl
  rw [e2, List.append_assoc]

theorem toCellS_loop {R : Type} (k : Nat) (K1 : List Int → Option R) (a : List Int) (n : Nat) (h : a.length = n * 2) (hn : n ≤ 1048576) : ∀ (m i : Nat) (f : Nat), i + m = n → m < f →
    loopF (fun (rec : (List Int) × Int × (List Int) → Option R) (p : (List Int) × Int × (List Int)) => laws_toWeatherS_s0 k K1 (fun h1 h2 h3 => rec (h1, h2, h3)) p.1 p.2.1 p.2.2) f (a, (i : Int), a.take (i * 2) ++ List.replicate ((n - i) * 2) 0) = K1 a := by
  intro m
  induction m with
  | zero =>
    intro i f hi hf
    obtain ⟨f, rfl⟩ : ∃ g, f = g + 1 := ⟨f - 1, by omega⟩
    have : i = n := by omega
    subst this
    rw [loopF]
    dsimp only
    unfold laws_toWeatherS_s0
    rw [cnt_two h, bF (by omega)]
    simp only [cond_false]
    rw [List.take_of_length_le (by omega)]
    simp
  | succ m ih =>
    intro i f hi hf
    obtain ⟨f, rfl⟩ : ∃ g, f = g + 1 := ⟨f - 1, by omega⟩
    rw [loopF]
    dsimp only
    unfold laws_toWeatherS_s0
    have hl2 : (a.take (i * 2) ++ List.replicate ((n - i) * 2) 0).length = n * 2 := by simp; omega
    rw [cnt_two h, cnt_two hl2, bT (by omega), bT (by omega)]
    simp only [cond_true, Bool.and_true, laws_toWeather, Option.bind_some]
    have e1 : (i : Int).toNat = i := by omega
    have e3 : IntKind.wrap .i64 ((i : Int) + 1) = ((i + 1 : Nat) : Int) := by rw [wrap64 (by omega)]; omega
    rw [e1, e3]
    have e2 : [rd [rd a (i * 2), rd a (i * 2 + 1)] 0, rd [rd a (i * 2), rd a (i * 2 + 1)] 1] = [rd a (i * 2), rd a (i * 2 + 1)] := rfl
    rw [e2, copy_step h (by omega)]
    exact ih (i + 1) f (by omega) (by omega)

theorem toCellS_id (k : Nat) (a : List Int) (n : Nat) (h : a.length = n * 2) (hn : n ≤ 1048576) (hk : n < k) : laws_toWeatherS k a = some a := by
  unfold laws_toWeatherS laws_toWeatherS_l0
  rw [cnt_two h, bT (by omega), bT (by omega)]
  simp only [Bool.true_and, beq_self_eq_true, cond_true]
  have := toCellS_loop k (fun y1 => some y1) a n h hn n 0 k (by omega) hk
  simpa using this


def hasB (a : List Int) (x y : Int) : Bool := (decide (0 ≤ x) && decide (x < rd a 0)) && (decide (0 ≤ y) && decide (y < rd a 1))
def kindV (a : List Int) (x y : Int) : Int := rd a (2 + y.toNat * 10 + x.toNat)
def openB (a : List Int) (x y : Int) : Bool := hasB a x y && ((kindV a x y == 0) || (kindV a x y == 3))

/-- A lawn whose sides are at most ten. -/
structure LawnS (a : List Int) : Prop extends LawnR a where
  w10 : rd a 0 ≤ 10
  h10 : rd a 1 ≤ 10

theorem hasB_true {a : List Int} {x y : Int} (h : hasB a x y = true) : 0 ≤ x ∧ x < rd a 0 ∧ 0 ≤ y ∧ y < rd a 1 := by
  unfold hasB at h
  simp only [Bool.and_eq_true, decide_eq_true_eq] at h
  omega

theorem kind_range {a : List Int} (ha : LawnS a) {x y : Int} (h : hasB a x y = true) : 0 ≤ kindV a x y ∧ kindV a x y < 256 := by
  obtain ⟨h1, h2, h3, h4⟩ := hasB_true h
  have := ha.w10
  have := ha.h10
  have hc := ha.cell (y.toNat * 10 + x.toNat) (by omega)
  unfold kindV
  have e : 2 + y.toNat * 10 + x.toNat = 2 + (y.toNat * 10 + x.toNat) := by omega
  rw [e]
  exact hc



theorem sq_small (d : Int) (h : -9 ≤ d ∧ d ≤ 9) : 0 ≤ d * d ∧ d * d ≤ 81 ∧ (d * d ≤ 1 ↔ -1 ≤ d ∧ d ≤ 1) ∧ (d * d = 0 ↔ d = 0) := by
  have : d = -9 ∨ d = -8 ∨ d = -7 ∨ d = -6 ∨ d = -5 ∨ d = -4 ∨ d = -3 ∨ d = -2 ∨ d = -1 ∨ d = 0 ∨ d = 1 ∨ d = 2 ∨ d = 3 ∨ d = 4 ∨ d = 5 ∨ d = 6 ∨ d = 7 ∨ d = 8 ∨ d = 9 := by omega
  rcases this with rfl | rfl | rfl | rfl | rfl | rfl | rfl | rfl | rfl | rfl | rfl | rfl | rfl | rfl | rfl | rfl | rfl | rfl | rfl <;> decide

def nearB (px py x y : Int) : Bool := decide ((px - x) * (px - x) + (py - y) * (py - y) ≤ 1)

theorem eqL_two (a b c d : Int) : eqL [a, b] [c, d] = ((a == c) && (b == d)) := by
  simp [eqL]

theorem near_eq {px py x y : Int} (h1 : 0 ≤ px ∧ px < 10) (h2 : 0 ≤ py ∧ py < 10) (h3 : 0 ≤ x ∧ x < 10) (h4 : 0 ≤ y ∧ y < 10) :
    (eqL [x, y] [px, py] || (eqL [px, py] [x, y - 1] || (eqL [px, py] [x - 1, y] || (eqL [px, py] [x + 1, y] || eqL [px, py] [x, y + 1])))) = nearB px py x y := by
  have s1 := sq_small (px - x) (by omega)
  have s2 := sq_small (py - y) (by omega)
  rw [eqL_two, eqL_two, eqL_two, eqL_two, eqL_two]
  unfold nearB
  rw [Bool.eq_iff_iff]
  simp only [Bool.or_eq_true, Bool.and_eq_true, beq_iff_eq, decide_eq_true_eq]
  constructor
  · intro h
    have hx : px - x = 0 ∨ py - y = 0 := by omega
    rcases hx with hx | hx
    · have : (px - x) * (px - x) = 0 := s1.2.2.2.2 hx
      have : (py - y) * (py - y) ≤ 1 := s2.2.2.1.2 (by omega)
      omega
    · have : (py - y) * (py - y) = 0 := s2.2.2.2.2 hx
      have : (px - x) * (px - x) ≤ 1 := s1.2.2.1.2 (by omega)
      omega
  · intro h
    have a1 := s1.2.2.1.1 (by omega)
    have a2 := s2.2.2.1.1 (by omega)
    have a3 : (px - x) * (px - x) = 0 ∨ (py - y) * (py - y) = 0 := by omega
    rcases a3 with a3 | a3
    · have := s1.2.2.2.1 a3; omega
    · have := s2.2.2.2.1 a3; omega



def cx (l : List Int) (i : Nat) : Int := rd l (i * 2)
def cy (l : List Int) (i : Nat) : Int := rd l (i * 2 + 1)

def stepB (a l : List Int) (i : Nat) : Bool := openB a (cx l i) (cy l i) && (decide (i = 0) || nearB (cx l (i - 1)) (cy l (i - 1)) (cx l i) (cy l i))

def walkB (a l : List Int) : Nat → Nat → Bool
  | _, 0 => true
  | i, m + 1 => stepB a l i && walkB a l (i + 1) m

structure CellsR (l : List Int) (n : Nat) : Prop where
  len : l.length = n * 2
  small : n ≤ 1048576
  rng : ∀ j, j < l.length → -128 ≤ rd l j ∧ rd l j < 128

theorem open_range {a : List Int} (ha : LawnS a) {x y : Int} (h : openB a x y = true) : (0 ≤ x ∧ x < 10) ∧ (0 ≤ y ∧ y < 10) := by
  unfold openB at h
  rw [Bool.and_eq_true] at h
  obtain ⟨h1, h2, h3, h4⟩ := hasB_true h.1
  have := ha.w10
  have := ha.h10
  omega


/-- A loop whose states are told by a number i, with m rounds left. -/
theorem loopF_go {S R : Type} {step : (S → Option R) → S → Option R} (σ : Nat → S) (V : Nat → Nat → Option R) (n : Nat)
    (h0 : ∀ rec : S → Option R, step rec (σ n) = V n 0)
    (hs : ∀ i m, i + (m + 1) = n → ∀ rec : S → Option R, rec (σ (i + 1)) = V (i + 1) m → step rec (σ i) = V i (m + 1)) :
    ∀ m i f, i + m = n → m < f → loopF step f (σ i) = V i m := by
  intro m
  induction m with
  | zero =>
    intro i f hi hf
    obtain ⟨f, rfl⟩ : ∃ g, f = g + 1 := ⟨f - 1, by omega⟩
    have : i = n := by omega
    subst this
    rw [loopF]
    exact h0 _
  | succ m ih =>
    intro i f hi hf
    obtain ⟨f, rfl⟩ : ∃ g, f = g + 1 := ⟨f - 1, by omega⟩
    rw [loopF]
    exact hs i m hi _ (ih (i + 1) f (by omega) (by omega))

/-- A loop with a bound that falls. -/
theorem loopF_wf {S R : Type} {step : (S → Option R) → S → Option R} (Inv : S → Prop) (μ : S → Nat) (V : S → Option R)
    (hs : ∀ s, Inv s → ∀ rec : S → Option R, (∀ s', Inv s' → μ s' < μ s → rec s' = V s') → step rec s = V s) : ∀ f s, Inv s → μ s < f → loopF step f s = V s := by
  intro f
  induction f with
  | zero => intro s _ h; omega
  | succ f ih =>
    intro s hi hf
    rw [loopF]
    exact hs s hi _ fun s' hi' hm => ih s' hi' (by omega)

/-! ## Pairs -/

def fl : List (Int × Int) → List Int
  | [] => []
  | (x, y) :: r => x :: y :: fl r

theorem fl_length : ∀ (L : List (Int × Int)), (fl L).length = L.length * 2 := by
  intro L
  induction L with
  | nil => rfl
  | cons p r ih => obtain ⟨x, y⟩ := p; simp only [fl, List.length_cons, ih]; omega

theorem fl_append : ∀ (L R : List (Int × Int)), fl (L ++ R) = fl L ++ fl R := by
  intro L R
  induction L with
  | nil => rfl
  | cons p r ih => obtain ⟨x, y⟩ := p; simp [fl, ih]

theorem cnt_fl (L : List (Int × Int)) : cnt 2 (fl L) = L.length := cnt_two (fl_length L)

theorem fl_x : ∀ (L : List (Int × Int)) (i : Nat), rd (fl L) (i * 2) = (L.getD i (0, 0)).1 := by
  intro L
  induction L with
  | nil => intro i; simp [fl, rd]
  | cons p r ih =>
    obtain ⟨x, y⟩ := p
    intro i
    cases i with
    | zero => rfl
    | succ i =>
      have e : (i + 1) * 2 = i * 2 + 1 + 1 := by omega
      rw [e]
      show rd (fl r) (i * 2) = _
      rw [ih]
      rfl

theorem fl_y : ∀ (L : List (Int × Int)) (i : Nat), rd (fl L) (i * 2 + 1) = (L.getD i (0, 0)).2 := by
  intro L
  induction L with
  | nil => intro i; simp [fl, rd]
  | cons p r ih =>
    obtain ⟨x, y⟩ := p
    intro i
    cases i with
    | zero => rfl
    | succ i =>
      have e : (i + 1) * 2 + 1 = i * 2 + 1 + 1 + 1 := by omega
      rw [e]
      show rd (fl r) (i * 2 + 1) = _
      rw [ih]
      rfl

/-! ## All cells of a lawn -/

def rowC (y : Nat) (w : Nat) : List (Int × Int) := (List.range w).map fun (x : Nat) => ((x : Int), (y : Int))
def allC (w h : Nat) : List (Int × Int) := (List.range h).flatMap fun (y : Nat) => rowC y w

theorem rowC_succ (y w : Nat) : rowC y (w + 1) = rowC y w ++ [((w : Int), (y : Int))] := by simp [rowC, List.range_succ]
theorem allC_succ (w h : Nat) : allC w (h + 1) = allC w h ++ rowC h w := by simp [allC, List.range_succ]
theorem allC_length (w h : Nat) : (allC w h).length = h * w := by
  induction h with
  | zero => simp [allC]
  | succ h ih => rw [allC_succ, List.length_append, ih, Nat.succ_mul]; simp [rowC]

theorem allC_mem {w h : Nat} {p : Int × Int} : p ∈ allC w h ↔ (0 ≤ p.1 ∧ p.1 < w ∧ 0 ≤ p.2 ∧ p.2 < h) := by
  obtain ⟨x, y⟩ := p
  simp only [allC, rowC, List.mem_flatMap, List.mem_range, List.mem_map, Prod.mk.injEq]
  constructor
  · rintro ⟨i, hi, j, hj, rfl, rfl⟩; omega
  · rintro ⟨h1, h2, h3, h4⟩
    exact ⟨y.toNat, by omega, x.toNat, by omega, by omega, by omega⟩

theorem rowC_length (y w : Nat) : (rowC y w).length = w := by simp [rowC]

theorem take_getD {α : Type} (L : List α) (d : α) {i : Nat} (h : i < L.length) : L.take (i + 1) = L.take i ++ [L.getD i d] := by
  rw [List.take_add_one, List.getD_eq_getElem?_getD]
  simp [h]

theorem getD_mem {α : Type} (L : List α) (d : α) {i : Nat} (h : i < L.length) : L.getD i d ∈ L := by
  simp [List.getD_eq_getElem?_getD, h]

theorem bigLen_val : bigLen = 4294967296 := rfl

/-- A lawn that is right, with its sides. -/
structure LawnV (a : List Int) (w h : Nat) : Prop extends LawnS a where
  wv : rd a 0 = (w : Int)
  hv : rd a 1 = (h : Int)
  w1 : 1 ≤ w
  h1 : 1 ≤ h

theorem LawnV.wle {a : List Int} {w h : Nat} (v : LawnV a w h) : w ≤ 10 := by have := v.wv; have := v.w10; omega
theorem LawnV.hle {a : List Int} {w h : Nat} (v : LawnV a w h) : h ≤ 10 := by have := v.hv; have := v.h10; omega

theorem lawnS_of' {a : List Int} (ha : LawnR a) (h : lawnB a = true) : LawnS a := by
  unfold lawnB sideB at h
  simp only [Bool.and_eq_true, decide_eq_true_eq] at h
  exact ⟨ha, h.1.2, h.2.1.2⟩

theorem lawnV_of {a : List Int} (ha : LawnR a) (h : lawnB a = true) : ∃ w h, LawnV a w h := by
  unfold lawnB sideB at h
  simp only [Bool.and_eq_true, decide_eq_true_eq] at h
  exact ⟨(rd a 0).toNat, (rd a 1).toNat, ⟨⟨ha, h.1.2, h.2.1.2⟩, by omega, by omega, by omega, by omega⟩⟩

/-! ## All cells -/



abbrev Cs := List (Int × Int)

structure RowsR (Ls : List Cs) : Prop where
  cnt : Ls.length ≤ 1048576
  len : ∀ L ∈ Ls, L.length ≤ 1048576
  rng : ∀ L ∈ Ls, ∀ p ∈ L, (-128 ≤ p.1 ∧ p.1 < 128) ∧ (-128 ≤ p.2 ∧ p.2 < 128)

theorem rdr_map (Ls : List Cs) (i : Nat) : rdr (Ls.map fl) i = fl (Ls.getD i []) := by
  unfold rdr
  rw [List.getD_eq_getElem?_getD, List.getD_eq_getElem?_getD, List.getElem?_map]
  cases Ls[i]? <;> rfl

theorem fl_of : ∀ (n : Nat) (l : List Int), l.length = n * 2 → ∃ L : Cs, l = fl L ∧ L.length = n := by
  intro n
  induction n with
  | zero => intro l h; exact ⟨[], List.eq_nil_of_length_eq_zero (by omega), rfl⟩
  | succ n ih =>
    intro l h
    cases l with
    | nil => simp at h
    | cons x l =>
      cases l with
      | nil => simp at h; omega
      | cons y r =>
        obtain ⟨L, rfl, h2⟩ := ih r (by simp at h; omega)
        exact ⟨(x, y) :: L, rfl, by simp [h2]⟩

theorem rd_mem_fl : ∀ (L : Cs) (p : Int × Int), p ∈ L → ∃ j, j + 1 < (fl L).length ∧ rd (fl L) j = p.1 ∧ rd (fl L) (j + 1) = p.2 := by
  intro L
  induction L with
  | nil => intro p h; cases h
  | cons q r ih =>
    intro p h
    obtain ⟨x, y⟩ := q
    rcases List.mem_cons.1 h with rfl | h
    · exact ⟨0, by simp [fl], rfl, rfl⟩
    · obtain ⟨j, h1, h2, h3⟩ := ih p h
      exact ⟨j + 2, by simp only [fl, List.length_cons]; omega, h2, h3⟩

theorem cellsR_fl {L : Cs} (h1 : L.length ≤ 1048576) (h2 : ∀ p ∈ L, (-128 ≤ p.1 ∧ p.1 < 128) ∧ (-128 ≤ p.2 ∧ p.2 < 128)) : CellsR (fl L) L.length := by
  refine ⟨fl_length L, h1, fun j hj => ?_⟩
  rw [fl_length] at hj
  have hm := getD_mem L (0, 0) (i := j / 2) (by omega)
  obtain ⟨q1, q2⟩ := h2 _ hm
  rcases Nat.mod_two_eq_zero_or_one j with e | e
  · have : j = j / 2 * 2 := by omega
    rw [this, fl_x]
    exact q1
  · have : j = j / 2 * 2 + 1 := by omega
    rw [this, fl_y]
    exact q2

theorem RowsR.row {Ls : List Cs} (h : RowsR Ls) {i : Nat} (hi : i < Ls.length) : CellsR (fl (Ls.getD i [])) (Ls.getD i []).length :=
  cellsR_fl (h.len _ (getD_mem _ _ hi)) (h.rng _ (getD_mem _ _ hi))

theorem wrap64_succ {i : Nat} (h : i < 4294967296) : IntKind.wrap .i64 ((i : Int) + 1) = ((i + 1 : Nat) : Int) := by rw [wrap64 (by omega)]; omega

theorem set_take_rep {α : Type} (L : List α) (z d : α) {i : Nat} (hi : i < L.length) : List.set (L.take i ++ List.replicate (L.length - i) z) i (L.getD i d) = L.take (i + 1) ++ List.replicate (L.length - (i + 1)) z := by
  rw [List.set_append_right _ _ (by rw [List.length_take]; omega), List.length_take, Nat.min_eq_left (by omega), Nat.sub_self]
  have : L.length - i = (L.length - (i + 1)) + 1 := by omega
  rw [this, List.replicate_succ, List.set_cons_zero, take_getD L d hi]
  simp


/-! ## Grass -/

def grassB (a : List Int) (x y : Int) : Bool := hasB a x y && (kindV a x y == 0)

theorem grass_range {a : List Int} (ha : LawnS a) {x y : Int} (h : grassB a x y = true) : 0 ≤ x ∧ x < rd a 0 ∧ 0 ≤ y ∧ y < rd a 1 := by
  unfold grassB at h
  rw [Bool.and_eq_true] at h
  exact hasB_true h.1



theorem eqT {a b : Int} (h : a = b) : (a == b) = true := by simp [h]
theorem eqF {a b : Int} (h : a ≠ b) : (a == b) = false := by simp [h]
theorem neT {a b : Int} (h : a ≠ b) : (a != b) = true := by simp [h]
theorem neF {a b : Int} (h : a = b) : (a != b) = false := by simp [h]

theorem tdiv2 {d : Int} (h : 0 ≤ d) : Int.tdiv d 2 = d / 2 := Int.tdiv_eq_ediv_of_nonneg h

def findI {α : Type} (g : α → Bool) : List α → Nat → Int
  | [], _ => -1
  | p :: r, i => cond (g p) (i : Int) (findI g r (i + 1))

theorem findI_any {α : Type} (g : α → Bool) : ∀ (L : List α) (i : Nat), decide (findI g L i ≥ 0) = L.any g := by
  intro L
  induction L with
  | nil => intro i; rfl
  | cons p r ih =>
    intro i
    simp only [findI, List.any_cons]
    have := ih (i + 1)
    by_cases h : g p = true
    · simp [h]
    · simpa [h] using this

theorem drop_getD {α : Type} (L : List α) (d : α) {i : Nat} (h : i < L.length) : L.drop i = L.getD i d :: L.drop (i + 1) := by
  rw [List.drop_eq_getElem_cons h]
  simp [List.getD_eq_getElem?_getD, h]

theorem indexFunc_cells (k : Nat) (L : List (Int × Int)) (f : List Int → Option Bool) (g : Int × Int → Bool) (hf : ∀ p ∈ L, f [p.1, p.2] = some (g p)) (hL : L.length ≤ 1048576) (hk : L.length < k) :
    slices_IndexFunc_impl_Weather k (fl L) f = some (findI g L 0) := by
  unfold slices_IndexFunc_impl_Weather slices_IndexFunc_impl_Weather_l0
  rw [cnt_fl]
  have := loopF_go (step := fun (rec : (List Int) × (List Int → Option Bool) × Int × Int → Option Int) (p : (List Int) × (List Int → Option Bool) × Int × Int) => slices_IndexFunc_impl_Weather_s0 k (fun y1 => some y1) (some (-1)) (fun h1 h2 h3 h4 => rec (h1, h2, h3, h4)) p.1 p.2.1 p.2.2.1 p.2.2.2)
    (fun i => (fl L, f, (L.length : Int), (i : Int))) (fun i _ => some (findI g (L.drop i) i)) L.length ?_ ?_ L.length 0 k (by omega) hk
  · exact this
  · intro rec
    dsimp only
    unfold slices_IndexFunc_impl_Weather_s0
    simp (disch := omega) only [bF, cond_false, List.drop_length, findI]
  · intro i m hi rec hrec
    dsimp only at hrec ⊢
    unfold slices_IndexFunc_impl_Weather_s0
    have hm := hf _ (getD_mem L (0, 0) (show i < L.length by omega))
    rw [drop_getD L (0, 0) (show i < L.length by omega)]
    simp (disch := omega) only [bT, cond_true, cnt_fl, Bool.and_true, Int.toNat_natCast, fl_x, fl_y, hm, Option.bind_some, wrap64, findI]
    cases g (L.getD i (0, 0)) with
    | true => rfl
    | false => simp only [cond_false]; exact hrec

theorem containsFunc_cells (k : Nat) (L : List (Int × Int)) (f : List Int → Option Bool) (g : Int × Int → Bool) (hf : ∀ p ∈ L, f [p.1, p.2] = some (g p)) (hL : L.length ≤ 1048576) (hk : L.length < k) :
    slices_ContainsFunc_impl_Weather k (fl L) f = some (L.any g) := by
  unfold slices_ContainsFunc_impl_Weather
  rw [indexFunc_cells k L f g hf hL hk]
  simp only [Option.bind_some]
  rw [findI_any]

theorem spec_in (k : Nat) (n lo hi : Int) : spec_l00In k n lo hi = some (decide (lo ≤ n) && decide (n ≤ hi)) := by
  unfold spec_l00In
  by_cases h : lo ≤ n
  · rw [bT (p := n ≥ lo) h]; rfl
  · rw [bF (p := n ≥ lo) h]; rfl

theorem impl_in (k : Nat) (n lo hi : Int) : impl_within k n lo hi = some (decide (lo ≤ n) && decide (n ≤ hi)) := by
  unfold impl_within
  by_cases h : lo ≤ n
  · rw [bT h]; rfl
  · rw [bF h]; rfl




theorem fl_set : ∀ (B : List (Int × Int)) (i : Nat) (x y : Int), i < B.length → setWin (fl B) (i * 2) 2 [x, y] = fl (B.set i (x, y)) := by
  intro B
  induction B with
  | nil => intro i x y h; simp at h
  | cons p r ih =>
    intro i x y h
    obtain ⟨px, py⟩ := p
    cases i with
    | zero => simp [setWin, fl]
    | succ i =>
      have := ih i x y (by simpa using h)
      unfold setWin at this ⊢
      have e1 : (i + 1) * 2 = i * 2 + 1 + 1 := by omega
      have e2 : (i + 1) * 2 + 2 = i * 2 + 2 + 1 + 1 := by omega
      rw [e1]
      simp only [fl, List.set_cons_succ, List.take_succ_cons, List.drop_succ_cons, List.cons_append]
      simpa using this

theorem fl_take : ∀ (B : List (Int × Int)) (i : Nat), (fl B).take (i * 2) = fl (B.take i) := by
  intro B
  induction B with
  | nil => intro i; simp [fl]
  | cons p r ih =>
    intro i
    obtain ⟨px, py⟩ := p
    cases i with
    | zero => rfl
    | succ i =>
      have e1 : (i + 1) * 2 = i * 2 + 1 + 1 := by omega
      rw [e1]
      simp only [fl, List.take_succ_cons, ih]

/-- DeleteFunc's list and how many it has kept, once it has looked at n. -/
def dB (g : Int × Int → Bool) (L : List (Int × Int)) : Nat → List (Int × Int) × Nat
  | 0 => (L, 0)
  | n + 1 => cond (g (L.getD n (0, 0))) (dB g L n) ((dB g L n).1.set (dB g L n).2 (L.getD n (0, 0)), (dB g L n).2 + 1)

theorem dB_inv (g : Int × Int → Bool) (L : List (Int × Int)) : ∀ n, n ≤ L.length → (dB g L n).1.length = L.length ∧ (dB g L n).2 ≤ n ∧ (dB g L n).1.take (dB g L n).2 = (L.take n).filter (fun p => !(g p)) ∧ (dB g L n).1.drop n = L.drop n := by
  intro n
  induction n with
  | zero => intro _; simp [dB]
  | succ n ih =>
    intro hn
    obtain ⟨h1, h2, h3, h4⟩ := ih (by omega)
    have hd : (dB g L n).1.drop (n + 1) = L.drop (n + 1) := by
      have := congrArg (List.drop 1) h4
      simpa [List.drop_drop, Nat.add_comm] using this
    rw [take_getD L (0, 0) (show n < L.length by omega), List.filter_append]
    simp only [dB]
    cases hg : g (L.getD n (0, 0)) with
    | true =>
      simp only [cond_true, List.filter_cons, hg, Bool.not_true, Bool.false_eq_true, if_false, List.filter_nil, List.append_nil]
      exact ⟨h1, by omega, h3, hd⟩
    | false =>
      simp only [cond_false, List.filter_cons, hg, Bool.not_false, if_true, List.filter_nil]
      refine ⟨by rw [List.length_set]; exact h1, by omega, ?_, ?_⟩
      · rw [List.take_add_one, List.take_set, h3, List.getElem?_set_self (by omega)]
        have : ((L.take n).filter fun p => !(g p)).length ≤ (dB g L n).2 := by rw [← h3, List.length_take]; omega
        rw [List.set_eq_of_length_le this]
        rfl
      · rw [List.drop_set_of_lt (by omega)]
        exact hd

theorem dB_start (g : Int × Int → Bool) (L : List (Int × Int)) : ∀ n, n ≤ L.length → (∀ i, i < n → g (L.getD i (0, 0)) = false) → dB g L n = (L, n) := by
  intro n
  induction n with
  | zero => intro _ _; rfl
  | succ n ih =>
    intro hn h
    simp only [dB]
    rw [ih (by omega) (fun i hi => h i (by omega)), h n (by omega)]
    simp only [cond_false]
    congr 1
    rw [List.getD_eq_getElem?_getD, List.getElem?_eq_getElem (show n < L.length by omega)]
    simp

theorem findI_spec {α : Type} (g : α → Bool) (d : α) : ∀ (L : List α) (i : Nat), (findI g L i = -1 ∧ ∀ p ∈ L, g p = false) ∨ ∃ j, j < L.length ∧ findI g L i = ((i + j : Nat) : Int) ∧ g (L.getD j d) = true ∧ ∀ t, t < j → g (L.getD t d) = false := by
  intro L
  induction L with
  | nil => intro i; exact .inl ⟨rfl, by simp⟩
  | cons p r ih =>
    intro i
    simp only [findI]
    cases hg : g p with
    | true => exact .inr ⟨0, by simp, rfl, hg, fun t ht => by omega⟩
    | false =>
      simp only [cond_false]
      rcases ih (i + 1) with ⟨h1, h2⟩ | ⟨j, h1, h2, h3, h4⟩
      · refine .inl ⟨h1, fun q hq => ?_⟩
        rcases List.mem_cons.1 hq with rfl | hq
        · exact hg
        · exact h2 q hq
      · refine .inr ⟨j + 1, by simp; omega, by rw [h2]; omega, by simpa using h3, fun t ht => ?_⟩
        cases t with
        | zero => simpa using hg
        | succ t => simpa using h4 t (by omega)

theorem win_setWin {l m : List Int} {off n : Nat} (h : off ≤ l.length) : win (setWin l off n m) 0 off = l.take off := by
  unfold win setWin
  rw [List.drop_zero, List.take_append_of_le_length (by rw [List.length_take]; omega), List.take_take, Nat.min_self]

theorem cnt_setWin {l : List Int} {i n : Nat} (h : l.length = n * 2) (hi : i ≤ n) : cnt 2 (setWin l (i * 2) ((n - i) * 2) (List.replicate ((n - i) * 2) 0)) = n := by
  apply cnt_two
  unfold setWin
  simp
  omega

theorem allC_small {a : List Int} {w h : Nat} (v : LawnV a w h) : (allC w h).length ≤ 100 := by
  rw [allC_length]
  have := Nat.mul_le_mul v.hle v.wle
  omega

theorem hasB_all {a : List Int} {w h : Nat} (v : LawnV a w h) {p : Int × Int} (hp : p ∈ allC w h) : hasB a p.1 p.2 = true := by
  have := allC_mem.1 hp
  have := v.wv
  have := v.hv
  unfold hasB
  simp (disch := omega) only [bT, Bool.and_true]

theorem grass_filter {a : List Int} {w h : Nat} (v : LawnV a w h) : ((allC w h).filter fun p => kindV a p.1 p.2 == 0) = (allC w h).filter fun p => grassB a p.1 p.2 :=
  List.filter_congr fun p hp => by unfold grassB; rw [hasB_all v hp, Bool.true_and]


theorem wrap8_range (n : Int) : -128 ≤ IntKind.wrap .i8 n ∧ IntKind.wrap .i8 n < 128 := by
  simp only [IntKind.wrap, IntKind.bits, IntKind.signed]
  simp
  omega

def nbrs (x y : Int) : List (Int × Int) := [(x, IntKind.wrap .i8 (y - 1)), (IntKind.wrap .i8 (x - 1), y), (IntKind.wrap .i8 (x + 1), y), (x, IntKind.wrap .i8 (y + 1))]

theorem nbrs_range {x y : Int} (hx : -128 ≤ x ∧ x < 128) (hy : -128 ≤ y ∧ y < 128) : ∀ p ∈ nbrs x y, (-128 ≤ p.1 ∧ p.1 < 128) ∧ (-128 ≤ p.2 ∧ p.2 < 128) := by
  intro p hp
  have w1 := wrap8_range (y - 1)
  have w2 := wrap8_range (x - 1)
  have w3 := wrap8_range (x + 1)
  have w4 := wrap8_range (y + 1)
  simp only [nbrs, List.mem_cons, List.not_mem_nil, or_false] at hp
  rcases hp with rfl | rfl | rfl | rfl
  · exact ⟨hx, w1⟩
  · exact ⟨w2, hy⟩
  · exact ⟨w3, hy⟩
  · exact ⟨hx, w4⟩



end Go.Proofs.Ytkdpdmfkomnalaa.Tt
