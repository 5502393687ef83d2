/- Plain laws: runs. -/
import Derived.Test.YtmpcninebooaiaaY13
set_option linter.unusedVariables false
set_option linter.unusedSimpArgs false
namespace Go.Proofs.Ytmpcninebooaiaa.Tt
open Go.Ev Go

/-! ## Triples -/

def fl3 : List (Int × Int × Int) → List Int
  | [] => []
  | (x, y, n) :: r => x :: y :: n :: fl3 r

theorem fl3_length : ∀ (L : List (Int × Int × Int)), (fl3 L).length = L.length * 3 := by
  intro L
  induction L with
  | nil => rfl
  | cons p r ih => obtain ⟨x, y, n⟩ := p; simp only [fl3, List.length_cons, ih]; omega

theorem fl3_append : ∀ (L R : List (Int × Int × Int)), fl3 (L ++ R) = fl3 L ++ fl3 R := by
  intro L R
  induction L with
  | nil => rfl
  | cons p r ih => obtain ⟨x, y, n⟩ := p; simp [fl3, ih]

theorem cnt_fl3 (L : List (Int × Int × Int)) : cnt 3 (fl3 L) = L.length := by unfold cnt; rw [fl3_length]; omega

theorem fl3_all : ∀ (L : List (Int × Int × Int)) (i : Nat), rd (fl3 L) (i * 3) = (L.getD i (0, 0, 0)).1 ∧ rd (fl3 L) (i * 3 + 1) = (L.getD i (0, 0, 0)).2.1 ∧ rd (fl3 L) (i * 3 + 2) = (L.getD i (0, 0, 0)).2.2 := by
  intro L
  induction L with
  | nil => intro i; simp [fl3, rd]
  | cons p r ih =>
    obtain ⟨x, y, n⟩ := p
    intro i
    cases i with
    | zero => exact ⟨rfl, rfl, rfl⟩
    | succ i =>
      have e0 : (i + 1) * 3 = i * 3 + 1 + 1 + 1 := by omega
      have e1 : (i + 1) * 3 + 1 = i * 3 + 1 + 1 + 1 + 1 := by omega
      have e2 : i * 3 + 1 + 1 + 1 + 2 = i * 3 + 2 + 1 + 1 + 1 := by omega
      rw [e0, e2]
      exact ih i

theorem fl3_x (L : List (Int × Int × Int)) (i : Nat) : rd (fl3 L) (i * 3) = (L.getD i (0, 0, 0)).1 := (fl3_all L i).1
theorem fl3_y (L : List (Int × Int × Int)) (i : Nat) : rd (fl3 L) (i * 3 + 1) = (L.getD i (0, 0, 0)).2.1 := (fl3_all L i).2.1
theorem fl3_n (L : List (Int × Int × Int)) (i : Nat) : rd (fl3 L) (i * 3 + 2) = (L.getD i (0, 0, 0)).2.2 := (fl3_all L i).2.2

theorem cells_in' {a : List Int} {w h : Nat} (v : LawnV a w h) {p : Int × Int} (hp : p ∈ allC w h) : (0 ≤ p.1 ∧ p.1 < 10) ∧ (0 ≤ p.2 ∧ p.2 < 10) := by
  have := allC_mem.1 hp
  have := v.wle
  have := v.hle
  omega

/-! ## What runs are -/

def dxB (b : Bool) : Int := cond b 1 0
def dyB (b : Bool) : Int := cond b 0 1

def runLen (a : List Int) (b : Bool) : Nat → Int → Int → Nat
  | 0, _, _ => 0
  | m + 1, x, y => cond (grassB a x y) (runLen a b m (x + dxB b) (y + dyB b) + 1) 0

def longV (a : List Int) (b : Bool) (x y : Int) : Nat := runLen a b 11 x y
def startB (a : List Int) (b : Bool) (p : Int × Int) : Bool := grassB a p.1 p.2 && !(grassB a (p.1 - dxB b) (p.2 - dyB b))
def runOf (a : List Int) (b : Bool) (p : Int × Int) : Int × Int × Int := (p.1, p.2, (longV a b p.1 p.2 : Int))
def runsOf (a : List Int) (b : Bool) (L : List (Int × Int)) : List (Int × Int × Int) := (L.filter (startB a b)).map (runOf a b)

theorem runsOf_snoc (a : List Int) (b : Bool) (L : List (Int × Int)) (p : Int × Int) : runsOf a b (L ++ [p]) = cond (startB a b p) (runsOf a b L ++ [runOf a b p]) (runsOf a b L) := by
  unfold runsOf
  rw [List.filter_append, List.map_append, List.filter_cons]
  cases startB a b p <;> simp

theorem runsOf_len (a : List Int) (b : Bool) (L : List (Int × Int)) : (runsOf a b L).length ≤ L.length := by
  unfold runsOf
  rw [List.length_map]
  exact List.length_filter_le _ _

theorem runLen_le (a : List Int) (b : Bool) : ∀ m x y, runLen a b m x y ≤ m := by
  intro m
  induction m with
  | zero => intro x y; exact Nat.le_refl _
  | succ m ih =>
    intro x y
    simp only [runLen]
    have := ih (x + dxB b) (y + dyB b)
    cases grassB a x y with
    | true => simp only [cond_true]; omega
    | false => simp only [cond_false]; omega

/-- A run is as long with more room, once it has enough. -/
theorem runLen_more {a : List Int} {w h : Nat} (v : LawnV a w h) (b : Bool) : ∀ (m : Nat) (x y : Int), 10 ≤ x * dxB b + y * dyB b + m → ∀ j : Nat, runLen a b (m + j) x y = runLen a b m x y := by
  intro m
  have hw := v.wle
  have hh := v.hle
  have hwv := v.wv
  have hhv := v.hv
  induction m with
  | zero =>
    intro x y h j
    have : grassB a x y = false := by
      cases hg : grassB a x y with
      | false => rfl
      | true =>
        have := grass_range v.toLawnS hg
        exfalso
        cases b
        · simp only [dxB, dyB, cond_false] at h; omega
        · simp only [dxB, dyB, cond_true] at h; omega
    cases j with
    | zero => rfl
    | succ j => simp only [Nat.zero_add, runLen, this, cond_false]
  | succ m ih =>
    intro x y h j
    rw [show m + 1 + j = m + j + 1 by omega]
    simp only [runLen]
    rw [ih (x + dxB b) (y + dyB b) (by
      cases b
      · simp only [dxB, dyB, cond_false] at h ⊢; omega
      · simp only [dxB, dyB, cond_true] at h ⊢; omega) j]

/-! ## The program's runs -/

theorem impl_run_loop {R : Type} (k : Nat) (K1 : Int → Int → Int → Int → Int → (List Int) → (List Int) → (List Int) → (List Int) → Option R) {a : List Int} {w h : Nat} (v : LawnV a w h) (b : Bool) (q r : Int) (o : List Int) (x y : Int) (hx : 0 ≤ x ∧ x < 10) (hy : 0 ≤ y ∧ y < 10) (c : List Int) :
    ∀ (m n f : Nat), n + m = 11 → 10 ≤ (x + n * dxB b) * dxB b + (y + n * dyB b) * dyB b + m → m < f →
    loopF (fun (rec : Int × Int × Int × Int × Int × (List Int) × (List Int) × (List Int) × (List Int) → Option R) (p : Int × Int × Int × Int × Int × (List Int) × (List Int) × (List Int) × (List Int)) => impl_Lawn_runs_s0 k K1 (fun h1 h2 h3 h4 h5 h6 h7 h8 h9 => rec (h1, h2, h3, h4, h5, h6, h7, h8, h9)) p.1 p.2.1 p.2.2.1 p.2.2.2.1 p.2.2.2.2.1 p.2.2.2.2.2.1 p.2.2.2.2.2.2.1 p.2.2.2.2.2.2.2.1 p.2.2.2.2.2.2.2.2) f (dxB b, dyB b, (n : Int), q, r, a, o, [x, y], c) =
      K1 (dxB b) (dyB b) ((n + runLen a b m (x + n * dxB b) (y + n * dyB b) : Nat) : Int) q r a o [x, y] c := by
  intro m
  have hw := v.wle
  have hh := v.hle
  have hwv := v.wv
  have hhv := v.hv
  induction m with
  | zero =>
    intro n f hn hc hf
    obtain ⟨f, rfl⟩ : ∃ g, f = g + 1 := ⟨f - 1, by omega⟩
    rw [loopF]
    dsimp only
    unfold impl_Lawn_runs_s0
    have e1 : rd [x, y] 0 = x := rfl
    have e2 : rd [x, y] 1 = y := rfl
    rw [e1, e2, impl_grass k v.toLawnS]
    have hg : grassB a (IntKind.wrap .i8 (x + IntKind.wrap .i8 (n * dxB b))) (IntKind.wrap .i8 (y + IntKind.wrap .i8 (n * dyB b))) = false := by
      cases b
      · simp only [dxB, dyB, cond_false] at hc ⊢
        simp (disch := omega) only [wrap8]
        cases hg : grassB a (x + (n : Int) * 0) (y + (n : Int) * 1) with
        | false => rfl
        | true => have := grass_range v.toLawnS hg; omega
      · simp only [dxB, dyB, cond_true] at hc ⊢
        simp (disch := omega) only [wrap8]
        cases hg : grassB a (x + (n : Int) * 1) (y + (n : Int) * 0) with
        | false => rfl
        | true => have := grass_range v.toLawnS hg; omega
    rw [hg]
    rfl
  | succ m ih =>
    intro n f hn hc hf
    obtain ⟨f, rfl⟩ : ∃ g, f = g + 1 := ⟨f - 1, by omega⟩
    rw [loopF]
    dsimp only
    unfold impl_Lawn_runs_s0
    have e1 : rd [x, y] 0 = x := rfl
    have e2 : rd [x, y] 1 = y := rfl
    have hrec := ih (n + 1) f (by omega) (by
      cases b
      · simp only [dxB, dyB, cond_false] at hc ⊢; omega
      · simp only [dxB, dyB, cond_true] at hc ⊢; omega) (by omega)
    have hg : grassB a (IntKind.wrap .i8 (x + IntKind.wrap .i8 (n * dxB b))) (IntKind.wrap .i8 (y + IntKind.wrap .i8 (n * dyB b))) = grassB a (x + n * dxB b) (y + n * dyB b) := by
      cases b
      · simp only [dxB, dyB, cond_false]
        simp (disch := omega) only [wrap8]
      · simp only [dxB, dyB, cond_true]
        simp (disch := omega) only [wrap8]
    have hx1 : x + ((n + 1 : Nat) : Int) * dxB b = x + n * dxB b + dxB b := by
      cases b
      · simp only [dxB, cond_false]; omega
      · simp only [dxB, cond_true]; omega
    have hy1 : y + ((n + 1 : Nat) : Int) * dyB b = y + n * dyB b + dyB b := by
      cases b
      · simp only [dyB, cond_false]; omega
      · simp only [dyB, cond_true]; omega
    rw [e1, e2, impl_grass k v.toLawnS, hg]
    simp only [Option.bind_some, runLen]
    cases grassB a (x + n * dxB b) (y + n * dyB b) with
    | false => rfl
    | true =>
      simp only [cond_true]
      rw [wrap8 (x := (n : Int) + 1) (by omega), show (n : Int) + 1 = ((n + 1 : Nat) : Int) by omega]
      refine Eq.trans hrec ?_
      rw [hx1, hy1, show n + 1 + runLen a b m (x + n * dxB b + dxB b) (y + n * dyB b + dyB b) = n + (runLen a b m (x + n * dxB b + dxB b) (y + n * dyB b + dyB b) + 1) by omega]

theorem impl_run {R : Type} (k : Nat) (K1 : Int → Int → Int → Int → Int → (List Int) → (List Int) → (List Int) → (List Int) → Option R) {a : List Int} {w h : Nat} (v : LawnV a w h) (b : Bool) (q r : Int) (o : List Int) (x y : Int) (hx : 0 ≤ x ∧ x < 10) (hy : 0 ≤ y ∧ y < 10) (c : List Int) (hk : 11 < k) :
    impl_Lawn_runs_l0 k K1 (dxB b) (dyB b) 0 q r a o [x, y] c = K1 (dxB b) (dyB b) (longV a b x y) q r a o [x, y] c := by
  unfold impl_Lawn_runs_l0
  have := impl_run_loop k K1 v b q r o x y hx hy c 11 0 k (by omega) (by
    cases b
    · simp only [dxB, dyB, cond_false]; omega
    · simp only [dxB, dyB, cond_true]; omega) hk
  have e0 : x + ((0 : Nat) : Int) * dxB b = x := by simp
  have e1 : y + ((0 : Nat) : Int) * dyB b = y := by simp
  rw [e0, e1, Nat.zero_add] at this
  exact this

theorem impl_runs_loop (k : Nat) {a : List Int} {w h : Nat} (v : LawnV a w h) (b : Bool) (hk : 101 < k) :
    impl_Lawn_runs_l1 k (fun y2 => some y2) (dxB b) (dyB b) ((allC w h).length : Int) 0 a [] (fl (allC w h)) = some (fl3 (runsOf a b (allC w h))) := by
  have hsm := allC_small v
  have hw := v.wle
  have hh := v.hle
  unfold impl_Lawn_runs_l1
  have := loopF_go (R := List Int) (step := fun (rec : Int × Int × Int × Int × (List Int) × (List Int) × (List Int) → Option (List Int)) (p : Int × Int × Int × Int × (List Int) × (List Int) × (List Int)) => impl_Lawn_runs_s1 k (fun y2 => some y2) (fun h1 h2 h3 h4 h5 h6 h7 => rec (h1, h2, h3, h4, h5, h6, h7)) p.1 p.2.1 p.2.2.1 p.2.2.2.1 p.2.2.2.2.1 p.2.2.2.2.2.1 p.2.2.2.2.2.2)
    (fun i => (dxB b, dyB b, ((allC w h).length : Int), (i : Int), a, fl3 (runsOf a b ((allC w h).take i)), fl (allC w h))) (fun _ _ => some (fl3 (runsOf a b (allC w h)))) (allC w h).length ?_ ?_ (allC w h).length 0 k (by omega) (by omega)
  · exact this
  · intro rec
    dsimp only
    unfold impl_Lawn_runs_s1
    simp (disch := omega) only [bF, cond_false, List.take_length]
  · intro i m hi rec hrec
    dsimp only at hrec ⊢
    unfold impl_Lawn_runs_s1
    have hil : i < (allC w h).length := by omega
    have hc := cells_in' v (getD_mem (allC w h) (0, 0) hil)
    have hlen : (fl3 (runsOf a b ((allC w h).take i))).length ≤ 300 := by
      have h1 := runsOf_len a b ((allC w h).take i)
      rw [List.length_take] at h1
      rw [fl3_length]
      omega
    rw [take_getD _ (0, 0) hil, runsOf_snoc] at hrec
    simp only [cnt_fl, Int.toNat_natCast, fl_x, fl_y]
    generalize (allC w h).getD i (0, 0) = p at hrec hc ⊢
    generalize runsOf a b ((allC w h).take i) = o at hrec hlen ⊢
    have hb : decide ((fl3 o).length + 3 ≤ bigLen) = true := bT (by rw [bigLen_val]; omega)
    have hg : grassB a (IntKind.wrap .i8 (p.1 - dxB b)) (IntKind.wrap .i8 (p.2 - dyB b)) = grassB a (p.1 - dxB b) (p.2 - dyB b) := by
      cases b
      · simp only [dxB, dyB, cond_false]
        simp (disch := omega) only [wrap8]
      · simp only [dxB, dyB, cond_true]
        simp (disch := omega) only [wrap8]
    rw [impl_grass k v.toLawnS, impl_grass k v.toLawnS, hg]
    simp (disch := omega) only [bT, cond_true, Bool.and_true, Option.bind_some, wrap64 (x := (i : Int) + 1)]
    unfold startB at hrec
    cases h1 : grassB a p.1 p.2 with
    | false =>
      rw [h1] at hrec
      simp only [Bool.not_false, cond_true, Bool.false_and, cond_false] at hrec ⊢
      exact hrec
    | true =>
      rw [h1] at hrec
      simp only [Bool.not_true, cond_false, Bool.true_and] at hrec ⊢
      cases h2 : grassB a (p.1 - dxB b) (p.2 - dyB b) with
      | true =>
        rw [h2] at hrec
        simp only [Bool.not_true, cond_true, cond_false] at hrec ⊢
        exact hrec
      | false =>
        rw [h2, Bool.not_false, cond_true, fl3_append] at hrec
        simp only [cond_false]
        rw [impl_run k _ v b _ _ _ p.1 p.2 hc.1 hc.2 _ (by omega)]
        rw [wrap64 (by omega)]
        simp only [hb, cond_true]
        exact hrec

theorem impl_runs (k : Nat) {a : List Int} {w h : Nat} (v : LawnV a w h) (b : Bool) (hk : 101 < k) : impl_Lawn_runs k a b = some (fl3 (runsOf a b (allC w h))) := by
  unfold impl_Lawn_runs
  rw [impl_all k v (by omega)]
  simp only [Option.bind_some, cnt_fl]
  have := impl_runs_loop k v b hk
  cases b
  · exact this
  · exact this

/-! ## The reference's runs -/

theorem spec_run_loop {R : Type} (k : Nat) (K1 : (List Int) → Bool → Int → (List Int) → (List Int) → (List Int) → Option R) {a : List Int} {w h : Nat} (v : LawnV a w h) (b : Bool) (i : Nat) (o : List Int) (G : List (Int × Int)) (hi : i < G.length) (hx : 0 ≤ (G.getD i (0, 0)).1 ∧ (G.getD i (0, 0)).1 < 10) (hy : 0 ≤ (G.getD i (0, 0)).2 ∧ (G.getD i (0, 0)).2 < 10) :
    ∀ (m n f : Nat), n + m = 11 → 10 ≤ ((G.getD i (0, 0)).1 + n * dxB b) * dxB b + ((G.getD i (0, 0)).2 + n * dyB b) * dyB b + m → m < f →
    loopF (fun (rec : (List Int) × Bool × Int × (List Int) × (List Int) × (List Int) → Option R) (p : (List Int) × Bool × Int × (List Int) × (List Int) × (List Int)) => spec_l01Runs_s0 k K1 (fun h1 h2 h3 h4 h5 h6 => rec (h1, h2, h3, h4, h5, h6)) p.1 p.2.1 p.2.2.1 p.2.2.2.1 p.2.2.2.2.1 p.2.2.2.2.2) f (a, b, (i : Int), o, fl G, [(G.getD i (0, 0)).1, (G.getD i (0, 0)).2, (n : Int)]) =
      K1 a b i o (fl G) [(G.getD i (0, 0)).1, (G.getD i (0, 0)).2, ((n + runLen a b m ((G.getD i (0, 0)).1 + n * dxB b) ((G.getD i (0, 0)).2 + n * dyB b) : Nat) : Int)] := by
  intro m
  have hw := v.wle
  have hh := v.hle
  have hwv := v.wv
  have hhv := v.hv
  have hback : ∀ (n : Nat), n ≤ 11 → spec_l01Back k [(G.getD i (0, 0)).1, (G.getD i (0, 0)).2] b (IntKind.wrap .i8 (0 - (n : Int))) = some [(G.getD i (0, 0)).1 + n * dxB b, (G.getD i (0, 0)).2 + n * dyB b] := by
    intro n hn
    unfold spec_l01Back
    have e1 : rd [(G.getD i (0, 0)).1, (G.getD i (0, 0)).2] 0 = (G.getD i (0, 0)).1 := rfl
    have e2 : rd [(G.getD i (0, 0)).1, (G.getD i (0, 0)).2] 1 = (G.getD i (0, 0)).2 := rfl
    rw [e1, e2]
    cases b
    · simp (disch := omega) only [cond_false, wrap8, dxB, dyB]
      congr 2
      · omega
      · congr 1; omega
    · simp (disch := omega) only [cond_true, wrap8, dxB, dyB]
      congr 2
      · omega
      · congr 1; omega
  induction m with
  | zero =>
    intro n f hn hc hf
    obtain ⟨f, rfl⟩ : ∃ g, f = g + 1 := ⟨f - 1, by omega⟩
    rw [loopF]
    dsimp only
    unfold spec_l01Runs_s0
    have e3 : rd [(G.getD i (0, 0)).1, (G.getD i (0, 0)).2, (n : Int)] 2 = n := rfl
    simp only [cnt_fl, Int.toNat_natCast, fl_x, fl_y, e3]
    rw [hback n (by omega)]
    simp (disch := omega) only [bT, cond_true, Bool.and_true, Option.bind_some]
    have hg : spec_l01Grass k a [(G.getD i (0, 0)).1 + n * dxB b, (G.getD i (0, 0)).2 + n * dyB b] = some false := by
      cases b
      · simp only [dxB, dyB, cond_false] at hc ⊢
        rw [spec_grass k v.toLawnS (by omega) (by omega)]
        cases hg : grassB a ((G.getD i (0, 0)).1 + (n : Int) * 0) ((G.getD i (0, 0)).2 + (n : Int) * 1) with
        | false => rfl
        | true => have := grass_range v.toLawnS hg; omega
      · simp only [dxB, dyB, cond_true] at hc ⊢
        rw [spec_grass k v.toLawnS (by omega) (by omega)]
        cases hg : grassB a ((G.getD i (0, 0)).1 + (n : Int) * 1) ((G.getD i (0, 0)).2 + (n : Int) * 0) with
        | false => rfl
        | true => have := grass_range v.toLawnS hg; omega
    rw [hg]
    rfl
  | succ m ih =>
    intro n f hn hc hf
    obtain ⟨f, rfl⟩ : ∃ g, f = g + 1 := ⟨f - 1, by omega⟩
    rw [loopF]
    dsimp only
    unfold spec_l01Runs_s0
    have e3 : rd [(G.getD i (0, 0)).1, (G.getD i (0, 0)).2, (n : Int)] 2 = n := rfl
    have hrec := ih (n + 1) f (by omega) (by
      cases b
      · simp only [dxB, dyB, cond_false] at hc ⊢; omega
      · simp only [dxB, dyB, cond_true] at hc ⊢; omega) (by omega)
    have hx1 : (G.getD i (0, 0)).1 + ((n + 1 : Nat) : Int) * dxB b = (G.getD i (0, 0)).1 + n * dxB b + dxB b := by
      cases b
      · simp only [dxB, cond_false]; omega
      · simp only [dxB, cond_true]; omega
    have hy1 : (G.getD i (0, 0)).2 + ((n + 1 : Nat) : Int) * dyB b = (G.getD i (0, 0)).2 + n * dyB b + dyB b := by
      cases b
      · simp only [dyB, cond_false]; omega
      · simp only [dyB, cond_true]; omega
    simp only [cnt_fl, Int.toNat_natCast, fl_x, fl_y, e3]
    rw [hback n (by omega)]
    have hg : spec_l01Grass k a [(G.getD i (0, 0)).1 + n * dxB b, (G.getD i (0, 0)).2 + n * dyB b] = some (grassB a ((G.getD i (0, 0)).1 + n * dxB b) ((G.getD i (0, 0)).2 + n * dyB b)) := by
      apply spec_grass k v.toLawnS
      · cases b
        · simp only [dxB, cond_false]; omega
        · simp only [dxB, cond_true]; omega
      · cases b
        · simp only [dyB, cond_false]; omega
        · simp only [dyB, cond_true]; omega
    simp (disch := omega) only [bT, cond_true, Bool.and_true, Option.bind_some]
    rw [hg]
    simp only [Option.bind_some, runLen]
    cases grassB a ((G.getD i (0, 0)).1 + n * dxB b) ((G.getD i (0, 0)).2 + n * dyB b) with
    | false => rfl
    | true =>
      simp only [cond_true]
      rw [wrap8 (x := (n : Int) + 1) (by omega), show (n : Int) + 1 = ((n + 1 : Nat) : Int) by omega]
      refine Eq.trans hrec ?_
      rw [hx1, hy1, show n + 1 + runLen a b m ((G.getD i (0, 0)).1 + n * dxB b + dxB b) ((G.getD i (0, 0)).2 + n * dyB b + dyB b) = n + (runLen a b m ((G.getD i (0, 0)).1 + n * dxB b + dxB b) ((G.getD i (0, 0)).2 + n * dyB b + dyB b) + 1) by omega]

theorem spec_runs (k : Nat) {a : List Int} {w h : Nat} (v : LawnV a w h) (b : Bool) (hk : 101 < k) : spec_l01Runs k a b = some (fl3 (runsOf a b ((allC w h).filter fun p => grassB a p.1 p.2))) := by
  have hw := v.wle
  have hh := v.hle
  have hsm : ((allC w h).filter fun p => grassB a p.1 p.2).length ≤ 100 := Nat.le_trans (List.length_filter_le _ _) (allC_small v)
  have hgr : ∀ p ∈ (allC w h).filter (fun p => grassB a p.1 p.2), grassB a p.1 p.2 = true ∧ ((0 ≤ p.1 ∧ p.1 < 10) ∧ (0 ≤ p.2 ∧ p.2 < 10)) := fun p hp => by
    obtain ⟨h1, h2⟩ := List.mem_filter.1 hp
    exact ⟨h2, cells_in' v h1⟩
  unfold spec_l01Runs
  rw [spec_cells k v 0 hk, grass_filter v]
  generalize (allC w h).filter (fun p => grassB a p.1 p.2) = G at hsm hgr ⊢
  simp only [Option.bind_some]
  unfold spec_l01Runs_l1
  have := loopF_go (R := List Int) (step := fun (rec : (List Int) × Bool × Int × (List Int) × (List Int) → Option (List Int)) (p : (List Int) × Bool × Int × (List Int) × (List Int)) => spec_l01Runs_s1 k (fun y2 => some y2) (fun h1 h2 h3 h4 h5 => rec (h1, h2, h3, h4, h5)) p.1 p.2.1 p.2.2.1 p.2.2.2.1 p.2.2.2.2)
    (fun i => (a, b, (i : Int), fl3 (runsOf a b (G.take i)), fl G)) (fun _ _ => some (fl3 (runsOf a b G))) G.length ?_ ?_ G.length 0 k (by omega) (by omega)
  · exact this
  · intro rec
    dsimp only
    unfold spec_l01Runs_s1
    simp (disch := omega) only [cnt_fl, bF, cond_false, List.take_length]
  · intro i m hi rec hrec
    dsimp only at hrec ⊢
    unfold spec_l01Runs_s1
    have hil : i < G.length := by omega
    obtain ⟨hg, hc1, hc2⟩ := hgr _ (getD_mem G (0, 0) hil)
    have hlen : (fl3 (runsOf a b (G.take i))).length ≤ 300 := by
      have h1 := runsOf_len a b (G.take i)
      rw [List.length_take] at h1
      rw [fl3_length]
      omega
    rw [take_getD _ (0, 0) hil, runsOf_snoc] at hrec
    simp only [cnt_fl, Int.toNat_natCast, fl_x, fl_y]
    generalize runsOf a b (G.take i) = o at hrec hlen ⊢
    have hb : decide ((fl3 o).length + 3 ≤ bigLen) = true := bT (by rw [bigLen_val]; omega)
    have hback : spec_l01Back k [(G.getD i (0, 0)).1, (G.getD i (0, 0)).2] b 1 = some [(G.getD i (0, 0)).1 - dxB b, (G.getD i (0, 0)).2 - dyB b] := by
      unfold spec_l01Back
      have e1 : rd [(G.getD i (0, 0)).1, (G.getD i (0, 0)).2] 0 = (G.getD i (0, 0)).1 := rfl
      have e2 : rd [(G.getD i (0, 0)).1, (G.getD i (0, 0)).2] 1 = (G.getD i (0, 0)).2 := rfl
      rw [e1, e2]
      cases b
      · simp (disch := omega) only [cond_false, wrap8, dxB, dyB, Int.sub_zero]
      · simp (disch := omega) only [cond_true, wrap8, dxB, dyB, Int.sub_zero]
    have hgb : spec_l01Grass k a [(G.getD i (0, 0)).1 - dxB b, (G.getD i (0, 0)).2 - dyB b] = some (grassB a ((G.getD i (0, 0)).1 - dxB b) ((G.getD i (0, 0)).2 - dyB b)) := by
      apply spec_grass k v.toLawnS
      · cases b
        · simp only [dxB, cond_false]; omega
        · simp only [dxB, cond_true]; omega
      · cases b
        · simp only [dyB, cond_false]; omega
        · simp only [dyB, cond_true]; omega
    rw [hback]
    simp (disch := omega) only [bT, cond_true, Bool.and_true, Option.bind_some, wrap64 (x := (i : Int) + 1)]
    rw [hgb]
    simp only [Option.bind_some]
    unfold startB at hrec
    rw [hg, Bool.true_and] at hrec
    cases h2 : grassB a ((G.getD i (0, 0)).1 - dxB b) ((G.getD i (0, 0)).2 - dyB b) with
    | true =>
      rw [h2] at hrec
      simp only [Bool.not_true, cond_true, cond_false] at hrec ⊢
      exact hrec
    | false =>
      rw [h2, Bool.not_false, cond_true, fl3_append] at hrec
      simp only [cond_false]
      unfold spec_l01Runs_l0
      have key := spec_run_loop k (fun y3 y4 y5 y6 y7 y8 =>
                  cond (decide (y6.length + 3 ≤ bigLen))
                    (rec (y3, y4, (IntKind.wrap .i64 (y5 + 1)), (y6 ++ [(rd y8 0), (rd y8 1), (rd y8 2)]), y7))
                    none) v b i (fl3 o) G hil hc1 hc2 11 0 k (by omega) (by
        cases b
        · simp only [dxB, dyB, cond_false]; omega
        · simp only [dxB, dyB, cond_true]; omega) (by omega)
      refine Eq.trans key ?_
      have e0 : (G.getD i (0, 0)).1 + ((0 : Nat) : Int) * dxB b = (G.getD i (0, 0)).1 := by simp
      have e1 : (G.getD i (0, 0)).2 + ((0 : Nat) : Int) * dyB b = (G.getD i (0, 0)).2 := by simp
      rw [e0, e1, Nat.zero_add]
      rw [wrap64 (by omega)]
      simp only [hb, cond_true]
      exact hrec

theorem runs_same (a : List Int) (b : Bool) (L : List (Int × Int)) : runsOf a b (L.filter fun p => grassB a p.1 p.2) = runsOf a b L := by
  unfold runsOf
  rw [List.filter_filter]
  congr 1
  apply List.filter_congr
  intro p _
  unfold startB
  cases grassB a p.1 p.2 <;> simp

theorem spec_runs' (k : Nat) {a : List Int} {w h : Nat} (v : LawnV a w h) (b : Bool) (hk : 101 < k) : spec_l01Runs k a b = some (fl3 (runsOf a b (allC w h))) := by
  rw [spec_runs k v b hk, runs_same]

end Go.Proofs.Ytmpcninebooaiaa.Tt
