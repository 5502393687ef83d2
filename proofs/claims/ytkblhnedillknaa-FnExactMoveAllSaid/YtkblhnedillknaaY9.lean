/- Plain laws: a rule for loops; lists of pairs as flat lists; all cells of a lawn. -/
import Derived.Test.YtkblhnedillknaaY5
set_option linter.unusedVariables false
set_option linter.unusedSimpArgs false
namespace Go.Proofs.Ytkblhnedillknaa.Tt
open Go.Ev Go

/-- A loop whose states are told by a number i, with m rounds left. -/
theorem loopF_go {S R : Type} {step : (S → Option R) → S → Option R} (σ : Nat → S) (V : Nat → Nat → Option R) (n : Nat)
    (h0 : ∀ rec : S → Option R, step rec (σ n) = V n 0)
    (hs : ∀ i m, i + (m + 1) = n → ∀ rec : S → Option R, rec (σ (i + 1)) = V (i + 1) m → step rec (σ i) = V i (m + 1)) :
    ∀ m i f, i + m = n → m < f → loopF step f (σ i) = V i m := by
  intro m
  induction m with
  | zero =>
    intro i f hi hf
    obtain ⟨f, rfl⟩ : ∃ g, f = g + 1 := ⟨f - 1, by omega⟩
    have : i = n := by omega
    subst this
    rw [loopF]
    exact h0 _
  | succ m ih =>
    intro i f hi hf
    obtain ⟨f, rfl⟩ : ∃ g, f = g + 1 := ⟨f - 1, by omega⟩
    rw [loopF]
    exact hs i m hi _ (ih (i + 1) f (by omega) (by omega))

/-- A loop with a bound that falls. -/
theorem loopF_wf {S R : Type} {step : (S → Option R) → S → Option R} (Inv : S → Prop) (μ : S → Nat) (V : S → Option R)
    (hs : ∀ s, Inv s → ∀ rec : S → Option R, (∀ s', Inv s' → μ s' < μ s → rec s' = V s') → step rec s = V s) : ∀ f s, Inv s → μ s < f → loopF step f s = V s := by
  intro f
  induction f with
  | zero => intro s _ h; omega
  | succ f ih =>
    intro s hi hf
    rw [loopF]
    exact hs s hi _ fun s' hi' hm => ih s' hi' (by omega)

/-! ## Pairs -/

def fl : List (Int × Int) → List Int
  | [] => []
  | (x, y) :: r => x :: y :: fl r

theorem fl_length : ∀ (L : List (Int × Int)), (fl L).length = L.length * 2 := by
  intro L
  induction L with
  | nil => rfl
  | cons p r ih => obtain ⟨x, y⟩ := p; simp only [fl, List.length_cons, ih]; omega

theorem fl_append : ∀ (L R : List (Int × Int)), fl (L ++ R) = fl L ++ fl R := by
  intro L R
  induction L with
  | nil => rfl
  | cons p r ih => obtain ⟨x, y⟩ := p; simp [fl, ih]

theorem cnt_fl (L : List (Int × Int)) : cnt 2 (fl L) = L.length := cnt_two (fl_length L)

theorem fl_x : ∀ (L : List (Int × Int)) (i : Nat), rd (fl L) (i * 2) = (L.getD i (0, 0)).1 := by
  intro L
  induction L with
  | nil => intro i; simp [fl, rd]
  | cons p r ih =>
    obtain ⟨x, y⟩ := p
    intro i
    cases i with
    | zero => rfl
    | succ i =>
      have e : (i + 1) * 2 = i * 2 + 1 + 1 := by omega
      rw [e]
      show rd (fl r) (i * 2) = _
      rw [ih]
      rfl

theorem fl_y : ∀ (L : List (Int × Int)) (i : Nat), rd (fl L) (i * 2 + 1) = (L.getD i (0, 0)).2 := by
  intro L
  induction L with
  | nil => intro i; simp [fl, rd]
  | cons p r ih =>
    obtain ⟨x, y⟩ := p
    intro i
    cases i with
    | zero => rfl
    | succ i =>
      have e : (i + 1) * 2 + 1 = i * 2 + 1 + 1 + 1 := by omega
      rw [e]
      show rd (fl r) (i * 2 + 1) = _
      rw [ih]
      rfl

/-! ## All cells of a lawn -/

def rowC (y : Nat) (w : Nat) : List (Int × Int) := (List.range w).map fun (x : Nat) => ((x : Int), (y : Int))
def allC (w h : Nat) : List (Int × Int) := (List.range h).flatMap fun (y : Nat) => rowC y w

theorem rowC_succ (y w : Nat) : rowC y (w + 1) = rowC y w ++ [((w : Int), (y : Int))] := by simp [rowC, List.range_succ]
theorem allC_succ (w h : Nat) : allC w (h + 1) = allC w h ++ rowC h w := by simp [allC, List.range_succ]
theorem allC_length (w h : Nat) : (allC w h).length = h * w := by
  induction h with
  | zero => simp [allC]
  | succ h ih => rw [allC_succ, List.length_append, ih, Nat.succ_mul]; simp [rowC]

theorem allC_mem {w h : Nat} {p : Int × Int} : p ∈ allC w h ↔ (0 ≤ p.1 ∧ p.1 < w ∧ 0 ≤ p.2 ∧ p.2 < h) := by
  obtain ⟨x, y⟩ := p
  simp only [allC, rowC, List.mem_flatMap, List.mem_range, List.mem_map, Prod.mk.injEq]
  constructor
  · rintro ⟨i, hi, j, hj, rfl, rfl⟩; omega
  · rintro ⟨h1, h2, h3, h4⟩
    exact ⟨y.toNat, by omega, x.toNat, by omega, by omega, by omega⟩

theorem rowC_length (y w : Nat) : (rowC y w).length = w := by simp [rowC]

theorem take_getD {α : Type} (L : List α) (d : α) {i : Nat} (h : i < L.length) : L.take (i + 1) = L.take i ++ [L.getD i d] := by
  rw [List.take_add_one, List.getD_eq_getElem?_getD]
  simp [h]

theorem getD_mem {α : Type} (L : List α) (d : α) {i : Nat} (h : i < L.length) : L.getD i d ∈ L := by
  simp [List.getD_eq_getElem?_getD, h]

theorem bigLen_val : bigLen = 4294967296 := rfl

/-- A lawn that is right, with its sides. -/
structure LawnV (a : List Int) (w h : Nat) : Prop extends LawnS a where
  wv : rd a 0 = (w : Int)
  hv : rd a 1 = (h : Int)
  w1 : 1 ≤ w
  h1 : 1 ≤ h

theorem LawnV.wle {a : List Int} {w h : Nat} (v : LawnV a w h) : w ≤ 10 := by have := v.wv; have := v.w10; omega
theorem LawnV.hle {a : List Int} {w h : Nat} (v : LawnV a w h) : h ≤ 10 := by have := v.hv; have := v.h10; omega

theorem lawnS_of' {a : List Int} (ha : LawnR a) (h : lawnB a = true) : LawnS a := by
  unfold lawnB sideB at h
  simp only [Bool.and_eq_true, decide_eq_true_eq] at h
  exact ⟨ha, h.1.2, h.2.1.2⟩

theorem lawnV_of {a : List Int} (ha : LawnR a) (h : lawnB a = true) : ∃ w h, LawnV a w h := by
  unfold lawnB sideB at h
  simp only [Bool.and_eq_true, decide_eq_true_eq] at h
  exact ⟨(rd a 0).toNat, (rd a 1).toNat, ⟨⟨ha, h.1.2, h.2.1.2⟩, by omega, by omega, by omega, by omega⟩⟩

/-! ## All cells -/

theorem spec_all_row {R : Type} (k : Nat) (K1 : (List Int) → Int → (List Int) → Option R) {a : List Int} {w h : Nat} (v : LawnV a w h) (y : Nat) (o : List Int) (ho : o.length ≤ 1000) (hk : w < k) :
    spec_l01All_l0 k K1 a (y : Int) 0 o = K1 a y (o ++ fl (rowC y w)) := by
  have hw := v.wv
  have hl := v.wle
  unfold spec_l01All_l0
  have := loopF_go (R := R) (step := fun (rec : (List Int) × Int × Int × (List Int) → Option R) (p : (List Int) × Int × Int × (List Int)) => spec_l01All_s0 k K1 (fun h1 h2 h3 h4 => rec (h1, h2, h3, h4)) p.1 p.2.1 p.2.2.1 p.2.2.2)
    (fun i => (a, (y : Int), (i : Int), o ++ fl (rowC y i))) (fun _ _ => K1 a y (o ++ fl (rowC y w))) w ?_ ?_ w 0 k (by omega) hk
  · simpa [rowC, fl] using this
  · intro rec
    dsimp only
    unfold spec_l01All_s0
    simp (disch := omega) only [hw, bF, cond_false]
  · intro i m hi rec hrec
    dsimp only at hrec ⊢
    unfold spec_l01All_s0
    simp (disch := omega) only [hw, bT, cond_true, List.length_append, fl_length, rowC_length, bigLen_val, wrap8]
    rw [rowC_succ, fl_append, ← List.append_assoc] at hrec
    exact hrec

theorem spec_all (k : Nat) {a : List Int} {w h : Nat} (v : LawnV a w h) (hk : 10 < k) : spec_l01All k a = some (fl (allC w h)) := by
  have hh := v.hv
  have hl := v.hle
  have hwl := v.wle
  unfold spec_l01All spec_l01All_l1
  have := loopF_go (step := fun (rec : (List Int) × Int × (List Int) → Option (List Int)) (p : (List Int) × Int × (List Int)) => spec_l01All_s1 k (fun y1 => some y1) (fun h1 h2 h3 => rec (h1, h2, h3)) p.1 p.2.1 p.2.2)
    (fun i => (a, (i : Int), fl (allC w i))) (fun _ _ => some (fl (allC w h))) h ?_ ?_ h 0 k (by omega) (by omega)
  · exact this
  · intro rec
    dsimp only
    unfold spec_l01All_s1
    simp (disch := omega) only [hh, bF, cond_false]
  · intro i m hi rec hrec
    dsimp only at hrec ⊢
    unfold spec_l01All_s1
    have hlen : (fl (allC w i)).length ≤ 1000 := by
      rw [fl_length, allC_length]
      have := Nat.mul_le_mul (show i ≤ 10 by omega) hwl
      omega
    rw [spec_all_row k _ v i _ hlen (by omega)]
    simp (disch := omega) only [hh, bT, cond_true, wrap8]
    rw [allC_succ, fl_append] at hrec
    exact hrec

theorem impl_all_row {R : Type} (k : Nat) (K1 : Int → Int → (List Int) → (List Int) → Option R) {a : List Int} {w h : Nat} (hl : w ≤ 10) (y : Nat) (q r : Int) (o : List Int) (ho : o.length ≤ 1000) (hk : w < k) :
    impl_Lawn_all_l0 k K1 (y : Int) q r (w : Int) 0 a o = K1 q r a (o ++ fl (rowC y w)) := by
  unfold impl_Lawn_all_l0
  have := loopF_go (R := R) (step := fun (rec : Int × Int × Int × Int × Int × (List Int) × (List Int) → Option R) (p : Int × Int × Int × Int × Int × (List Int) × (List Int)) => impl_Lawn_all_s0 k K1 (fun h1 h2 h3 h4 h5 h6 h7 => rec (h1, h2, h3, h4, h5, h6, h7)) p.1 p.2.1 p.2.2.1 p.2.2.2.1 p.2.2.2.2.1 p.2.2.2.2.2.1 p.2.2.2.2.2.2)
    (fun i => ((y : Int), q, r, (w : Int), (i : Int), a, o ++ fl (rowC y i))) (fun _ _ => K1 q r a (o ++ fl (rowC y w))) w ?_ ?_ w 0 k (by omega) hk
  · simpa [rowC, fl] using this
  · intro rec
    dsimp only
    unfold impl_Lawn_all_s0
    simp (disch := omega) only [bF, cond_false]
  · intro i m hi rec hrec
    dsimp only at hrec ⊢
    unfold impl_Lawn_all_s0
    simp (disch := omega) only [bT, cond_true, List.length_append, fl_length, rowC_length, bigLen_val, wrap8]
    rw [rowC_succ, fl_append, ← List.append_assoc] at hrec
    exact hrec

theorem impl_all (k : Nat) {a : List Int} {w h : Nat} (v : LawnV a w h) (hk : 10 < k) : impl_Lawn_all k a = some (fl (allC w h)) := by
  have hh := v.hv
  have hw := v.wv
  have hl := v.hle
  have hwl := v.wle
  unfold impl_Lawn_all impl_Lawn_all_l1
  rw [hh]
  have := loopF_go (step := fun (rec : Int × Int × (List Int) × (List Int) → Option (List Int)) (p : Int × Int × (List Int) × (List Int)) => impl_Lawn_all_s1 k (fun y1 => some y1) (fun h1 h2 h3 h4 => rec (h1, h2, h3, h4)) p.1 p.2.1 p.2.2.1 p.2.2.2)
    (fun i => ((h : Int), (i : Int), a, fl (allC w i))) (fun _ _ => some (fl (allC w h))) h ?_ ?_ h 0 k (by omega) (by omega)
  · exact this
  · intro rec
    dsimp only
    unfold impl_Lawn_all_s1
    simp (disch := omega) only [bF, cond_false]
  · intro i m hi rec hrec
    dsimp only at hrec ⊢
    unfold impl_Lawn_all_s1
    have hlen : (fl (allC w i)).length ≤ 1000 := by
      rw [fl_length, allC_length]
      have := Nat.mul_le_mul (show i ≤ 10 by omega) hwl
      omega
    rw [hw, impl_all_row (h := h) k _ hwl i _ _ _ hlen (by omega)]
    simp (disch := omega) only [bT, cond_true, wrap8]
    rw [allC_succ, fl_append] at hrec
    exact hrec

/-! ## Grass -/

def grassB (a : List Int) (x y : Int) : Bool := hasB a x y && (kindV a x y == 0)

theorem impl_grass (k : Nat) {a : List Int} (ha : LawnS a) (x y : Int) : impl_Lawn_grass k a [x, y] = some (grassB a x y) := by
  unfold impl_Lawn_grass grassB
  have e : impl_Lawn_is k a [rd [x, y] 0, rd [x, y] 1] 0 = some (hasB a x y && (kindV a x y == 0)) := impl_is k ha x y 0
  rw [e]
  rfl

theorem grass_range {a : List Int} (ha : LawnS a) {x y : Int} (h : grassB a x y = true) : 0 ≤ x ∧ x < rd a 0 ∧ 0 ≤ y ∧ y < rd a 1 := by
  unfold grassB at h
  rw [Bool.and_eq_true] at h
  exact hasB_true h.1

end Go.Proofs.Ytkblhnedillknaa.Tt
