/- Plain laws: levels. -/
import Derived.Test.YtkblhnedillknaaY9g
import Derived.Test.YtkblhnedillknaaY10
set_option linter.unusedVariables false
set_option linter.unusedSimpArgs false
namespace Go.Proofs.Ytkblhnedillknaa.Tt
open Go.Ev Go

theorem rd_set (l : List Int) (i j : Nat) (v : Int) : rd (List.set l i v) j = if i = j ∧ i < l.length then v else rd l j := by
  unfold rd
  rw [List.getD_eq_getElem?_getD, List.getD_eq_getElem?_getD, List.getElem?_set]
  by_cases h : i = j
  · subst h
    by_cases h2 : i < l.length
    · simp [h2]
    · simp [h2]
  · simp [h]

/-- Levels are numbers of their kind. -/
structure LevR (g : List Int) : Prop where
  len : g.length = 100
  rng : ∀ j, -128 ≤ rd g j ∧ rd g j < 128

theorem LevR.set {g : List Int} (hg : LevR g) {i : Nat} {v : Int} (hv : -128 ≤ v ∧ v < 128) : LevR (List.set g i v) := by
  refine ⟨by rw [List.length_set]; exact hg.len, fun j => ?_⟩
  rw [rd_set]
  split
  · exact hv
  · exact hg.rng j

theorem levR_zero : LevR (List.replicate 100 0) := by
  refine ⟨by simp, fun j => ?_⟩
  have : rd (List.replicate 100 0) j = 0 := by
    unfold rd
    rw [List.getD_eq_getElem?_getD, List.getElem?_replicate]
    split <;> rfl
  omega

def lcellB (a g : List Int) (y x : Nat) : Bool := decide (-9 ≤ rd g (y * 10 + x)) && (decide (rd g (y * 10 + x) ≤ 9) && ((rd g (y * 10 + x) == 0) || grassB a x y))
def lrowB (a g : List Int) (y : Nat) : Nat → Nat → Bool
  | _, 0 => true
  | x, m + 1 => lcellB a g y x && lrowB a g y (x + 1) m
def lrowsB (a g : List Int) : Nat → Nat → Bool
  | _, 0 => true
  | y, m + 1 => lrowB a g y 0 10 && lrowsB a g (y + 1) m
def levB (a g : List Int) : Bool := lrowsB a g 0 10

theorem spec_level (k : Nat) (n : Int) : spec_l06Level k n = some (decide (-9 ≤ n) && decide (n ≤ 9)) := by
  unfold spec_l06Level
  rw [spec_in]
  rfl

theorem spec_lev_row {R : Type} (k : Nat) (K1 : Bool → Option R) (K2 : (List Int) → (List Int) → Int → Option R) {a g : List Int} (ha : LawnS a) (hg : LevR g) (y : Nat) (hy : y < 10) (hk : 10 < k) :
    spec_l06Ok_l0 k K1 K2 a g (y : Int) 0 = cond (lrowB a g y 0 10) (K2 a g y) (K1 false) := by
  unfold spec_l06Ok_l0
  refine loopF_go (step := fun (rec : (List Int) × (List Int) × Int × Int → Option R) (p : (List Int) × (List Int) × Int × Int) => spec_l06Ok_s0 k K1 K2 (fun h1 h2 h3 h4 => rec (h1, h2, h3, h4)) p.1 p.2.1 p.2.2.1 p.2.2.2)
    (fun i => (a, g, (y : Int), (i : Int))) (fun i m => cond (lrowB a g y i m) (K2 a g y) (K1 false)) 10 ?_ ?_ 10 0 k (by omega) hk
  · intro rec
    dsimp only
    unfold spec_l06Ok_s0
    simp (disch := omega) only [bF, cond_false, lrowB, cond_true]
  · intro i m hi rec hrec
    dsimp only at hrec ⊢
    unfold spec_l06Ok_s0
    have r := hg.rng (y * 10 + i)
    simp (disch := omega) only [bT, cond_true, Bool.and_true, Int.toNat_natCast, Nat.zero_add, Nat.mul_one, wrap64, wrap8, spec_level, Option.bind_some, lrowB, lcellB]
    by_cases c1 : -9 ≤ rd g (y * 10 + i)
    · by_cases c2 : rd g (y * 10 + i) ≤ 9
      · by_cases c3 : rd g (y * 10 + i) = 0
        · simp (disch := omega) only [bT, eqT, neF, Bool.and_true, Bool.true_and, Bool.true_or, Bool.not_true, cond_false]
          exact hrec
        · simp (disch := omega) only [bT, eqF, neT, Bool.and_true, Bool.true_and, Bool.false_or, Bool.not_true, cond_false, cond_true]
          rw [spec_grass k ha (by omega) (by omega)]
          simp only [Option.bind_some]
          cases grassB a i y with
          | false => rfl
          | true => simp only [Bool.not_true, cond_false, Bool.true_and]; exact hrec
      · simp (disch := omega) only [bT, bF, Bool.and_false, Bool.false_and, Bool.not_false, cond_true, cond_false]
    · simp (disch := omega) only [bF, Bool.false_and, Bool.not_false, cond_true, cond_false]

theorem spec_lev (k : Nat) {a g : List Int} (ha : LawnR a) (hg : LevR g) (hk : 10 < k) : spec_l06Ok k a g = some (lawnB a && levB a g) := by
  unfold spec_l06Ok
  rw [spec_valid k hk ha]
  simp only [Option.bind_some]
  cases hv : lawnB a with
  | false => rfl
  | true =>
    have hs := lawnS_of' ha hv
    simp only [Bool.not_true, cond_false, Bool.true_and]
    unfold spec_l06Ok_l1
    have := loopF_go (step := fun (rec : (List Int) × (List Int) × Int → Option Bool) (p : (List Int) × (List Int) × Int) => spec_l06Ok_s1 k (fun y2 => some y2) (some true) (fun h1 h2 h3 => rec (h1, h2, h3)) p.1 p.2.1 p.2.2)
      (fun i => (a, g, (i : Int))) (fun i m => some (lrowsB a g i m)) 10 ?_ ?_ 10 0 k (by omega) hk
    · exact this
    · intro rec
      dsimp only
      unfold spec_l06Ok_s1
      simp (disch := omega) only [bF, cond_false, lrowsB]
    · intro i m hi rec hrec
      dsimp only at hrec ⊢
      unfold spec_l06Ok_s1
      rw [spec_lev_row k _ _ hs hg i (by omega) hk]
      simp (disch := omega) only [bT, cond_true, wrap8, lrowsB]
      cases lrowB a g i 0 10 with
      | false => rfl
      | true => simp only [cond_true, Bool.true_and]; exact hrec

theorem impl_lev_row {R : Type} (k : Nat) (K1 : Bool → Option R) (K2 : Int → (List Int) → (List Int) → Option R) {a g : List Int} (ha : LawnR a) (hg : LevR g) (y : Nat) (hy : y < 10) (q : Int) (hk : 10 < k) :
    impl_ValidLevels_l0 k K1 K2 (y : Int) q 0 a g = cond (lrowB a g y 0 10) (K2 q a g) (K1 false) := by
  unfold impl_ValidLevels_l0
  refine loopF_go (step := fun (rec : Int × Int × Int × (List Int) × (List Int) → Option R) (p : Int × Int × Int × (List Int) × (List Int)) => impl_ValidLevels_s0 k K1 K2 (fun h1 h2 h3 h4 h5 => rec (h1, h2, h3, h4, h5)) p.1 p.2.1 p.2.2.1 p.2.2.2.1 p.2.2.2.2)
    (fun i => ((y : Int), q, (i : Int), a, g)) (fun i m => cond (lrowB a g y i m) (K2 q a g) (K1 false)) 10 ?_ ?_ 10 0 k (by omega) hk
  · intro rec
    dsimp only
    unfold impl_ValidLevels_s0
    simp (disch := omega) only [bF, cond_false, lrowB, cond_true]
  · intro i m hi rec hrec
    dsimp only at hrec ⊢
    unfold impl_ValidLevels_s0
    simp (disch := omega) only [bT, cond_true, Bool.and_true, Int.toNat_natCast, Nat.zero_add, Nat.mul_one, wrap8, Option.bind_some, lrowB, lcellB]
    by_cases c1 : -9 ≤ rd g (y * 10 + i)
    · by_cases c2 : rd g (y * 10 + i) ≤ 9
      · by_cases c3 : rd g (y * 10 + i) = 0
        · simp (disch := omega) only [bT, bF, eqT, neF, Bool.and_true, Bool.true_and, Bool.true_or, Bool.not_true, cond_false]
          exact hrec
        · simp (disch := omega) only [bT, bF, eqF, neT, Bool.and_true, Bool.true_and, Bool.false_or, Bool.not_true, cond_false, cond_true]
          rw [impl_grass10 k ha (by omega) (by omega)]
          simp only [Option.bind_some]
          cases grassB a i y with
          | false => rfl
          | true => simp only [Bool.not_true, cond_false, Bool.true_and]; exact hrec
      · simp (disch := omega) only [bT, bF, Bool.and_false, Bool.false_and, cond_true, cond_false]
    · simp (disch := omega) only [bT, bF, Bool.false_and, cond_true, cond_false]

theorem impl_lev (k : Nat) {a g : List Int} (ha : LawnR a) (hg : LevR g) (hk : 10 < k) : impl_ValidLevels k a g = some (lawnB a && levB a g) := by
  unfold impl_ValidLevels impl_ValidLevels_l1
  have := loopF_go (step := fun (rec : Int × (List Int) × (List Int) → Option Bool) (p : Int × (List Int) × (List Int)) => impl_ValidLevels_s1 k (fun y1 => some y1) (fun y2 => Option.bind (impl_ValidLawn k y2) fun x3 => some x3) (fun h1 h2 h3 => rec (h1, h2, h3)) p.1 p.2.1 p.2.2)
    (fun i => ((i : Int), a, g)) (fun i m => some (lawnB a && lrowsB a g i m)) 10 ?_ ?_ 10 0 k (by omega) hk
  · exact this
  · intro rec
    dsimp only
    unfold impl_ValidLevels_s1
    simp (disch := omega) only [bF, cond_false, lrowsB, impl_valid k hk ha, Option.bind_some, Bool.and_true]
  · intro i m hi rec hrec
    dsimp only at hrec ⊢
    unfold impl_ValidLevels_s1
    rw [impl_lev_row k _ _ ha hg i (by omega) _ hk]
    simp (disch := omega) only [bT, cond_true, wrap8, lrowsB]
    cases lrowB a g i 0 10 with
    | false => simp
    | true => simp only [cond_true, Bool.true_and]; exact hrec

theorem impl_soil_nil (k : Nat) {a g : List Int} (ha : LawnR a) (hg : LevR g) (hk : 10 < k) : impl_soilCode k a g [] = some (cond (lawnB a && levB a g) 0 1) := by
  unfold impl_soilCode
  rw [impl_lev k ha hg hk, impl_cells_nil k ha hk]
  simp only [Option.bind_some]
  cases lawnB a <;> cases levB a g <;> rfl

/-! ## Turning and comparing -/

theorem toInt8A10_eq (n : Nat) (a : List Int) : laws_toInt8A10 (n + 11) a = some (rds a 0 0 10) := by kernel_rfl

theorem toLevels_eq (n : Nat) (a : List Int) : laws_toLevels (n + 11) a = some (rds (win a 0 10) 0 0 10 ++ (rds (win a 10 10) 0 0 10 ++ (rds (win a 20 10) 0 0 10 ++ (rds (win a 30 10) 0 0 10 ++ (rds (win a 40 10) 0 0 10 ++ (rds (win a 50 10) 0 0 10 ++ (rds (win a 60 10) 0 0 10 ++ (rds (win a 70 10) 0 0 10 ++ (rds (win a 80 10) 0 0 10 ++ rds (win a 90 10) 0 0 10))))))))) := by kernel_rfl

theorem toLevels_id (n : Nat) (a : List Int) (h : a.length = 100) : laws_toLevels (n + 11) a = some a := by
  rw [toLevels_eq]
  have e : ∀ off, rds (win a off 10) 0 0 10 = rds a 0 off 10 := fun off => by rw [rds_win, rds_shift]; rfl
  rw [e 0, e 10, e 20, e 30, e 40, e 50, e 60, e 70, e 80, e 90]
  rw [rds_append a 0 10 10 80, rds_append a 0 10 20 70, rds_append a 0 10 30 60, rds_append a 0 10 40 50, rds_append a 0 10 50 40, rds_append a 0 10 60 30, rds_append a 0 10 70 20, rds_append a 0 10 80 10, rds_append a 0 10 90 0]
  rw [rds_all a 100 h]

end Go.Proofs.Ytkblhnedillknaa.Tt
