/- Plain laws: a lawn with another kind of a cell; GiveUp and PlantAt. -/
import Derived.Test.YtmpcninebooaiaaY14
set_option linter.unusedVariables false
set_option linter.unusedSimpArgs false
namespace Go.Proofs.Ytmpcninebooaiaa.Tt
open Go.Ev Go

theorem rd_set2 (l : List Int) (i j : Nat) (v : Int) : rd (List.set l i v) j = if i = j ∧ i < l.length then v else rd l j := by
  unfold rd
  rw [List.getD_eq_getElem?_getD, List.getD_eq_getElem?_getD, List.getElem?_set]
  by_cases h : i = j
  · subst h
    by_cases h2 : i < l.length
    · simp [h2]
    · simp [h2]
  · simp [h]

def turn (a : List Int) (x y v : Int) : List Int := List.set a (2 + y.toNat * 10 + x.toNat) v

theorem turn_V {a : List Int} {w h : Nat} (v : LawnV a w h) (x y : Int) {n : Int} (hn : 0 ≤ n ∧ n < 256) : LawnV (turn a x y n) w h := by
  have e : ∀ j, j < 2 → rd (turn a x y n) j = rd a j := fun j hj => by
    unfold turn
    rw [rd_set2, if_neg (by omega)]
  have e0 := e 0 (by omega)
  have e1 := e 1 (by omega)
  refine ⟨⟨⟨?_, ?_, ?_, ?_⟩, ?_, ?_⟩, ?_, ?_, v.w1, v.h1⟩
  · unfold turn; rw [List.length_set]; exact v.len
  · rw [e0]; exact v.wide
  · rw [e1]; exact v.high
  · intro j hj
    unfold turn
    rw [rd_set2]
    split
    · exact hn
    · exact v.cell j hj
  · rw [e0]; exact v.w10
  · rw [e1]; exact v.h10
  · rw [e0]; exact v.wv
  · rw [e1]; exact v.hv

theorem turn_has {a : List Int} (x y n x' y' : Int) : hasB (turn a x y n) x' y' = hasB a x' y' := by
  unfold hasB turn
  rw [rd_set2, if_neg (by omega), rd_set2, if_neg (by omega)]

theorem turn_K {a : List Int} (h3 : Kind3 a) (x y : Int) {n : Int} (hn : n ≤ 3) : Kind3 (turn a x y n) := by
  intro x' y' hh
  rw [turn_has] at hh
  have := h3 x' y' hh
  unfold kindV turn
  rw [rd_set2]
  split
  · exact hn
  · exact this

theorem spec_with (k : Nat) (a : List Int) {x y : Int} (n : Int) (hx : 0 ≤ x ∧ x < 10) (hy : 0 ≤ y ∧ y < 10) : spec_l05With k a [x, y] n = some (turn a x y n) := by
  unfold spec_l05With
  have e1 : rd [x, y] 0 = x := rfl
  have e2 : rd [x, y] 1 = y := rfl
  rw [e1, e2]
  simp (disch := omega) only [bT, cond_true, Bool.and_true, Nat.mul_one]
  rfl

theorem impl_turned (k : Nat) (a : List Int) {x y : Int} (n : Int) (hx : 0 ≤ x ∧ x < 10) (hy : 0 ≤ y ∧ y < 10) : impl_Lawn_turned k a [x, y] n = some (turn a x y n) := spec_with k a n hx hy

/-- The best cell of some, by a measure. -/
def bestS (better : Int → Int → Bool) (m : Int × Int → Int) (s : Int × Int × Int) (p : Int × Int) : Int × Int × Int := cond (better (m p) s.1) (m p, p.1, p.2) s
def bestL (better : Int → Int → Bool) (m : Int × Int → Int) (L : List (Int × Int)) : Int × Int × Int := L.foldl (bestS better m) (-1, 0, 0)
theorem bestL_snoc (better : Int → Int → Bool) (m : Int × Int → Int) (L : List (Int × Int)) (p : Int × Int) : bestL better m (L ++ [p]) = bestS better m (bestL better m L) p := by simp [bestL]

def giveB (n least : Int) : Bool := decide (least < 0) || decide (n < least)
def plantB (n most : Int) : Bool := decide (n > most)

def turnE (a : List Int) (w h : Nat) (n : Int) (p : Int × Int) : Int := edgeV (turn a p.1 p.2 n) w h
def pickV (s : Int × Int × Int) : List Int × Int × Int := cond (decide (s.1 < 0)) ([0, 0], 0, 6) ([s.2.1, s.2.2], s.1, 0)

theorem cells_in {a : List Int} {w h : Nat} (v : LawnV a w h) {p : Int × Int} (hp : p ∈ allC w h) : (0 ≤ p.1 ∧ p.1 < 10) ∧ (0 ≤ p.2 ∧ p.2 < 10) := by
  have := allC_mem.1 hp
  have := v.wle
  have := v.hle
  omega

theorem spec_give_loop (k : Nat) {a : List Int} {w h : Nat} (v : LawnV a w h) (h3 : Kind3 a) (L : List (Int × Int)) (hL : ∀ p ∈ L, p ∈ allC w h) (hl : L.length ≤ 100) (hk : 101 < k) :
    spec_GiveUp_l0 k (fun y3 (y4 : List Int) y5 => cond (decide (y3 < 0)) (some ([0, 0], 0, 6)) (some ([(rd y5 0), (rd y5 1)], y3, 0))) (-1) 0 a [0, 0] [0, 0] (fl L) = some (pickV (bestL giveB (turnE a w h 0) L)) := by
  unfold spec_GiveUp_l0
  have := loopF_go (R := List Int × Int × Int) (step := fun (rec : Int × Int × (List Int) × (List Int) × (List Int) × (List Int) → Option (List Int × Int × Int)) (p : Int × Int × (List Int) × (List Int) × (List Int) × (List Int)) => spec_GiveUp_s0 k (fun y3 (y4 : List Int) y5 => cond (decide (y3 < 0)) (some ([0, 0], 0, 6)) (some ([(rd y5 0), (rd y5 1)], y3, 0))) (fun h1 h2 h3 h4 h5 h6 => rec (h1, h2, h3, h4, h5, h6)) p.1 p.2.1 p.2.2.1 p.2.2.2.1 p.2.2.2.2.1 p.2.2.2.2.2)
    (fun i => ((bestL giveB (turnE a w h 0) (L.take i)).1, (i : Int), a, [0, 0], [(bestL giveB (turnE a w h 0) (L.take i)).2.1, (bestL giveB (turnE a w h 0) (L.take i)).2.2], fl L)) (fun _ _ => some (pickV (bestL giveB (turnE a w h 0) L))) L.length ?_ ?_ L.length 0 k (by omega) (by omega)
  · exact this
  · intro rec
    dsimp only
    unfold spec_GiveUp_s0
    simp (disch := omega) only [cnt_fl, bF, cond_false, List.take_length]
    unfold pickV
    cases decide ((bestL giveB (turnE a w h 0) L).1 < 0) <;> rfl
  · intro i m hi rec hrec
    dsimp only at hrec ⊢
    unfold spec_GiveUp_s0
    have hil : i < L.length := by omega
    have hr := cells_in v (hL _ (getD_mem L (0, 0) hil))
    rw [take_getD _ (0, 0) hil, bestL_snoc] at hrec
    simp only [cnt_fl, Int.toNat_natCast, fl_x, fl_y]
    generalize L.getD i (0, 0) = p at hrec hr ⊢
    generalize bestL giveB (turnE a w h 0) (L.take i) = s at hrec ⊢
    rw [spec_with k a 0 hr.1 hr.2]
    have he := spec_edge k (turn_V v p.1 p.2 (n := 0) (by omega)) (turn_K h3 p.1 p.2 (n := 0) (by omega)) hk
    simp (disch := omega) only [bT, cond_true, Bool.and_true, Option.bind_some, he, wrap64 (x := (i : Int) + 1)]
    simp only [bestS, giveB] at hrec
    rw [show edgeV (turn a p.1 p.2 0) w h = turnE a w h 0 p from rfl]
    cases h1 : decide (s.1 < 0) with
    | true => rw [h1] at hrec; simp only [Bool.true_or, cond_true] at hrec ⊢; exact hrec
    | false =>
      rw [h1] at hrec
      simp only [Bool.false_or, cond_false] at hrec ⊢
      cases h2 : decide (turnE a w h 0 p < s.1) with
      | true => rw [h2] at hrec; simp only [cond_true] at hrec ⊢; exact hrec
      | false => rw [h2] at hrec; simp only [cond_false] at hrec ⊢; exact hrec

theorem impl_give_loop (k : Nat) {a : List Int} {w h : Nat} (v : LawnV a w h) (h3 : Kind3 a) (L : List (Int × Int)) (hL : ∀ p ∈ L, p ∈ allC w h) (hl : L.length ≤ 100) (hk : 101 < k) :
    impl_GiveUp_l0 k (fun y3 (y4 : List Int) y5 => cond (decide (y3 < 0)) (some ([0, 0], 0, 6)) (some ([(rd y5 0), (rd y5 1)], y3, 0))) (-1) (L.length : Int) 0 a [0, 0] [0, 0] (fl L) = some (pickV (bestL giveB (turnE a w h 0) L)) := by
  unfold impl_GiveUp_l0
  have := loopF_go (R := List Int × Int × Int) (step := fun (rec : Int × Int × Int × (List Int) × (List Int) × (List Int) × (List Int) → Option (List Int × Int × Int)) (p : Int × Int × Int × (List Int) × (List Int) × (List Int) × (List Int)) => impl_GiveUp_s0 k (fun y3 (y4 : List Int) y5 => cond (decide (y3 < 0)) (some ([0, 0], 0, 6)) (some ([(rd y5 0), (rd y5 1)], y3, 0))) (fun h1 h2 h3 h4 h5 h6 h7 => rec (h1, h2, h3, h4, h5, h6, h7)) p.1 p.2.1 p.2.2.1 p.2.2.2.1 p.2.2.2.2.1 p.2.2.2.2.2.1 p.2.2.2.2.2.2)
    (fun i => ((bestL giveB (turnE a w h 0) (L.take i)).1, (L.length : Int), (i : Int), a, [0, 0], [(bestL giveB (turnE a w h 0) (L.take i)).2.1, (bestL giveB (turnE a w h 0) (L.take i)).2.2], fl L)) (fun _ _ => some (pickV (bestL giveB (turnE a w h 0) L))) L.length ?_ ?_ L.length 0 k (by omega) (by omega)
  · exact this
  · intro rec
    dsimp only
    unfold impl_GiveUp_s0
    simp (disch := omega) only [bF, cond_false, List.take_length]
    unfold pickV
    cases decide ((bestL giveB (turnE a w h 0) L).1 < 0) <;> rfl
  · intro i m hi rec hrec
    dsimp only at hrec ⊢
    unfold impl_GiveUp_s0
    have hil : i < L.length := by omega
    have hr := cells_in v (hL _ (getD_mem L (0, 0) hil))
    rw [take_getD _ (0, 0) hil, bestL_snoc] at hrec
    simp only [cnt_fl, Int.toNat_natCast, fl_x, fl_y]
    generalize L.getD i (0, 0) = p at hrec hr ⊢
    generalize bestL giveB (turnE a w h 0) (L.take i) = s at hrec ⊢
    rw [impl_turned k a 0 hr.1 hr.2]
    have he := impl_edge k (turn_V v p.1 p.2 (n := 0) (by omega)) (turn_K h3 p.1 p.2 (n := 0) (by omega)) hk
    simp (disch := omega) only [bT, cond_true, Bool.and_true, Option.bind_some, he, wrap64 (x := (i : Int) + 1)]
    simp only [bestS, giveB] at hrec
    rw [show edgeV (turn a p.1 p.2 0) w h = turnE a w h 0 p from rfl]
    cases h1 : decide (s.1 < 0) with
    | true => rw [h1] at hrec; simp only [Bool.true_or, cond_true] at hrec ⊢; exact hrec
    | false =>
      rw [h1] at hrec
      simp only [Bool.false_or, cond_false] at hrec ⊢
      cases h2 : decide (turnE a w h 0 p < s.1) with
      | true => rw [h2] at hrec; simp only [cond_true] at hrec ⊢; exact hrec
      | false => rw [h2] at hrec; simp only [cond_false] at hrec ⊢; exact hrec

theorem filter_small {a : List Int} {w h : Nat} (v : LawnV a w h) (g : Int × Int → Bool) : ((allC w h).filter g).length ≤ 100 := Nat.le_trans (List.length_filter_le _ _) (allC_small v)

theorem giveUp_eq (k : Nat) {a : List Int} (ha : LawnR a) (hk : 101 < k) : spec_GiveUp k a = impl_GiveUp k a ∧ ∃ r, impl_GiveUp k a = some r := by
  unfold spec_GiveUp impl_GiveUp
  rw [spec_valid k (by omega) ha, impl_valid k (by omega) ha]
  cases hv : lawnB a with
  | false => exact ⟨rfl, _, rfl⟩
  | true =>
    obtain ⟨w, h, v⟩ := lawnV_of ha hv
    have h3 := kind3_of ha hv
    have e1 := spec_cells k v 1 hk
    have e2 := impl_those k v (fun z2 => (impl_GiveUp_1 k [(rd z2 0), (rd z2 1)] a).bind fun b => some b) (fun p => kindV a p.1 p.2 == 1) (fun p hp => by
      show (impl_GiveUp_1 k [p.1, p.2] a).bind _ = _
      unfold impl_GiveUp_1
      rw [show impl_Lawn_is k a [rd [p.1, p.2] 0, rd [p.1, p.2] 1] 1 = some (hasB a p.1 p.2 && (kindV a p.1 p.2 == 1)) from impl_is k v.toLawnS p.1 p.2 1, hasB_all v hp]
      rfl) hk
    have hsm := filter_small v fun p => kindV a p.1 p.2 == 1
    have hmem : ∀ p ∈ (allC w h).filter (fun p => kindV a p.1 p.2 == 1), p ∈ allC w h := fun p hp => (List.mem_filter.1 hp).1
    simp only [Option.bind_some, Bool.not_true, cond_false, e1, e2, cnt_fl]
    rw [spec_give_loop k v h3 _ hmem hsm hk, impl_give_loop k v h3 _ hmem hsm hk]
    exact ⟨rfl, _, rfl⟩

theorem giveUp_true {a : List Int} (ha : LawnR a) : ∃ k, laws_FnExactGiveUp k a = some true := by
  obtain ⟨k, hk⟩ : ∃ k, k = 189 := ⟨_, rfl⟩
  obtain ⟨e, r, hr⟩ := giveUp_eq (k + 11) ha (by omega)
  refine ⟨k + 11, ?_⟩
  unfold laws_FnExactGiveUp
  simp only [toLawn_id k a ha.len, Option.bind_some, e, hr]
  have ec : ∀ q, laws_eqCell (k + 11) q q = some true := fun q => by unfold laws_eqCell; simp
  rw [ec]
  simp only [Option.bind_some, Bool.not_true, cond_false, bne_self_eq_false]

/-! ## PlantAt -/

theorem spec_plant_loop (k : Nat) {a : List Int} {w h : Nat} (v : LawnV a w h) (h3 : Kind3 a) (L : List (Int × Int)) (hL : ∀ p ∈ L, p ∈ allC w h) (hl : L.length ≤ 100) (hk : 101 < k) :
    spec_PlantAt_l0 k (fun y3 (y4 : List Int) y5 => cond (decide (y3 < 0)) (some ([0, 0], 0, 6)) (some ([(rd y5 0), (rd y5 1)], y3, 0))) (-1) 0 a [0, 0] [0, 0] (fl L) = some (pickV (bestL plantB (turnE a w h 1) L)) := by
  unfold spec_PlantAt_l0
  have := loopF_go (R := List Int × Int × Int) (step := fun (rec : Int × Int × (List Int) × (List Int) × (List Int) × (List Int) → Option (List Int × Int × Int)) (p : Int × Int × (List Int) × (List Int) × (List Int) × (List Int)) => spec_PlantAt_s0 k (fun y3 (y4 : List Int) y5 => cond (decide (y3 < 0)) (some ([0, 0], 0, 6)) (some ([(rd y5 0), (rd y5 1)], y3, 0))) (fun h1 h2 h3 h4 h5 h6 => rec (h1, h2, h3, h4, h5, h6)) p.1 p.2.1 p.2.2.1 p.2.2.2.1 p.2.2.2.2.1 p.2.2.2.2.2)
    (fun i => ((bestL plantB (turnE a w h 1) (L.take i)).1, (i : Int), a, [0, 0], [(bestL plantB (turnE a w h 1) (L.take i)).2.1, (bestL plantB (turnE a w h 1) (L.take i)).2.2], fl L)) (fun _ _ => some (pickV (bestL plantB (turnE a w h 1) L))) L.length ?_ ?_ L.length 0 k (by omega) (by omega)
  · exact this
  · intro rec
    dsimp only
    unfold spec_PlantAt_s0
    simp (disch := omega) only [cnt_fl, bF, cond_false, List.take_length]
    unfold pickV
    cases decide ((bestL plantB (turnE a w h 1) L).1 < 0) <;> rfl
  · intro i m hi rec hrec
    dsimp only at hrec ⊢
    unfold spec_PlantAt_s0
    have hil : i < L.length := by omega
    have hr := cells_in v (hL _ (getD_mem L (0, 0) hil))
    rw [take_getD _ (0, 0) hil, bestL_snoc] at hrec
    simp only [cnt_fl, Int.toNat_natCast, fl_x, fl_y]
    generalize L.getD i (0, 0) = p at hrec hr ⊢
    generalize bestL plantB (turnE a w h 1) (L.take i) = s at hrec ⊢
    rw [spec_with k a 1 hr.1 hr.2]
    have he := spec_edge k (turn_V v p.1 p.2 (n := 1) (by omega)) (turn_K h3 p.1 p.2 (n := 1) (by omega)) hk
    simp (disch := omega) only [bT, cond_true, Bool.and_true, Option.bind_some, he, wrap64 (x := (i : Int) + 1)]
    simp only [bestS, plantB] at hrec
    rw [show edgeV (turn a p.1 p.2 1) w h = turnE a w h 1 p from rfl]
    cases h2 : decide (turnE a w h 1 p > s.1) with
    | true => rw [h2] at hrec; simp only [cond_true] at hrec ⊢; exact hrec
    | false => rw [h2] at hrec; simp only [cond_false] at hrec ⊢; exact hrec

theorem impl_plant_loop (k : Nat) {a : List Int} {w h : Nat} (v : LawnV a w h) (h3 : Kind3 a) (L : List (Int × Int)) (hL : ∀ p ∈ L, p ∈ allC w h) (hl : L.length ≤ 100) (hk : 101 < k) :
    impl_PlantAt_l0 k (fun y3 (y4 : List Int) y5 => cond (decide (y3 < 0)) (some ([0, 0], 0, 6)) (some ([(rd y5 0), (rd y5 1)], y3, 0))) (-1) (L.length : Int) 0 a [0, 0] [0, 0] (fl L) = some (pickV (bestL plantB (turnE a w h 1) L)) := by
  unfold impl_PlantAt_l0
  have := loopF_go (R := List Int × Int × Int) (step := fun (rec : Int × Int × Int × (List Int) × (List Int) × (List Int) × (List Int) → Option (List Int × Int × Int)) (p : Int × Int × Int × (List Int) × (List Int) × (List Int) × (List Int)) => impl_PlantAt_s0 k (fun y3 (y4 : List Int) y5 => cond (decide (y3 < 0)) (some ([0, 0], 0, 6)) (some ([(rd y5 0), (rd y5 1)], y3, 0))) (fun h1 h2 h3 h4 h5 h6 h7 => rec (h1, h2, h3, h4, h5, h6, h7)) p.1 p.2.1 p.2.2.1 p.2.2.2.1 p.2.2.2.2.1 p.2.2.2.2.2.1 p.2.2.2.2.2.2)
    (fun i => ((bestL plantB (turnE a w h 1) (L.take i)).1, (L.length : Int), (i : Int), a, [0, 0], [(bestL plantB (turnE a w h 1) (L.take i)).2.1, (bestL plantB (turnE a w h 1) (L.take i)).2.2], fl L)) (fun _ _ => some (pickV (bestL plantB (turnE a w h 1) L))) L.length ?_ ?_ L.length 0 k (by omega) (by omega)
  · exact this
  · intro rec
    dsimp only
    unfold impl_PlantAt_s0
    simp (disch := omega) only [bF, cond_false, List.take_length]
    unfold pickV
    cases decide ((bestL plantB (turnE a w h 1) L).1 < 0) <;> rfl
  · intro i m hi rec hrec
    dsimp only at hrec ⊢
    unfold impl_PlantAt_s0
    have hil : i < L.length := by omega
    have hr := cells_in v (hL _ (getD_mem L (0, 0) hil))
    rw [take_getD _ (0, 0) hil, bestL_snoc] at hrec
    simp only [cnt_fl, Int.toNat_natCast, fl_x, fl_y]
    generalize L.getD i (0, 0) = p at hrec hr ⊢
    generalize bestL plantB (turnE a w h 1) (L.take i) = s at hrec ⊢
    rw [impl_turned k a 1 hr.1 hr.2]
    have he := impl_edge k (turn_V v p.1 p.2 (n := 1) (by omega)) (turn_K h3 p.1 p.2 (n := 1) (by omega)) hk
    simp (disch := omega) only [bT, cond_true, Bool.and_true, Option.bind_some, he, wrap64 (x := (i : Int) + 1)]
    simp only [bestS, plantB] at hrec
    rw [show edgeV (turn a p.1 p.2 1) w h = turnE a w h 1 p from rfl]
    cases h2 : decide (turnE a w h 1 p > s.1) with
    | true => rw [h2] at hrec; simp only [cond_true] at hrec ⊢; exact hrec
    | false => rw [h2] at hrec; simp only [cond_false] at hrec ⊢; exact hrec

theorem plantAt_eq (k : Nat) {a : List Int} (ha : LawnR a) (hk : 101 < k) : spec_PlantAt k a = impl_PlantAt k a ∧ ∃ r, impl_PlantAt k a = some r := by
  unfold spec_PlantAt impl_PlantAt
  rw [spec_valid k (by omega) ha, impl_valid k (by omega) ha]
  cases hv : lawnB a with
  | false => exact ⟨rfl, _, rfl⟩
  | true =>
    obtain ⟨w, h, v⟩ := lawnV_of ha hv
    have h3 := kind3_of ha hv
    have e1 := spec_cells k v 0 hk
    rw [grass_filter v] at e1
    have e2 := impl_those k v (fun z1 => (impl_Lawn_grass k a [rd z1 0, rd z1 1]).bind fun b => some b) (fun p => grassB a p.1 p.2) (fun p _ => impl_grassL k v.toLawnS p) hk
    have hsm := filter_small v fun p => grassB a p.1 p.2
    have hmem : ∀ p ∈ (allC w h).filter (fun p => grassB a p.1 p.2), p ∈ allC w h := fun p hp => (List.mem_filter.1 hp).1
    simp only [Option.bind_some, Bool.not_true, cond_false, e1, e2, cnt_fl]
    rw [spec_plant_loop k v h3 _ hmem hsm hk, impl_plant_loop k v h3 _ hmem hsm hk]
    exact ⟨rfl, _, rfl⟩

theorem plantAt_true {a : List Int} (ha : LawnR a) : ∃ k, laws_FnExactPlantAt k a = some true := by
  obtain ⟨k, hk⟩ : ∃ k, k = 189 := ⟨_, rfl⟩
  obtain ⟨e, r, hr⟩ := plantAt_eq (k + 11) ha (by omega)
  refine ⟨k + 11, ?_⟩
  unfold laws_FnExactPlantAt
  simp only [toLawn_id k a ha.len, Option.bind_some, e, hr]
  have ec : ∀ q, laws_eqCell (k + 11) q q = some true := fun q => by unfold laws_eqCell; simp
  rw [ec]
  simp only [Option.bind_some, Bool.not_true, cond_false, bne_self_eq_false]

end Go.Proofs.Ytmpcninebooaiaa.Tt
