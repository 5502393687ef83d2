/- Plain laws: CoveredBy and CoveredTwice. -/
import Derived.Test.YtkblhnedillknaaY7
import Derived.Test.YtkblhnedillknaaY13
import Derived.Test.YtkblhnedillknaaY23
set_option linter.unusedVariables false
set_option linter.unusedSimpArgs false
namespace Go.Proofs.Ytkblhnedillknaa.Tt
open Go.Ev Go

/-- The code of a walk. -/
def walkC (a l : List Int) (n : Nat) : Int := cond (!lawnB a) 1 (cond (decide ((n : Int) > 201)) 3 (cond (walkB a l 0 n && decide ((n : Int) > 0)) 0 4))

theorem spec_walked (k : Nat) (hk : 10 < k) {a l : List Int} {n : Nat} (ha : LawnR a) (hl : CellsR l n) (hn : n < k) : spec_l04Walked k a l = some (walkC a l n) := by
  unfold spec_l04Walked walkC
  rw [spec_valid k hk ha]
  simp only [Option.bind_some]
  cases hv : lawnB a with
  | false => rfl
  | true =>
    rw [cnt_two hl.len]
    simp only [Bool.not_true, cond_false]
    cases hq : decide ((n : Int) > 201) with
    | true => rfl
    | false =>
      simp only [cond_false]
      have h : spec_l04Right k a l = cond (walkB a l 0 n) (some (decide (((cnt 2 l) : Int) > 0))) (some false) :=
        spec_walk k (fun y1 => some y1) (fun y2 => some (decide (((cnt 2 y2) : Int) > 0))) (lawnS_of' ha hv) hl n 0 k (by omega) hn (.inl rfl)
      rw [h, cnt_two hl.len]
      cases walkB a l 0 n with
      | false => rfl
      | true =>
        simp only [cond_true, Option.bind_some, Bool.true_and]
        cases decide ((n : Int) > 0) <;> rfl

theorem impl_walked (k : Nat) (hk : 10 < k + 6) {a l : List Int} {n : Nat} (ha : LawnR a) (hl : CellsR l n) (hn : n < k + 6) : impl_walkCode (k + 6) a [l] = some (walkC a l n) := by
  unfold impl_walkCode walkC
  rw [impl_valid (k + 6) hk ha]
  simp only [Option.bind_some]
  cases hv : lawnB a with
  | false => rfl
  | true =>
    simp only [Bool.not_true, cond_false]
    have h1 := containsFunc_one (k + 4) l (fun z2 => (impl_walkCode_1 (k + 6) z2).bind fun b => some b) (decide ((n : Int) > 201)) (by unfold impl_walkCode_1; rw [cnt_two hl.len]; rfl)
    have h1 : slices_ContainsFunc_S_impl_Cell (k + 6) [l] (fun z2 => (impl_walkCode_1 (k + 6) z2).bind fun b => some b) = some (decide ((n : Int) > 201)) := h1
    rw [h1]
    simp only [Option.bind_some]
    cases hq : decide ((n : Int) > 201) with
    | true => rfl
    | false =>
      simp only [cond_false]
      have h : impl_Lawn_isWalk (k + 6) a l = cond (walkB a l 0 n) (some (decide ((n : Int) > 0))) (some false) := by
        unfold impl_Lawn_isWalk impl_Lawn_isWalk_l0
        rw [cnt_two hl.len]
        refine Eq.trans ?_ (show cond (walkB a l 0 n) (some (decide (((cnt 2 l) : Int) > 0))) (some false) = _ by rw [cnt_two hl.len])
        exact impl_walk k (fun y1 => some y1) (fun y2 => some (decide (((cnt 2 y2) : Int) > 0))) (lawnS_of' ha hv) hl n 0 (k + 6) (by omega) hn (.inl rfl)
      have h2 := containsFunc_one (k + 4) l (fun z4 => (impl_walkCode_2 (k + 6) z4 a).bind fun b => some b) (!(cond (walkB a l 0 n) (decide ((n : Int) > 0)) false)) (by
        unfold impl_walkCode_2
        rw [h]
        cases walkB a l 0 n <;> rfl)
      have h2 : slices_ContainsFunc_S_impl_Cell (k + 6) [l] (fun z4 => (impl_walkCode_2 (k + 6) z4 a).bind fun b => some b) = some (!(cond (walkB a l 0 n) (decide ((n : Int) > 0)) false)) := h2
      rw [h2]
      cases walkB a l 0 n with
      | false => rfl
      | true =>
        simp only [cond_true, Option.bind_some, Bool.true_and]
        cases decide ((n : Int) > 0) <;> rfl

/-- How often a walk comes to a cell. -/
def timesN (l : List Int) (x y : Int) : Nat → Int
  | 0 => 0
  | i + 1 => cond (eqL [rd l (i * 2), rd l (i * 2 + 1)] [x, y]) (IntKind.wrap .i64 (timesN l x y i + 1)) (timesN l x y i)

theorem impl_times_eq (k : Nat) {l : List Int} {n : Nat} (hl : l.length = n * 2) (hn : n ≤ 1048576) (x y : Int) (hk : n < k) : impl_times k l [x, y] = some (timesN l x y n) := by
  unfold impl_times impl_times_l0
  rw [cnt_two hl]
  refine loopF_go (R := Int) (step := fun (rec : Int × (List Int) × Int × Int × (List Int) → Option Int) (p : Int × (List Int) × Int × Int × (List Int)) => impl_times_s0 k (fun y1 => some y1) (fun h1 h2 h3 h4 h5 => rec (h1, h2, h3, h4, h5)) p.1 p.2.1 p.2.2.1 p.2.2.2.1 p.2.2.2.2)
    (fun i => (timesN l x y i, l, (n : Int), (i : Int), [x, y])) (fun _ _ => some (timesN l x y n)) n ?_ ?_ n 0 k (by omega) hk
  · intro rec
    dsimp only
    unfold impl_times_s0
    simp (disch := omega) only [bF, cond_false]
  · intro i m hi rec hrec
    dsimp only at hrec ⊢
    unfold impl_times_s0
    rw [cnt_two hl, wrap64 (x := (i : Int) + 1) (by omega), bT (p := (i : Int) < (n : Int)) (by omega), bT (p := (0 : Int) ≤ (i : Int)) (by omega)]
    simp only [cond_true, Bool.and_true, Int.toNat_natCast]
    rw [show ([rd [x, y] 0, rd [x, y] 1] : List Int) = [x, y] from rfl]
    simp only [timesN] at hrec
    cases hq : eqL [rd l (i * 2), rd l (i * 2 + 1)] [x, y] with
    | true => rw [hq] at hrec; simp only [cond_true] at hrec ⊢; exact hrec
    | false => rw [hq] at hrec; simp only [cond_false] at hrec ⊢; exact hrec

theorem spec_times_in {R : Type} (k : Nat) (K1 : (List Int) → Int → Int → Int → (List Int) → (List Int) → Option R) {l : List Int} {n : Nat} (hl : l.length = n * 2) (hn : n ≤ 1048576) (q : Int) (i : Nat) (o : List Int) (G : List (Int × Int)) (hi : i < G.length) (hk : n < k) :
    spec_l04Times_l0 k K1 l q (i : Int) 0 0 o (fl G) = K1 l q i (timesN l (G.getD i (0, 0)).1 (G.getD i (0, 0)).2 n) o (fl G) := by
  unfold spec_l04Times_l0
  refine loopF_go (R := R) (step := fun (rec : (List Int) × Int × Int × Int × Int × (List Int) × (List Int) → Option R) (p : (List Int) × Int × Int × Int × Int × (List Int) × (List Int)) => spec_l04Times_s0 k K1 (fun h1 h2 h3 h4 h5 h6 h7 => rec (h1, h2, h3, h4, h5, h6, h7)) p.1 p.2.1 p.2.2.1 p.2.2.2.1 p.2.2.2.2.1 p.2.2.2.2.2.1 p.2.2.2.2.2.2)
    (fun j => (l, q, (i : Int), timesN l (G.getD i (0, 0)).1 (G.getD i (0, 0)).2 j, (j : Int), o, fl G)) (fun _ _ => K1 l q i (timesN l (G.getD i (0, 0)).1 (G.getD i (0, 0)).2 n) o (fl G)) n ?_ ?_ n 0 k (by omega) hk
  · intro rec
    dsimp only
    unfold spec_l04Times_s0
    rw [cnt_two hl]
    simp (disch := omega) only [bF, cond_false]
  · intro j m hj rec hrec
    dsimp only at hrec ⊢
    unfold spec_l04Times_s0
    rw [cnt_two hl, wrap64 (x := (j : Int) + 1) (by omega), bT (p := (j : Int) < (n : Int)) (by omega), bT (p := (0 : Int) ≤ (j : Int)) (by omega), cnt_fl, bT (p := (i : Int) < (G.length : Int)) (by omega), bT (p := (0 : Int) ≤ (i : Int)) (by omega)]
    simp only [cond_true, Bool.and_true, Int.toNat_natCast, fl_x, fl_y]
    simp only [timesN] at hrec
    cases hq : eqL [rd l (j * 2), rd l (j * 2 + 1)] [(G.getD i (0, 0)).1, (G.getD i (0, 0)).2] with
    | true => rw [hq] at hrec; simp only [cond_true] at hrec ⊢; exact hrec
    | false => rw [hq] at hrec; simp only [cond_false] at hrec ⊢; exact hrec

theorem spec_times (k : Nat) {a l : List Int} {w h n : Nat} (v : LawnV a w h) (hl : l.length = n * 2) (hn : n ≤ 1048576) (q : Int) (hk : 101 < k) (hk2 : n < k) :
    spec_l04Times k a l q = some (fl (((allC w h).filter fun p => grassB a p.1 p.2).filter fun p => decide (timesN l p.1 p.2 n ≥ q))) := by
  unfold spec_l04Times
  rw [spec_cells k v 0 hk, grass_filter v]
  have hsm : ((allC w h).filter fun p => grassB a p.1 p.2).length ≤ 100 := Nat.le_trans (List.length_filter_le _ _) (allC_small v)
  generalize (allC w h).filter (fun p => grassB a p.1 p.2) = G at hsm ⊢
  simp only [Option.bind_some]
  unfold spec_l04Times_l1
  have := loopF_go (R := List Int) (step := fun (rec : (List Int) × Int × Int × (List Int) × (List Int) → Option (List Int)) (p : (List Int) × Int × Int × (List Int) × (List Int)) => spec_l04Times_s1 k (fun y2 => some y2) (fun h1 h2 h3 h4 h5 => rec (h1, h2, h3, h4, h5)) p.1 p.2.1 p.2.2.1 p.2.2.2.1 p.2.2.2.2)
    (fun i => (l, q, (i : Int), fl ((G.take i).filter fun p => decide (timesN l p.1 p.2 n ≥ q)), fl G)) (fun _ _ => some (fl (G.filter fun p => decide (timesN l p.1 p.2 n ≥ q)))) G.length ?_ ?_ G.length 0 k (by omega) (by omega)
  · exact this
  · intro rec
    dsimp only
    unfold spec_l04Times_s1
    simp (disch := omega) only [cnt_fl, bF, cond_false, List.take_length]
  · intro i m hi rec hrec
    dsimp only at hrec ⊢
    unfold spec_l04Times_s1
    have hil : i < G.length := by omega
    have hlen : (fl ((G.take i).filter fun p => decide (timesN l p.1 p.2 n ≥ q))).length ≤ 200 := by
      rw [fl_length]
      have h1 := List.length_filter_le (fun p => decide (timesN l p.1 p.2 n ≥ q)) (G.take i)
      rw [List.length_take] at h1
      omega
    rw [take_getD _ (0, 0) hil, List.filter_append, fl_append] at hrec
    generalize fl ((G.take i).filter fun p => decide (timesN l p.1 p.2 n ≥ q)) = o at hlen hrec ⊢
    have hb : decide (o.length + 2 ≤ bigLen) = true := bT (by rw [bigLen_val]; omega)
    rw [spec_times_in k _ hl hn q i o G hil hk2, cnt_fl, wrap64 (x := (i : Int) + 1) (by omega), bT (p := (i : Int) < (G.length : Int)) (by omega), bT (p := (0 : Int) ≤ (i : Int)) (by omega)]
    simp only [cond_true, Bool.and_true, Int.toNat_natCast, fl_x, fl_y, hb]
    generalize G.getD i (0, 0) = p at hrec ⊢
    cases hq : decide (timesN l p.1 p.2 n ≥ q) with
    | true =>
      simp only [List.filter_cons, hq, if_true, List.filter_nil] at hrec
      simp only [cond_true]
      exact hrec
    | false =>
      simp only [List.filter_cons, hq, Bool.false_eq_true, if_false, List.filter_nil] at hrec
      simp only [cond_false]
      rw [show fl ([] : List (Int × Int)) = [] from rfl, List.append_nil] at hrec
      exact hrec

theorem coveredBy_eq (k : Nat) {a l : List Int} {n : Nat} (ha : LawnR a) (hl : CellsR l n) (hk : 101 < k) (hn : n < k) : ∃ L c, spec_CoveredBy (k + 6) a l = some (fl L, c) ∧ impl_CoveredBy (k + 6) a l = some (fl L, c) ∧ L.length ≤ 1000 := by
  unfold spec_CoveredBy impl_CoveredBy
  rw [spec_walked (k + 6) (by omega) ha hl (by omega), impl_walked k (by omega) ha hl (by omega)]
  simp only [Option.bind_some]
  cases hc : (walkC a l n != 0) with
  | true => exact ⟨[], _, rfl, rfl, by simp⟩
  | false =>
    have hv : lawnB a = true := by
      cases hv : lawnB a with
      | true => rfl
      | false => unfold walkC at hc; rw [hv] at hc; cases hc
    obtain ⟨w, h, v⟩ := lawnV_of ha hv
    simp only [cond_false]
    rw [spec_times (k + 6) v hl.len hl.small 1 (by omega) (by omega), impl_those (k + 6) v (fun z2 => (impl_CoveredBy_1 (k + 6) [(rd z2 0), (rd z2 1)] a l).bind fun b => some b) (fun p => grassB a p.1 p.2 && decide (timesN l p.1 p.2 n ≥ 1)) (fun p hp => by
      show (impl_CoveredBy_1 (k + 6) [p.1, p.2] a l).bind _ = _
      unfold impl_CoveredBy_1
      rw [show impl_Lawn_grass (k + 6) a [rd [p.1, p.2] 0, rd [p.1, p.2] 1] = some (grassB a p.1 p.2) from impl_grass (k + 6) v.toLawnS p.1 p.2, show impl_times (k + 6) l [rd [p.1, p.2] 0, rd [p.1, p.2] 1] = some (timesN l p.1 p.2 n) from impl_times_eq (k + 6) hl.len hl.small p.1 p.2 (by omega)]
      have e : decide (timesN l p.1 p.2 n > 0) = decide (timesN l p.1 p.2 n ≥ 1) := by rw [Bool.eq_iff_iff]; simp; omega
      cases grassB a p.1 p.2 with
      | false => rfl
      | true => simp only [Option.bind_some, cond_true, e, Bool.true_and]) (by omega)]
    have hf : (allC w h).filter (fun p => grassB a p.1 p.2 && decide (timesN l p.1 p.2 n ≥ 1)) = ((allC w h).filter fun p => grassB a p.1 p.2).filter fun p => decide (timesN l p.1 p.2 n ≥ 1) := by
      rw [List.filter_filter]
      exact List.filter_congr fun p _ => Bool.and_comm _ _
    rw [hf]
    exact ⟨_, 0, rfl, rfl, Nat.le_trans (List.length_filter_le _ _) (Nat.le_trans (List.length_filter_le _ _) (Nat.le_trans (allC_small v) (by omega)))⟩

theorem coveredTwice_eq (k : Nat) {a l : List Int} {n : Nat} (ha : LawnR a) (hl : CellsR l n) (hk : 101 < k) (hn : n < k) : ∃ L c, spec_CoveredTwice (k + 6) a l = some (fl L, c) ∧ impl_CoveredTwice (k + 6) a l = some (fl L, c) ∧ L.length ≤ 1000 := by
  unfold spec_CoveredTwice impl_CoveredTwice
  rw [spec_walked (k + 6) (by omega) ha hl (by omega), impl_walked k (by omega) ha hl (by omega)]
  simp only [Option.bind_some]
  cases hc : (walkC a l n != 0) with
  | true => exact ⟨[], _, rfl, rfl, by simp⟩
  | false =>
    have hv : lawnB a = true := by
      cases hv : lawnB a with
      | true => rfl
      | false => unfold walkC at hc; rw [hv] at hc; cases hc
    obtain ⟨w, h, v⟩ := lawnV_of ha hv
    simp only [cond_false]
    rw [spec_times (k + 6) v hl.len hl.small 2 (by omega) (by omega), impl_those (k + 6) v (fun z2 => (impl_CoveredTwice_1 (k + 6) [(rd z2 0), (rd z2 1)] a l).bind fun b => some b) (fun p => grassB a p.1 p.2 && decide (timesN l p.1 p.2 n ≥ 2)) (fun p hp => by
      show (impl_CoveredTwice_1 (k + 6) [p.1, p.2] a l).bind _ = _
      unfold impl_CoveredTwice_1
      rw [show impl_Lawn_grass (k + 6) a [rd [p.1, p.2] 0, rd [p.1, p.2] 1] = some (grassB a p.1 p.2) from impl_grass (k + 6) v.toLawnS p.1 p.2, show impl_times (k + 6) l [rd [p.1, p.2] 0, rd [p.1, p.2] 1] = some (timesN l p.1 p.2 n) from impl_times_eq (k + 6) hl.len hl.small p.1 p.2 (by omega)]
      have e : decide (timesN l p.1 p.2 n > 1) = decide (timesN l p.1 p.2 n ≥ 2) := by rw [Bool.eq_iff_iff]; simp; omega
      cases grassB a p.1 p.2 with
      | false => rfl
      | true => simp only [Option.bind_some, cond_true, e, Bool.true_and]) (by omega)]
    have hf : (allC w h).filter (fun p => grassB a p.1 p.2 && decide (timesN l p.1 p.2 n ≥ 2)) = ((allC w h).filter fun p => grassB a p.1 p.2).filter fun p => decide (timesN l p.1 p.2 n ≥ 2) := by
      rw [List.filter_filter]
      exact List.filter_congr fun p _ => Bool.and_comm _ _
    rw [hf]
    exact ⟨_, 0, rfl, rfl, Nat.le_trans (List.length_filter_le _ _) (Nat.le_trans (List.length_filter_le _ _) (Nat.le_trans (allC_small v) (by omega)))⟩

theorem sz_ok (k : Nat) {l : List Int} {n : Nat} (hl : CellsR l n) : ∃ m, laws_szCellS k l 1048576 = some m ∧ 0 ≤ m := by
  have := hl.small
  refine ⟨1048576 - (n : Int), ?_, by omega⟩
  unfold laws_szCellS
  rw [cnt_two hl.len, wrap64 (x := 1048576 - (n : Int)) (by omega), bF (p := (1048576 - (n : Int)) < 0) (by omega)]
  rfl

theorem coveredBy_true {a l : List Int} {n : Nat} (ha : LawnR a) (hl : CellsR l n) : ∃ k, laws_FnExactCoveredBy k a l = some true := by
  have hn := hl.small
  have hlen := hl.len
  obtain ⟨k, hk⟩ : ∃ k, k = n + 2000 := ⟨_, rfl⟩
  obtain ⟨L, c, e1, e2, hL⟩ := coveredBy_eq (k + 5) ha hl (by omega) (by omega)
  obtain ⟨m, l', m1, m2, m3⟩ := marks_cells (k + 11) L hL (by omega)
  obtain ⟨z, z1, z2⟩ := sz_ok (k + 11) hl
  have tc := toCellS_id (k + 11) l n hlen hn (by omega)
  have ma := mark_cells (k + 11) l n 1 hlen hn (by omega) (by omega)
  have ec := eqCellS_self (k + 11) l n hlen hn (by omega)
  refine ⟨k + 11, ?_⟩
  unfold laws_FnExactCoveredBy
  simp only [toLawn_id k a ha.len, tc, z1, Option.bind_some, e1, e2, eqCells_self (k + 11) L hL (by omega), m1, m2, ma, ec]
  simp (disch := omega) only [Bool.not_true, cond_false, bne_self_eq_false, bF]

theorem coveredTwice_true {a l : List Int} {n : Nat} (ha : LawnR a) (hl : CellsR l n) : ∃ k, laws_FnExactCoveredTwice k a l = some true := by
  have hn := hl.small
  have hlen := hl.len
  obtain ⟨k, hk⟩ : ∃ k, k = n + 2000 := ⟨_, rfl⟩
  obtain ⟨L, c, e1, e2, hL⟩ := coveredTwice_eq (k + 5) ha hl (by omega) (by omega)
  obtain ⟨m, l', m1, m2, m3⟩ := marks_cells (k + 11) L hL (by omega)
  obtain ⟨z, z1, z2⟩ := sz_ok (k + 11) hl
  have tc := toCellS_id (k + 11) l n hlen hn (by omega)
  have ma := mark_cells (k + 11) l n 1 hlen hn (by omega) (by omega)
  have ec := eqCellS_self (k + 11) l n hlen hn (by omega)
  refine ⟨k + 11, ?_⟩
  unfold laws_FnExactCoveredTwice
  simp only [toLawn_id k a ha.len, tc, z1, Option.bind_some, e1, e2, eqCells_self (k + 11) L hL (by omega), m1, m2, ma, ec]
  simp (disch := omega) only [Bool.not_true, cond_false, bne_self_eq_false, bF]

end Go.Proofs.Ytkblhnedillknaa.Tt
