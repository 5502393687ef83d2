/- Plain laws: BorderOf and InnerOf. -/
import Derived.Test.YtmpcninebooaiaaY14
import Derived.Test.YtmpcninebooaiaaY23
set_option linter.unusedVariables false
set_option linter.unusedSimpArgs false
namespace Go.Proofs.Ytmpcninebooaiaa.Tt
open Go.Ev Go

def bordB (a : List Int) (p : Int × Int) : Bool := decide (rd (arV a p.1 p.2) 0 < 4)

theorem spec_border (k : Nat) {a : List Int} {w h : Nat} (v : LawnV a w h) (h3 : Kind3 a) (b : Bool) (hk : 101 < k) : spec_l05Border k a b = some (fl ((grassL a w h).filter fun p => bordB a p == b)) := by
  have hsm := grassL_len v
  unfold spec_l05Border
  rw [spec_cells k v 0 hk, grass_filter v]
  rw [show (allC w h).filter (fun p => grassB a p.1 p.2) = grassL a w h from rfl]
  simp only [Option.bind_some]
  unfold spec_l05Border_l0
  have := loopF_go (R := List Int) (step := fun (rec : (List Int) × Bool × Int × (List Int) × (List Int) → Option (List Int)) (p : (List Int) × Bool × Int × (List Int) × (List Int)) => spec_l05Border_s0 k (fun y2 => some y2) (fun h1 h2 h3 h4 h5 => rec (h1, h2, h3, h4, h5)) p.1 p.2.1 p.2.2.1 p.2.2.2.1 p.2.2.2.2)
    (fun i => (a, b, (i : Int), fl (((grassL a w h).take i).filter fun p => bordB a p == b), fl (grassL a w h))) (fun _ _ => some (fl ((grassL a w h).filter fun p => bordB a p == b))) (grassL a w h).length ?_ ?_ (grassL a w h).length 0 k (by omega) (by omega)
  · exact this
  · intro rec
    dsimp only
    unfold spec_l05Border_s0
    simp (disch := omega) only [cnt_fl, bF, cond_false, List.take_length]
  · intro i m hi rec hrec
    dsimp only at hrec ⊢
    unfold spec_l05Border_s0
    have hil : i < (grassL a w h).length := by omega
    have hr := grassL_mem v (getD_mem (grassL a w h) (0, 0) hil)
    have hlen : (fl (((grassL a w h).take i).filter fun p => bordB a p == b)).length ≤ 200 := by
      rw [fl_length]
      have h1 := List.length_filter_le (fun p => bordB a p == b) ((grassL a w h).take i)
      rw [List.length_take] at h1
      omega
    rw [take_getD _ (0, 0) hil, List.filter_append, fl_append] at hrec
    simp only [cnt_fl, Int.toNat_natCast, fl_x, fl_y]
    generalize (grassL a w h).getD i (0, 0) = p at hr hrec ⊢
    generalize fl (((grassL a w h).take i).filter fun p => bordB a p == b) = o at hlen hrec ⊢
    rw [spec_near k v h3 (by omega) (by omega) (by omega)]
    have hb : decide (o.length + 2 ≤ bigLen) = true := bT (by rw [bigLen_val]; omega)
    rw [wrap64 (x := (i : Int) + 1) (by omega), bT (p := (i : Int) < ((grassL a w h).length : Int)) (by omega), bT (p := (0 : Int) ≤ (i : Int)) (by omega)]
    simp only [cond_true, Bool.and_true, Option.bind_some, hb]
    rw [show decide (rd (arV a p.1 p.2) 0 < 4) = bordB a p from rfl]
    cases hq : (bordB a p == b) with
    | true =>
      simp only [List.filter_cons, hq, if_true, List.filter_nil] at hrec
      simp only [cond_true]
      exact hrec
    | false =>
      simp only [List.filter_cons, hq, Bool.false_eq_true, if_false, List.filter_nil] at hrec
      simp only [cond_false]
      rw [show fl ([] : List (Int × Int)) = [] from rfl, List.append_nil] at hrec
      exact hrec

theorem impl_border (k : Nat) {a : List Int} {w h : Nat} (v : LawnV a w h) (h3 : Kind3 a) (x y : Int) (hk : 101 < k) : impl_Lawn_isBorder k a [x, y] = some (grassB a x y && bordB a (x, y)) := by
  unfold impl_Lawn_isBorder
  rw [show impl_Lawn_grass k a [rd [x, y] 0, rd [x, y] 1] = some (grassB a x y) from impl_grass k v.toLawnS x y, show impl_Lawn_around k a [rd [x, y] 0, rd [x, y] 1] = some (arV a x y) from impl_around k v h3 _ _ (by omega)]
  simp only [Option.bind_some]
  unfold bordB
  cases grassB a x y <;> rfl

theorem grass_sub (a : List Int) (w h : Nat) (g : Int × Int → Bool) : (allC w h).filter (fun p => grassB a p.1 p.2 && g p) = (grassL a w h).filter g := by
  unfold grassL
  rw [List.filter_filter]
  exact List.filter_congr fun p _ => Bool.and_comm _ _

theorem borderOf_eq (k : Nat) {a : List Int} (ha : LawnR a) (hk : 101 < k) : ∃ L c, spec_BorderOf k a = some (fl L, c) ∧ impl_BorderOf k a = some (fl L, c) ∧ L.length ≤ 1000 := by
  unfold spec_BorderOf impl_BorderOf
  rw [spec_valid k (by omega) ha, impl_valid k (by omega) ha]
  simp only [Option.bind_some]
  cases hv : lawnB a with
  | false => exact ⟨[], 1, rfl, rfl, by simp⟩
  | true =>
    obtain ⟨w, h, v⟩ := lawnV_of ha hv
    have h3 := kind3_of ha hv
    simp only [Bool.not_true, cond_false]
    rw [spec_border k v h3 true hk, impl_those k v (fun z2 => (impl_Lawn_isBorder k a [(rd z2 0), (rd z2 1)]).bind fun b => some b) (fun p => grassB a p.1 p.2 && (bordB a p == true)) (fun p hp => by
      show (impl_Lawn_isBorder k a [p.1, p.2]).bind _ = _
      rw [impl_border k v h3 _ _ hk]
      cases grassB a p.1 p.2 <;> cases hb : bordB a p <;> simp [hb]) hk]
    rw [grass_sub]
    exact ⟨_, 0, rfl, rfl, Nat.le_trans (List.length_filter_le _ _) (Nat.le_trans (grassL_len v) (by omega))⟩

theorem innerOf_eq (k : Nat) {a : List Int} (ha : LawnR a) (hk : 101 < k) : ∃ L c, spec_InnerOf k a = some (fl L, c) ∧ impl_InnerOf k a = some (fl L, c) ∧ L.length ≤ 1000 := by
  unfold spec_InnerOf impl_InnerOf
  rw [spec_valid k (by omega) ha, impl_valid k (by omega) ha]
  simp only [Option.bind_some]
  cases hv : lawnB a with
  | false => exact ⟨[], 1, rfl, rfl, by simp⟩
  | true =>
    obtain ⟨w, h, v⟩ := lawnV_of ha hv
    have h3 := kind3_of ha hv
    simp only [Bool.not_true, cond_false]
    rw [spec_border k v h3 false hk, impl_those k v (fun z2 => (impl_InnerOf_1 k [(rd z2 0), (rd z2 1)] a).bind fun b => some b) (fun p => grassB a p.1 p.2 && (bordB a p == false)) (fun p hp => by
      show (impl_InnerOf_1 k [p.1, p.2] a).bind _ = _
      unfold impl_InnerOf_1
      rw [show impl_Lawn_grass k a [rd [p.1, p.2] 0, rd [p.1, p.2] 1] = some (grassB a p.1 p.2) from impl_grass k v.toLawnS p.1 p.2, show impl_Lawn_isBorder k a [rd [p.1, p.2] 0, rd [p.1, p.2] 1] = some (grassB a p.1 p.2 && bordB a p) from impl_border k v h3 p.1 p.2 hk]
      cases grassB a p.1 p.2 <;> cases hb : bordB a p <;> simp) hk]
    rw [grass_sub]
    exact ⟨_, 0, rfl, rfl, Nat.le_trans (List.length_filter_le _ _) (Nat.le_trans (grassL_len v) (by omega))⟩

theorem borderOf_true {a : List Int} (ha : LawnR a) : ∃ k, laws_FnExactBorderOf k a = some true := by
  obtain ⟨k, hk⟩ : ∃ k, k = 2000 := ⟨_, rfl⟩
  obtain ⟨L, c, e1, e2, hL⟩ := borderOf_eq (k + 11) ha (by omega)
  obtain ⟨m, l, m1, m2, m3⟩ := marks_cells (k + 11) L hL (by omega)
  refine ⟨k + 11, ?_⟩
  unfold laws_FnExactBorderOf
  simp only [toLawn_id k a ha.len, Option.bind_some, e1, e2, eqCells_self (k + 11) L hL (by omega), m1, m2]
  simp (disch := omega) only [Bool.not_true, cond_false, bne_self_eq_false, bF]

theorem innerOf_true {a : List Int} (ha : LawnR a) : ∃ k, laws_FnExactInnerOf k a = some true := by
  obtain ⟨k, hk⟩ : ∃ k, k = 2000 := ⟨_, rfl⟩
  obtain ⟨L, c, e1, e2, hL⟩ := innerOf_eq (k + 11) ha (by omega)
  obtain ⟨m, l, m1, m2, m3⟩ := marks_cells (k + 11) L hL (by omega)
  refine ⟨k + 11, ?_⟩
  unfold laws_FnExactInnerOf
  simp only [toLawn_id k a ha.len, Option.bind_some, e1, e2, eqCells_self (k + 11) L hL (by omega), m1, m2]
  simp (disch := omega) only [Bool.not_true, cond_false, bne_self_eq_false, bF]

end Go.Proofs.Ytmpcninebooaiaa.Tt
