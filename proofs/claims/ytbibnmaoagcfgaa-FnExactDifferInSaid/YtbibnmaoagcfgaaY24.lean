/- Plain laws: DifferIn and CellsOf. -/
import Derived.Test.YtbibnmaoagcfgaaY23
import Derived.Test.YtbibnmaoagcfgaaY10b
set_option linter.unusedVariables false
set_option linter.unusedSimpArgs false
namespace Go.Proofs.Ytbibnmaoagcfgaa.Tt
open Go.Ev Go

theorem same_has {a b : List Int} {w h : Nat} (va : LawnV a w h) (vb : LawnV b w h) (x y : Int) : hasB a x y = hasB b x y := by
  unfold hasB
  rw [va.wv, va.hv, vb.wv, vb.hv]

theorem spec_differ_loop (k : Nat) {a b : List Int} {w h : Nat} (va : LawnV a w h) (vb : LawnV b w h) (hk : 101 < k) :
    spec_DifferIn_l0 k (fun y4 => some (y4, (0 : Int))) 0 a b [] (fl (allC w h)) = some (fl ((allC w h).filter fun p => kindV a p.1 p.2 != kindV b p.1 p.2), 0) := by
  have hs := allC_small va
  unfold spec_DifferIn_l0
  have := loopF_go (R := List Int × Int) (step := fun (rec : Int × (List Int) × (List Int) × (List Int) × (List Int) → Option (List Int × Int)) (p : Int × (List Int) × (List Int) × (List Int) × (List Int)) => spec_DifferIn_s0 k (fun y4 => some (y4, (0 : Int))) (fun h1 h2 h3 h4 h5 => rec (h1, h2, h3, h4, h5)) p.1 p.2.1 p.2.2.1 p.2.2.2.1 p.2.2.2.2)
    (fun i => ((i : Int), a, b, fl (((allC w h).take i).filter fun p => kindV a p.1 p.2 != kindV b p.1 p.2), fl (allC w h))) (fun _ _ => some (fl ((allC w h).filter fun p => kindV a p.1 p.2 != kindV b p.1 p.2), 0)) (allC w h).length ?_ ?_ (allC w h).length 0 k (by omega) (by omega)
  · exact this
  · intro rec
    dsimp only
    unfold spec_DifferIn_s0
    simp (disch := omega) only [cnt_fl, bF, cond_false, List.take_length]
  · intro i m hi rec hrec
    dsimp only at hrec ⊢
    unfold spec_DifferIn_s0
    have hil : i < (allC w h).length := by omega
    have hm := hasB_all va (getD_mem (allC w h) (0, 0) hil)
    have hm2 : hasB b _ _ = true := (same_has va vb _ _).symm.trans hm
    have hlen : (fl (((allC w h).take i).filter fun p => kindV a p.1 p.2 != kindV b p.1 p.2)).length ≤ 200 := by
      rw [fl_length]
      have h1 := List.length_filter_le (fun p => kindV a p.1 p.2 != kindV b p.1 p.2) ((allC w h).take i)
      rw [List.length_take] at h1
      omega
    rw [take_getD _ (0, 0) hil, List.filter_append, fl_append] at hrec
    simp only [cnt_fl, Int.toNat_natCast, fl_x, fl_y]
    generalize (allC w h).getD i (0, 0) = p at hm hm2 hrec ⊢
    generalize fl (((allC w h).take i).filter fun p => kindV a p.1 p.2 != kindV b p.1 p.2) = o at hlen hrec ⊢
    rw [spec_at k va.toLawnS hm, spec_at k vb.toLawnS hm2]
    have hb : decide (o.length + 2 ≤ bigLen) = true := bT (by rw [bigLen_val]; omega)
    simp (disch := omega) only [bT, cond_true, Bool.and_true, Option.bind_some, wrap64 (x := (i : Int) + 1), hb]
    cases hq : (kindV a p.1 p.2 != kindV b p.1 p.2) with
    | true =>
      simp only [List.filter_cons, hq, if_true, List.filter_nil] at hrec
      simp only [cond_true]
      exact hrec
    | false =>
      simp only [List.filter_cons, hq, Bool.false_eq_true, if_false, List.filter_nil] at hrec
      simp only [cond_false]
      rw [show fl ([] : List (Int × Int)) = [] from rfl, List.append_nil] at hrec
      exact hrec

theorem differIn_eq (k : Nat) {a b : List Int} (ha : LawnR a) (hb : LawnR b) (hk : 101 < k) : ∃ L c, spec_DifferIn k a b = some (fl L, c) ∧ impl_DifferIn k a b = some (fl L, c) ∧ L.length ≤ 1000 := by
  unfold spec_DifferIn impl_DifferIn
  rw [spec_valid k (by omega) ha, impl_valid k (by omega) ha, spec_valid k (by omega) hb, impl_valid k (by omega) hb]
  simp only [Option.bind_some]
  cases hv : lawnB a with
  | false => exact ⟨[], 1, rfl, rfl, by simp⟩
  | true =>
    cases hv2 : lawnB b with
    | false => exact ⟨[], 1, rfl, rfl, by simp⟩
    | true =>
      obtain ⟨w, h, v⟩ := lawnV_of ha hv
      obtain ⟨w2, h2, v2⟩ := lawnV_of hb hv2
      simp only [Bool.not_true, cond_false]
      by_cases c1 : rd a 0 = rd b 0
      · by_cases c2 : rd a 1 = rd b 1
        · have ew : w2 = w := by have := v.wv; have := v2.wv; omega
          have eh : h2 = h := by have := v.hv; have := v2.hv; omega
          subst ew eh
          simp (disch := omega) only [neF, cond_false]
          rw [spec_all k v (by omega)]
          simp only [Option.bind_some]
          rw [spec_differ_loop k v v2 hk, impl_those k v (fun z3 => (impl_DifferIn_1 k [(rd z3 0), (rd z3 1)] a b).bind fun b => some b) (fun p => kindV a p.1 p.2 != kindV b p.1 p.2) (fun p hp => by
            show (impl_DifferIn_1 k [p.1, p.2] a b).bind _ = _
            unfold impl_DifferIn_1
            have m1 := hasB_all v hp
            have m2 := hasB_all v2 hp
            rw [show impl_Lawn_kind k a [rd [p.1, p.2] 0, rd [p.1, p.2] 1] = some (kindV a p.1 p.2) from impl_kind k v.toLawnS m1, show impl_Lawn_kind k b [rd [p.1, p.2] 0, rd [p.1, p.2] 1] = some (kindV b p.1 p.2) from impl_kind k v2.toLawnS m2]
            rfl) hk]
          exact ⟨_, 0, rfl, rfl, Nat.le_trans (List.length_filter_le _ _) (Nat.le_trans (allC_small v) (by omega))⟩
        · simp (disch := omega) only [neF, neT, cond_false, cond_true]
          exact ⟨[], 4, rfl, rfl, by simp⟩
      · simp (disch := omega) only [neT, cond_true]
        exact ⟨[], 4, rfl, rfl, by simp⟩

theorem differIn_true {a b : List Int} (ha : LawnR a) (hb : LawnR b) : ∃ k, laws_FnExactDifferIn k a b = some true := by
  obtain ⟨k, hk⟩ : ∃ k, k = 2000 := ⟨_, rfl⟩
  obtain ⟨L, c, e1, e2, hL⟩ := differIn_eq (k + 11) ha hb (by omega)
  obtain ⟨m, l, m1, m2, m3⟩ := marks_cells (k + 11) L hL (by omega)
  refine ⟨k + 11, ?_⟩
  unfold laws_FnExactDifferIn
  simp only [toLawn_id k a ha.len, toLawn_id k b hb.len, Option.bind_some, e1, e2, eqCells_self (k + 11) L hL (by omega), m1, m2]
  simp (disch := omega) only [Bool.not_true, cond_false, bne_self_eq_false, bF]

theorem cellsOf_eq (k : Nat) {a : List Int} (ha : LawnR a) (n : Int) (hk : 101 < k) : ∃ L c, spec_CellsOf k a n = some (fl L, c) ∧ impl_CellsOf k a n = some (fl L, c) ∧ L.length ≤ 1000 := by
  unfold spec_CellsOf impl_CellsOf
  have hkind : spec_l01Kind k n = some (decide (0 ≤ n) && decide (n ≤ 3)) := by unfold spec_l01Kind; rw [spec_in]; rfl
  rw [hkind]
  simp only [Option.bind_some]
  rw [spec_told k ha (by omega), impl_cells_nil k ha (by omega), impl_in]
  simp only [Option.bind_some]
  cases hv : lawnB a with
  | false => exact ⟨[], 1, rfl, rfl, by simp⟩
  | true =>
    obtain ⟨w, h, v⟩ := lawnV_of ha hv
    cases (decide (0 ≤ n) && decide (n ≤ 3)) with
    | false => exact ⟨[], 2, rfl, rfl, by simp⟩
    | true =>
      simp only [cond_true, beq_self_eq_true, bne_self_eq_false, cond_false, Bool.not_true]
      rw [spec_cells k v n hk, impl_those k v (fun z3 => (impl_CellsOf_1 k [(rd z3 0), (rd z3 1)] a [n]).bind fun b => some b) (fun p => kindV a p.1 p.2 == n) (fun p hp => by
        show (impl_CellsOf_1 k [p.1, p.2] a [n]).bind _ = _
        unfold impl_CellsOf_1
        rw [show impl_Lawn_kind k a [rd [p.1, p.2] 0, rd [p.1, p.2] 1] = some (kindV a p.1 p.2) from impl_kind k v.toLawnS (hasB_all v hp)]
        rfl) hk]
      exact ⟨_, 0, rfl, rfl, Nat.le_trans (List.length_filter_le _ _) (Nat.le_trans (allC_small v) (by omega))⟩

theorem cellsOf_true {a : List Int} (ha : LawnR a) (n : Int) : ∃ k, laws_FnExactCellsOf k a n = some true := by
  obtain ⟨k, hk⟩ : ∃ k, k = 2000 := ⟨_, rfl⟩
  obtain ⟨L, c, e1, e2, hL⟩ := cellsOf_eq (k + 11) ha n (by omega)
  obtain ⟨m, l, m1, m2, m3⟩ := marks_cells (k + 11) L hL (by omega)
  refine ⟨k + 11, ?_⟩
  unfold laws_FnExactCellsOf
  simp only [toLawn_id k a ha.len, Option.bind_some, e1, e2, eqCells_self (k + 11) L hL (by omega), m1, m2]
  simp (disch := omega) only [Bool.not_true, cond_false, bne_self_eq_false, bF]

end Go.Proofs.Ytbibnmaoagcfgaa.Tt
