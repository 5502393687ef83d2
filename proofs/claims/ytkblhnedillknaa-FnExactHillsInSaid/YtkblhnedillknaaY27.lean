/- Plain laws: HillsIn. -/
import Derived.Test.YtkblhnedillknaaY13
import Derived.Test.YtkblhnedillknaaY11b
import Derived.Test.YtkblhnedillknaaY23
import Derived.Test.YtkblhnedillknaaY22a
set_option linter.unusedVariables false
set_option linter.unusedSimpArgs false
namespace Go.Proofs.Ytkblhnedillknaa.Tt
open Go.Ev Go

theorem spec_hills_loop (k : Nat) {g : List Int} (hg : LevR g) (n : Int) (L : List (Int × Int)) (hL : ∀ p ∈ L, in10 p) (hl : L.length ≤ 100) (hk : 101 < k) :
    spec_HillsIn_l0 k (fun y4 => some (y4, (0 : Int))) n 0 g [] (fl L) = some (fl (L.filter fun p => decide (levP g p ≥ n)), 0) := by
  unfold spec_HillsIn_l0
  have := loopF_go (R := List Int × Int) (step := fun (rec : Int × Int × (List Int) × (List Int) × (List Int) → Option (List Int × Int)) (p : Int × Int × (List Int) × (List Int) × (List Int)) => spec_HillsIn_s0 k (fun y4 => some (y4, (0 : Int))) (fun h1 h2 h3 h4 h5 => rec (h1, h2, h3, h4, h5)) p.1 p.2.1 p.2.2.1 p.2.2.2.1 p.2.2.2.2)
    (fun i => (n, (i : Int), g, fl ((L.take i).filter fun p => decide (levP g p ≥ n)), fl L)) (fun _ _ => some (fl (L.filter fun p => decide (levP g p ≥ n)), 0)) L.length ?_ ?_ L.length 0 k (by omega) (by omega)
  · exact this
  · intro rec
    dsimp only
    unfold spec_HillsIn_s0
    simp (disch := omega) only [cnt_fl, bF, cond_false, List.take_length]
  · intro i m hi rec hrec
    dsimp only at hrec ⊢
    unfold spec_HillsIn_s0
    have hil : i < L.length := by omega
    have hin := hL _ (getD_mem L (0, 0) hil)
    have hlen : (fl ((L.take i).filter fun p => decide (levP g p ≥ n))).length ≤ 200 := by
      rw [fl_length]
      have h1 := List.length_filter_le (fun p => decide (levP g p ≥ n)) (L.take i)
      rw [List.length_take] at h1
      omega
    rw [take_getD _ (0, 0) hil, List.filter_append, fl_append] at hrec
    simp only [cnt_fl, Int.toNat_natCast, fl_x, fl_y]
    generalize L.getD i (0, 0) = p at hin hrec ⊢
    generalize fl ((L.take i).filter fun p => decide (levP g p ≥ n)) = o at hlen hrec ⊢
    rw [spec_lat' k hg hin]
    have hb : decide (o.length + 2 ≤ bigLen) = true := bT (by rw [bigLen_val]; omega)
    rw [wrap64 (x := (i : Int) + 1) (by omega), bT (p := (i : Int) < (L.length : Int)) (by omega), bT (p := (0 : Int) ≤ (i : Int)) (by omega)]
    simp only [cond_true, Bool.and_true, Option.bind_some, hb]
    cases hq : decide (levP g p ≥ n) with
    | true =>
      simp only [List.filter_cons, hq, if_true, List.filter_nil] at hrec
      simp only [cond_true]
      exact hrec
    | false =>
      simp only [List.filter_cons, hq, Bool.false_eq_true, if_false, List.filter_nil] at hrec
      simp only [cond_false]
      rw [show fl ([] : List (Int × Int)) = [] from rfl, List.append_nil] at hrec
      exact hrec

theorem hillsIn_eq (k : Nat) {a g : List Int} (ha : LawnR a) (hg : LevR g) (n : Int) (hk : 101 < k) : ∃ L c, spec_HillsIn k a g n = some (fl L, c) ∧ impl_HillsIn k a g n = some (fl L, c) ∧ L.length ≤ 1000 := by
  unfold spec_HillsIn impl_HillsIn
  rw [spec_level]
  simp only [Option.bind_some]
  rw [spec_asked k ha hg (by omega), impl_soil_nil k ha hg (by omega), impl_in]
  simp only [Option.bind_some]
  cases hq : (lawnB a && levB a g) with
  | false => exact ⟨[], 1, rfl, rfl, by simp⟩
  | true =>
    obtain ⟨hv, _⟩ := Bool.and_eq_true_iff.1 hq
    obtain ⟨w, h, v⟩ := lawnV_of ha hv
    cases (decide (-9 ≤ n) && decide (n ≤ 9)) with
    | false => exact ⟨[], 2, rfl, rfl, by simp⟩
    | true =>
      have e1 := spec_cells k v 0 hk
      rw [grass_filter v] at e1
      have hin : ∀ p ∈ (allC w h).filter (fun p => grassB a p.1 p.2), in10 p := fun p hp => by
        have := allC_mem.1 (List.mem_filter.1 hp).1
        have := v.wle
        have := v.hle
        unfold in10
        omega
      have hsm : ((allC w h).filter fun p => grassB a p.1 p.2).length ≤ 100 := Nat.le_trans (List.length_filter_le _ _) (allC_small v)
      simp only [cond_true, beq_self_eq_true, bne_self_eq_false, cond_false, Bool.not_true, e1, Option.bind_some]
      rw [spec_hills_loop k hg n _ hin hsm hk, impl_those k v (fun z3 => (impl_HillsIn_1 k [(rd z3 0), (rd z3 1)] a g [n]).bind fun b => some b) (fun p => grassB a p.1 p.2 && decide (levP g p ≥ n)) (fun p hp => by
        show (impl_HillsIn_1 k [p.1, p.2] a g [n]).bind _ = _
        unfold impl_HillsIn_1
        have hp10 : in10 p := by
          have := allC_mem.1 hp
          have := v.wle
          have := v.hle
          unfold in10
          omega
        rw [show impl_Lawn_grass k a [rd [p.1, p.2] 0, rd [p.1, p.2] 1] = some (grassB a p.1 p.2) from impl_grass k v.toLawnS p.1 p.2, show impl_Levels_of k g [rd [p.1, p.2] 0, rd [p.1, p.2] 1] = some (levP g p) from impl_of' k hg hp10]
        cases grassB a p.1 p.2 <;> rfl) hk]
      have hf : (allC w h).filter (fun p => grassB a p.1 p.2 && decide (levP g p ≥ n)) = ((allC w h).filter fun p => grassB a p.1 p.2).filter fun p => decide (levP g p ≥ n) := by
        rw [List.filter_filter]
        exact List.filter_congr fun p _ => Bool.and_comm _ _
      rw [hf]
      exact ⟨_, 0, rfl, rfl, Nat.le_trans (List.length_filter_le _ _) (Nat.le_trans hsm (by omega))⟩

theorem hillsIn_true {a g : List Int} (ha : LawnR a) (hg : LevR g) (n : Int) : ∃ k, laws_FnExactHillsIn k a g n = some true := by
  obtain ⟨k, hk⟩ : ∃ k, k = 2000 := ⟨_, rfl⟩
  obtain ⟨L, c, e1, e2, hL⟩ := hillsIn_eq (k + 11) ha hg n (by omega)
  obtain ⟨m, l, m1, m2, m3⟩ := marks_cells (k + 11) L hL (by omega)
  refine ⟨k + 11, ?_⟩
  unfold laws_FnExactHillsIn
  simp only [toLawn_id k a ha.len, toLevels_id k g hg.len, Option.bind_some, e1, e2, eqCells_self (k + 11) L hL (by omega), m1, m2]
  simp (disch := omega) only [Bool.not_true, cond_false, bne_self_eq_false, bF]

end Go.Proofs.Ytkblhnedillknaa.Tt
