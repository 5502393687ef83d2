/- Plain laws: MoveSoil. -/
import Derived.Test.YtmpcninebooaiaaY41a
import Derived.Test.YtmpcninebooaiaaY11c
set_option linter.unusedVariables false
set_option linter.unusedSimpArgs false
namespace Go.Proofs.Ytmpcninebooaiaa.Tt
open Go.Ev Go

theorem moveSoil_eq (k : Nat) (hk : 100 < k) {a g : List Int} (ha : LawnR a) (hg : LevR g) {x y z u n : Int} (hx : -128 ≤ x ∧ x < 128) (hy : -128 ≤ y ∧ y < 128) (hz : -128 ≤ z ∧ z < 128) (hu : -128 ≤ u ∧ u < 128) (hn : -128 ≤ n ∧ n < 128) :
    ∃ r, spec_MoveSoil k a g [x, y, z, u, n] = some r ∧ impl_MoveSoil k a g [x, y, z, u, n] = some r := by
  have hl : HaulsR [x, y, z, u, n] 1 := ⟨rfl, by omega, fun j hj => by
    have hj : j < 5 := hj
    match j, hj with
    | 0, _ => exact hx
    | 1, _ => exact hy
    | 2, _ => exact hz
    | 3, _ => exact hu
    | 4, _ => exact hn⟩
  have e0 : ([rd [x, y, z, u, n] 0, rd [x, y, z, u, n] 1, rd [x, y, z, u, n] 2, rd [x, y, z, u, n] 3, rd [x, y, z, u, n] 4] : List Int) = [x, y, z, u, n] := rfl
  unfold spec_MoveSoil impl_MoveSoil spec_MoveAll
  rw [e0, spec_lev k ha hg (by omega), impl_soil_nil k ha hg (by omega), cnt_five hl.len]
  simp only [Option.bind_some]
  cases hb : (lawnB a && levB a g) with
  | false => exact ⟨(List.replicate 100 0, 1), rfl, rfl⟩
  | true =>
    rw [Bool.and_eq_true] at hb
    obtain ⟨w, h, v⟩ := lawnV_of ha hb.1
    have hs : StOK a (0, g) := fun _ => ⟨hg, hb.2⟩
    have e1 := spec_all_hauls k hk (fun y2 y3 => some (y3, y2)) (fun y4 _ => some (y4, (0 : Int))) v hb.1 hl (by omega) (0, g) hs rfl (List.replicate 100 0)
    obtain ⟨_, _, _, _, _, q4, _⟩ := mv_step k v hb.1 hl (i := 0) (by omega) (by omega) hs rfl
    have hh : haul [x, y, z, u, n] 0 = [x, y, z, u, n] := rfl
    have hm : mvN k a [x, y, z, u, n] (0, g) 1 = mvS k a (0, g) [x, y, z, u, n] := rfl
    rw [hh] at q4
    rw [hm] at e1
    simp only at e1 q4
    rw [bF (p := ((1 : Nat) : Int) > 60) (by omega)]
    simp only [Bool.not_true, cond_false, cond_true]
    rw [e1, q4, show ((0 : Int) != 0) = false from rfl]
    simp only [cond_false, Option.bind_some]
    by_cases hc : (mvS k a (0, g) [x, y, z, u, n]).1 = 0
    · rw [neF hc, hc]
      exact ⟨_, rfl, rfl⟩
    · rw [neT hc]
      -- behind a code that is not 0 the program's levels are the zero ones
      obtain ⟨c, g', q1, q2⟩ := move_both k v hb.1 hg hb.2 hx hy hz hu hn (by omega)
      rcases q2 with ⟨_, _, _, h3⟩ | ⟨_, h3⟩
      · rw [h3] at q4
        injection q4 with q4
        injection q4 with _ q5
        exact absurd q5.symm hc
      · rw [h3] at q4
        injection q4 with q4
        injection q4 with q5 q6
        rw [← q5, ← q6]
        exact ⟨_, rfl, rfl⟩

theorem moveSoil_true {a g : List Int} (ha : LawnR a) (hg : LevR g) {x y z u n : Int} (hx : -128 ≤ x ∧ x < 128) (hy : -128 ≤ y ∧ y < 128) (hz : -128 ≤ z ∧ z < 128) (hu : -128 ≤ u ∧ u < 128) (hn : -128 ≤ n ∧ n < 128) : ∃ k, laws_FnExactMoveSoil k a g [x, y, z, u, n] = some true := by
  obtain ⟨k, hk⟩ : ∃ k, k = 2000 := ⟨_, rfl⟩
  obtain ⟨r, e1, e2⟩ := moveSoil_eq (k + 11) (by omega) ha hg hx hy hz hu hn
  refine ⟨k + 11, ?_⟩
  unfold laws_FnExactMoveSoil
  have ec : laws_toHaul (k + 11) [rd [x, y, z, u, n] 0, rd [x, y, z, u, n] 1, rd [x, y, z, u, n] 2, rd [x, y, z, u, n] 3, rd [x, y, z, u, n] 4] = some [x, y, z, u, n] := rfl
  simp only [toLawn_id k a ha.len, toLevels_id k g hg.len, ec, Option.bind_some, e1, e2, eqLevels_self (k + 11) r.1 (by omega), Bool.not_true, cond_false, bne_self_eq_false]

end Go.Proofs.Ytmpcninebooaiaa.Tt
