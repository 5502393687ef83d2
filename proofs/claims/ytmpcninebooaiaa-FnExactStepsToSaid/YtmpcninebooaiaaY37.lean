/- Plain laws: StepsTo. -/
import Derived.Test.YtmpcninebooaiaaY36a
set_option linter.unusedVariables false
set_option linter.unusedSimpArgs false
namespace Go.Proofs.Ytmpcninebooaiaa.Tt
open Go.Ev Go

theorem cells_bound {w h : Nat} {p : Int × Int} (hw : w ≤ 10) (hh : h ≤ 10) (hp : p ∈ allC w h) : (0 ≤ p.1 ∧ p.1 < w) ∧ (0 ≤ p.2 ∧ p.2 < h) := by
  have := allC_mem.1 hp
  omega

theorem stepsTo_eq (k : Nat) {a : List Int} (ha : LawnR a) {p q : Int × Int} (hp1 : -128 ≤ p.1 ∧ p.1 < 128) (hp2 : -128 ≤ p.2 ∧ p.2 < 128) (hq1 : -128 ≤ q.1 ∧ q.1 < 128) (hq2 : -128 ≤ q.2 ∧ q.2 < 128) (hk : 110 < k) : ∃ r, spec_StepsTo k a [p.1, p.2] [q.1, q.2] = some r ∧ impl_StepsTo k a [p.1, p.2] [q.1, q.2] = some r := by
  unfold spec_StepsTo impl_StepsTo
  have e0 : ([rd [p.1, p.2] 0, rd [p.1, p.2] 1] : List Int) = [p.1, p.2] := rfl
  have e1 : ([rd [q.1, q.2] 0, rd [q.1, q.2] 1] : List Int) = [q.1, q.2] := rfl
  have e2 : ([rd [p.1, p.2] 0, rd [p.1, p.2] 1, rd [q.1, q.2] 0, rd [q.1, q.2] 1] : List Int) = [p.1, p.2, q.1, q.2] := rfl
  have e3 : rd [q.1, q.2] 0 = q.1 := rfl
  have e4 : rd [q.1, q.2] 1 = q.2 := rfl
  have hopen := impl_openC k ha [p, q] (by simp) (by omega) (by simp; omega)
  simp only [fl, List.any_cons, List.any_nil, Bool.or_false] at hopen
  rw [e2, show impl_openCode k a [p.1, p.2, q.1, q.2] = _ from hopen, e0, e1, e3, e4]
  rw [show spec_l01Is k a [p.1, p.2] = some (hasB a p.1 p.2) from spec_is k ha hp1 hp2, show spec_l01Is k a [q.1, q.2] = some (hasB a q.1 q.2) from spec_is k ha hq1 hq2]
  simp only [Option.bind_some]
  rw [spec_told k ha (by omega), spec_told k ha (by omega)]
  simp only [Option.bind_some]
  cases hv : lawnB a with
  | false => exact ⟨(0, 1), by cases hasB a p.1 p.2 <;> rfl, rfl⟩
  | true =>
    obtain ⟨w, h, v⟩ := lawnV_of ha hv
    cases hh : hasB a p.1 p.2 with
    | false => exact ⟨(0, 2), rfl, rfl⟩
    | true =>
      cases hh' : hasB a q.1 q.2 with
      | false => exact ⟨(0, 2), rfl, rfl⟩
      | true =>
        simp only [cond_true, Bool.not_true, cond_false, bne_self_eq_false, Bool.or_false]
        rw [spec_openL k v.toLawnS hh, spec_openL k v.toLawnS hh']
        simp only [Option.bind_some]
        cases ho : openP a p with
        | false => exact ⟨(0, 4), rfl, rfl⟩
        | true =>
          cases ho' : openP a q with
          | false => exact ⟨(0, 4), rfl, rfl⟩
          | true =>
            obtain ⟨S, s1, s2, s3, s4⟩ := steps_both k hk v (fun z2 => (impl_Lawn_open k a [(rd z2 0), (rd z2 1)]).bind fun b => some b) (openF k v.toLawnS) ho
            obtain ⟨hm, hqx, hqy⟩ := open_in v ho'
            have hb := cells_bound v.wle v.hle hm
            simp only [Bool.not_true, cond_false, Bool.or_self]
            rw [s3, impl_index k v hm]
            simp only [bne_self_eq_false, cond_false, Option.bind_some]
            rw [s4]
            simp only [Option.bind_some]
            have hlen : cnt 1 (tabV w h S) = h * w := by rw [cnt1, tabV_len]
            have hlt : q.2.toNat * w + q.1.toNat < h * w := by
              have : q.2.toNat + 1 ≤ h := by omega
              have := Nat.mul_le_mul_right w this
              rw [Nat.add_mul] at this
              omega
            rw [hlen, bT (p := 0 ≤ q.2) (by omega), bT (p := q.2 < 10) (by omega), bT (p := 0 ≤ q.1) (by omega), bT (p := q.1 < 10) (by omega), bT (p := (0 : Int) ≤ ((q.2.toNat * w + q.1.toNat : Nat) : Int)) (by omega), bT (p := ((q.2.toNat * w + q.1.toNat : Nat) : Int) < ((h * w : Nat) : Int)) (by exact_mod_cast hlt)]
            simp only [Bool.and_true, cond_true, Int.toNat_natCast, Nat.mul_one, Nat.zero_add]
            rw [tabV_get S hm]
            rw [show q.2.toNat * 10 + q.1.toNat = ix q from rfl]
            cases decide (rd S (ix q) < 0)
            · exact ⟨_, rfl, rfl⟩
            · exact ⟨_, rfl, rfl⟩

theorem stepsTo_true {a : List Int} (ha : LawnR a) {x y z u : Int} (hx : -128 ≤ x ∧ x < 128) (hy : -128 ≤ y ∧ y < 128) (hz : -128 ≤ z ∧ z < 128) (hu : -128 ≤ u ∧ u < 128) : ∃ k, laws_FnExactStepsTo k a [x, y] [z, u] = some true := by
  obtain ⟨k, hk⟩ : ∃ k, k = 2000 := ⟨_, rfl⟩
  obtain ⟨r, e1, e2⟩ := stepsTo_eq (k + 11) ha (p := (x, y)) (q := (z, u)) hx hy hz hu (by omega)
  refine ⟨k + 11, ?_⟩
  unfold laws_FnExactStepsTo
  have ec : laws_toCell (k + 11) [rd [x, y] 0, rd [x, y] 1] = some [x, y] := rfl
  have ed : laws_toCell (k + 11) [rd [z, u] 0, rd [z, u] 1] = some [z, u] := rfl
  simp only [toLawn_id k a ha.len, Option.bind_some, ec, ed, e1, e2, bne_self_eq_false, cond_false]

end Go.Proofs.Ytmpcninebooaiaa.Tt
