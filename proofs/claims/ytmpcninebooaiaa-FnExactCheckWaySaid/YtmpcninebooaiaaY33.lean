/- Plain laws: CheckWay. -/
import Derived.Test.YtmpcninebooaiaaY32
set_option linter.unusedVariables false
set_option linter.unusedSimpArgs false
namespace Go.Proofs.Ytmpcninebooaiaa.Tt
open Go.Ev Go

theorem checkWay_eq (k : Nat) {a : List Int} (ha : LawnR a) {p : Int × Int} (hp : In8 p) (s : ByteArray) (hk : 201 < k + 6) : spec_CheckWay (k + 6) a [p.1, p.2] s = impl_CheckWay (k + 6) a [p.1, p.2] s ∧ ∃ r, impl_CheckWay (k + 6) a [p.1, p.2] s = some r := by
  unfold spec_CheckWay impl_CheckWay
  have e0 : ([rd [p.1, p.2] 0, rd [p.1, p.2] 1] : List Int) = [p.1, p.2] := rfl
  rw [e0, spec_told_way k ha hp s hk, impl_went (k + 6) ha p s hk]
  simp only [Option.bind_some]
  unfold wentV
  cases hv : lawnB a with
  | false => exact ⟨rfl, _, rfl⟩
  | true =>
    cases hasB a p.1 p.2 with
    | false => exact ⟨rfl, _, rfl⟩
    | true =>
      simp only [cond_true]
      cases hw : (wayV s != 0) with
      | true =>
        simp only [cond_true]
        have h4 : (wayV s == 4) = false := by
          unfold wayV
          cases decide ((s.size : Int) > 200) with
          | true => rfl
          | false =>
            simp only [cond_false]
            cases wayN s 0 s.size <;> rfl
        have h0 : (wayV s == 0) = false := by simpa [bne] using hw
        rw [h4, h0]
        exact ⟨rfl, _, rfl⟩
      | false =>
        obtain ⟨h1, h2⟩ := wayV_fine hw
        simp only [cond_false]
        obtain ⟨q, hq, _⟩ := spec_come_flag k (lawnS_of' ha hv) hp h1 h2 hk
        rw [hq]
        cases goesB a p s <;> exact ⟨rfl, _, rfl⟩

theorem checkWay_true {a : List Int} (ha : LawnR a) {x y : Int} (hp : In8 (x, y)) (s : ByteArray) : ∃ k, laws_FnExactCheckWay k a [x, y] s = some true := by
  obtain ⟨k, hk⟩ : ∃ k, k = 500 := ⟨_, rfl⟩
  obtain ⟨e, r, hr⟩ := checkWay_eq (k + 5) ha hp s (by omega)
  refine ⟨k + 11, ?_⟩
  unfold laws_FnExactCheckWay
  cases decide ((s.size : Int) > 1048576) with
  | true => rfl
  | false =>
    have ec : laws_toCell (k + 11) [rd [x, y] 0, rd [x, y] 1] = some [x, y] := rfl
    simp only [toLawn_id k a ha.len, Option.bind_some, ec, e, hr, cond_false]
    simp only [Option.bind_some, cond_false, bne_self_eq_false, beq_self_eq_true, Bool.not_true]

end Go.Proofs.Ytmpcninebooaiaa.Tt
