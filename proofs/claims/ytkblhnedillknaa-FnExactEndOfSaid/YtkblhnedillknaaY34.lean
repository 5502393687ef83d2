/- Plain laws: EndOf. -/
import Derived.Test.YtkblhnedillknaaY32
set_option linter.unusedVariables false
set_option linter.unusedSimpArgs false
namespace Go.Proofs.Ytkblhnedillknaa.Tt
open Go.Ev Go

theorem endOf_eq (k : Nat) {a : List Int} (ha : LawnR a) {p : Int × Int} (hp : In8 p) (s : ByteArray) (hk : 201 < k + 6) : spec_EndOf (k + 6) a [p.1, p.2] s = impl_EndOf (k + 6) a [p.1, p.2] s ∧ ∃ r, impl_EndOf (k + 6) a [p.1, p.2] s = some r := by
  have e0 : ([rd [p.1, p.2] 0, rd [p.1, p.2] 1] : List Int) = [p.1, p.2] := rfl
  have hg : spec_l02Gone (k + 6) a [p.1, p.2] s = some (wentV a p s) := by
    unfold spec_l02Gone
    rw [e0, spec_told_way k ha hp s hk]
    simp only [Option.bind_some]
    unfold wentV
    cases hv : lawnB a with
    | false => rfl
    | true =>
      cases hasB a p.1 p.2 with
      | false => rfl
      | true =>
        simp only [cond_true]
        cases hw : (wayV s != 0) with
        | true => rfl
        | false =>
          obtain ⟨h1, h2⟩ := wayV_fine hw
          simp only [cond_false]
          obtain ⟨q, hq, hq2⟩ := spec_come_flag k (lawnS_of' ha hv) hp h1 h2 hk
          rw [hq]
          simp only [Option.bind_some]
          cases hb : goesB a p s with
          | false => rfl
          | true => rw [hq2 hb]; rfl
  unfold spec_EndOf impl_EndOf
  rw [e0, hg, impl_went (k + 6) ha p s hk]
  simp only [Option.bind_some]
  refine ⟨trivial, ?_⟩
  cases hc : ((wentV a p s).2 != 0) with
  | true => exact ⟨_, rfl⟩
  | false =>
    simp only [cond_false]
    have hl : ∃ n, n ≤ 200 ∧ (wentV a p s).1 = fl (posL p s n) := by
      unfold wentV at hc ⊢
      revert hc
      cases lawnB a with
      | false => intro hc; cases hc
      | true =>
        cases hasB a p.1 p.2 with
        | false => intro hc; cases hc
        | true =>
          simp only [cond_true]
          cases hw : (wayV s != 0) with
          | true => simp only [cond_true]; intro hc; rw [hw] at hc; cases hc
          | false =>
            simp only [cond_false]
            cases goesB a p s with
            | false => intro hc; cases hc
            | true => intro _; exact ⟨s.size, (wayV_fine hw).1, rfl⟩
    obtain ⟨n, hn, hl⟩ := hl
    rw [hl, cnt_fl, posL_len, wrap64 (by omega), bT (p := (0 : Int) ≤ ((n + 1 : Nat) : Int) - 1) (by omega), bT (p := ((n + 1 : Nat) : Int) - 1 < ((n + 1 : Nat) : Int)) (by omega)]
    exact ⟨_, rfl⟩

theorem endOf_true {a : List Int} (ha : LawnR a) {x y : Int} (hp : In8 (x, y)) (s : ByteArray) : ∃ k, laws_FnExactEndOf k a [x, y] s = some true := by
  obtain ⟨k, hk⟩ : ∃ k, k = 500 := ⟨_, rfl⟩
  obtain ⟨e, r, hr⟩ := endOf_eq (k + 5) ha hp s (by omega)
  refine ⟨k + 11, ?_⟩
  unfold laws_FnExactEndOf
  cases decide ((s.size : Int) > 1048576) with
  | true => rfl
  | false =>
    have ec : laws_toCell (k + 11) [rd [x, y] 0, rd [x, y] 1] = some [x, y] := rfl
    have eq : ∀ q, laws_eqCell (k + 11) q q = some true := fun q => by unfold laws_eqCell; simp
    simp only [toLawn_id k a ha.len, Option.bind_some, ec, e, hr, cond_false]
    rw [eq]
    simp only [Option.bind_some, cond_false, bne_self_eq_false, Bool.not_true]

end Go.Proofs.Ytkblhnedillknaa.Tt
