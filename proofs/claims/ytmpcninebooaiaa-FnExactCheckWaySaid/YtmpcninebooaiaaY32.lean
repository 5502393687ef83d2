/- Plain laws: what a way comes to. -/
import Derived.Test.YtmpcninebooaiaaY31
set_option linter.unusedVariables false
set_option linter.unusedSimpArgs false
namespace Go.Proofs.Ytmpcninebooaiaa.Tt
open Go.Ev Go

/-- A right way of a right lawn: its cells are open. -/
def goesB (a : List Int) (p : Int × Int) (s : ByteArray) : Bool := openP a p && (comeI a p s 0 s.size).2

/-- The cells of a way, and the code. -/
def wentV (a : List Int) (p : Int × Int) (s : ByteArray) : List Int × Int :=
  cond (lawnB a) (cond (hasB a p.1 p.2) (cond (wayV s != 0) ([], wayV s) (cond (goesB a p s) (fl (posL p s s.size), 0) ([], 4))) ([], 2)) ([], 1)

theorem wayV_fine {s : ByteArray} (h : (wayV s != 0) = false) : s.size ≤ 200 ∧ ∀ j, j < s.size → 0 ≤ letterV (byteN s j) := by
  unfold wayV at h
  cases hq : decide ((s.size : Int) > 200) with
  | true => rw [hq] at h; cases h
  | false =>
    have hs : s.size ≤ 200 := by have := of_decide_eq_false hq; omega
    rw [hq] at h
    simp only [cond_false] at h
    cases hw : wayN s 0 s.size with
    | false => rw [hw] at h; cases h
    | true => exact ⟨hs, fun j hj => wayN_all s.size 0 hw j (by omega) (by omega)⟩

theorem impl_went (k : Nat) {a : List Int} (ha : LawnR a) (p : Int × Int) (s : ByteArray) (hk : 201 < k) : impl_walked k a [p.1, p.2] s = some (wentV a p s) := by
  unfold impl_walked wentV
  have e0 : ([rd [p.1, p.2] 0, rd [p.1, p.2] 1] : List Int) = [p.1, p.2] := rfl
  rw [e0, impl_cells_one k ha _ _ (by omega)]
  simp only [Option.bind_some]
  cases hv : lawnB a with
  | false => rfl
  | true =>
    cases hasB a p.1 p.2 with
    | false => rfl
    | true =>
      simp only [cond_true, beq_self_eq_true]
      rw [impl_way k s hk]
      simp only [Option.bind_some]
      cases hw : (wayV s != 0) with
      | true => rfl
      | false =>
        obtain ⟨h1, h2⟩ := wayV_fine hw
        simp only [cond_false]
        rw [impl_come k (lawnS_of' ha hv) p h1 h2 hk]
        simp only [Option.bind_some]
        unfold goesB
        cases ho : openP a p with
        | false => rw [comeI_closed a p s ho]; rfl
        | true =>
          obtain ⟨g1, g2⟩ := come_same a p s ho s.size 0
          rw [Bool.true_and]
          cases hc : (comeI a p s 0 s.size).2 with
          | false => rfl
          | true =>
            rw [hc] at g1
            rw [(g2 g1).2, Nat.zero_add]
            rfl

theorem spec_told_way (k : Nat) {a : List Int} (ha : LawnR a) {p : Int × Int} (hp : In8 p) (s : ByteArray) (hk : 201 < k + 6) :
    spec_l02Told (k + 6) a [p.1, p.2] s = some (cond (lawnB a) (cond (hasB a p.1 p.2) (wayV s) 2) 1) := by
  unfold spec_l02Told
  have e0 : ([rd [p.1, p.2] 0, rd [p.1, p.2] 1] : List Int) = [p.1, p.2] := rfl
  rw [e0, show spec_l01Is (k + 6) a [p.1, p.2] = some (hasB a p.1 p.2) from spec_is (k + 6) ha hp.1 hp.2]
  simp only [Option.bind_some]
  rw [spec_told (k + 6) ha (by omega)]
  simp only [Option.bind_some]
  cases lawnB a with
  | false => rfl
  | true =>
    cases hasB a p.1 p.2 with
    | false => rfl
    | true =>
      simp only [cond_true, beq_self_eq_true]
      rw [spec_way k s hk]
      rfl

theorem spec_come_flag (k : Nat) {a : List Int} (ha : LawnS a) {p : Int × Int} (hp : In8 p) {s : ByteArray} (hs : s.size ≤ 200) (hw : ∀ j, j < s.size → 0 ≤ letterV (byteN s j)) (hk : 201 < k + 6) :
    ∃ q, spec_l02Come (k + 6) a [p.1, p.2] s = some (q, goesB a p s) ∧ (goesB a p s = true → q = fl (posL p s s.size)) := by
  rw [spec_come k ha hp hs hw hk]
  unfold goesB
  cases ho : openP a p with
  | false => exact ⟨_, rfl, fun h => by cases h⟩
  | true =>
    obtain ⟨g1, g2⟩ := come_same a p s ho s.size 0
    rw [Bool.true_and, ← g1]
    exact ⟨_, rfl, fun h => by rw [(g2 h).1, Nat.zero_add]⟩

end Go.Proofs.Ytmpcninebooaiaa.Tt
