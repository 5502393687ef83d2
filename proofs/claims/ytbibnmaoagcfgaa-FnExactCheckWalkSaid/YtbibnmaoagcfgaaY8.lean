/- Plain laws: CheckWalk. -/
import Derived.Test.YtbibnmaoagcfgaaY7
set_option linter.unusedVariables false
set_option linter.unusedSimpArgs false
namespace Go.Proofs.Ytbibnmaoagcfgaa.Tt
open Go.Ev Go

def walkV (a l : List Int) (n : Nat) : Bool × Int := cond (!lawnB a) (false, 1) (cond (decide ((n : Int) > 201)) (false, 3) (cond (walkB a l 0 n) (decide ((n : Int) > 0)) false, 0))

theorem lawnS_of {a : List Int} (ha : LawnR a) (h : lawnB a = true) : LawnS a := by
  unfold lawnB sideB at h
  simp only [Bool.and_eq_true, decide_eq_true_eq] at h
  exact ⟨ha, h.1.2, h.2.1.2⟩

theorem spec_check (k : Nat) (hk : 10 < k) {a l : List Int} {n : Nat} (ha : LawnR a) (hl : CellsR l n) (hn : n < k) : spec_CheckWalk k a l = some (walkV a l n) := by
  unfold spec_CheckWalk walkV
  rw [spec_valid k hk ha]
  simp only [Option.bind_some]
  cases hv : lawnB a with
  | false => rfl
  | true =>
    rw [cnt_two hl.len]
    simp only [Bool.not_true, cond_false]
    cases hq : decide ((n : Int) > 201) with
    | true => rfl
    | false =>
      simp only [cond_false]
      have h : spec_l04Right k a l = cond (walkB a l 0 n) (some (decide (((cnt 2 l) : Int) > 0))) (some false) :=
        spec_walk k (fun y1 => some y1) (fun y2 => some (decide (((cnt 2 y2) : Int) > 0))) (lawnS_of ha hv) hl n 0 k (by omega) hn (.inl rfl)
      rw [h, cnt_two hl.len]
      cases walkB a l 0 n <;> rfl

theorem impl_check (k : Nat) (hk : 10 < k + 6) {a l : List Int} {n : Nat} (ha : LawnR a) (hl : CellsR l n) (hn : n < k + 6) : impl_CheckWalk (k + 6) a l = some (walkV a l n) := by
  unfold impl_CheckWalk impl_walkCode walkV
  rw [impl_valid (k + 6) hk ha]
  simp only [Option.bind_some]
  cases hv : lawnB a with
  | false => rfl
  | true =>
    simp only [Bool.not_true, cond_false]
    have h1 := containsFunc_one (k + 4) l (fun z2 => (impl_walkCode_1 (k + 6) z2).bind fun b => some b) (decide ((n : Int) > 201)) (by unfold impl_walkCode_1; rw [cnt_two hl.len]; rfl)
    have h1 : slices_ContainsFunc_S_impl_Cell (k + 6) [l] (fun z2 => (impl_walkCode_1 (k + 6) z2).bind fun b => some b) = some (decide ((n : Int) > 201)) := h1
    rw [h1]
    simp only [Option.bind_some]
    cases hq : decide ((n : Int) > 201) with
    | true => rfl
    | false =>
      simp only [cond_false]
      have h : impl_Lawn_isWalk (k + 6) a l = cond (walkB a l 0 n) (some (decide ((n : Int) > 0))) (some false) := by
        unfold impl_Lawn_isWalk impl_Lawn_isWalk_l0
        rw [cnt_two hl.len]
        refine Eq.trans ?_ (show cond (walkB a l 0 n) (some (decide (((cnt 2 l) : Int) > 0))) (some false) = _ by rw [cnt_two hl.len])
        exact impl_walk k (fun y1 => some y1) (fun y2 => some (decide (((cnt 2 y2) : Int) > 0))) (lawnS_of ha hv) hl n 0 (k + 6) (by omega) hn (.inl rfl)
      have h2 := containsFunc_one (k + 4) l (fun z4 => (impl_walkCode_2 (k + 6) z4 a).bind fun b => some b) (!(cond (walkB a l 0 n) (decide ((n : Int) > 0)) false)) (by
        unfold impl_walkCode_2
        rw [h]
        cases walkB a l 0 n <;> rfl)
      have h2 : slices_ContainsFunc_S_impl_Cell (k + 6) [l] (fun z4 => (impl_walkCode_2 (k + 6) z4 a).bind fun b => some b) = some (!(cond (walkB a l 0 n) (decide ((n : Int) > 0)) false)) := h2
      rw [h2]
      cases (cond (walkB a l 0 n) (decide ((n : Int) > 0)) false) <;> rfl

theorem checkWalk_true {a l : List Int} {n : Nat} (ha : LawnR a) (hl : CellsR l n) : laws_FnExactCheckWalk (n + 14 + 6) a l = some true := by
  have hn := hl.small
  have hlen := hl.len
  unfold laws_FnExactCheckWalk laws_szCellS
  rw [cnt_two hlen, wrap64 (x := 1048576 - (n : Int)) (by omega), bF (p := (1048576 - (n : Int)) < 0) (by omega)]
  simp only [cond_false, Option.bind_some]
  rw [bF (p := (1048576 - (n : Int)) < 0) (by omega)]
  have t1 : laws_toLawn (n + 14 + 6) a = some a := toLawn_id (n + 9) a ha.len
  have t2 : laws_toCellS (n + 14 + 6) l = some l := toCellS_id _ l n hlen hn (by omega)
  simp only [cond_false, Option.bind_some, t1, t2]
  rw [spec_check (n + 14 + 6) (by omega) ha hl (by omega), impl_check (n + 14) (by omega) ha hl (by omega)]
  simp only [Option.bind_some, beq_self_eq_true, Bool.not_true, cond_false, bne_self_eq_false]
  rw [eqCellS_self _ l n hlen hn (by omega)]
  rfl

end Go.Proofs.Ytbibnmaoagcfgaa.Tt
