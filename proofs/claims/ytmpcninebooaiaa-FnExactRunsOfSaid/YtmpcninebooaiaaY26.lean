/- Plain laws: RunsOf. -/
import Derived.Test.YtmpcninebooaiaaY19
import Derived.Test.YtmpcninebooaiaaY23
set_option linter.unusedVariables false
set_option linter.unusedSimpArgs false
namespace Go.Proofs.Ytmpcninebooaiaa.Tt
open Go.Ev Go

theorem cnt_three {a : List Int} {n : Nat} (h : a.length = n * 3) : cnt 3 a = n := by unfold cnt; omega

theorem mark_runs (k : Nat) (l : List Int) (n : Nat) (c : Int) (hl : l.length = n * 3) (hn : n ≤ 1000) (hc : 0 ≤ c ∧ c ≤ 1000) (hk : 1000 < k) : laws_markRunS k l c = some (c + 3 * (n : Int), mk8 c (n * 3)) := by
  unfold laws_markRunS laws_markRunS_l0
  have := loopF_go (R := Int × List Int) (step := fun (rec : Int × Int × (List Int) → Option (Int × List Int)) (p : Int × Int × (List Int)) => laws_markRunS_s0 k (fun y1 y2 => some (y1, y2)) (fun h1 h2 h3 => rec (h1, h2, h3)) p.1 p.2.1 p.2.2)
    (fun i => (c + 3 * (i : Int), (i : Int), mk8 c (i * 3) ++ l.drop (i * 3))) (fun _ _ => some (c + 3 * (n : Int), mk8 c (n * 3))) n ?_ ?_ n 0 k (by omega) (by omega)
  · simpa [mk8] using this
  · intro rec
    dsimp only
    unfold laws_markRunS_s0
    have e : l.drop (n * 3) = [] := List.drop_eq_nil_of_le (by omega)
    rw [e, List.append_nil, cnt_three (n := n) (mk8_len _ _)]
    simp (disch := omega) only [bF, cond_false]
  · intro i m hi rec hrec
    dsimp only at hrec ⊢
    unfold laws_markRunS_s0
    have e1 : cnt 3 (mk8 c (i * 3) ++ l.drop (i * 3)) = n := cnt_three (by rw [List.length_append, mk8_len, List.length_drop, hl]; omega)
    have e0 : ∀ v, cnt 3 (List.set (mk8 c (i * 3) ++ l.drop (i * 3)) (i * 3) v) = n := fun v => cnt_three (by rw [List.length_set, List.length_append, mk8_len, List.length_drop, hl]; omega)
    have e00 : ∀ v u, cnt 3 (List.set (List.set (mk8 c (i * 3) ++ l.drop (i * 3)) (i * 3) v) (i * 3 + 1) u) = n := fun v u => cnt_three (by rw [List.length_set, List.length_set, List.length_append, mk8_len, List.length_drop, hl]; omega)
    simp only [Int.toNat_natCast, e0, e1, e00]
    simp (disch := omega) only [bT, cond_true, Bool.and_true, wrap64]
    rw [drop_rd (show i * 3 < l.length by omega), drop_rd (show i * 3 + 1 < l.length by omega), drop_rd (show i * 3 + 1 + 1 < l.length by omega), set_mid _ _ _ _ (mk8_len _ _)]
    have e2 : ∀ r : List Int, mk8 c (i * 3) ++ IntKind.wrap .i8 (c + 3 * (i : Int)) :: r = mk8 c (i * 3 + 1) ++ r := fun r => by
      rw [mk8_succ, show c + ((i * 3 : Nat) : Int) = c + 3 * (i : Int) by omega, List.append_assoc]
      rfl
    rw [e2, set_mid _ _ _ _ (mk8_len _ _)]
    have e3 : ∀ r : List Int, mk8 c (i * 3 + 1) ++ IntKind.wrap .i8 (c + 3 * (i : Int) + 1) :: r = mk8 c (i * 3 + 2) ++ r := fun r => by
      rw [mk8_succ c (i * 3 + 1), show c + ((i * 3 + 1 : Nat) : Int) = c + 3 * (i : Int) + 1 by omega, List.append_assoc]
      rfl
    rw [e3, set_mid _ _ _ _ (mk8_len _ _)]
    have e4 : mk8 c (i * 3 + 2) ++ IntKind.wrap .i8 (c + 3 * (i : Int) + 1 + 1) :: l.drop (i * 3 + 1 + 1 + 1) = mk8 c ((i + 1) * 3) ++ l.drop ((i + 1) * 3) := by
      have q1 : (i + 1) * 3 = i * 3 + 2 + 1 := by omega
      rw [q1, mk8_succ c (i * 3 + 2), show c + ((i * 3 + 2 : Nat) : Int) = c + 3 * (i : Int) + 1 + 1 by omega, List.append_assoc]
      rfl
    rw [e4]
    have q2 : c + 3 * (i : Int) + 1 + 1 + 1 = c + 3 * ((i + 1 : Nat) : Int) := by omega
    rw [q2]
    exact hrec

theorem held_runs (k : Nat) (n : Nat) (c : Int) (hn : n ≤ 1000) (hc : 0 ≤ c ∧ c ≤ 1000) (hk : 1000 < k) : laws_heldRunS k (mk8 c (n * 3)) c = some (c + 3 * (n : Int)) := by
  unfold laws_heldRunS laws_heldRunS_l0
  have := loopF_go (R := Int) (step := fun (rec : (List Int) × Int × Int → Option Int) (p : (List Int) × Int × Int) => laws_heldRunS_s0 k (fun y1 => some y1) (fun y2 => some y2) (fun h1 h2 h3 => rec (h1, h2, h3)) p.1 p.2.1 p.2.2)
    (fun i => (mk8 c (n * 3), c + 3 * (i : Int), (i : Int))) (fun _ _ => some (c + 3 * (n : Int))) n ?_ ?_ n 0 k (by omega) (by omega)
  · simpa using this
  · intro rec
    dsimp only
    unfold laws_heldRunS_s0
    rw [cnt_three (n := n) (mk8_len _ _)]
    simp (disch := omega) only [bF, cond_false]
  · intro i m hi rec hrec
    dsimp only at hrec ⊢
    unfold laws_heldRunS_s0
    rw [cnt_three (n := n) (mk8_len _ _)]
    simp only [Int.toNat_natCast]
    rw [rd_mk8 c (show i * 3 < n * 3 by omega), rd_mk8 c (show i * 3 + 1 < n * 3 by omega), rd_mk8 c (show i * 3 + 2 < n * 3 by omega)]
    have e1 : c + ((i * 3 : Nat) : Int) = c + 3 * (i : Int) := by omega
    have e2 : c + ((i * 3 + 1 : Nat) : Int) = c + 3 * (i : Int) + 1 := by omega
    have e3 : c + ((i * 3 + 2 : Nat) : Int) = c + 3 * (i : Int) + 1 + 1 := by omega
    rw [e1, e2, e3]
    have q2 : c + 3 * (i : Int) + 1 + 1 + 1 = c + 3 * ((i + 1 : Nat) : Int) := by omega
    simp (disch := omega) only [bT, cond_true, Bool.and_true, wrap64, bne_self_eq_false, cond_false]
    rw [q2]
    exact hrec

theorem marks_runs (k : Nat) (L : List (Int × Int × Int)) (hL : L.length ≤ 1000) (hk : 1000 < k) : ∃ m l, laws_markRunS k (fl3 L) 1 = some (m, l) ∧ laws_heldRunS k l 1 = some m ∧ 0 ≤ m :=
  ⟨_, _, mark_runs k (fl3 L) L.length 1 (fl3_length L) hL (by omega) hk, held_runs k L.length 1 hL (by omega) hk, by omega⟩

theorem eqRuns_self (k : Nat) (L : List (Int × Int × Int)) (hL : L.length ≤ 1000) (hk : 1000 < k) : laws_eqRunS k (fl3 L) (fl3 L) = some true := by
  unfold laws_eqRunS laws_eqRunS_l0
  have ec : ∀ q, laws_eqCell k q q = some true := fun q => by unfold laws_eqCell; simp
  have er : ∀ q, laws_eqRun k q q = some true := fun q => by unfold laws_eqRun; rw [ec]; simp
  simp only [bne_self_eq_false, cond_false]
  refine loopF_go (R := Bool) (step := fun (rec : (List Int) × (List Int) × Int → Option Bool) (p : (List Int) × (List Int) × Int) => laws_eqRunS_s0 k (fun y1 => some y1) (some true) (fun h1 h2 h3 => rec (h1, h2, h3)) p.1 p.2.1 p.2.2)
    (fun i => (fl3 L, fl3 L, (i : Int))) (fun _ _ => some true) L.length ?_ ?_ L.length 0 k (by omega) (by omega)
  · intro rec
    dsimp only
    unfold laws_eqRunS_s0
    simp (disch := omega) only [cnt_fl3, bF, cond_false]
  · intro i m hi rec hrec
    dsimp only at hrec ⊢
    unfold laws_eqRunS_s0
    rw [er]
    simp (disch := omega) only [cnt_fl3, bT, cond_true, Bool.and_true, Bool.not_true, Option.bind_some, cond_false, wrap64]
    exact hrec

theorem runsOf_eq (k : Nat) {a : List Int} (ha : LawnR a) (b : Bool) (hk : 101 < k) : ∃ L c, spec_RunsOf k a b = some (fl3 L, c) ∧ impl_RunsOf k a b = some (fl3 L, c) ∧ L.length ≤ 1000 := by
  unfold spec_RunsOf impl_RunsOf
  rw [spec_valid k (by omega) ha, impl_cells_nil k ha (by omega)]
  simp only [Option.bind_some]
  cases hv : lawnB a with
  | false => exact ⟨[], 1, rfl, rfl, by simp⟩
  | true =>
    obtain ⟨w, h, v⟩ := lawnV_of ha hv
    simp only [Bool.not_true, cond_false, cond_true, bne_self_eq_false]
    rw [spec_runs' k v b hk, impl_runs k v b hk]
    exact ⟨_, 0, rfl, rfl, Nat.le_trans (runsOf_len _ _ _) (Nat.le_trans (allC_small v) (by omega))⟩

theorem runsOf_true {a : List Int} (ha : LawnR a) (b : Bool) : ∃ k, laws_FnExactRunsOf k a b = some true := by
  obtain ⟨k, hk⟩ : ∃ k, k = 2000 := ⟨_, rfl⟩
  obtain ⟨L, c, e1, e2, hL⟩ := runsOf_eq (k + 11) ha b (by omega)
  obtain ⟨m, l, m1, m2, m3⟩ := marks_runs (k + 11) L hL (by omega)
  refine ⟨k + 11, ?_⟩
  unfold laws_FnExactRunsOf
  simp only [toLawn_id k a ha.len, Option.bind_some, e1, e2, eqRuns_self (k + 11) L hL (by omega), m1, m2]
  simp (disch := omega) only [Bool.not_true, cond_false, bne_self_eq_false, bF]

end Go.Proofs.Ytmpcninebooaiaa.Tt
