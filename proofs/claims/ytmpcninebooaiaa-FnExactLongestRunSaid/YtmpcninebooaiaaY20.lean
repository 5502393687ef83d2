/- Plain laws: LongestRun. -/
import Derived.Test.YtmpcninebooaiaaY19
set_option linter.unusedVariables false
set_option linter.unusedSimpArgs false
namespace Go.Proofs.Ytmpcninebooaiaa.Tt
open Go.Ev Go

def longS (s p : Int × Int × Int) : Int × Int × Int := cond (decide (p.2.2 > s.2.2)) p s
def longL (L : List (Int × Int × Int)) : Int × Int × Int := L.foldl longS (0, 0, 0)
theorem longL_snoc (L : List (Int × Int × Int)) (p : Int × Int × Int) : longL (L ++ [p]) = longS (longL L) p := by simp [longL]

def longR (s : Int × Int × Int) : List Int × Int := cond (s.2.2 == 0) ([0, 0, 0], 6) ([s.1, s.2.1, s.2.2], 0)

theorem spec_long_loop (k : Nat) (L : List (Int × Int × Int)) (hl : L.length ≤ 100) (hk : 101 < k) :
    spec_LongestRun_l0 k (fun (y3 : List Int) y4 => cond ((rd y4 2) == 0) (some ([0, 0, 0], (6 : Int))) (some ([(rd y4 0), (rd y4 1), (rd y4 2)], 0))) 0 [0, 0, 0] [0, 0, 0] (fl3 L) = some (longR (longL L)) := by
  unfold spec_LongestRun_l0
  have := loopF_go (R := List Int × Int) (step := fun (rec : Int × (List Int) × (List Int) × (List Int) → Option (List Int × Int)) (p : Int × (List Int) × (List Int) × (List Int)) => spec_LongestRun_s0 k (fun (y3 : List Int) y4 => cond ((rd y4 2) == 0) (some ([0, 0, 0], (6 : Int))) (some ([(rd y4 0), (rd y4 1), (rd y4 2)], 0))) (fun h1 h2 h3 h4 => rec (h1, h2, h3, h4)) p.1 p.2.1 p.2.2.1 p.2.2.2)
    (fun i => ((i : Int), [0, 0, 0], [(longL (L.take i)).1, (longL (L.take i)).2.1, (longL (L.take i)).2.2], fl3 L)) (fun _ _ => some (longR (longL L))) L.length ?_ ?_ L.length 0 k (by omega) (by omega)
  · exact this
  · intro rec
    dsimp only
    unfold spec_LongestRun_s0
    simp (disch := omega) only [cnt_fl3, bF, cond_false, List.take_length]
    unfold longR
    show cond ((longL L).2.2 == 0) _ _ = _
    cases ((longL L).2.2 == 0) <;> rfl
  · intro i m hi rec hrec
    dsimp only at hrec ⊢
    unfold spec_LongestRun_s0
    have hil : i < L.length := by omega
    rw [take_getD _ (0, 0, 0) hil, longL_snoc] at hrec
    simp only [cnt_fl3, Int.toNat_natCast, fl3_x, fl3_y, fl3_n]
    generalize L.getD i (0, 0, 0) = p at hrec ⊢
    generalize longL (L.take i) = s at hrec ⊢
    rw [show rd [s.1, s.2.1, s.2.2] 2 = s.2.2 from rfl]
    simp (disch := omega) only [bT, cond_true, Bool.and_true, wrap64 (x := (i : Int) + 1)]
    unfold longS at hrec
    cases h2 : decide (p.2.2 > s.2.2) with
    | true => rw [h2] at hrec; simp only [cond_true] at hrec ⊢; exact hrec
    | false => rw [h2] at hrec; simp only [cond_false] at hrec ⊢; exact hrec

theorem impl_long_loop (k : Nat) (L : List (Int × Int × Int)) (hl : L.length ≤ 100) (hk : 101 < k) :
    impl_LongestRun_l0 k (fun (y3 : List Int) y4 => cond ((rd y4 2) == 0) (some ([0, 0, 0], (6 : Int))) (some ([(rd y4 0), (rd y4 1), (rd y4 2)], 0))) (L.length : Int) 0 [0, 0, 0] [0, 0, 0] (fl3 L) = some (longR (longL L)) := by
  unfold impl_LongestRun_l0
  have := loopF_go (R := List Int × Int) (step := fun (rec : Int × Int × (List Int) × (List Int) × (List Int) → Option (List Int × Int)) (p : Int × Int × (List Int) × (List Int) × (List Int)) => impl_LongestRun_s0 k (fun (y3 : List Int) y4 => cond ((rd y4 2) == 0) (some ([0, 0, 0], (6 : Int))) (some ([(rd y4 0), (rd y4 1), (rd y4 2)], 0))) (fun h1 h2 h3 h4 h5 => rec (h1, h2, h3, h4, h5)) p.1 p.2.1 p.2.2.1 p.2.2.2.1 p.2.2.2.2)
    (fun i => ((L.length : Int), (i : Int), [0, 0, 0], [(longL (L.take i)).1, (longL (L.take i)).2.1, (longL (L.take i)).2.2], fl3 L)) (fun _ _ => some (longR (longL L))) L.length ?_ ?_ L.length 0 k (by omega) (by omega)
  · exact this
  · intro rec
    dsimp only
    unfold impl_LongestRun_s0
    simp (disch := omega) only [bF, cond_false, List.take_length]
    unfold longR
    show cond ((longL L).2.2 == 0) _ _ = _
    cases ((longL L).2.2 == 0) <;> rfl
  · intro i m hi rec hrec
    dsimp only at hrec ⊢
    unfold impl_LongestRun_s0
    have hil : i < L.length := by omega
    rw [take_getD _ (0, 0, 0) hil, longL_snoc] at hrec
    simp only [cnt_fl3, Int.toNat_natCast, fl3_x, fl3_y, fl3_n]
    generalize L.getD i (0, 0, 0) = p at hrec ⊢
    generalize longL (L.take i) = s at hrec ⊢
    rw [show rd [s.1, s.2.1, s.2.2] 2 = s.2.2 from rfl]
    simp (disch := omega) only [bT, cond_true, Bool.and_true, wrap64 (x := (i : Int) + 1)]
    unfold longS at hrec
    cases h2 : decide (p.2.2 > s.2.2) with
    | true => rw [h2] at hrec; simp only [cond_true] at hrec ⊢; exact hrec
    | false => rw [h2] at hrec; simp only [cond_false] at hrec ⊢; exact hrec

theorem longestRun_eq (k : Nat) {a : List Int} (ha : LawnR a) (b : Bool) (hk : 101 < k) : spec_LongestRun k a b = impl_LongestRun k a b ∧ ∃ r, impl_LongestRun k a b = some r := by
  unfold spec_LongestRun impl_LongestRun
  rw [spec_valid k (by omega) ha, impl_cells_nil k ha (by omega)]
  cases hv : lawnB a with
  | false => exact ⟨rfl, _, rfl⟩
  | true =>
    obtain ⟨w, h, v⟩ := lawnV_of ha hv
    have hl : (runsOf a b (allC w h)).length ≤ 100 := Nat.le_trans (runsOf_len _ _ _) (allC_small v)
    have e1 := spec_runs' k v b hk
    have e2 := impl_runs k v b hk
    simp only [Option.bind_some, Bool.not_true, cond_false, cond_true, bne_self_eq_false, e1, e2, cnt_fl3]
    rw [spec_long_loop k _ hl hk, impl_long_loop k _ hl hk]
    exact ⟨rfl, _, rfl⟩

theorem longestRun_true {a : List Int} (ha : LawnR a) (b : Bool) : ∃ k, laws_FnExactLongestRun k a b = some true := by
  obtain ⟨k, hk⟩ : ∃ k, k = 189 := ⟨_, rfl⟩
  obtain ⟨e, r, hr⟩ := longestRun_eq (k + 11) ha b (by omega)
  refine ⟨k + 11, ?_⟩
  unfold laws_FnExactLongestRun
  simp only [toLawn_id k a ha.len, Option.bind_some, e, hr]
  have ec : ∀ q, laws_eqCell (k + 11) q q = some true := fun q => by unfold laws_eqCell; simp
  have er : ∀ q, laws_eqRun (k + 11) q q = some true := fun q => by unfold laws_eqRun; rw [ec]; simp
  rw [er]
  simp only [Option.bind_some, Bool.not_true, cond_false, bne_self_eq_false]

end Go.Proofs.Ytmpcninebooaiaa.Tt
