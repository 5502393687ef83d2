/- Plain laws: StepsFrom. -/
import Derived.Test.YtkblhnedillknaaY36a
set_option linter.unusedVariables false
set_option linter.unusedSimpArgs false
namespace Go.Proofs.Ytkblhnedillknaa.Tt
open Go.Ev Go

/-! ## Rows of numbers that are marked -/

def mk64 (c : Int) (m : Nat) : List Int := (List.range m).map fun (j : Nat) => c + (j : Int)
theorem mk64_len (c : Int) (m : Nat) : (mk64 c m).length = m := by simp [mk64]
theorem mk64_succ (c : Int) (m : Nat) : mk64 c (m + 1) = mk64 c m ++ [c + (m : Int)] := by simp [mk64, List.range_succ]
theorem rd_mk64 (c : Int) {m j : Nat} (h : j < m) : rd (mk64 c m) j = c + (j : Int) := by
  unfold rd mk64
  rw [List.getD_eq_getElem?_getD, List.getElem?_map, List.getElem?_range h]
  rfl

theorem set_mid' (A r : List Int) (x v : Int) {i : Nat} (h : A.length = i) : List.set (A ++ x :: r) i v = A ++ v :: r := by
  subst h
  rw [List.set_append_right _ _ (Nat.le_refl _), Nat.sub_self]
  rfl

theorem mark_ints (k : Nat) (l : List Int) (hn : l.length ≤ 1048576) (hk : l.length < k) : laws_markInt64S k l 1 = some (1 + (l.length : Int), mk64 1 l.length) := by
  unfold laws_markInt64S laws_markInt64S_l0
  have := loopF_go (R := Int × List Int) (step := fun (rec : Int × Int × (List Int) → Option (Int × List Int)) (p : Int × Int × (List Int)) => laws_markInt64S_s0 k (fun y1 y2 => some (y1, y2)) (fun h1 h2 h3 => rec (h1, h2, h3)) p.1 p.2.1 p.2.2)
    (fun i => (1 + (i : Int), (i : Int), mk64 1 i ++ l.drop i)) (fun _ _ => some (1 + (l.length : Int), mk64 1 l.length)) l.length ?_ ?_ l.length 0 k (by omega) hk
  · simpa [mk64] using this
  · intro rec
    dsimp only
    unfold laws_markInt64S_s0
    rw [List.drop_length, List.append_nil, cnt1, mk64_len]
    simp (disch := omega) only [bF, cond_false]
  · intro i m hi rec hrec
    dsimp only at hrec ⊢
    unfold laws_markInt64S_s0
    have e1 : cnt 1 (mk64 1 i ++ l.drop i) = l.length := by rw [cnt1, List.length_append, mk64_len, List.length_drop]; omega
    simp only [Int.toNat_natCast, e1, Nat.mul_one]
    simp (disch := omega) only [bT, cond_true, Bool.and_true, wrap64]
    rw [drop_rd (show i < l.length by omega), set_mid' _ _ _ _ (mk64_len _ _)]
    have e2 : mk64 1 i ++ (1 + (i : Int)) :: l.drop (i + 1) = mk64 1 (i + 1) ++ l.drop (i + 1) := by rw [mk64_succ, List.append_assoc]; rfl
    rw [e2, show (1 : Int) + (i : Int) + 1 = 1 + ((i + 1 : Nat) : Int) by omega]
    exact hrec

theorem held_ints (k : Nat) (n : Nat) (hn : n ≤ 1048576) (hk : n < k) : laws_heldInt64S k (mk64 1 n) 1 = some (1 + (n : Int)) := by
  unfold laws_heldInt64S laws_heldInt64S_l0
  have := loopF_go (R := Int) (step := fun (rec : (List Int) × Int × Int → Option Int) (p : (List Int) × Int × Int) => laws_heldInt64S_s0 k (fun y1 => some y1) (fun y2 => some y2) (fun h1 h2 h3 => rec (h1, h2, h3)) p.1 p.2.1 p.2.2)
    (fun i => (mk64 1 n, 1 + (i : Int), (i : Int))) (fun _ _ => some (1 + (n : Int))) n ?_ ?_ n 0 k (by omega) hk
  · simpa using this
  · intro rec
    dsimp only
    unfold laws_heldInt64S_s0
    rw [cnt1, mk64_len]
    simp (disch := omega) only [bF, cond_false]
  · intro i m hi rec hrec
    dsimp only at hrec ⊢
    unfold laws_heldInt64S_s0
    rw [cnt1, mk64_len]
    simp only [Int.toNat_natCast, Nat.mul_one]
    rw [rd_mk64 1 (show i < n by omega)]
    simp (disch := omega) only [bT, cond_true, Bool.and_true, wrap64, bne_self_eq_false, cond_false]
    rw [show (1 : Int) + (i : Int) + 1 = 1 + ((i + 1 : Nat) : Int) by omega]
    exact hrec

theorem eqInts_self (k : Nat) (l : List Int) (hn : l.length ≤ 1048576) (hk : l.length < k) : laws_eqInt64S k l l = some true := by
  unfold laws_eqInt64S laws_eqInt64S_l0
  simp only [bne_self_eq_false, cond_false]
  refine loopF_go (R := Bool) (step := fun (rec : (List Int) × (List Int) × Int → Option Bool) (p : (List Int) × (List Int) × Int) => laws_eqInt64S_s0 k (fun y1 => some y1) (some true) (fun h1 h2 h3 => rec (h1, h2, h3)) p.1 p.2.1 p.2.2)
    (fun i => (l, l, (i : Int))) (fun _ _ => some true) l.length ?_ ?_ l.length 0 k (by omega) hk
  · intro rec
    dsimp only
    unfold laws_eqInt64S_s0
    simp (disch := omega) only [cnt1, bF, cond_false]
  · intro i m hi rec hrec
    dsimp only at hrec ⊢
    unfold laws_eqInt64S_s0
    simp (disch := omega) only [cnt1, bT, cond_true, Bool.and_true, bne_self_eq_false, cond_false, wrap64]
    exact hrec

/-! ## StepsFrom -/

theorem steps_out (k : Nat) {a : List Int} {w h : Nat} (v : LawnV a w h) (S : List Int) (hk : 101 < k) :
    spec_StepsFrom_l0 k (fun y6 => some (y6, (0 : Int))) 0 S [] (fl (allC w h)) = some (tabV w h S, 0) := by
  have hs := allC_small v
  have hw := v.wle
  have hh := v.hle
  unfold spec_StepsFrom_l0
  have := loopF_go (R := List Int × Int) (step := fun (rec : Int × (List Int) × (List Int) × (List Int) → Option (List Int × Int)) (p : Int × (List Int) × (List Int) × (List Int)) => spec_StepsFrom_s0 k (fun y6 => some (y6, (0 : Int))) (fun h1 h2 h3 h4 => rec (h1, h2, h3, h4)) p.1 p.2.1 p.2.2.1 p.2.2.2)
    (fun i => ((i : Int), S, ((allC w h).take i).map (fun p => rd S (ix p)), fl (allC w h))) (fun _ _ => some (tabV w h S, 0)) (allC w h).length ?_ ?_ (allC w h).length 0 k (by omega) (by omega)
  · exact this
  · intro rec
    dsimp only
    unfold spec_StepsFrom_s0
    simp (disch := omega) only [cnt_fl, bF, cond_false, List.take_length]
    rfl
  · intro i m hi rec hrec
    dsimp only at hrec ⊢
    unfold spec_StepsFrom_s0
    have hil : i < (allC w h).length := by omega
    have hm := allC_mem.1 (getD_mem (allC w h) (0, 0) hil)
    have hlen : (((allC w h).take i).map fun p => rd S (ix p)).length ≤ 100 := by rw [List.length_map, List.length_take]; omega
    rw [take_getD _ (0, 0) hil, List.map_append] at hrec
    simp only [cnt_fl, Int.toNat_natCast, fl_x, fl_y]
    generalize (allC w h).getD i (0, 0) = p at hm hrec ⊢
    generalize ((allC w h).take i).map (fun p => rd S (ix p)) = o at hlen hrec ⊢
    have hb : decide (o.length + 1 ≤ bigLen) = true := bT (by rw [bigLen_val]; omega)
    rw [wrap64 (x := (i : Int) + 1) (by omega), bT (p := (i : Int) < ((allC w h).length : Int)) (by omega), bT (p := (0 : Int) ≤ (i : Int)) (by omega), bT (p := 0 ≤ p.2) (by omega), bT (p := p.2 < 10) (by omega), bT (p := 0 ≤ p.1) (by omega), bT (p := p.1 < 10) (by omega)]
    simp only [cond_true, Bool.and_true, hb, Nat.zero_add, Nat.mul_one]
    exact hrec

theorem stepsFrom_eq (k : Nat) {a : List Int} (ha : LawnR a) {p : Int × Int} (hx : -128 ≤ p.1 ∧ p.1 < 128) (hy : -128 ≤ p.2 ∧ p.2 < 128) (hk : 110 < k) : ∃ l c, spec_StepsFrom k a [p.1, p.2] = some (l, c) ∧ impl_StepsFrom k a [p.1, p.2] = some (l, c) ∧ l.length ≤ 100 := by
  unfold spec_StepsFrom impl_StepsFrom
  have e0 : ([rd [p.1, p.2] 0, rd [p.1, p.2] 1] : List Int) = [p.1, p.2] := rfl
  have hopen := impl_openC k ha [p] (by simp) (by omega) (by simp; omega)
  simp only [fl, List.any_cons, List.any_nil, Bool.or_false] at hopen
  rw [e0, show spec_l01Is k a [p.1, p.2] = some (hasB a p.1 p.2) from spec_is k ha hx hy, show impl_openCode k a [p.1, p.2] = _ from hopen]
  simp only [Option.bind_some]
  rw [spec_told k ha (by omega)]
  simp only [Option.bind_some]
  cases hv : lawnB a with
  | false => exact ⟨[], 1, rfl, rfl, by simp⟩
  | true =>
    obtain ⟨w, h, v⟩ := lawnV_of ha hv
    cases hh : hasB a p.1 p.2 with
    | false => exact ⟨[], 2, rfl, rfl, by simp⟩
    | true =>
      simp only [cond_true, Bool.not_true, cond_false, bne_self_eq_false]
      rw [spec_openL k v.toLawnS hh]
      simp only [Option.bind_some]
      cases ho : openP a p with
      | false => exact ⟨[], 4, rfl, rfl, by simp⟩
      | true =>
        obtain ⟨S, s1, s2, s3, s4⟩ := steps_both k hk v (fun z2 => (impl_Lawn_open k a [(rd z2 0), (rd z2 1)]).bind fun b => some b) (openF k v.toLawnS) ho
        simp only [Bool.not_true, cond_false, bne_self_eq_false]
        rw [s3, s4, spec_all k v (by omega)]
        simp only [Option.bind_some]
        rw [steps_out k v S (by omega)]
        refine ⟨_, 0, rfl, rfl, ?_⟩
        rw [tabV_len]
        have := Nat.mul_le_mul v.hle v.wle
        omega

theorem stepsFrom_true {a : List Int} (ha : LawnR a) {x y : Int} (hx : -128 ≤ x ∧ x < 128) (hy : -128 ≤ y ∧ y < 128) : ∃ k, laws_FnExactStepsFrom k a [x, y] = some true := by
  obtain ⟨k, hk⟩ : ∃ k, k = 2000 := ⟨_, rfl⟩
  obtain ⟨l, c, e1, e2, hL⟩ := stepsFrom_eq (k + 11) ha (p := (x, y)) hx hy (by omega)
  have m1 := mark_ints (k + 11) l (by omega) (by omega)
  have m2 := held_ints (k + 11) l.length (by omega) (by omega)
  refine ⟨k + 11, ?_⟩
  unfold laws_FnExactStepsFrom
  have ec : laws_toCell (k + 11) [rd [x, y] 0, rd [x, y] 1] = some [x, y] := rfl
  simp only [toLawn_id k a ha.len, Option.bind_some, ec, e1, e2, eqInts_self (k + 11) l (by omega) (by omega), m1, m2]
  simp (disch := omega) only [Bool.not_true, cond_false, bne_self_eq_false, bF]

end Go.Proofs.Ytkblhnedillknaa.Tt
