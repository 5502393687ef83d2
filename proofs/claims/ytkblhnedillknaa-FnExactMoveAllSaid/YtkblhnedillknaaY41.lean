/- Plain laws: MoveAll. -/
import Derived.Test.YtkblhnedillknaaY41a
import Derived.Test.YtkblhnedillknaaY11c
set_option linter.unusedVariables false
set_option linter.unusedSimpArgs false
namespace Go.Proofs.Ytkblhnedillknaa.Tt
open Go.Ev Go

theorem toHaul_id (k : Nat) (x y z u n : Int) : laws_toHaul k [x, y, z, u, n] = some [x, y, z, u, n] := rfl

theorem copy_step5 {a : List Int} {n i : Nat} (h : a.length = n * 5) (hi : i < n) :
    setWin (a.take (i * 5) ++ List.replicate ((n - i) * 5) 0) (i * 5) 5 (haul a i) = a.take ((i + 1) * 5) ++ List.replicate ((n - (i + 1)) * 5) 0 := by
  have hl : (a.take (i * 5)).length = i * 5 := by rw [List.length_take]; omega
  unfold setWin
  rw [List.take_append_of_le_length (by omega), List.take_of_length_le (by omega)]
  have e1 : List.drop (i * 5 + 5) (a.take (i * 5) ++ List.replicate ((n - i) * 5) 0) = List.replicate ((n - (i + 1)) * 5) 0 := by
    rw [List.drop_append, List.drop_eq_nil_of_le (by omega), List.nil_append, hl, List.drop_replicate]
    congr 1
    omega
  rw [e1]
  have e2 : a.take ((i + 1) * 5) = a.take (i * 5) ++ haul a i := by
    have : (i + 1) * 5 = i * 5 + 5 := by omega
    rw [this, List.take_add]
    congr 1
    rw [drop_rd (by omega), drop_rd (by omega), drop_rd (by omega), drop_rd (by omega), drop_rd (by omega)]
    rfl
  rw [e2, List.append_assoc]

theorem toHaulS_id (k : Nat) (a : List Int) (n : Nat) (h : a.length = n * 5) (hn : n ≤ 1048576) (hk : n < k) : laws_toHaulS k a = some a := by
  unfold laws_toHaulS laws_toHaulS_l0
  rw [cnt_five h, bT (p := (0 : Int) ≤ (n : Int)) (by omega), bT (p := (n : Int) ≤ 4294967296) (by omega)]
  simp only [Bool.true_and, beq_self_eq_true, cond_true]
  have := loopF_go (R := List Int) (step := fun (rec : (List Int) × Int × (List Int) → Option (List Int)) (p : (List Int) × Int × (List Int)) => laws_toHaulS_s0 k (fun y1 => some y1) (fun h1 h2 h3 => rec (h1, h2, h3)) p.1 p.2.1 p.2.2)
    (fun i => (a, (i : Int), a.take (i * 5) ++ List.replicate ((n - i) * 5) 0)) (fun _ _ => some a) n ?_ ?_ n 0 k (by omega) hk
  · simpa using this
  · intro rec
    dsimp only
    unfold laws_toHaulS_s0
    rw [cnt_five h, bF (by omega)]
    simp only [cond_false]
    rw [List.take_of_length_le (by omega)]
    simp
  · intro i m hi rec hrec
    dsimp only at hrec ⊢
    unfold laws_toHaulS_s0
    have hl2 : (a.take (i * 5) ++ List.replicate ((n - i) * 5) 0).length = n * 5 := by simp; omega
    rw [cnt_five h, cnt_five hl2, bT (p := (i : Int) < (n : Int)) (by omega), bT (p := (0 : Int) ≤ (i : Int)) (by omega), toHaul_id]
    simp only [cond_true, Bool.and_true, Option.bind_some, Int.toNat_natCast]
    have e3 : IntKind.wrap .i64 ((i : Int) + 1) = ((i + 1 : Nat) : Int) := by rw [wrap64 (by omega)]; omega
    rw [e3, show ([rd a (i * 5), rd a (i * 5 + 1), rd a (i * 5 + 2), rd a (i * 5 + 3), rd a (i * 5 + 4)] : List Int) = haul a i from rfl, copy_step5 h (by omega)]
    exact hrec

theorem eqHaul_self (k : Nat) (a : List Int) : laws_eqHaul k a a = some true := by
  unfold laws_eqHaul laws_eqCell
  simp

theorem eqHaulS_self (k : Nat) (a : List Int) (n : Nat) (h : a.length = n * 5) (hn : n ≤ 1048576) (hk : n < k) : laws_eqHaulS k a a = some true := by
  unfold laws_eqHaulS laws_eqHaulS_l0
  simp only [bne_self_eq_false, cond_false]
  refine loopF_go (R := Bool) (step := fun (rec : (List Int) × (List Int) × Int → Option Bool) (p : (List Int) × (List Int) × Int) => laws_eqHaulS_s0 k (fun y1 => some y1) (some true) (fun h1 h2 h3 => rec (h1, h2, h3)) p.1 p.2.1 p.2.2)
    (fun i => (a, a, (i : Int))) (fun _ _ => some true) n ?_ ?_ n 0 k (by omega) hk
  · intro rec
    dsimp only
    unfold laws_eqHaulS_s0
    rw [cnt_five h, bF (by omega)]
    rfl
  · intro i m hi rec hrec
    dsimp only at hrec ⊢
    unfold laws_eqHaulS_s0
    rw [cnt_five h, bT (p := (i : Int) < (n : Int)) (by omega), bT (p := (0 : Int) ≤ (i : Int)) (by omega), eqHaul_self]
    have e3 : IntKind.wrap .i64 ((i : Int) + 1) = ((i + 1 : Nat) : Int) := by rw [wrap64 (by omega)]; omega
    simp only [cond_true, Bool.and_true, Option.bind_some, Bool.not_true, cond_false]
    rw [e3]
    exact hrec

theorem impl_all_hauls {R : Type} (k : Nat) (hk : 100 < k) (K1 : Int → (List Int) → (List Int) → Option R) {a : List Int} {w h : Nat} (v : LawnV a w h) (hv : lawnB a = true) {l : List Int} {n : Nat} (hl : HaulsR l n) (hkn : n < k) (s : Int × List Int) (hs : StOK a s) (z : List Int) :
    impl_MoveAll_l0 k K1 s.1 l (n : Int) 0 a s.2 z = K1 (mvN k a l s n).1 (mvN k a l s n).2 z := by
  have hsm := hl.small
  have ok : ∀ i, i ≤ n → StOK a (mvN k a l s i) := by
    intro i
    induction i with
    | zero => intro _; exact hs
    | succ i ih =>
      intro hi
      by_cases h0 : (mvN k a l s i).1 = 0
      · obtain ⟨_, _, _, _, _, _, q5⟩ := mv_step k v hv hl (i := i) (by omega) (by omega) (ih (by omega)) h0
        exact q5
      · have := mvN_stick k a l s i h0 1
        rw [this]
        exact ih (by omega)
  unfold impl_MoveAll_l0
  refine loopF_go (R := R) (step := fun (rec : Int × (List Int) × Int × Int × (List Int) × (List Int) × (List Int) → Option R) (p : Int × (List Int) × Int × Int × (List Int) × (List Int) × (List Int)) => impl_MoveAll_s0 k K1 (fun h1 h2 h3 h4 h5 h6 h7 => rec (h1, h2, h3, h4, h5, h6, h7)) p.1 p.2.1 p.2.2.1 p.2.2.2.1 p.2.2.2.2.1 p.2.2.2.2.2.1 p.2.2.2.2.2.2)
    (fun i => ((mvN k a l s i).1, l, (n : Int), (i : Int), a, (mvN k a l s i).2, z)) (fun _ _ => K1 (mvN k a l s n).1 (mvN k a l s n).2 z) n ?_ ?_ n 0 k (by omega) hkn
  · intro rec
    dsimp only
    unfold impl_MoveAll_s0
    simp (disch := omega) only [bF, cond_false]
  · intro i m hi rec hrec
    dsimp only at hrec ⊢
    unfold impl_MoveAll_s0
    have e3 : IntKind.wrap .i64 ((i : Int) + 1) = ((i + 1 : Nat) : Int) := by rw [wrap64 (by omega)]; omega
    rw [cnt_five hl.len, bT (p := (i : Int) < (n : Int)) (by omega), bT (p := (0 : Int) ≤ (i : Int)) (by omega), e3]
    simp only [cond_true, Bool.and_true, Int.toNat_natCast]
    by_cases h0 : (mvN k a l s i).1 = 0
    · obtain ⟨_, _, _, _, _, q4, _⟩ := mv_step k v hv hl (i := i) (by omega) (by omega) (ok i (by omega)) h0
      rw [show ([rd l (i * 5), rd l (i * 5 + 1), rd l (i * 5 + 2), rd l (i * 5 + 3), rd l (i * 5 + 4)] : List Int) = haul l i from rfl, q4, eqT h0]
      exact hrec
    · have hst := mvN_stick k a l s i h0 1
      rw [hst] at hrec
      rw [eqF h0]
      exact hrec

theorem moveAll_eq (k : Nat) (hk : 100 < k) {a g l : List Int} {n : Nat} (ha : LawnR a) (hg : LevR g) (hl : HaulsR l n) (hkn : n < k) : ∃ r, spec_MoveAll k a g l = some r ∧ impl_MoveAll k a g l = some r := by
  unfold spec_MoveAll impl_MoveAll
  rw [spec_lev k ha hg (by omega), impl_soil_nil k ha hg (by omega), cnt_five hl.len]
  simp only [Option.bind_some]
  cases hb : (lawnB a && levB a g) with
  | false =>
    refine ⟨(List.replicate 100 0, 1), rfl, ?_⟩
    show (cond ((1 : Int) == 0) _ _) = _
    rw [show ((1 : Int) == 0) = false from rfl]
    simp only [cond_false]
    -- with a code, the loop does nothing
    have idle : ∀ (K1 : Int → (List Int) → (List Int) → Option (List Int × Int)) (c : Int), c ≠ 0 → impl_MoveAll_l0 k K1 c l (n : Int) 0 a g (List.replicate 100 0) = K1 c g (List.replicate 100 0) := by
      intro K1 c hc
      have hsm := hl.small
      unfold impl_MoveAll_l0
      refine loopF_go (R := List Int × Int) (step := fun (rec : Int × (List Int) × Int × Int × (List Int) × (List Int) × (List Int) → Option (List Int × Int)) (p : Int × (List Int) × Int × Int × (List Int) × (List Int) × (List Int)) => impl_MoveAll_s0 k K1 (fun h1 h2 h3 h4 h5 h6 h7 => rec (h1, h2, h3, h4, h5, h6, h7)) p.1 p.2.1 p.2.2.1 p.2.2.2.1 p.2.2.2.2.1 p.2.2.2.2.2.1 p.2.2.2.2.2.2)
        (fun i => (c, l, (n : Int), (i : Int), a, g, List.replicate 100 0)) (fun _ _ => K1 c g (List.replicate 100 0)) n ?_ ?_ n 0 k (by omega) hkn
      · intro rec
        dsimp only
        unfold impl_MoveAll_s0
        simp (disch := omega) only [bF, cond_false]
      · intro i m hi rec hrec
        dsimp only at hrec ⊢
        unfold impl_MoveAll_s0
        have e3 : IntKind.wrap .i64 ((i : Int) + 1) = ((i + 1 : Nat) : Int) := by rw [wrap64 (by omega)]; omega
        rw [cnt_five hl.len, bT (p := (i : Int) < (n : Int)) (by omega), bT (p := (0 : Int) ≤ (i : Int)) (by omega), e3, eqF hc]
        exact hrec
    have := idle (fun y8 y9 y10 => cond (y8 != 0) (some ((List.replicate 100 0), y8)) (some (y9, 0))) 1 (by omega)
    exact this
  | true =>
    rw [Bool.and_eq_true] at hb
    obtain ⟨w, h, v⟩ := lawnV_of ha hb.1
    simp only [Bool.not_true, cond_false, cond_true]
    rw [show ((0 : Int) == 0) = true from rfl]
    simp only [cond_true]
    by_cases h60 : (n : Int) > 60
    · rw [bT h60]
      simp only [cond_true]
      refine ⟨(List.replicate 100 0, 3), rfl, ?_⟩
      have := impl_all_hauls k hk (fun y2 y3 y4 => cond (y2 != 0) (some ((List.replicate 100 0), y2)) (some (y3, 0))) v hb.1 hl hkn (3, g) (fun h => by cases h) (List.replicate 100 0)
      have hst := mvN_stick k a l (3, g) 0 (by show (3 : Int) ≠ 0; omega) n
      rw [Nat.zero_add] at hst
      rw [hst] at this
      exact this
    · rw [bF h60]
      simp only [cond_false]
      have hs : StOK a (0, g) := fun _ => ⟨hg, hb.2⟩
      have e1 := spec_all_hauls k hk (fun y2 y3 => some (y3, y2)) (fun y4 _ => some (y4, (0 : Int))) v hb.1 hl (by omega) (0, g) hs rfl (List.replicate 100 0)
      have e2 := impl_all_hauls k hk (fun y5 y6 y7 => cond (y5 != 0) (some ((List.replicate 100 0), y5)) (some (y6, 0))) v hb.1 hl hkn (0, g) hs (List.replicate 100 0)
      simp only at e1 e2
      rw [e1, e2]
      cases ((mvN k a l (0, g) n).1 != 0) with
      | true => exact ⟨_, rfl, rfl⟩
      | false => exact ⟨_, rfl, rfl⟩

theorem moveAll_true {a g l : List Int} {n : Nat} (ha : LawnR a) (hg : LevR g) (hl : HaulsR l n) : ∃ k, laws_FnExactMoveAll k a g l = some true := by
  obtain ⟨k, hk⟩ : ∃ k, k = n + 2000 := ⟨_, rfl⟩
  have hn := hl.small
  obtain ⟨r, e1, e2⟩ := moveAll_eq (k + 11) (by omega) ha hg hl (by omega)
  refine ⟨k + 11, ?_⟩
  unfold laws_FnExactMoveAll laws_szHaulS
  rw [cnt_five hl.len, wrap64 (x := 1048576 - (n : Int)) (by omega), bF (p := (1048576 - (n : Int)) < 0) (by omega)]
  simp only [cond_false, Option.bind_some]
  rw [bF (p := (1048576 - (n : Int)) < 0) (by omega)]
  simp only [cond_false, toLawn_id k a ha.len, toLevels_id k g hg.len, toHaulS_id (k + 11) l n hl.len hn (by omega), Option.bind_some, e1, e2, eqLevels_self (k + 11) r.1 (by omega), Bool.not_true, bne_self_eq_false, eqHaulS_self (k + 11) l n hl.len hn (by omega)]

end Go.Proofs.Ytkblhnedillknaa.Tt
