/- Plain laws: MirrorLevels and RollRow. -/
import Derived.Test.YtbibnmaoagcfgaaY11
set_option linter.unusedVariables false
set_option linter.unusedSimpArgs false
namespace Go.Proofs.Ytbibnmaoagcfgaa.Tt
open Go.Ev Go

/-! ## MirrorLevels -/

def mirS (g : List Int) (w : Nat) (o : List Int) (p : Int × Int) : List Int := List.set o (p.2.toNat * 10 + ((w : Int) - 1 - p.1).toNat) (rd g (p.2.toNat * 10 + p.1.toNat))
def mirF (g : List Int) (w : Nat) (L : List (Int × Int)) : List Int := L.foldl (mirS g w) (List.replicate 100 0)

theorem mirF_snoc (g : List Int) (w : Nat) (L : List (Int × Int)) (p : Int × Int) : mirF g w (L ++ [p]) = mirS g w (mirF g w L) p := by simp [mirF]

theorem mirF_R {g : List Int} (hg : LevR g) (w : Nat) (L : List (Int × Int)) : LevR (mirF g w L) := by
  unfold mirF
  suffices h : ∀ (L : List (Int × Int)) (o : List Int), LevR o → LevR (L.foldl (mirS g w) o) from h L _ levR_zero
  intro L
  induction L with
  | nil => intro o ho; exact ho
  | cons p r ih => intro o ho; exact ih _ (ho.set (hg.rng _))

theorem spec_mir_loop {R : Type} (k : Nat) (K1 : (List Int) → (List Int) → (List Int) → Option R) {a g : List Int} {w h : Nat} (v : LawnV a w h) (z : List Int) (hk : 101 < k) :
    spec_MirrorLevels_l0 k K1 0 a g z (List.replicate 100 0) (fl (allC w h)) = K1 a z (mirF g w (allC w h)) := by
  have hw := v.wv
  have hl := v.hle
  have hwl := v.wle
  have hlen : (allC w h).length ≤ 100 := by
    rw [allC_length]
    have := Nat.mul_le_mul hl hwl
    omega
  unfold spec_MirrorLevels_l0
  have := loopF_go (step := fun (rec : Int × (List Int) × (List Int) × (List Int) × (List Int) × (List Int) → Option R) (p : Int × (List Int) × (List Int) × (List Int) × (List Int) × (List Int)) => spec_MirrorLevels_s0 k K1 (fun h1 h2 h3 h4 h5 h6 => rec (h1, h2, h3, h4, h5, h6)) p.1 p.2.1 p.2.2.1 p.2.2.2.1 p.2.2.2.2.1 p.2.2.2.2.2)
    (fun i => ((i : Int), a, g, z, mirF g w ((allC w h).take i), fl (allC w h))) (fun _ _ => K1 a z (mirF g w (allC w h))) (allC w h).length ?_ ?_ (allC w h).length 0 k (by omega) (by omega)
  · simpa [mirF] using this
  · intro rec
    dsimp only
    unfold spec_MirrorLevels_s0
    simp (disch := omega) only [cnt_fl, bF, cond_false, List.take_length]
  · intro i m hi rec hrec
    dsimp only at hrec ⊢
    unfold spec_MirrorLevels_s0
    have hil : i < (allC w h).length := by omega
    have hp := allC_mem.1 (getD_mem (allC w h) (0, 0) hil)
    rw [take_getD _ (0, 0) hil, mirF_snoc] at hrec
    simp only [cnt_fl, Int.toNat_natCast, fl_x, fl_y, hw, Nat.zero_add, Nat.mul_one]
    generalize (allC w h).getD i (0, 0) = p at hp hrec ⊢
    simp (disch := omega) only [bT, cond_true, Bool.and_true, wrap8, wrap64]
    exact hrec

theorem impl_mir_loop {R : Type} (k : Nat) (K1 : (List Int) → (List Int) → (List Int) → Option R) {a g : List Int} {w h : Nat} (v : LawnV a w h) (z : List Int) (hk : 101 < k) :
    impl_MirrorLevels_l0 k K1 ((allC w h).length : Int) 0 a g z (List.replicate 100 0) (fl (allC w h)) = K1 a z (mirF g w (allC w h)) := by
  have hw := v.wv
  have hl := v.hle
  have hwl := v.wle
  have hlen : (allC w h).length ≤ 100 := by
    rw [allC_length]
    have := Nat.mul_le_mul hl hwl
    omega
  unfold impl_MirrorLevels_l0
  have := loopF_go (step := fun (rec : Int × Int × (List Int) × (List Int) × (List Int) × (List Int) × (List Int) → Option R) (p : Int × Int × (List Int) × (List Int) × (List Int) × (List Int) × (List Int)) => impl_MirrorLevels_s0 k K1 (fun h1 h2 h3 h4 h5 h6 h7 => rec (h1, h2, h3, h4, h5, h6, h7)) p.1 p.2.1 p.2.2.1 p.2.2.2.1 p.2.2.2.2.1 p.2.2.2.2.2.1 p.2.2.2.2.2.2)
    (fun i => (((allC w h).length : Int), (i : Int), a, g, z, mirF g w ((allC w h).take i), fl (allC w h))) (fun _ _ => K1 a z (mirF g w (allC w h))) (allC w h).length ?_ ?_ (allC w h).length 0 k (by omega) (by omega)
  · simpa [mirF] using this
  · intro rec
    dsimp only
    unfold impl_MirrorLevels_s0
    simp (disch := omega) only [cnt_fl, bF, cond_false, List.take_length]
  · intro i m hi rec hrec
    dsimp only at hrec ⊢
    unfold impl_MirrorLevels_s0
    have hil : i < (allC w h).length := by omega
    have hp := allC_mem.1 (getD_mem (allC w h) (0, 0) hil)
    rw [take_getD _ (0, 0) hil, mirF_snoc] at hrec
    simp only [cnt_fl, Int.toNat_natCast, fl_x, fl_y, hw, Nat.zero_add, Nat.mul_one]
    generalize (allC w h).getD i (0, 0) = p at hp hrec ⊢
    simp (disch := omega) only [bT, cond_true, Bool.and_true, wrap8, wrap64]
    exact hrec

def mirV (a g : List Int) : List Int × Int :=
  cond (lawnB a && levB a g) (let o := mirF g (rd a 0).toNat (allC (rd a 0).toNat (rd a 1).toNat); cond (lawnB a && levB a o) (o, 0) (List.replicate 100 0, 4)) (List.replicate 100 0, 1)

theorem spec_mirror (k : Nat) {a g : List Int} (ha : LawnR a) (hg : LevR g) (hk : 101 < k) : spec_MirrorLevels k a g = some (mirV a g) := by
  unfold spec_MirrorLevels mirV
  rw [spec_lev k ha hg (by omega)]
  simp only [Option.bind_some]
  cases hq : (lawnB a && levB a g) with
  | false => rfl
  | true =>
    obtain ⟨hq1, hq2⟩ := Bool.and_eq_true_iff.1 hq
    obtain ⟨w, h, v⟩ := lawnV_of ha hq1
    simp only [Bool.not_true, cond_false, cond_true]
    rw [spec_all k v (by omega)]
    simp only [Option.bind_some]
    rw [spec_mir_loop k _ v _ hk, v.wv, v.hv, Int.toNat_natCast, Int.toNat_natCast, spec_lev k ha (mirF_R hg w _) (by omega)]
    simp only [Option.bind_some]
    cases (lawnB a && levB a (mirF g w (allC w h))) <;> rfl

theorem impl_mirror (k : Nat) {a g : List Int} (ha : LawnR a) (hg : LevR g) (hk : 101 < k) : impl_MirrorLevels k a g = some (mirV a g) := by
  unfold impl_MirrorLevels mirV
  rw [impl_soil_nil k ha hg (by omega)]
  simp only [Option.bind_some]
  cases hq : (lawnB a && levB a g) with
  | false => rfl
  | true =>
    obtain ⟨hq1, hq2⟩ := Bool.and_eq_true_iff.1 hq
    obtain ⟨w, h, v⟩ := lawnV_of ha hq1
    simp only [cond_true, bne_self_eq_false, cond_false]
    rw [impl_all k v (by omega)]
    simp only [Option.bind_some, cnt_fl]
    rw [impl_mir_loop k _ v _ hk, v.wv, v.hv, Int.toNat_natCast, Int.toNat_natCast, impl_lev k ha (mirF_R hg w _) (by omega)]
    simp only [Option.bind_some]
    cases (lawnB a && levB a (mirF g w (allC w h))) <;> rfl

theorem mirrorLevels_true {a g : List Int} (ha : LawnR a) (hg : LevR g) : laws_FnExactMirrorLevels 200 a g = some true := by
  unfold laws_FnExactMirrorLevels
  have t1 : laws_toLawn 200 a = some a := toLawn_id 189 a ha.len
  have t2 : laws_toLevels 200 g = some g := toLevels_id 189 g hg.len
  rw [t1, t2]
  simp only [Option.bind_some]
  rw [spec_mirror 200 ha hg (by omega), impl_mirror 200 ha hg (by omega)]
  simp only [Option.bind_some]
  rw [eqLevels_self 200 _ (by omega)]
  simp only [Option.bind_some, Bool.not_true, cond_false, bne_self_eq_false]

/-! ## RollRow -/

def rollS (a : List Int) (y : Nat) (i : Nat) (s : List Int × Int) : List Int × Int :=
  cond (grassB a i y && (grassB a ((i : Int) + 1) y && decide (2 ≤ rd s.1 (y * 10 + i) - rd s.1 (y * 10 + (i + 1)))))
    (List.set (List.set s.1 (y * 10 + i) (rd s.1 (y * 10 + i) - (rd s.1 (y * 10 + i) - rd s.1 (y * 10 + (i + 1))) / 2)) (y * 10 + (i + 1)) (rd s.1 (y * 10 + (i + 1)) + (rd s.1 (y * 10 + i) - rd s.1 (y * 10 + (i + 1))) / 2),
      s.2 + (rd s.1 (y * 10 + i) - rd s.1 (y * 10 + (i + 1))) / 2) s

def rollN (a g : List Int) (y : Nat) : Nat → List Int × Int
  | 0 => (g, 0)
  | i + 1 => rollS a y i (rollN a g y i)

theorem rollN_R {a g : List Int} (hg : LevR g) (y : Nat) : ∀ i, LevR (rollN a g y i).1 ∧ 0 ≤ (rollN a g y i).2 ∧ (rollN a g y i).2 ≤ 128 * i := by
  intro i
  induction i with
  | zero => exact ⟨hg, by simp [rollN], by simp [rollN]⟩
  | succ i ih =>
    obtain ⟨h1, h2, h3⟩ := ih
    simp only [rollN, rollS]
    generalize rollN a g y i = s at h1 h2 h3
    cases hq : (grassB a i y && (grassB a ((i : Int) + 1) y && decide (2 ≤ rd s.1 (y * 10 + i) - rd s.1 (y * 10 + (i + 1))))) with
    | false => simp only [cond_false]; exact ⟨h1, h2, by omega⟩
    | true =>
      simp only [cond_true]
      simp only [Bool.and_eq_true, decide_eq_true_eq] at hq
      have r1 := h1.rng (y * 10 + i)
      have r2 := h1.rng (y * 10 + (i + 1))
      exact ⟨(h1.set (by omega)).set (by omega), by omega, by omega⟩

theorem spec_lat (k : Nat) {g : List Int} (hg : LevR g) {x y : Int} (hx : 0 ≤ x ∧ x < 10) (hy : 0 ≤ y ∧ y < 10) : spec_l06At k g [x, y] = some (rd g (y.toNat * 10 + x.toNat)) := by
  unfold spec_l06At
  have e1 : rd [x, y] 0 = x := rfl
  have e2 : rd [x, y] 1 = y := rfl
  have r := hg.rng (y.toNat * 10 + x.toNat)
  rw [e1, e2]
  simp (disch := omega) only [bT, cond_true, Bool.and_true, Nat.mul_one, Nat.zero_add, wrap64]

theorem impl_of (k : Nat) {g : List Int} (hg : LevR g) {x y : Int} (hx : 0 ≤ x ∧ x < 10) (hy : 0 ≤ y ∧ y < 10) : impl_Levels_of k g [x, y] = some (rd g (y.toNat * 10 + x.toNat)) := spec_lat k hg hx hy

theorem impl_more (k : Nat) {g : List Int} {x y n : Int} (hx : 0 ≤ x ∧ x < 10) (hy : 0 ≤ y ∧ y < 10) (hn : -128 ≤ n ∧ n < 128) (hr : -128 ≤ rd g (y.toNat * 10 + x.toNat) + n ∧ rd g (y.toNat * 10 + x.toNat) + n < 128) :
    impl_Levels_more k g [x, y] n = some (List.set g (y.toNat * 10 + x.toNat) (rd g (y.toNat * 10 + x.toNat) + n)) := by
  unfold impl_Levels_more
  have e1 : rd [x, y] 0 = x := rfl
  have e2 : rd [x, y] 1 = y := rfl
  rw [e1, e2]
  simp (disch := omega) only [bT, cond_true, Bool.and_true, Nat.mul_one, Nat.zero_add, wrap8]

theorem spec_roll_loop {R : Type} (k : Nat) (K1 : Int → (List Int) → (List Int) → Option R) {a g : List Int} {w h : Nat} (v : LawnV a w h) (hg : LevR g) (z : List Int) (y : Nat) (hy : y < h) (hk : 20 < k) :
    spec_RollRow_l0 k K1 (y : Int) 0 0 a g z = K1 (rollN a g y (w - 1)).2 (rollN a g y (w - 1)).1 z := by
  have hw := v.wv
  have hl := v.hle
  have hwl := v.wle
  have hw1 := v.w1
  unfold spec_RollRow_l0
  refine loopF_go (step := fun (rec : Int × Int × Int × (List Int) × (List Int) × (List Int) → Option R) (p : Int × Int × Int × (List Int) × (List Int) × (List Int)) => spec_RollRow_s0 k K1 (fun h1 h2 h3 h4 h5 h6 => rec (h1, h2, h3, h4, h5, h6)) p.1 p.2.1 p.2.2.1 p.2.2.2.1 p.2.2.2.2.1 p.2.2.2.2.2)
    (fun i => ((y : Int), (rollN a g y i).2, (i : Int), a, (rollN a g y i).1, z)) (fun _ _ => K1 (rollN a g y (w - 1)).2 (rollN a g y (w - 1)).1 z) (w - 1) ?_ ?_ (w - 1) 0 k (by omega) (by omega)
  · intro rec
    dsimp only
    unfold spec_RollRow_s0
    simp (disch := omega) only [hw, wrap8, bF, cond_false]
  · intro i m hi rec hrec
    dsimp only at hrec ⊢
    unfold spec_RollRow_s0
    obtain ⟨h1, h2, h3⟩ := rollN_R (a := a) hg y i
    simp only [rollN, rollS] at hrec
    generalize rollN a g y i = s at h1 h2 h3 hrec ⊢
    have r1 := h1.rng (y * 10 + i)
    have r2 := h1.rng (y * 10 + (i + 1))
    have ei : ((i : Int) + 1).toNat = i + 1 := by omega
    simp (disch := omega) only [hw, wrap8, bT, cond_true]
    rw [spec_lat k h1 (by omega) (by omega), spec_lat k h1 (by omega) (by omega), spec_grass k v.toLawnS (by omega) (by omega), spec_grass k v.toLawnS (by omega) (by omega)]
    simp only [Option.bind_some, Int.toNat_natCast, ei]
    cases g1 : grassB a i y with
    | false => rw [g1] at hrec; simp only [cond_false, Bool.false_and] at hrec ⊢; exact hrec
    | true =>
      cases g2 : grassB a ((i : Int) + 1) y with
      | false => rw [g1, g2] at hrec; simp only [cond_true, cond_false, Bool.false_and, Bool.and_false] at hrec ⊢; exact hrec
      | true =>
        rw [g1, g2] at hrec
        have hne : rd (List.set s.1 (y * 10 + i) (rd s.1 (y * 10 + i) - (rd s.1 (y * 10 + i) - rd s.1 (y * 10 + (i + 1))) / 2)) (y * 10 + (i + 1)) = rd s.1 (y * 10 + (i + 1)) := by
          rw [rd_set, if_neg (by omega)]
        by_cases hd : 2 ≤ rd s.1 (y * 10 + i) - rd s.1 (y * 10 + (i + 1))
        · simp (disch := omega) only [bT, Bool.and_true, cond_true] at hrec
          simp (disch := omega) only [wrap64, tdiv2, wrap8, bT, cond_true, Bool.and_true, Nat.zero_add, Nat.mul_one, hne]
          exact hrec
        · simp (disch := omega) only [bF, Bool.and_false, cond_false] at hrec
          simp (disch := omega) only [wrap64, bF, cond_true, cond_false]
          exact hrec

theorem impl_roll_loop {R : Type} (k : Nat) (K1 : Int → (List Int) → (List Int) → Option R) {a g : List Int} {w h : Nat} (v : LawnV a w h) (hg : LevR g) (z : List Int) (y : Nat) (hy : y < h) (hk : 20 < k) :
    impl_RollRow_l0 k K1 (y : Int) 0 (w : Int) 0 a g z = K1 (rollN a g y w).2 (rollN a g y w).1 z := by
  have hw := v.wv
  have hl := v.hle
  have hwl := v.wle
  have hw1 := v.w1
  unfold impl_RollRow_l0
  refine loopF_go (step := fun (rec : Int × Int × Int × Int × (List Int) × (List Int) × (List Int) → Option R) (p : Int × Int × Int × Int × (List Int) × (List Int) × (List Int)) => impl_RollRow_s0 k K1 (fun h1 h2 h3 h4 h5 h6 h7 => rec (h1, h2, h3, h4, h5, h6, h7)) p.1 p.2.1 p.2.2.1 p.2.2.2.1 p.2.2.2.2.1 p.2.2.2.2.2.1 p.2.2.2.2.2.2)
    (fun i => ((y : Int), (rollN a g y i).2, (w : Int), (i : Int), a, (rollN a g y i).1, z)) (fun _ _ => K1 (rollN a g y w).2 (rollN a g y w).1 z) w ?_ ?_ w 0 k (by omega) (by omega)
  · intro rec
    dsimp only
    unfold impl_RollRow_s0
    simp (disch := omega) only [bF, cond_false]
  · intro i m hi rec hrec
    dsimp only at hrec ⊢
    unfold impl_RollRow_s0
    obtain ⟨h1, h2, h3⟩ := rollN_R (a := a) hg y i
    simp only [rollN, rollS] at hrec
    generalize rollN a g y i = s at h1 h2 h3 hrec ⊢
    have r1 := h1.rng (y * 10 + i)
    have r2 := h1.rng (y * 10 + (i + 1))
    have ei : ((i : Int) + 1).toNat = i + 1 := by omega
    simp (disch := omega) only [wrap8, bT, cond_true]
    rw [impl_grass k v.toLawnS, impl_grass k v.toLawnS]
    simp only [Option.bind_some]
    cases g1 : grassB a i y with
    | false => rw [g1] at hrec; simp only [Bool.not_false, cond_true, cond_false, Bool.false_and] at hrec ⊢; exact hrec
    | true =>
      cases g2 : grassB a ((i : Int) + 1) y with
      | false => rw [g1, g2] at hrec; simp only [Bool.not_true, Bool.not_false, cond_true, cond_false, Bool.false_and, Bool.and_false] at hrec ⊢; exact hrec
      | true =>
        rw [g1, g2] at hrec
        have hx := grass_range v.toLawnS g2
        rw [impl_of k h1 (by omega) (by omega), impl_of k h1 (by omega) (by omega)]
        simp only [Bool.not_true, cond_false, Option.bind_some, Int.toNat_natCast, ei]
        have hne : rd (List.set s.1 (y * 10 + i) (rd s.1 (y * 10 + i) - (rd s.1 (y * 10 + i) - rd s.1 (y * 10 + (i + 1))) / 2)) (y * 10 + (i + 1)) = rd s.1 (y * 10 + (i + 1)) := by
          rw [rd_set, if_neg (by omega)]
        by_cases hd : 2 ≤ rd s.1 (y * 10 + i) - rd s.1 (y * 10 + (i + 1))
        · simp (disch := omega) only [bT, Bool.and_true, cond_true] at hrec
          simp (disch := omega) only [wrap64, tdiv2, bT, cond_true]
          rw [impl_more k (by omega) (by omega) (by omega) (by simp only [Int.toNat_natCast]; omega)]
          simp only [Option.bind_some, Int.toNat_natCast]
          have e0 : ∀ p q : Int, p + (0 - q) = p - q := fun p q => by omega
          rw [e0, impl_more k (by omega) (by omega) (by omega) (by simp only [Int.toNat_natCast, ei]; rw [hne]; omega)]
          simp only [Option.bind_some, Int.toNat_natCast, ei]
          rw [hne]
          exact hrec
        · simp (disch := omega) only [bF, Bool.and_false, cond_false] at hrec
          simp (disch := omega) only [wrap64, bF, cond_false]
          exact hrec

theorem roll_last {a g : List Int} {w h : Nat} (v : LawnV a w h) (y : Nat) : rollN a g y w = rollN a g y (w - 1) := by
  have hw1 := v.w1
  have hw := v.wv
  obtain ⟨n, rfl⟩ : ∃ n, w = n + 1 := ⟨w - 1, by omega⟩
  have : grassB a ((n : Int) + 1) y = false := by
    cases hq : grassB a ((n : Int) + 1) y with
    | false => rfl
    | true =>
      have := grass_range v.toLawnS hq
      omega
  show rollS a y n (rollN a g y n) = rollN a g y n
  unfold rollS
  rw [this, Bool.false_and, Bool.and_false]
  rfl

def rollV (a g : List Int) (y : Int) : List Int × Int × Int :=
  cond (lawnB a && levB a g) (cond (decide (0 ≤ y) && decide (y < rd a 1)) ((rollN a g y.toNat ((rd a 0).toNat - 1)).1, (rollN a g y.toNat ((rd a 0).toNat - 1)).2, 0) (List.replicate 100 0, 0, 2)) (List.replicate 100 0, 0, 1)

theorem spec_roll (k : Nat) {a g : List Int} (ha : LawnR a) (hg : LevR g) (y : Int) (hk : 20 < k) : spec_RollRow k a g y = some (rollV a g y) := by
  unfold spec_RollRow rollV
  have hh := ha.high
  rw [spec_in]
  simp only [Option.bind_some]
  rw [spec_asked k ha hg (by omega)]
  simp only [Option.bind_some]
  cases hq : (lawnB a && levB a g) with
  | false => rfl
  | true =>
    obtain ⟨hq1, hq2⟩ := Bool.and_eq_true_iff.1 hq
    obtain ⟨w, h, v⟩ := lawnV_of ha hq1
    have hw := v.wv
    have hhv := v.hv
    have hl := v.hle
    simp (disch := omega) only [cond_true, wrap64, hhv]
    by_cases c1 : 0 ≤ y
    · by_cases c2 : y < (h : Int)
      · simp (disch := omega) only [bT, Bool.and_true, cond_true, bne_self_eq_false, cond_false]
        obtain ⟨n, rfl⟩ : ∃ n : Nat, y = (n : Int) := ⟨y.toNat, by omega⟩
        rw [spec_roll_loop k _ v hg _ n (by omega) hk, hw]
        simp only [Int.toNat_natCast]
      · simp (disch := omega) only [bT, bF, Bool.and_false, cond_false]
        rfl
    · simp (disch := omega) only [bF, Bool.false_and, cond_false]
      rfl

theorem impl_roll (k : Nat) {a g : List Int} (ha : LawnR a) (hg : LevR g) (y : Int) (hk : 20 < k) : impl_RollRow k a g y = some (rollV a g y) := by
  unfold impl_RollRow rollV
  have hh := ha.high
  rw [impl_soil_nil k ha hg (by omega)]
  simp only [Option.bind_some]
  cases hq : (lawnB a && levB a g) with
  | false => rfl
  | true =>
    obtain ⟨hq1, hq2⟩ := Bool.and_eq_true_iff.1 hq
    obtain ⟨w, h, v⟩ := lawnV_of ha hq1
    have hw := v.wv
    have hhv := v.hv
    have hl := v.hle
    rw [impl_in]
    simp (disch := omega) only [cond_true, wrap64, hhv, Option.bind_some, beq_self_eq_true, bne_self_eq_false, cond_false]
    by_cases c1 : 0 ≤ y
    · by_cases c2 : y < (h : Int)
      · simp (disch := omega) only [bT, Bool.and_true, Bool.not_true, cond_true, cond_false]
        obtain ⟨n, rfl⟩ : ∃ n : Nat, y = (n : Int) := ⟨y.toNat, by omega⟩
        rw [hw, impl_roll_loop k _ v hg _ n (by omega) hk, roll_last v]
        simp only [Int.toNat_natCast]
      · simp (disch := omega) only [bT, bF, Bool.and_false, cond_false, Bool.not_false, cond_true]
    · simp (disch := omega) only [bF, Bool.false_and, cond_false, Bool.not_false, cond_true]

theorem rollRow_true {a g : List Int} (ha : LawnR a) (hg : LevR g) (y : Int) : laws_FnExactRollRow 200 a g y = some true := by
  unfold laws_FnExactRollRow
  have t1 : laws_toLawn 200 a = some a := toLawn_id 189 a ha.len
  have t2 : laws_toLevels 200 g = some g := toLevels_id 189 g hg.len
  rw [t1, t2]
  simp only [Option.bind_some]
  rw [spec_roll 200 ha hg y (by omega), impl_roll 200 ha hg y (by omega)]
  simp only [Option.bind_some]
  rw [eqLevels_self 200 _ (by omega)]
  simp only [Option.bind_some, Bool.not_true, cond_false, bne_self_eq_false]

end Go.Proofs.Ytbibnmaoagcfgaa.Tt
