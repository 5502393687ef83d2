/- Plain laws: BestHome. -/
import Derived.Test.YtboddfdojkgemaaY36a
set_option linter.unusedVariables false
set_option linter.unusedSimpArgs false
namespace Go.Proofs.Ytboddfdojkgemaa.Tt
open Go.Ev Go

/-! ## The least charge of a home -/

def mostS (S : List Int) (m : Int) (p : Int × Int) : Int := maxI m (rd S (ix p))
def mostL (S : List Int) (L : List (Int × Int)) : Int := L.foldl (mostS S) 0
def wholeL (S : List Int) (L : List (Int × Int)) : Bool := L.all fun p => decide (rd S (ix p) ≥ 0)

theorem mostL_snoc (S : List Int) (L : List (Int × Int)) (p : Int × Int) : mostL S (L ++ [p]) = maxI (mostL S L) (rd S (ix p)) := by simp [mostL, mostS]
theorem wholeL_snoc (S : List Int) (L : List (Int × Int)) (p : Int × Int) : wholeL S (L ++ [p]) = (wholeL S L && decide (rd S (ix p) ≥ 0)) := by simp [wholeL]

theorem most_range {S : List Int} (hS : ∀ j, -1 ≤ rd S j ∧ rd S j ≤ 1000) : ∀ (L : List (Int × Int)) (m : Int), 0 ≤ m ∧ m ≤ 1000 → 0 ≤ L.foldl (mostS S) m ∧ L.foldl (mostS S) m ≤ 1000 := by
  intro L
  induction L with
  | nil => intro m h; exact h
  | cons p r ih =>
    intro m h
    refine ih _ ?_
    have := hS (ix p)
    unfold mostS maxI
    split <;> omega

theorem spec_least (k : Nat) (hk : 110 < k) {a : List Int} {w h : Nat} (v : LawnV a w h) {S : List Int} (hS : ∀ j, -1 ≤ rd S j ∧ rd S j ≤ 1000) {p : Int × Int} (hp : spec_l01Reach k a [p.1, p.2] false = some S) :
    spec_l04Least k a [p.1, p.2] = some (2 * mostL S ((allC w h).filter fun p => grassB a p.1 p.2), wholeL S ((allC w h).filter fun p => grassB a p.1 p.2)) := by
  unfold spec_l04Least
  rw [show ([rd [p.1, p.2] 0, rd [p.1, p.2] 1] : List Int) = [p.1, p.2] from rfl, hp, spec_cells k v 0 (by omega), grass_filter v]
  simp only [Option.bind_some]
  have hin : ∀ q ∈ (allC w h).filter (fun p => grassB a p.1 p.2), q ∈ allC w h := fun q hq => (List.mem_filter.1 hq).1
  have hlen : ((allC w h).filter fun p => grassB a p.1 p.2).length ≤ 100 := Nat.le_trans (List.length_filter_le _ _) (allC_small v)
  generalize (allC w h).filter (fun p => grassB a p.1 p.2) = L at hin hlen
  unfold spec_l04Least_l0
  have := loopF_go (R := Int × Bool) (step := fun (rec : Int × Bool × Int × (List Int) × (List Int) → Option (Int × Bool)) (p : Int × Bool × Int × (List Int) × (List Int)) => spec_l04Least_s0 k (fun y3 y4 => some ((IntKind.wrap .i64 (2 * y3)), y4)) (fun h1 h2 h3 h4 h5 => rec (h1, h2, h3, h4, h5)) p.1 p.2.1 p.2.2.1 p.2.2.2.1 p.2.2.2.2)
    (fun i => (mostL S (L.take i), wholeL S (L.take i), (i : Int), S, fl L)) (fun _ _ => some (2 * mostL S L, wholeL S L)) L.length ?_ ?_ L.length 0 k (by omega) (by omega)
  · exact this
  · intro rec
    dsimp only
    unfold spec_l04Least_s0
    have hm := most_range hS L 0 (by omega)
    simp (disch := omega) only [cnt_fl, bF, cond_false, List.take_length]
    rw [wrap64 (x := 2 * mostL S L) (by unfold mostL; omega)]
  · intro i m hi rec hrec
    dsimp only at hrec ⊢
    unfold spec_l04Least_s0
    have hil : i < L.length := by omega
    have hmem := allC_mem.1 (hin _ (getD_mem L (0, 0) hil))
    have hw := v.wle
    have hh := v.hle
    rw [take_getD _ (0, 0) hil, mostL_snoc, wholeL_snoc] at hrec
    simp only [cnt_fl, Int.toNat_natCast, fl_x, fl_y]
    generalize L.getD i (0, 0) = c at hrec hmem ⊢
    have em : spec_l00Max k (mostL S (L.take i)) (rd S (ix c)) = some (maxI (mostL S (L.take i)) (rd S (ix c))) := by
      unfold spec_l00Max maxI
      by_cases h1 : mostL S (L.take i) > rd S (ix c)
      · rw [bT h1, if_neg (by omega)]; rfl
      · rw [bF h1]
        by_cases h2 : rd S (ix c) > mostL S (L.take i)
        · rw [if_pos h2]; rfl
        · rw [if_neg h2, show rd S (ix c) = mostL S (L.take i) by omega]; rfl
    rw [wrap64 (x := (i : Int) + 1) (by omega), bT (p := (i : Int) < (L.length : Int)) (by omega), bT (p := (0 : Int) ≤ (i : Int)) (by omega), bT (p := 0 ≤ c.2) (by omega), bT (p := c.2 < 10) (by omega), bT (p := 0 ≤ c.1) (by omega), bT (p := c.1 < 10) (by omega)]
    simp only [cond_true, Bool.and_true, Nat.zero_add, Nat.mul_one]
    rw [show c.2.toNat * 10 + c.1.toNat = ix c from rfl, em]
    simp only [Option.bind_some]
    cases hwh : wholeL S (L.take i) with
    | true => rw [hwh] at hrec; simp only [Bool.true_and] at hrec; exact hrec
    | false => rw [hwh] at hrec; simp only [Bool.false_and] at hrec; exact hrec

theorem impl_battery (k : Nat) (hk : 110 < k) {a : List Int} {w h : Nat} (v : LawnV a w h) {S : List Int} (hS : ∀ j, -1 ≤ rd S j ∧ rd S j ≤ 1000) {p : Int × Int} (hp : impl_Lawn_steps k a [p.1, p.2] (fun z1 => (impl_Lawn_open k a [(rd z1 0), (rd z1 1)]).bind fun b => some b) = some (tabV w h S)) :
    impl_Lawn_battery k a [p.1, p.2] = some (2 * mostL S ((allC w h).filter fun p => grassB a p.1 p.2), wholeL S ((allC w h).filter fun p => grassB a p.1 p.2)) := by
  unfold impl_Lawn_battery
  rw [show ([rd [p.1, p.2] 0, rd [p.1, p.2] 1] : List Int) = [p.1, p.2] from rfl, hp, impl_those k v _ (fun p => grassB a p.1 p.2) (fun p _ => impl_grassL k v.toLawnS p) (by omega)]
  simp only [Option.bind_some]
  have hin : ∀ q ∈ (allC w h).filter (fun p => grassB a p.1 p.2), q ∈ allC w h := fun q hq => (List.mem_filter.1 hq).1
  have hlen : ((allC w h).filter fun p => grassB a p.1 p.2).length ≤ 100 := Nat.le_trans (List.length_filter_le _ _) (allC_small v)
  generalize (allC w h).filter (fun p => grassB a p.1 p.2) = L at hin hlen
  unfold impl_Lawn_battery_l0
  have := loopF_go (R := Int × Bool) (step := fun (rec : Int × Bool × Int × Int × (List Int) × (List Int) × (List Int) → Option (Int × Bool)) (p : Int × Bool × Int × Int × (List Int) × (List Int) × (List Int)) => impl_Lawn_battery_s0 k (fun y5 y6 => some (y5, y6)) (fun h1 h2 h3 h4 h5 h6 h7 => rec (h1, h2, h3, h4, h5, h6, h7)) p.1 p.2.1 p.2.2.1 p.2.2.2.1 p.2.2.2.2.1 p.2.2.2.2.2.1 p.2.2.2.2.2.2)
    (fun i => (2 * mostL S (L.take i), wholeL S (L.take i), (L.length : Int), (i : Int), a, tabV w h S, fl L)) (fun _ _ => some (2 * mostL S L, wholeL S L)) L.length ?_ ?_ L.length 0 k (by omega) (by omega)
  · rw [cnt_fl]
    exact this
  · intro rec
    dsimp only
    unfold impl_Lawn_battery_s0
    simp (disch := omega) only [bF, cond_false, List.take_length]
  · intro i m hi rec hrec
    dsimp only at hrec ⊢
    unfold impl_Lawn_battery_s0
    have hil : i < L.length := by omega
    have hcin := hin _ (getD_mem L (0, 0) hil)
    rw [take_getD _ (0, 0) hil, mostL_snoc, wholeL_snoc] at hrec
    simp only [cnt_fl, Int.toNat_natCast, fl_x, fl_y]
    generalize L.getD i (0, 0) = c at hrec hcin ⊢
    have hcm := allC_mem.1 hcin
    have hcpos : c.2.toNat * w + c.1.toNat < h * w := by
      have := Nat.mul_le_mul_right w (show c.2.toNat + 1 ≤ h by omega)
      rw [Nat.succ_mul] at this
      omega
    have hsc := hS (ix c)
    rw [impl_index k v hcin, wrap64 (x := (i : Int) + 1) (by omega), bT (p := (i : Int) < (L.length : Int)) (by omega), bT (p := (0 : Int) ≤ (i : Int)) (by omega)]
    simp only [cond_true, Bool.and_true, Option.bind_some, Int.toNat_natCast, Nat.mul_one]
    rw [cnt1, tabV_len, bT (p := (0 : Int) ≤ ((c.2.toNat * w + c.1.toNat : Nat) : Int)) (by omega), bT (p := ((c.2.toNat * w + c.1.toNat : Nat) : Int) < ((h * w : Nat) : Int)) (by omega)]
    simp only [Bool.and_true, cond_true, tabV_get S hcin]
    have em : maxI (2 * mostL S (L.take i)) (IntKind.wrap .i64 (2 * rd S (ix c))) = 2 * maxI (mostL S (L.take i)) (rd S (ix c)) := by
      rw [wrap64 (by omega)]
      unfold maxI
      by_cases h1 : rd S (ix c) > mostL S (L.take i)
      · rw [if_pos h1, if_pos (by omega)]
      · rw [if_neg h1, if_neg (by omega)]
    rw [em]
    cases hwh : wholeL S (L.take i) with
    | true => rw [hwh] at hrec; simp only [Bool.true_and] at hrec; exact hrec
    | false => rw [hwh] at hrec; simp only [Bool.false_and] at hrec; exact hrec

/-! ## BestHome -/

/-- What is known of a home: its least charge, and whether it reaches all grass. -/
def batV (k : Nat) (a : List Int) (p : Int × Int) : Int × Bool := (spec_l04Least k a [p.1, p.2]).getD (0, false)

theorem bat_both (k : Nat) (hk : 110 < k) {a : List Int} {w h : Nat} (v : LawnV a w h) {p : Int × Int} (ho : openP a p = true) :
    spec_l04Least k a [p.1, p.2] = some (batV k a p) ∧ impl_Lawn_battery k a [p.1, p.2] = some (batV k a p) := by
  obtain ⟨S, s1, s2, s3, s4⟩ := steps_both k hk v (fun z2 => (impl_Lawn_open k a [(rd z2 0), (rd z2 1)]).bind fun b => some b) (openF k v.toLawnS) ho
  have e1 := spec_least k hk v s2 s3
  have e2 := impl_battery k hk v s2 s4
  unfold batV
  rw [e1]
  exact ⟨rfl, e2⟩

def bestS (k : Nat) (a : List Int) (s : Int × (Int × Int)) (p : Int × Int) : Int × (Int × Int) :=
  cond ((batV k a p).2 && (decide (s.1 < 0) || decide ((batV k a p).1 < s.1))) ((batV k a p).1, p) s

def bestL (k : Nat) (a : List Int) (L : List (Int × Int)) : Int × (Int × Int) := L.foldl (bestS k a) (-1, (0, 0))

def bestR (s : Int × (Int × Int)) : List Int × Int × Int := cond (decide (s.1 < 0)) ([0, 0], 0, 6) ([s.2.1, s.2.2], s.1, 0)

theorem spec_best_loop (k : Nat) (hk : 110 < k) {a : List Int} {w h : Nat} (v : LawnV a w h) :
    spec_BestHome_l0 k (fun y3 y4 y5 => cond (decide (y3 < 0)) (some ([0, 0], 0, 6)) (some ([(rd y5 0), (rd y5 1)], y3, 0))) (-1) 0 a [0, 0] [0, 0] (fl (allC w h)) = some (bestR (bestL k a ((allC w h).filter (openP a)))) := by
  have hs := allC_small v
  unfold spec_BestHome_l0
  have := loopF_go (R := (List Int) × Int × Int) (step := fun (rec : Int × Int × (List Int) × (List Int) × (List Int) × (List Int) → Option ((List Int) × Int × Int)) (p : Int × Int × (List Int) × (List Int) × (List Int) × (List Int)) => spec_BestHome_s0 k (fun y3 y4 y5 => cond (decide (y3 < 0)) (some ([0, 0], 0, 6)) (some ([(rd y5 0), (rd y5 1)], y3, 0))) (fun h1 h2 h3 h4 h5 h6 => rec (h1, h2, h3, h4, h5, h6)) p.1 p.2.1 p.2.2.1 p.2.2.2.1 p.2.2.2.2.1 p.2.2.2.2.2)
    (fun i => ((bestL k a (((allC w h).take i).filter (openP a))).1, (i : Int), a, [0, 0], [(bestL k a (((allC w h).take i).filter (openP a))).2.1, (bestL k a (((allC w h).take i).filter (openP a))).2.2], fl (allC w h)))
    (fun _ _ => some (bestR (bestL k a ((allC w h).filter (openP a))))) (allC w h).length ?_ ?_ (allC w h).length 0 k (by omega) (by omega)
  · exact this
  · intro rec
    dsimp only
    unfold spec_BestHome_s0
    simp (disch := omega) only [cnt_fl, bF, cond_false, List.take_length]
    unfold bestR
    cases decide ((bestL k a ((allC w h).filter (openP a))).1 < 0) <;> rfl
  · intro i m hi rec hrec
    dsimp only at hrec ⊢
    unfold spec_BestHome_s0
    have hil : i < (allC w h).length := by omega
    have hin := getD_mem (allC w h) (0, 0) hil
    rw [take_getD _ (0, 0) hil, List.filter_append] at hrec
    simp only [cnt_fl, Int.toNat_natCast, fl_x, fl_y]
    generalize (allC w h).getD i (0, 0) = c at hrec hin ⊢
    generalize ((allC w h).take i).filter (openP a) = F at hrec ⊢
    rw [spec_openL k v.toLawnS (hasB_all v hin), wrap64 (x := (i : Int) + 1) (by omega), bT (p := (i : Int) < ((allC w h).length : Int)) (by omega), bT (p := (0 : Int) ≤ (i : Int)) (by omega)]
    simp only [cond_true, Bool.and_true, Option.bind_some]
    cases ho : openP a c with
    | false =>
      rw [show List.filter (openP a) [c] = [] by simp [ho], List.append_nil] at hrec
      exact hrec
    | true =>
      rw [show List.filter (openP a) [c] = [c] by simp [ho]] at hrec
      have eb : bestL k a (F ++ [c]) = bestS k a (bestL k a F) c := by simp [bestL]
      rw [eb] at hrec
      simp only [Bool.not_true, cond_false]
      rw [(bat_both k hk v ho).1]
      simp only [Option.bind_some]
      unfold bestS at hrec
      generalize bestL k a F = s at hrec ⊢
      generalize batV k a c = q at hrec ⊢
      cases hq : q.2 with
      | false => rw [hq] at hrec; simp only [Bool.false_and, cond_false] at hrec ⊢; exact hrec
      | true =>
        rw [hq] at hrec
        simp only [Bool.true_and, cond_true] at hrec ⊢
        cases h1 : decide (s.1 < 0) with
        | true => rw [h1] at hrec; simp only [Bool.true_or, cond_true] at hrec ⊢; exact hrec
        | false =>
          rw [h1] at hrec
          simp only [Bool.false_or, cond_false] at hrec ⊢
          cases h2 : decide (q.1 < s.1) with
          | true => rw [h2] at hrec; exact hrec
          | false => rw [h2] at hrec; exact hrec

theorem impl_best_loop (k : Nat) (hk : 110 < k) {a : List Int} {w h : Nat} (v : LawnV a w h) (L : List (Int × Int)) (hL : L.length ≤ 100) (ho : ∀ p ∈ L, openP a p = true) :
    impl_BestHome_l0 k (fun y4 y5 y6 => cond (decide (y4 < 0)) (some ([0, 0], 0, 6)) (some ([(rd y6 0), (rd y6 1)], y4, 0))) (-1) ((cnt 2 (fl L)) : Int) 0 a [0, 0] [0, 0] (fl L) = some (bestR (bestL k a L)) := by
  unfold impl_BestHome_l0
  have := loopF_go (R := (List Int) × Int × Int) (step := fun (rec : Int × Int × Int × (List Int) × (List Int) × (List Int) × (List Int) → Option ((List Int) × Int × Int)) (p : Int × Int × Int × (List Int) × (List Int) × (List Int) × (List Int)) => impl_BestHome_s0 k (fun y4 y5 y6 => cond (decide (y4 < 0)) (some ([0, 0], 0, 6)) (some ([(rd y6 0), (rd y6 1)], y4, 0))) (fun h1 h2 h3 h4 h5 h6 h7 => rec (h1, h2, h3, h4, h5, h6, h7)) p.1 p.2.1 p.2.2.1 p.2.2.2.1 p.2.2.2.2.1 p.2.2.2.2.2.1 p.2.2.2.2.2.2)
    (fun i => ((bestL k a (L.take i)).1, (L.length : Int), (i : Int), a, [0, 0], [(bestL k a (L.take i)).2.1, (bestL k a (L.take i)).2.2], fl L))
    (fun _ _ => some (bestR (bestL k a L))) L.length ?_ ?_ L.length 0 k (by omega) (by omega)
  · rw [cnt_fl]
    exact this
  · intro rec
    dsimp only
    unfold impl_BestHome_s0
    simp (disch := omega) only [bF, cond_false, List.take_length]
    unfold bestR
    cases decide ((bestL k a L).1 < 0) <;> rfl
  · intro i m hi rec hrec
    dsimp only at hrec ⊢
    unfold impl_BestHome_s0
    have hil : i < L.length := by omega
    have hop := ho _ (getD_mem L (0, 0) hil)
    rw [take_getD _ (0, 0) hil] at hrec
    simp only [cnt_fl, Int.toNat_natCast, fl_x, fl_y]
    generalize L.getD i (0, 0) = c at hrec hop ⊢
    generalize L.take i = F at hrec ⊢
    have eb : bestL k a (F ++ [c]) = bestS k a (bestL k a F) c := by simp [bestL]
    rw [eb] at hrec
    rw [(bat_both k hk v hop).2, wrap64 (x := (i : Int) + 1) (by omega), bT (p := (i : Int) < (L.length : Int)) (by omega), bT (p := (0 : Int) ≤ (i : Int)) (by omega)]
    simp only [cond_true, Bool.and_true, Option.bind_some]
    unfold bestS at hrec
    generalize bestL k a F = s at hrec ⊢
    generalize batV k a c = q at hrec ⊢
    cases hq : q.2 with
    | false => rw [hq] at hrec; simp only [Bool.false_and, cond_false] at hrec ⊢; exact hrec
    | true =>
      rw [hq] at hrec
      simp only [Bool.true_and, cond_true] at hrec ⊢
      cases h1 : decide (s.1 < 0) with
      | true => rw [h1] at hrec; simp only [Bool.true_or, cond_true] at hrec ⊢; exact hrec
      | false =>
        rw [h1] at hrec
        simp only [Bool.false_or, cond_false] at hrec ⊢
        cases h2 : decide (q.1 < s.1) with
        | true => rw [h2] at hrec; exact hrec
        | false => rw [h2] at hrec; exact hrec

theorem best_eq (k : Nat) (hk : 110 < k) {a : List Int} (ha : LawnR a) : ∃ r, spec_BestHome k a = some r ∧ impl_BestHome k a = some r := by
  unfold spec_BestHome impl_BestHome
  rw [spec_valid k (by omega) ha, impl_valid k (by omega) ha]
  simp only [Option.bind_some]
  cases hv : lawnB a with
  | false => exact ⟨_, rfl, rfl⟩
  | true =>
    obtain ⟨w, h, v⟩ := lawnV_of ha hv
    simp only [Bool.not_true, cond_false]
    rw [spec_all k v (by omega), impl_those k v _ (openP a) (fun p _ => openF k v.toLawnS p) (by omega)]
    simp only [Option.bind_some]
    rw [spec_best_loop k hk v, impl_best_loop k hk v _ (Nat.le_trans (List.length_filter_le _ _) (allC_small v)) (fun p hp => (List.mem_filter.1 hp).2)]
    exact ⟨_, rfl, rfl⟩

theorem bestHome_true {a : List Int} (ha : LawnR a) : ∃ k, laws_FnExactBestHome k a = some true := by
  obtain ⟨k, hk⟩ : ∃ k, k = 2000 := ⟨_, rfl⟩
  obtain ⟨r, e1, e2⟩ := best_eq (k + 11) (by omega) ha
  have ec : ∀ q, laws_eqCell (k + 11) q q = some true := fun q => by unfold laws_eqCell; simp
  refine ⟨k + 11, ?_⟩
  unfold laws_FnExactBestHome
  simp only [toLawn_id k a ha.len, Option.bind_some, e1, e2, ec, Bool.not_true, cond_false, bne_self_eq_false]

end Go.Proofs.Ytboddfdojkgemaa.Tt
