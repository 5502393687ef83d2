/- Plain laws: SteepSteps. -/
import Derived.Test.YtkblhnedillknaaY13
import Derived.Test.YtkblhnedillknaaY11b
import Derived.Test.YtkblhnedillknaaY22a
set_option linter.unusedVariables false
set_option linter.unusedSimpArgs false
namespace Go.Proofs.Ytkblhnedillknaa.Tt
open Go.Ev Go

/-- By how much levels differ. -/
def farV (g : List Int) (p q : Int × Int) : Int := maxI (levP g p - levP g q) (levP g q - levP g p)
def steepB (a g : List Int) (b : Int) (p q : Int × Int) : Bool := grassB a q.1 q.2 && decide (farV g p q > b)
def stepN (a g : List Int) (b : Int) (p : Int × Int) (n : Int) (q : Int × Int) : Int := cond (steepB a g b p q) (IntKind.wrap .i64 (n + 1)) n
def south (p : Int × Int) : List (Int × Int) := [(p.1 + 1, p.2), (p.1, p.2 + 1)]
def steepC (a g : List Int) (b : Int) (n : Int) (p : Int × Int) : Int := (south p).foldl (stepN a g b p) n
def steepL (a g : List Int) (b : Int) (L : List (Int × Int)) : Int := L.foldl (steepC a g b) 0
theorem steepL_snoc (a g : List Int) (b : Int) (L : List (Int × Int)) (p : Int × Int) : steepL a g b (L ++ [p]) = steepC a g b (steepL a g b L) p := by simp [steepL]

theorem lev_range {g : List Int} (hg : LevR g) (p : Int × Int) : -128 ≤ levP g p ∧ levP g p < 128 := hg.rng _

theorem spec_far (k : Nat) {g : List Int} (hg : LevR g) {p q : Int × Int} (hp : in10 p) (hq : in10 q) : spec_l06Far k g [p.1, p.2] [q.1, q.2] = some (farV g p q) := by
  unfold spec_l06Far farV
  have r1 := lev_range hg p
  have r2 := lev_range hg q
  rw [show spec_l06At k g [rd [p.1, p.2] 0, rd [p.1, p.2] 1] = some (levP g p) from spec_lat' k hg hp, show spec_l06At k g [rd [q.1, q.2] 0, rd [q.1, q.2] 1] = some (levP g q) from spec_lat' k hg hq]
  simp only [Option.bind_some]
  generalize levP g p = x at r1 ⊢
  generalize levP g q = y at r2 ⊢
  rw [wrap64 (x := x - y) (by omega), wrap64 (x := 0 - (x - y)) (by omega)]
  unfold spec_l00Max maxI
  by_cases c : x - y > 0 - (x - y)
  · rw [bT c, if_neg (by omega)]; rfl
  · rw [bF c]
    by_cases c2 : y - x > x - y
    · rw [if_pos c2]
      simp
      omega
    · rw [if_neg c2]
      simp
      omega

set_option maxHeartbeats 1600000 in
theorem spec_steep_loop (k : Nat) {a g : List Int} {w h : Nat} (v : LawnV a w h) (hg : LevR g) (b : Int) (L : List (Int × Int)) (hL : ∀ p ∈ L, in10 p) (hl : L.length ≤ 100) (hk : 101 < k) :
    spec_SteepSteps_l0 k (fun y4 => some (y4, (0 : Int))) b 0 0 a g (fl L) = some (steepL a g b L, 0) := by
  have hw := v.wle
  have hh := v.hle
  have hwv := v.wv
  have hhv := v.hv
  unfold spec_SteepSteps_l0
  have := loopF_go (R := Int × Int) (step := fun (rec : Int × Int × Int × (List Int) × (List Int) × (List Int) → Option (Int × Int)) (p : Int × Int × Int × (List Int) × (List Int) × (List Int)) => spec_SteepSteps_s0 k (fun y4 => some (y4, (0 : Int))) (fun h1 h2 h3 h4 h5 h6 => rec (h1, h2, h3, h4, h5, h6)) p.1 p.2.1 p.2.2.1 p.2.2.2.1 p.2.2.2.2.1 p.2.2.2.2.2)
    (fun i => (b, steepL a g b (L.take i), (i : Int), a, g, fl L)) (fun _ _ => some (steepL a g b L, 0)) L.length ?_ ?_ L.length 0 k (by omega) (by omega)
  · exact this
  · intro rec
    dsimp only
    unfold spec_SteepSteps_s0
    simp (disch := omega) only [cnt_fl, bF, cond_false, List.take_length]
  · intro i m hi rec hrec
    dsimp only at hrec ⊢
    unfold spec_SteepSteps_s0
    have hil : i < L.length := by omega
    have hin := hL _ (getD_mem L (0, 0) hil)
    rw [take_getD _ (0, 0) hil, steepL_snoc] at hrec
    simp only [cnt_fl, Int.toNat_natCast, fl_x, fl_y]
    generalize L.getD i (0, 0) = p at hin hrec ⊢
    generalize steepL a g b (L.take i) = n at hrec ⊢
    obtain ⟨hx, hy⟩ := hin
    have hp : in10 p := ⟨hx, hy⟩
    rw [wrap8 (x := p.1 + 1) (by omega), wrap8 (x := p.2 + 1) (by omega), spec_grass k v.toLawnS (by omega) (by omega), spec_grass k v.toLawnS (by omega) (by omega), wrap64 (x := (i : Int) + 1) (by omega), bT (p := (i : Int) < (L.length : Int)) (by omega), bT (p := (0 : Int) ≤ (i : Int)) (by omega)]
    simp only [cond_true, Bool.and_true, Option.bind_some]
    simp only [steepC, south, List.foldl_cons, List.foldl_nil, stepN, steepB] at hrec
    cases g1 : grassB a (p.1 + 1) p.2 with
    | false =>
      simp only [g1, Bool.false_and, cond_false] at hrec
      simp only [cond_false]
      cases g2 : grassB a p.1 (p.2 + 1) with
      | false => simp only [g2, Bool.false_and, cond_false] at hrec; simp only [cond_false]; exact hrec
      | true =>
        have gr := grass_range v.toLawnS g2
        simp only [g2, Bool.true_and] at hrec
        simp only [cond_true]
        rw [show spec_l06Far k g [p.1, p.2] [p.1, p.2 + 1] = some (farV g p (p.1, p.2 + 1)) from spec_far k hg hp (show in10 (p.1, p.2 + 1) by unfold in10; omega)]
        simp only [Option.bind_some]
        cases h2 : decide (farV g p (p.1, p.2 + 1) > b) with
        | true => rw [h2] at hrec; simp only [cond_true] at hrec ⊢; exact hrec
        | false => rw [h2] at hrec; simp only [cond_false] at hrec ⊢; exact hrec
    | true =>
      have gr1 := grass_range v.toLawnS g1
      simp only [g1, Bool.true_and] at hrec
      simp only [cond_true]
      rw [show spec_l06Far k g [p.1, p.2] [p.1 + 1, p.2] = some (farV g p (p.1 + 1, p.2)) from spec_far k hg hp (show in10 (p.1 + 1, p.2) by unfold in10; omega)]
      simp only [Option.bind_some]
      cases h1 : decide (farV g p (p.1 + 1, p.2) > b) with
      | true =>
        rw [h1] at hrec
        simp only [cond_true] at hrec ⊢
        cases g2 : grassB a p.1 (p.2 + 1) with
        | false => simp only [g2, Bool.false_and, cond_false] at hrec; simp only [cond_false]; exact hrec
        | true =>
          have gr := grass_range v.toLawnS g2
          simp only [g2, Bool.true_and] at hrec
          simp only [cond_true]
          rw [show spec_l06Far k g [p.1, p.2] [p.1, p.2 + 1] = some (farV g p (p.1, p.2 + 1)) from spec_far k hg hp (show in10 (p.1, p.2 + 1) by unfold in10; omega)]
          simp only [Option.bind_some]
          cases h2 : decide (farV g p (p.1, p.2 + 1) > b) with
          | true => rw [h2] at hrec; simp only [cond_true] at hrec ⊢; exact hrec
          | false => rw [h2] at hrec; simp only [cond_false] at hrec ⊢; exact hrec
      | false =>
        rw [h1] at hrec
        simp only [cond_false] at hrec ⊢
        cases g2 : grassB a p.1 (p.2 + 1) with
        | false => simp only [g2, Bool.false_and, cond_false] at hrec; simp only [cond_false]; exact hrec
        | true =>
          have gr := grass_range v.toLawnS g2
          simp only [g2, Bool.true_and] at hrec
          simp only [cond_true]
          rw [show spec_l06Far k g [p.1, p.2] [p.1, p.2 + 1] = some (farV g p (p.1, p.2 + 1)) from spec_far k hg hp (show in10 (p.1, p.2 + 1) by unfold in10; omega)]
          simp only [Option.bind_some]
          cases h2 : decide (farV g p (p.1, p.2 + 1) > b) with
          | true => rw [h2] at hrec; simp only [cond_true] at hrec ⊢; exact hrec
          | false => rw [h2] at hrec; simp only [cond_false] at hrec ⊢; exact hrec

theorem impl_steep_in {R : Type} (k : Nat) (K1 : Int → Int → Int → Int → (List Int) → (List Int) → (List Int) → Option R) {a g : List Int} {w h : Nat} (v : LawnV a w h) (hg : LevR g) (b n q r : Int) (p : Int × Int) (hp : in10 p) (c : List Int) (hk : 5 < k) :
    impl_SteepSteps_l0 k K1 b n q r 2 0 a g [p.1, p.2] c (fl (south p)) = K1 b (steepC a g b n p) q r a g c := by
  have hw := v.wle
  have hh := v.hle
  have hwv := v.wv
  have hhv := v.hv
  have hs : ∀ p' ∈ south p, (0 ≤ p'.1 ∧ p'.1 < 11) ∧ (0 ≤ p'.2 ∧ p'.2 < 11) := by
    intro p' hp'
    obtain ⟨hx, hy⟩ := hp
    simp only [south, List.mem_cons, List.not_mem_nil, or_false] at hp'
    rcases hp' with rfl | rfl
    · simp only; omega
    · simp only; omega
  have hl : (south p).length = 2 := rfl
  unfold impl_SteepSteps_l0 steepC
  have := loopF_go (R := R) (step := fun (rec : Int × Int × Int × Int × Int × Int × (List Int) × (List Int) × (List Int) × (List Int) × (List Int) → Option R) (p : Int × Int × Int × Int × Int × Int × (List Int) × (List Int) × (List Int) × (List Int) × (List Int)) => impl_SteepSteps_s0 k K1 (fun h1 h2 h3 h4 h5 h6 h7 h8 h9 h10 h11 => rec (h1, h2, h3, h4, h5, h6, h7, h8, h9, h10, h11)) p.1 p.2.1 p.2.2.1 p.2.2.2.1 p.2.2.2.2.1 p.2.2.2.2.2.1 p.2.2.2.2.2.2.1 p.2.2.2.2.2.2.2.1 p.2.2.2.2.2.2.2.2.1 p.2.2.2.2.2.2.2.2.2.1 p.2.2.2.2.2.2.2.2.2.2)
    (fun i => (b, ((south p).take i).foldl (stepN a g b p) n, q, r, 2, (i : Int), a, g, [p.1, p.2], c, fl (south p))) (fun _ _ => K1 b ((south p).foldl (stepN a g b p) n) q r a g c) 2 ?_ ?_ 2 0 k rfl (by omega)
  · exact this
  · intro rec
    dsimp only
    unfold impl_SteepSteps_s0
    simp (disch := omega) only [bF, cond_false]
    rw [show (south p).take 2 = south p from rfl]
  · intro i m hi rec hrec
    dsimp only at hrec ⊢
    unfold impl_SteepSteps_s0
    have hil : i < (south p).length := by omega
    have hr := hs _ (getD_mem (south p) (0, 0) hil)
    rw [take_getD _ (0, 0) hil, List.foldl_append, List.foldl_cons, List.foldl_nil] at hrec
    simp only [cnt_fl, Int.toNat_natCast, fl_x, fl_y]
    generalize (south p).getD i (0, 0) = s at hr hrec ⊢
    generalize ((south p).take i).foldl (stepN a g b p) n = o at hrec ⊢
    rw [impl_grass k v.toLawnS, wrap64 (x := (i : Int) + 1) (by omega), bT (p := (i : Int) < 2) (by omega), bT (p := (0 : Int) ≤ (i : Int)) (by omega), bT (p := (i : Int) < ((south p).length : Int)) (by omega)]
    simp only [cond_true, Bool.and_true, Option.bind_some]
    simp only [stepN, steepB] at hrec
    cases g1 : grassB a s.1 s.2 with
    | false => rw [g1] at hrec; simp only [Bool.false_and, cond_false] at hrec ⊢; exact hrec
    | true =>
      have gr := grass_range v.toLawnS g1
      rw [g1] at hrec
      simp only [Bool.true_and, cond_true] at hrec ⊢
      rw [show impl_Levels_of k g [rd [p.1, p.2] 0, rd [p.1, p.2] 1] = some (levP g p) from impl_of' k hg hp, impl_of' k hg (show in10 s by unfold in10; omega)]
      simp only [Option.bind_some]
      have r1 := lev_range hg p
      have r2 := lev_range hg s
      rw [wrap64 (x := levP g p - levP g s) (by omega), wrap64 (x := levP g s - levP g p) (by omega)]
      rw [show maxI (levP g p - levP g s) (levP g s - levP g p) = farV g p s from rfl]
      cases h2 : decide (farV g p s > b) with
      | true => rw [h2] at hrec; simp only [cond_true] at hrec ⊢; exact hrec
      | false => rw [h2] at hrec; simp only [cond_false] at hrec ⊢; exact hrec

theorem impl_steep_loop (k : Nat) {a g : List Int} {w h : Nat} (v : LawnV a w h) (hg : LevR g) (b : Int) (L : List (Int × Int)) (hL : ∀ p ∈ L, in10 p) (hl : L.length ≤ 100) (hk : 101 < k) :
    impl_SteepSteps_l1 k (fun y4 => some (y4, (0 : Int))) b 0 (L.length : Int) 0 a g (fl L) = some (steepL a g b L, 0) := by
  unfold impl_SteepSteps_l1
  have := loopF_go (R := Int × Int) (step := fun (rec : Int × Int × Int × Int × (List Int) × (List Int) × (List Int) → Option (Int × Int)) (p : Int × Int × Int × Int × (List Int) × (List Int) × (List Int)) => impl_SteepSteps_s1 k (fun y4 => some (y4, (0 : Int))) (fun h1 h2 h3 h4 h5 h6 h7 => rec (h1, h2, h3, h4, h5, h6, h7)) p.1 p.2.1 p.2.2.1 p.2.2.2.1 p.2.2.2.2.1 p.2.2.2.2.2.1 p.2.2.2.2.2.2)
    (fun i => (b, steepL a g b (L.take i), (L.length : Int), (i : Int), a, g, fl L)) (fun _ _ => some (steepL a g b L, 0)) L.length ?_ ?_ L.length 0 k (by omega) (by omega)
  · exact this
  · intro rec
    dsimp only
    unfold impl_SteepSteps_s1
    simp (disch := omega) only [bF, cond_false, List.take_length]
  · intro i m hi rec hrec
    dsimp only at hrec ⊢
    unfold impl_SteepSteps_s1
    have hil : i < L.length := by omega
    have hin := hL _ (getD_mem L (0, 0) hil)
    rw [take_getD _ (0, 0) hil, steepL_snoc] at hrec
    simp only [cnt_fl, Int.toNat_natCast, fl_x, fl_y]
    generalize L.getD i (0, 0) = p at hin hrec ⊢
    generalize steepL a g b (L.take i) = n at hrec ⊢
    have hp : in10 p := hin
    obtain ⟨hx, hy⟩ := hin
    have hbes : impl_beside k [p.1, p.2] = some [p.1, p.2 - 1, p.1 - 1, p.2, p.1 + 1, p.2, p.1, p.2 + 1] := by
      unfold impl_beside
      rw [show rd [p.1, p.2] 0 = p.1 from rfl, show rd [p.1, p.2] 1 = p.2 from rfl, wrap8 (x := p.2 - 1) (by omega), wrap8 (x := p.1 - 1) (by omega), wrap8 (x := p.1 + 1) (by omega), wrap8 (x := p.2 + 1) (by omega)]
    have hc8 : cnt 2 [p.1, p.2 - 1, p.1 - 1, p.2, p.1 + 1, p.2, p.1, p.2 + 1] = 4 := cnt_two rfl
    rw [hbes, bT (p := (i : Int) < (L.length : Int)) (by omega), bT (p := (0 : Int) ≤ (i : Int)) (by omega)]
    simp only [cond_true, Bool.and_true, Option.bind_some, hc8]
    rw [bT (p := (2 : Int) ≤ ((4 : Nat) : Int)) (by omega)]
    simp only [cond_true]
    have hwin : win [p.1, p.2 - 1, p.1 - 1, p.2, p.1 + 1, p.2, p.1, p.2 + 1] 4 ((4 - 2) * 2) = fl (south p) := rfl
    rw [hwin]
    have e2 : (((4 - 2 : Nat)) : Int) = 2 := rfl
    rw [e2]
    rw [impl_steep_in k _ v hg b n _ _ p hp _ (by omega), wrap64 (by omega)]
    exact hrec

theorem steep_eq (k : Nat) {a g : List Int} (ha : LawnR a) (hg : LevR g) (n : Int) (hk : 101 < k) : spec_SteepSteps k a g n = impl_SteepSteps k a g n ∧ ∃ r, impl_SteepSteps k a g n = some r := by
  unfold spec_SteepSteps impl_SteepSteps
  rw [spec_in]
  simp only [Option.bind_some]
  rw [spec_asked k ha hg (by omega), impl_soil_nil k ha hg (by omega), impl_in]
  simp only [Option.bind_some]
  cases hq : (lawnB a && levB a g) with
  | false => exact ⟨rfl, _, rfl⟩
  | true =>
    obtain ⟨hv, _⟩ := Bool.and_eq_true_iff.1 hq
    obtain ⟨w, h, v⟩ := lawnV_of ha hv
    cases (decide (0 ≤ n) && decide (n ≤ 18)) with
    | false => exact ⟨rfl, _, rfl⟩
    | true =>
      have e1 := spec_cells k v 0 hk
      rw [grass_filter v] at e1
      have e2 := impl_those k v (fun z1 => (impl_Lawn_grass k a [rd z1 0, rd z1 1]).bind fun b => some b) (fun p => grassB a p.1 p.2) (fun p _ => impl_grassL k v.toLawnS p) hk
      have hin : ∀ p ∈ (allC w h).filter (fun p => grassB a p.1 p.2), in10 p := fun p hp => by
        have := allC_mem.1 (List.mem_filter.1 hp).1
        have := v.wle
        have := v.hle
        unfold in10
        omega
      have hsm : ((allC w h).filter fun p => grassB a p.1 p.2).length ≤ 100 := Nat.le_trans (List.length_filter_le _ _) (allC_small v)
      simp only [cond_true, beq_self_eq_true, bne_self_eq_false, cond_false, Bool.not_true, e1, e2, Option.bind_some, cnt_fl]
      rw [spec_steep_loop k v hg n _ hin hsm hk, impl_steep_loop k v hg n _ hin hsm hk]
      exact ⟨rfl, _, rfl⟩

theorem steepSteps_true {a g : List Int} (ha : LawnR a) (hg : LevR g) (n : Int) : ∃ k, laws_FnExactSteepSteps k a g n = some true := by
  obtain ⟨k, hk⟩ : ∃ k, k = 189 := ⟨_, rfl⟩
  obtain ⟨e, r, hr⟩ := steep_eq (k + 11) ha hg n (by omega)
  refine ⟨k + 11, ?_⟩
  unfold laws_FnExactSteepSteps
  simp only [toLawn_id k a ha.len, toLevels_id k g hg.len, Option.bind_some, e, hr]
  simp only [Option.bind_some, cond_false, bne_self_eq_false]

end Go.Proofs.Ytkblhnedillknaa.Tt
