/- Plain laws: HighestCell. -/
import Derived.Test.YtmpcninebooaiaaY13
import Derived.Test.YtmpcninebooaiaaY11
set_option linter.unusedVariables false
set_option linter.unusedSimpArgs false
namespace Go.Proofs.Ytmpcninebooaiaa.Tt
open Go.Ev Go

def levP (g : List Int) (p : Int × Int) : Int := rd g (p.2.toNat * 10 + p.1.toNat)
def highS (g : List Int) (s p : Int × Int) : Int × Int := cond (decide (levP g p > levP g s)) p s
def highN (g : List Int) (s : Int × Int) (L : List (Int × Int)) : Int × Int := L.foldl (highS g) s
theorem highN_snoc (g : List Int) (s : Int × Int) (L : List (Int × Int)) (p : Int × Int) : highN g s (L ++ [p]) = highS g (highN g s L) p := by simp [highN]

def in10 (p : Int × Int) : Prop := (0 ≤ p.1 ∧ p.1 < 10) ∧ (0 ≤ p.2 ∧ p.2 < 10)

theorem highN_in {g : List Int} {s : Int × Int} {L : List (Int × Int)} (hs : in10 s) (hL : ∀ p ∈ L, in10 p) : in10 (highN g s L) := by
  unfold highN
  revert s
  induction L with
  | nil => intro s hs; exact hs
  | cons p r ih =>
    intro s hs
    refine ih (fun q hq => hL q (by simp [hq])) ?_
    unfold highS
    cases decide (levP g p > levP g s) with
    | true => exact hL p (by simp)
    | false => exact hs

theorem spec_lat' (k : Nat) {g : List Int} (hg : LevR g) {p : Int × Int} (hp : in10 p) : spec_l06At k g [p.1, p.2] = some (levP g p) := by
  obtain ⟨hx, hy⟩ := hp
  unfold spec_l06At levP
  have e1 : rd [p.1, p.2] 0 = p.1 := rfl
  have e2 : rd [p.1, p.2] 1 = p.2 := rfl
  have r := hg.rng (p.2.toNat * 10 + p.1.toNat)
  rw [e1, e2]
  simp (disch := omega) only [bT, cond_true, Bool.and_true, Nat.mul_one, Nat.zero_add, wrap64]

theorem impl_of' (k : Nat) {g : List Int} (hg : LevR g) {p : Int × Int} (hp : in10 p) : impl_Levels_of k g [p.1, p.2] = some (levP g p) := spec_lat' k hg hp

theorem spec_high_loop (k : Nat) {g : List Int} (hg : LevR g) (p0 : Int × Int) (L : List (Int × Int)) (h0 : in10 p0) (hL : ∀ p ∈ L, in10 p) (hl : L.length ≤ 100) (hk : 101 < k) :
    spec_HighestCell_l0 k (fun y3 (y4 : List Int) y5 => Option.bind (spec_l06At k y3 [(rd y5 0), (rd y5 1)]) fun x6 => some ([(rd y5 0), (rd y5 1)], x6, (0 : Int))) 1 g [0, 0] (fl (p0 :: L)) [p0.1, p0.2] = some ([(highN g p0 L).1, (highN g p0 L).2], levP g (highN g p0 L), 0) := by
  unfold spec_HighestCell_l0
  have := loopF_go (R := List Int × Int × Int) (step := fun (rec : Int × (List Int) × (List Int) × (List Int) × (List Int) → Option (List Int × Int × Int)) (p : Int × (List Int) × (List Int) × (List Int) × (List Int)) => spec_HighestCell_s0 k (fun y3 (y4 : List Int) y5 => Option.bind (spec_l06At k y3 [(rd y5 0), (rd y5 1)]) fun x6 => some ([(rd y5 0), (rd y5 1)], x6, (0 : Int))) (fun h1 h2 h3 h4 h5 => rec (h1, h2, h3, h4, h5)) p.1 p.2.1 p.2.2.1 p.2.2.2.1 p.2.2.2.2)
    (fun i => ((((i + 1 : Nat)) : Int), g, [0, 0], fl (p0 :: L), [(highN g p0 (L.take i)).1, (highN g p0 (L.take i)).2])) (fun _ _ => some ([(highN g p0 L).1, (highN g p0 L).2], levP g (highN g p0 L), 0)) L.length ?_ ?_ L.length 0 k (by omega) (by omega)
  · exact this
  · intro rec
    dsimp only
    unfold spec_HighestCell_s0
    have hc : (p0 :: L).length = L.length + 1 := rfl
    simp (disch := omega) only [cnt_fl, hc, bF, cond_false, List.take_length]
    rw [show ([rd [(highN g p0 L).1, (highN g p0 L).2] 0, rd [(highN g p0 L).1, (highN g p0 L).2] 1] : List Int) = [(highN g p0 L).1, (highN g p0 L).2] from rfl, spec_lat' k hg (highN_in h0 hL)]
    rfl
  · intro i m hi rec hrec
    dsimp only at hrec ⊢
    unfold spec_HighestCell_s0
    have hil : i < L.length := by omega
    have hc : (p0 :: L).length = L.length + 1 := rfl
    have hin := hL _ (getD_mem L (0, 0) hil)
    have hs : in10 (highN g p0 (L.take i)) := highN_in h0 fun p hp => hL p (List.mem_of_mem_take hp)
    rw [take_getD _ (0, 0) hil, highN_snoc] at hrec
    simp only [cnt_fl, Int.toNat_natCast, fl_x, fl_y, List.getD_cons_succ, hc]
    generalize L.getD i (0, 0) = p at hrec hin ⊢
    generalize highN g p0 (L.take i) = s at hrec hs ⊢
    rw [spec_lat' k hg hin, show ([rd [s.1, s.2] 0, rd [s.1, s.2] 1] : List Int) = [s.1, s.2] from rfl, spec_lat' k hg hs]
    simp (disch := omega) only [bT, cond_true, Bool.and_true, Option.bind_some, wrap64]
    unfold highS at hrec
    cases h2 : decide (levP g p > levP g s) with
    | true => rw [h2] at hrec; simp only [cond_true] at hrec ⊢; exact hrec
    | false => rw [h2] at hrec; simp only [cond_false] at hrec ⊢; exact hrec

theorem impl_high_loop (k : Nat) {g : List Int} (hg : LevR g) (p0 : Int × Int) (L : List (Int × Int)) (h0 : in10 p0) (hL : ∀ p ∈ L, in10 p) (hl : L.length ≤ 100) (hk : 101 < k) :
    impl_HighestCell_l0 k (fun y4 (y5 : List Int) y6 => Option.bind (impl_Levels_of k y4 [(rd y6 0), (rd y6 1)]) fun x7 => some ([(rd y6 0), (rd y6 1)], x7, (0 : Int))) (L.length : Int) 0 g [0, 0] [p0.1, p0.2] (fl L) = some ([(highN g p0 L).1, (highN g p0 L).2], levP g (highN g p0 L), 0) := by
  unfold impl_HighestCell_l0
  have := loopF_go (R := List Int × Int × Int) (step := fun (rec : Int × Int × (List Int) × (List Int) × (List Int) × (List Int) → Option (List Int × Int × Int)) (p : Int × Int × (List Int) × (List Int) × (List Int) × (List Int)) => impl_HighestCell_s0 k (fun y4 (y5 : List Int) y6 => Option.bind (impl_Levels_of k y4 [(rd y6 0), (rd y6 1)]) fun x7 => some ([(rd y6 0), (rd y6 1)], x7, (0 : Int))) (fun h1 h2 h3 h4 h5 h6 => rec (h1, h2, h3, h4, h5, h6)) p.1 p.2.1 p.2.2.1 p.2.2.2.1 p.2.2.2.2.1 p.2.2.2.2.2)
    (fun i => ((L.length : Int), (i : Int), g, [0, 0], [(highN g p0 (L.take i)).1, (highN g p0 (L.take i)).2], fl L)) (fun _ _ => some ([(highN g p0 L).1, (highN g p0 L).2], levP g (highN g p0 L), 0)) L.length ?_ ?_ L.length 0 k (by omega) (by omega)
  · exact this
  · intro rec
    dsimp only
    unfold impl_HighestCell_s0
    simp (disch := omega) only [bF, cond_false, List.take_length]
    rw [show ([rd [(highN g p0 L).1, (highN g p0 L).2] 0, rd [(highN g p0 L).1, (highN g p0 L).2] 1] : List Int) = [(highN g p0 L).1, (highN g p0 L).2] from rfl, impl_of' k hg (highN_in h0 hL)]
    rfl
  · intro i m hi rec hrec
    dsimp only at hrec ⊢
    unfold impl_HighestCell_s0
    have hil : i < L.length := by omega
    have hin := hL _ (getD_mem L (0, 0) hil)
    have hs : in10 (highN g p0 (L.take i)) := highN_in h0 fun p hp => hL p (List.mem_of_mem_take hp)
    rw [take_getD _ (0, 0) hil, highN_snoc] at hrec
    simp only [cnt_fl, Int.toNat_natCast, fl_x, fl_y]
    generalize L.getD i (0, 0) = p at hrec hin ⊢
    generalize highN g p0 (L.take i) = s at hrec hs ⊢
    rw [impl_of' k hg hin, show ([rd [s.1, s.2] 0, rd [s.1, s.2] 1] : List Int) = [s.1, s.2] from rfl, impl_of' k hg hs]
    simp (disch := omega) only [bT, cond_true, Bool.and_true, Option.bind_some, wrap64 (x := (i : Int) + 1)]
    unfold highS at hrec
    cases h2 : decide (levP g p > levP g s) with
    | true => rw [h2] at hrec; simp only [cond_true] at hrec ⊢; exact hrec
    | false => rw [h2] at hrec; simp only [cond_false] at hrec ⊢; exact hrec

theorem highN_first (g : List Int) (p : Int × Int) (L : List (Int × Int)) : highN g p (p :: L) = highN g p L := by
  have : highS g p p = p := by unfold highS; rw [bF (by omega)]; rfl
  simp [highN, this]

theorem highest_eq (k : Nat) {a g : List Int} (ha : LawnR a) (hg : LevR g) (hk : 101 < k) : spec_HighestCell k a g = impl_HighestCell k a g ∧ ∃ r, impl_HighestCell k a g = some r := by
  unfold spec_HighestCell impl_HighestCell
  rw [spec_lev k ha hg (by omega), impl_soil_nil k ha hg (by omega)]
  cases hq : (lawnB a && levB a g) with
  | false => exact ⟨rfl, _, rfl⟩
  | true =>
    obtain ⟨hv, _⟩ := Bool.and_eq_true_iff.1 hq
    obtain ⟨w, h, v⟩ := lawnV_of ha hv
    have e1 := spec_cells k v 0 hk
    rw [grass_filter v] at e1
    have e2 := impl_those k v (fun z1 => (impl_Lawn_grass k a [rd z1 0, rd z1 1]).bind fun b => some b) (fun p => grassB a p.1 p.2) (fun p _ => impl_grassL k v.toLawnS p) hk
    have hsm : ((allC w h).filter fun p => grassB a p.1 p.2).length ≤ 100 := Nat.le_trans (List.length_filter_le _ _) (allC_small v)
    have hin : ∀ p ∈ (allC w h).filter (fun p => grassB a p.1 p.2), in10 p := fun p hp => by
      have := allC_mem.1 (List.mem_filter.1 hp).1
      have := v.wle
      have := v.hle
      unfold in10
      omega
    simp only [Option.bind_some, Bool.not_true, cond_false, cond_true, bne_self_eq_false, e1, e2]
    generalize (allC w h).filter (fun p => grassB a p.1 p.2) = G at hsm hin ⊢
    cases G with
    | nil =>
      have c0 : cnt 2 (fl ([] : List (Int × Int))) = 0 := by rw [cnt_fl]; rfl
      simp (disch := omega) only [c0, eqT, cond_true]
      exact ⟨trivial, _, rfl⟩
    | cons p L =>
      have c1 : cnt 2 (fl (p :: L)) = (p :: L).length := cnt_fl _
      have c2 : (p :: L).length = L.length + 1 := rfl
      have e3 : rd (fl (p :: L)) 0 = p.1 := rfl
      have e4 : rd (fl (p :: L)) 1 = p.2 := rfl
      simp (disch := omega) only [c1, c2, e3, e4, eqF, cond_false, bT, cond_true]
      have i1 := spec_high_loop k hg p L (hin p (by simp)) (fun q hq => hin q (by simp [hq])) (by rw [c2] at hsm; omega) hk
      have i2 := impl_high_loop k hg p (p :: L) (hin p (by simp)) hin hsm hk
      rw [c2, highN_first] at i2
      rw [i1, i2]
      exact ⟨rfl, _, rfl⟩

theorem highestCell_true {a g : List Int} (ha : LawnR a) (hg : LevR g) : ∃ k, laws_FnExactHighestCell k a g = some true := by
  obtain ⟨k, hk⟩ : ∃ k, k = 189 := ⟨_, rfl⟩
  obtain ⟨e, r, hr⟩ := highest_eq (k + 11) ha hg (by omega)
  refine ⟨k + 11, ?_⟩
  unfold laws_FnExactHighestCell
  simp only [toLawn_id k a ha.len, toLevels_id k g hg.len, Option.bind_some, e, hr]
  have ec : ∀ q, laws_eqCell (k + 11) q q = some true := fun q => by unfold laws_eqCell; simp
  rw [ec]
  simp only [Option.bind_some, Bool.not_true, cond_false, bne_self_eq_false]

end Go.Proofs.Ytmpcninebooaiaa.Tt
