/- Plain laws: HomeFrom. -/
import Derived.Test.YtkblhnedillknaaY10b
import Derived.Test.YtkblhnedillknaaY36a
set_option linter.unusedVariables false
set_option linter.unusedSimpArgs false
namespace Go.Proofs.Ytkblhnedillknaa.Tt
open Go.Ev Go

theorem decT {p : Prop} {i : Decidable p} (h : p) : @decide p i = true := by simp [h]

/-! ## What steps tell -/

theorem ix_inj {a : List Int} {w h : Nat} (v : LawnV a w h) {p q : Int × Int} (hp : openP a p = true) (hq : openP a q = true) (e : ix p = ix q) : p = q := by
  obtain ⟨_, h1, h2⟩ := open_in v hp
  obtain ⟨_, h3, h4⟩ := open_in v hq
  unfold ix at e
  exact Prod.ext (by omega) (by omega)

theorem nbrs_sym {p q : Int × Int} (hp : (0 ≤ p.1 ∧ p.1 < 10) ∧ (0 ≤ p.2 ∧ p.2 < 10)) (hq : (0 ≤ q.1 ∧ q.1 < 10) ∧ (0 ≤ q.2 ∧ q.2 < 10)) (h : q ∈ nbrs p.1 p.2) : p ∈ nbrs q.1 q.2 := by
  obtain ⟨x, y⟩ := p
  obtain ⟨z, u⟩ := q
  simp only at hp hq h ⊢
  unfold nbrs at h ⊢
  simp (disch := omega) only [wrap8] at h ⊢
  simp only [List.mem_cons, Prod.mk.injEq, List.not_mem_nil, or_false] at h ⊢
  omega

structure Par (a : List Int) (p0 : Int × Int) (S : List Int) : Prop where
  zero : rd S (ix p0) = 0
  only : ∀ p, openP a p = true → rd S (ix p) = 0 → p = p0
  back : ∀ p, openP a p = true → 0 < rd S (ix p) → ∃ d ∈ nbrs p.1 p.2, openP a d = true ∧ rd S (ix d) = rd S (ix p) - 1

theorem par_beg {a : List Int} {w h : Nat} (v : LawnV a w h) {p0 : Int × Int} (ho : openP a p0 = true) : Par a p0 (begS p0) := by
  obtain ⟨_, hx, hy⟩ := open_in v ho
  have hix : ix p0 < 100 := by unfold ix; omega
  have hv : ∀ p, openP a p = true → rd (begS p0) (ix p) = if ix p0 = ix p then 0 else -1 := by
    intro p hp
    obtain ⟨_, h1, h2⟩ := open_in v hp
    have hip : ix p < 100 := by unfold ix; omega
    unfold begS
    rw [rd_set4]
    by_cases e : ix p0 = ix p
    · rw [if_pos e, if_pos ⟨e, by simpa using hix⟩]
    · rw [if_neg e, if_neg (fun h => e h.1)]
      unfold rd
      rw [List.getD_eq_getElem?_getD, List.getElem?_replicate, if_pos hip]
      rfl
  refine ⟨by rw [hv p0 ho, if_pos rfl], fun p hp h => ?_, fun p hp h => ?_⟩
  · rw [hv p hp] at h
    by_cases e : ix p0 = ix p
    · exact (ix_inj v ho hp e).symm
    · rw [if_neg e] at h; omega
  · rw [hv p hp] at h
    split at h <;> omega

theorem par_vis {a : List Int} {w h : Nat} (v : LawnV a w h) {p0 : Int × Int} (u : Int × Int) (S : List Int) (Q : List (Int × Int)) (c : Int × Int) (b : BI a w h S Q) (hu : u ∈ Q) (hc : c ∈ nbrs u.1 u.2) (hP : Par a p0 S) : Par a p0 (vis a u (S, Q) c).1 := by
  unfold vis
  cases hq : (openP a c && decide (rd S (ix c) < 0)) with
  | false => exact hP
  | true =>
    rw [Bool.and_eq_true, decide_eq_true_eq] at hq
    obtain ⟨ho, hneg⟩ := hq
    obtain ⟨hou, hu1⟩ := b.qin u hu
    obtain ⟨_, hux, huy⟩ := open_in v hou
    obtain ⟨_, hcx, hcy⟩ := open_in v ho
    have hu2 := b.high (ix u)
    have hfew := b.few
    have hix : ix c < S.length := by rw [b.len]; unfold ix; omega
    have hval : IntKind.wrap .i64 (rd S (ix u) + 1) = rd S (ix u) + 1 := wrap64 (by omega)
    simp only [cond_true, hval]
    have hz := hP.zero
    refine ⟨?_, fun p hp h => ?_, fun p hp h => ?_⟩
    · rw [rd_set4, if_neg (fun e => by rw [e.1] at hneg; omega)]
      exact hz
    · rw [rd_set4] at h
      split at h
      · omega
      · exact hP.only p hp h
    · by_cases e : ix c = ix p
      · have := ix_inj v ho hp e
        subst this
        refine ⟨u, nbrs_sym ⟨hux, huy⟩ ⟨hcx, hcy⟩ hc, hou, ?_⟩
        rw [rd_set4, rd_set4, if_neg (fun e => by rw [e.1] at hneg; omega), if_pos ⟨rfl, hix⟩]
        omega
      · rw [rd_set4, if_neg (fun x => e x.1)] at h
        obtain ⟨d, d1, d2, d3⟩ := hP.back p hp h
        refine ⟨d, d1, d2, ?_⟩
        rw [rd_set4, rd_set4, if_neg (fun x => by rw [x.1] at hneg; omega), if_neg (fun x => e x.1)]
        exact d3

/-! ## One step home -/

def goodH (a S : List Int) (u d : Int × Int) : Bool := openP a d && (rd S (ix d) == rd S (ix u) - 1)
/-- Which of the cells beside u is the next one. -/
def numH (a S : List Int) (u : Int × Int) : Nat := (findI (goodH a S u) (nbrs u.1 u.2) 0).toNat
def stepH (a S : List Int) (u : Int × Int) : Int × Int := (nbrs u.1 u.2).getD (numH a S u) (0, 0)

theorem step_spec {a S : List Int} {p0 u : Int × Int} (hP : Par a p0 S) (ho : openP a u = true) (h : 0 < rd S (ix u)) :
    numH a S u < 4 ∧ goodH a S u (stepH a S u) = true ∧ ∀ t, t < numH a S u → goodH a S u ((nbrs u.1 u.2).getD t (0, 0)) = false := by
  obtain ⟨d, d1, d2, d3⟩ := hP.back u ho h
  rcases findI_spec (goodH a S u) (0, 0) (nbrs u.1 u.2) 0 with ⟨_, hn⟩ | ⟨j, j1, j2, j3, j4⟩
  · have := hn d d1
    unfold goodH at this
    rw [d2, d3] at this
    simp at this
  · have e : numH a S u = j := by unfold numH; rw [j2]; omega
    unfold stepH
    rw [e]
    exact ⟨j1, j3, j4⟩

def letB (j : Nat) : ByteArray := (ByteArray.mk #[78, 87, 69, 83]).extract j (j + 1)
theorem letB_size : ∀ j, j < 4 → (letB j).size = 1 := by decide

theorem next_at (k : Nat) (u : Int × Int) : ∀ j, j < 4 → spec_l02Next k [u.1, u.2] ((j : Nat) : Int) = some [((nbrs u.1 u.2).getD j (0, 0)).1, ((nbrs u.1 u.2).getD j (0, 0)).2] := by
  intro j hj
  match j, hj with
  | 0, _ => rfl
  | 1, _ => rfl
  | 2, _ => rfl
  | 3, _ => rfl

theorem spec_freeH (k : Nat) {a : List Int} (ha : LawnS a) {p : Int × Int} (h1 : -128 ≤ p.1 ∧ p.1 < 128) (h2 : -128 ≤ p.2 ∧ p.2 < 128) : spec_l02Free k a [p.1, p.2] = some (openP a p) := by
  unfold spec_l02Free openP openB
  have e : spec_l01Is k a [rd [p.1, p.2] 0, rd [p.1, p.2] 1] = some (hasB a p.1 p.2) := spec_is k ha.toLawnR h1 h2
  rw [e]
  cases h : hasB a p.1 p.2 with
  | false => rfl
  | true =>
    simp only [Option.bind_some, cond_true, Bool.true_and]
    unfold spec_l01Open
    have e2 : spec_l01At k a [rd [rd [p.1, p.2] 0, rd [p.1, p.2] 1] 0, rd [rd [p.1, p.2] 0, rd [p.1, p.2] 1] 1] = some (kindV a p.1 p.2) := spec_at k ha h
    rw [e2]
    simp only [Option.bind_some]
    cases (kindV a p.1 p.2 == 0) <;> rfl

theorem spec_one {R : Type} (k : Nat) (hk : 110 < k) (K1 : ByteArray → (List Int) → (List Int) → (List Int) → (List Int) → Option R) {a : List Int} {w h : Nat} (v : LawnV a w h) {S : List Int} (hS : ∀ j, -1 ≤ rd S j ∧ rd S j ≤ 1000) {p0 u : Int × Int} (hP : Par a p0 S) (ho : openP a u = true) (hpos : 0 < rd S (ix u)) (o : ByteArray) (hs : o.size ≤ 2000) (z : List Int) :
    spec_HomeFrom_l0 k K1 o 0 a [u.1, u.2] z S = K1 (o ++ letB (numH a S u)) a [(stepH a S u).1, (stepH a S u).2] z S := by
  obtain ⟨n1, n2, n3⟩ := step_spec hP ho hpos
  obtain ⟨_, hux, huy⟩ := open_in v ho
  unfold spec_HomeFrom_l0
  refine loopF_go (R := R) (step := fun (rec : ByteArray × Int × (List Int) × (List Int) × (List Int) × (List Int) → Option R) (p : ByteArray × Int × (List Int) × (List Int) × (List Int) × (List Int)) => spec_HomeFrom_s0 k K1 (fun h1 h2 h3 h4 h5 h6 => rec (h1, h2, h3, h4, h5, h6)) p.1 p.2.1 p.2.2.1 p.2.2.2.1 p.2.2.2.2.1 p.2.2.2.2.2)
    (fun i => (o, (i : Int), a, [u.1, u.2], z, S)) (fun _ _ => K1 (o ++ letB (numH a S u)) a [(stepH a S u).1, (stepH a S u).2] z S) (numH a S u) ?_ ?_ (numH a S u) 0 k (by omega) (by omega)
  · intro rec
    dsimp only
    unfold spec_HomeFrom_s0
    have e0 : ([rd [u.1, u.2] 0, rd [u.1, u.2] 1] : List Int) = [u.1, u.2] := rfl
    have e1 : rd [u.1, u.2] 0 = u.1 := rfl
    have e2 : rd [u.1, u.2] 1 = u.2 := rfl
    rw [e0, e1, e2, next_at k u _ n1]
    have hrange := nbrs_range (x := u.1) (y := u.2) (by omega) (by omega) (stepH a S u) (getD_mem (nbrs u.1 u.2) (0, 0) n1)
    have hst : (nbrs u.1 u.2).getD (numH a S u) (0, 0) = stepH a S u := rfl
    rw [hst]
    unfold goodH at n2
    rw [Bool.and_eq_true, beq_iff_eq] at n2
    generalize stepH a S u = d at hrange n2 ⊢
    obtain ⟨hod, hval⟩ := n2
    obtain ⟨_, hdx, hdy⟩ := open_in v hod
    have hsu := hS (ix u)
    have hsz := letB_size _ n1
    have f0 : ([rd [d.1, d.2] 0, rd [d.1, d.2] 1] : List Int) = [d.1, d.2] := rfl
    have f1 : rd [d.1, d.2] 0 = d.1 := rfl
    have f2 : rd [d.1, d.2] 1 = d.2 := rfl
    rw [bT (p := ((numH a S u : Nat) : Int) < 4) (by omega)]
    simp only [cond_true, Option.bind_some]
    rw [f0, f1, f2, spec_freeH k v.toLawnS hrange.1 hrange.2, hod]
    simp only [cond_true, Option.bind_some]
    rw [bT (p := 0 ≤ d.2) (by omega), bT (p := d.2 < 10) (by omega), bT (p := 0 ≤ d.1) (by omega), bT (p := d.1 < 10) (by omega), bT (p := 0 ≤ u.2) (by omega), bT (p := u.2 < 10) (by omega), bT (p := 0 ≤ u.1) (by omega), bT (p := u.1 < 10) (by omega)]
    simp only [cond_true, Bool.and_true, Nat.zero_add, Nat.mul_one]
    have hw1 : IntKind.wrap .i64 (((numH a S u : Nat) : Int) + 1) = ((numH a S u + 1 : Nat) : Int) := by rw [wrap64 (by omega)]; omega
    rw [show d.2.toNat * 10 + d.1.toNat = ix d from rfl, show u.2.toNat * 10 + u.1.toNat = ix u from rfl, wrap64 (x := rd S (ix u) - 1) (by omega), eqT hval, hw1]
    simp only [cond_true, Int.toNat_natCast]
    have e4 : (ByteArray.mk #[78, 87, 69, 83]).size = 4 := rfl
    rw [e4, bT (p := (0 : Int) ≤ ((numH a S u + 1 : Nat) : Int)) (by omega), bT (p := ((numH a S u + 1 : Nat) : Int) ≤ ((4 : Nat) : Int)) (by omega), bT (p := (0 : Int) ≤ ((numH a S u : Nat) : Int)) (by omega), bT (p := ((numH a S u : Nat) : Int) ≤ ((numH a S u + 1 : Nat) : Int)) (by omega)]
    simp only [cond_true, Bool.and_true]
    rw [decT (p := o.size + ((ByteArray.mk #[78, 87, 69, 83]).extract (numH a S u) (numH a S u + 1)).size ≤ bigLen) (by rw [show (ByteArray.mk #[78, 87, 69, 83]).extract (numH a S u) (numH a S u + 1) = letB (numH a S u) from rfl, hsz, bigLen_val]; omega)]
    rfl
  · intro i m hi rec hrec
    dsimp only at hrec ⊢
    unfold spec_HomeFrom_s0
    have e0 : ([rd [u.1, u.2] 0, rd [u.1, u.2] 1] : List Int) = [u.1, u.2] := rfl
    have e1 : rd [u.1, u.2] 0 = u.1 := rfl
    have e2 : rd [u.1, u.2] 1 = u.2 := rfl
    have hi4 : i < 4 := by omega
    have hbad := n3 i (by omega)
    rw [e0, e1, e2, next_at k u i hi4]
    have hrange := nbrs_range (x := u.1) (y := u.2) (by omega) (by omega) _ (getD_mem (nbrs u.1 u.2) (0, 0) (show i < (nbrs u.1 u.2).length from hi4))
    generalize (nbrs u.1 u.2).getD i (0, 0) = d at hrange hbad ⊢
    have hsu := hS (ix u)
    have f0 : ([rd [d.1, d.2] 0, rd [d.1, d.2] 1] : List Int) = [d.1, d.2] := rfl
    have f1 : rd [d.1, d.2] 0 = d.1 := rfl
    have f2 : rd [d.1, d.2] 1 = d.2 := rfl
    have hw1 : IntKind.wrap .i64 ((i : Int) + 1) = ((i + 1 : Nat) : Int) := by rw [wrap64 (by omega)]; omega
    rw [bT (p := (i : Int) < 4) (by omega)]
    simp only [cond_true, Option.bind_some]
    rw [f0, f1, f2, spec_freeH k v.toLawnS hrange.1 hrange.2, hw1]
    simp only [Option.bind_some]
    unfold goodH at hbad
    cases hod : openP a d with
    | false => simp only [cond_false]; exact hrec
    | true =>
      rw [hod] at hbad
      obtain ⟨_, hdx, hdy⟩ := open_in v hod
      simp only [Bool.true_and, cond_true] at hbad ⊢
      rw [bT (p := 0 ≤ d.2) (by omega), bT (p := d.2 < 10) (by omega), bT (p := 0 ≤ d.1) (by omega), bT (p := d.1 < 10) (by omega), bT (p := 0 ≤ u.2) (by omega), bT (p := u.2 < 10) (by omega), bT (p := 0 ≤ u.1) (by omega), bT (p := u.1 < 10) (by omega)]
      simp only [cond_true, Bool.and_true, Nat.zero_add, Nat.mul_one]
      rw [show d.2.toNat * 10 + d.1.toNat = ix d from rfl, show u.2.toNat * 10 + u.1.toNat = ix u from rfl, wrap64 (x := rd S (ix u) - 1) (by omega), hbad]
      exact hrec

theorem impl_one {R : Type} (k : Nat) (hk : 110 < k) (K1 : (List Int) → (List Int) → (List Int) → (List Int) → (List Int) → Option R) {a : List Int} {w h : Nat} (v : LawnV a w h) {S : List Int} (hS : ∀ j, -1 ≤ rd S j ∧ rd S j ≤ 1000) {p0 u : Int × Int} (hP : Par a p0 S) (ho : openP a u = true) (hpos : 0 < rd S (ix u)) (z o : List Int) :
    impl_Lawn_homeward_l0 k K1 4 0 a z (tabV w h S) o [u.1, u.2] (fl (nbrs u.1 u.2)) = K1 a z (tabV w h S) o [(stepH a S u).1, (stepH a S u).2] := by
  obtain ⟨n1, n2, n3⟩ := step_spec hP ho hpos
  obtain ⟨huin, hux, huy⟩ := open_in v ho
  have hum := allC_mem.1 huin
  have hupos : u.2.toNat * w + u.1.toNat < h * w := by
    have := Nat.mul_le_mul_right w (show u.2.toNat + 1 ≤ h by omega)
    rw [Nat.succ_mul] at this
    omega
  have hlen : (nbrs u.1 u.2).length = 4 := rfl
  have hsu := hS (ix u)
  have e0 : ([rd [u.1, u.2] 0, rd [u.1, u.2] 1] : List Int) = [u.1, u.2] := rfl
  unfold impl_Lawn_homeward_l0
  refine loopF_go (R := R) (step := fun (rec : Int × Int × (List Int) × (List Int) × (List Int) × (List Int) × (List Int) × (List Int) → Option R) (p : Int × Int × (List Int) × (List Int) × (List Int) × (List Int) × (List Int) × (List Int)) => impl_Lawn_homeward_s0 k K1 (fun h1 h2 h3 h4 h5 h6 h7 h8 => rec (h1, h2, h3, h4, h5, h6, h7, h8)) p.1 p.2.1 p.2.2.1 p.2.2.2.1 p.2.2.2.2.1 p.2.2.2.2.2.1 p.2.2.2.2.2.2.1 p.2.2.2.2.2.2.2)
    (fun i => (4, (i : Int), a, z, tabV w h S, o, [u.1, u.2], fl (nbrs u.1 u.2))) (fun _ _ => K1 a z (tabV w h S) o [(stepH a S u).1, (stepH a S u).2]) (numH a S u) ?_ ?_ (numH a S u) 0 k (by omega) (by omega)
  · intro rec
    dsimp only
    unfold impl_Lawn_homeward_s0
    simp only [cnt_fl, Int.toNat_natCast, fl_x, fl_y, hlen]
    have hst : (nbrs u.1 u.2).getD (numH a S u) (0, 0) = stepH a S u := rfl
    rw [hst]
    unfold goodH at n2
    rw [Bool.and_eq_true, beq_iff_eq] at n2
    generalize stepH a S u = d at n2 ⊢
    obtain ⟨hod, hval⟩ := n2
    obtain ⟨hdin, hdx, hdy⟩ := open_in v hod
    have hdm := allC_mem.1 hdin
    have hdpos : d.2.toNat * w + d.1.toNat < h * w := by
      have := Nat.mul_le_mul_right w (show d.2.toNat + 1 ≤ h by omega)
      rw [Nat.succ_mul] at this
      omega
    rw [bT (p := ((numH a S u : Nat) : Int) < 4) (by omega), bT (p := (0 : Int) ≤ ((numH a S u : Nat) : Int)) (by omega), bT (p := ((numH a S u : Nat) : Int) < ((4 : Nat) : Int)) (by omega), impl_openP k v.toLawnS, hod, impl_index k v hdin, e0, impl_index k v huin]
    simp only [cond_true, Bool.and_true, Option.bind_some, Int.toNat_natCast, Nat.mul_one]
    rw [cnt1, tabV_len, bT (p := (0 : Int) ≤ ((d.2.toNat * w + d.1.toNat : Nat) : Int)) (by omega), bT (p := ((d.2.toNat * w + d.1.toNat : Nat) : Int) < ((h * w : Nat) : Int)) (by omega), bT (p := (0 : Int) ≤ ((u.2.toNat * w + u.1.toNat : Nat) : Int)) (by omega), bT (p := ((u.2.toNat * w + u.1.toNat : Nat) : Int) < ((h * w : Nat) : Int)) (by omega)]
    simp only [Bool.and_true, cond_true, tabV_get S huin, tabV_get S hdin]
    rw [wrap64 (x := rd S (ix u) - 1) (by omega), eqT hval]
    rfl
  · intro i m hi rec hrec
    dsimp only at hrec ⊢
    unfold impl_Lawn_homeward_s0
    have hi4 : i < 4 := by omega
    have hbad := n3 i (by omega)
    simp only [cnt_fl, Int.toNat_natCast, fl_x, fl_y, hlen]
    generalize (nbrs u.1 u.2).getD i (0, 0) = d at hbad ⊢
    have hw1 : IntKind.wrap .i64 ((i : Int) + 1) = ((i + 1 : Nat) : Int) := by rw [wrap64 (by omega)]; omega
    rw [bT (p := (i : Int) < 4) (by omega), bT (p := (0 : Int) ≤ (i : Int)) (by omega), bT (p := (i : Int) < ((4 : Nat) : Int)) (by omega), impl_openP k v.toLawnS, hw1]
    simp only [cond_true, Bool.and_true, Option.bind_some]
    unfold goodH at hbad
    cases hod : openP a d with
    | false => simp only [cond_false]; exact hrec
    | true =>
      rw [hod] at hbad
      obtain ⟨hdin, hdx, hdy⟩ := open_in v hod
      have hdm := allC_mem.1 hdin
      have hdpos : d.2.toNat * w + d.1.toNat < h * w := by
        have := Nat.mul_le_mul_right w (show d.2.toNat + 1 ≤ h by omega)
        rw [Nat.succ_mul] at this
        omega
      simp only [Bool.true_and, cond_true] at hbad ⊢
      rw [impl_index k v hdin, e0, impl_index k v huin]
      simp only [cond_true, Bool.and_true, Option.bind_some, Int.toNat_natCast, Nat.mul_one]
      rw [cnt1, tabV_len, bT (p := (0 : Int) ≤ ((d.2.toNat * w + d.1.toNat : Nat) : Int)) (by omega), bT (p := ((d.2.toNat * w + d.1.toNat : Nat) : Int) < ((h * w : Nat) : Int)) (by omega), bT (p := (0 : Int) ≤ ((u.2.toNat * w + u.1.toNat : Nat) : Int)) (by omega), bT (p := ((u.2.toNat * w + u.1.toNat : Nat) : Int) < ((h * w : Nat) : Int)) (by omega)]
      simp only [Bool.and_true, cond_true, tabV_get S huin, tabV_get S hdin]
      rw [wrap64 (x := rd S (ix u) - 1) (by omega), hbad]
      exact hrec

/-! ## The way home -/

def posH (a S : List Int) (p : Int × Int) : Nat → Int × Int
  | 0 => p
  | i + 1 => stepH a S (posH a S p i)
def outH (a S : List Int) (p : Int × Int) : Nat → ByteArray
  | 0 => ByteArray.mk #[]
  | i + 1 => outH a S p i ++ letB (numH a S (posH a S p i))
def cellsH (a S : List Int) (p : Int × Int) (i : Nat) : List (Int × Int) := (List.range (i + 1)).map (posH a S p)

theorem cellsH_succ (a S : List Int) (p : Int × Int) (i : Nat) : cellsH a S p (i + 1) = cellsH a S p i ++ [posH a S p (i + 1)] := by
  unfold cellsH
  rw [List.range_succ, List.map_append]
  rfl
theorem cellsH_len (a S : List Int) (p : Int × Int) (i : Nat) : (cellsH a S p i).length = i + 1 := by simp [cellsH]
theorem cellsH_get (a S : List Int) (p : Int × Int) {i j : Nat} (h : j < i + 1) : (cellsH a S p i).getD j (0, 0) = posH a S p j := by
  unfold cellsH
  rw [List.getD_eq_getElem?_getD, List.getElem?_map, List.getElem?_range h]
  rfl

theorem posH_ok {a S : List Int} {p0 p : Int × Int} (hP : Par a p0 S) (ho : openP a p = true) {n : Nat} (hn : rd S (ix p) = (n : Int)) : ∀ i, i ≤ n → openP a (posH a S p i) = true ∧ rd S (ix (posH a S p i)) = ((n - i : Nat) : Int) := by
  intro i
  induction i with
  | zero => intro _; exact ⟨ho, hn⟩
  | succ i ih =>
    intro hi
    obtain ⟨h1, h2⟩ := ih (by omega)
    obtain ⟨_, n2, _⟩ := step_spec hP h1 (by rw [h2]; omega)
    unfold goodH at n2
    rw [Bool.and_eq_true, beq_iff_eq, h2] at n2
    exact ⟨n2.1, by show rd S (ix (stepH a S (posH a S p i))) = _; rw [n2.2]; omega⟩

theorem outH_size {a S : List Int} {p0 p : Int × Int} (hP : Par a p0 S) (ho : openP a p = true) {n : Nat} (hn : rd S (ix p) = (n : Int)) : ∀ i, i ≤ n → (outH a S p i).size = i := by
  intro i
  induction i with
  | zero => intro _; rfl
  | succ i ih =>
    intro hi
    obtain ⟨h1, h2⟩ := posH_ok hP ho hn i (by omega)
    obtain ⟨n1, _, _⟩ := step_spec hP h1 (by rw [h2]; omega)
    show (outH a S p i ++ letB _).size = _
    rw [ByteArray.size_append, ih (by omega), letB_size _ n1]

theorem eqL2 (p q : Int × Int) : eqL [p.1, p.2] [q.1, q.2] = (p == q) := by
  obtain ⟨x, y⟩ := p
  obtain ⟨z, u⟩ := q
  simp only [eqL, Bool.and_true]
  rfl

theorem spec_way_home {R : Type} (k : Nat) (hk : 1200 < k) (K1 : ByteArray → Option R) {a : List Int} {w h : Nat} (v : LawnV a w h) {S : List Int} (hS : ∀ j, -1 ≤ rd S j ∧ rd S j ≤ 1000) {p0 p : Int × Int} (hP : Par a p0 S) (ho : openP a p = true) {n : Nat} (hn : rd S (ix p) = (n : Int)) :
    spec_HomeFrom_l1 k K1 (ByteArray.mk #[]) a [p.1, p.2] [p0.1, p0.2] S = K1 (outH a S p n) := by
  have hb := hS (ix p)
  unfold spec_HomeFrom_l1
  refine loopF_go (R := R) (step := fun (rec : ByteArray × (List Int) × (List Int) × (List Int) × (List Int) → Option R) (q : ByteArray × (List Int) × (List Int) × (List Int) × (List Int)) => spec_HomeFrom_s1 k K1 (fun h1 h2 h3 h4 h5 => rec (h1, h2, h3, h4, h5)) q.1 q.2.1 q.2.2.1 q.2.2.2.1 q.2.2.2.2)
    (fun i => (outH a S p i, a, [(posH a S p i).1, (posH a S p i).2], [p0.1, p0.2], S)) (fun _ _ => K1 (outH a S p n)) n ?_ ?_ n 0 k (by omega) (by omega)
  · intro rec
    dsimp only
    unfold spec_HomeFrom_s1
    obtain ⟨h1, h2⟩ := posH_ok hP ho hn n (Nat.le_refl _)
    have e : posH a S p n = p0 := hP.only _ h1 (by rw [h2]; omega)
    rw [e]
    rw [show eqL [rd [p0.1, p0.2] 0, rd [p0.1, p0.2] 1] [rd [p0.1, p0.2] 0, rd [p0.1, p0.2] 1] = (p0 == p0) from eqL2 p0 p0, beq_self_eq_true]
    rfl
  · intro i m hi rec hrec
    dsimp only at hrec ⊢
    unfold spec_HomeFrom_s1
    obtain ⟨h1, h2⟩ := posH_ok hP ho hn i (by omega)
    have hne : (posH a S p i == p0) = false := by
      rw [beq_eq_false_iff_ne]
      intro e
      rw [e, hP.zero] at h2
      omega
    have hsz := outH_size hP ho hn i (by omega)
    have e0 : eqL [rd [(posH a S p i).1, (posH a S p i).2] 0, rd [(posH a S p i).1, (posH a S p i).2] 1] [rd [p0.1, p0.2] 0, rd [p0.1, p0.2] 1] = (posH a S p i == p0) := eqL2 _ _
    rw [e0, hne]
    simp only [Bool.not_false, cond_true]
    rw [spec_one k (by omega) _ v hS hP h1 (by rw [h2]; omega) _ (by omega)]
    exact hrec

theorem impl_way_home {R : Type} (k : Nat) (hk : 1200 < k) (K1 : (List Int) → Option R) {a : List Int} {w h : Nat} (v : LawnV a w h) {S : List Int} (hS : ∀ j, -1 ≤ rd S j ∧ rd S j ≤ 1000) {p0 p : Int × Int} (hP : Par a p0 S) (ho : openP a p = true) {n : Nat} (hn : rd S (ix p) = (n : Int)) :
    impl_Lawn_homeward_l1 k K1 a [p0.1, p0.2] (tabV w h S) [p.1, p.2] [p.1, p.2] = K1 (fl (cellsH a S p n)) := by
  have hb := hS (ix p)
  unfold impl_Lawn_homeward_l1
  have := loopF_go (R := R) (step := fun (rec : (List Int) × (List Int) × (List Int) × (List Int) × (List Int) → Option R) (q : (List Int) × (List Int) × (List Int) × (List Int) × (List Int)) => impl_Lawn_homeward_s1 k K1 (fun h1 h2 h3 h4 h5 => rec (h1, h2, h3, h4, h5)) q.1 q.2.1 q.2.2.1 q.2.2.2.1 q.2.2.2.2)
    (fun i => (a, [p0.1, p0.2], tabV w h S, fl (cellsH a S p i), [(posH a S p i).1, (posH a S p i).2])) (fun _ _ => K1 (fl (cellsH a S p n))) n ?_ ?_ n 0 k (by omega) (by omega)
  · exact this
  · intro rec
    dsimp only
    unfold impl_Lawn_homeward_s1
    obtain ⟨h1, h2⟩ := posH_ok hP ho hn n (Nat.le_refl _)
    have e : posH a S p n = p0 := hP.only _ h1 (by rw [h2]; omega)
    rw [e]
    rw [show eqL [rd [p0.1, p0.2] 0, rd [p0.1, p0.2] 1] [rd [p0.1, p0.2] 0, rd [p0.1, p0.2] 1] = (p0 == p0) from eqL2 p0 p0, beq_self_eq_true]
    rfl
  · intro i m hi rec hrec
    dsimp only at hrec ⊢
    unfold impl_Lawn_homeward_s1
    obtain ⟨h1, h2⟩ := posH_ok hP ho hn i (by omega)
    have hne : (posH a S p i == p0) = false := by
      rw [beq_eq_false_iff_ne]
      intro e
      rw [e, hP.zero] at h2
      omega
    have hl := cellsH_len a S p i
    rw [cellsH_succ, fl_append] at hrec
    have e0 : eqL [rd [(posH a S p i).1, (posH a S p i).2] 0, rd [(posH a S p i).1, (posH a S p i).2] 1] [rd [p0.1, p0.2] 0, rd [p0.1, p0.2] 1] = (posH a S p i == p0) := eqL2 _ _
    have e1 : impl_beside k [rd [(posH a S p i).1, (posH a S p i).2] 0, rd [(posH a S p i).1, (posH a S p i).2] 1] = some (fl (nbrs (posH a S p i).1 (posH a S p i).2)) := rfl
    rw [e0, hne, e1]
    simp only [Bool.not_false, cond_true, Option.bind_some, cnt_fl]
    have hb2 : decide ((fl (cellsH a S p i)).length + 2 ≤ bigLen) = true := bT (by rw [bigLen_val, fl_length, hl]; omega)
    have hstep := impl_one k (by omega) (fun y2 y3 y4 y5 y6 => cond (decide (y5.length + 2 ≤ bigLen)) (rec (y2, y3, y4, (y5 ++ [(rd y6 0), (rd y6 1)]), [(rd y6 0), (rd y6 1)])) none) v hS hP h1 (by rw [h2]; omega) [p0.1, p0.2] (fl (cellsH a S p i))
    rw [show (((nbrs (posH a S p i).1 (posH a S p i).2).length : Nat) : Int) = 4 from rfl, hstep, hb2]
    exact hrec

theorem index_step (k : Nat) (hk : 110 < k) {a S : List Int} {p0 u : Int × Int} (hP : Par a p0 S) (ho : openP a u = true) (hpos : 0 < rd S (ix u)) :
    slices_Index_impl_Cell k (fl (nbrs u.1 u.2)) [(stepH a S u).1, (stepH a S u).2] = some ((numH a S u : Nat) : Int) := by
  obtain ⟨n1, n2, n3⟩ := step_spec hP ho hpos
  have hlen : (nbrs u.1 u.2).length = 4 := rfl
  unfold slices_Index_impl_Cell slices_Index_impl_Cell_l0
  rw [cnt_fl, hlen]
  refine loopF_go (R := Int) (step := fun (rec : (List Int) × Int × Int × (List Int) → Option Int) (p : (List Int) × Int × Int × (List Int)) => slices_Index_impl_Cell_s0 k (fun y1 => some y1) (some (-1)) (fun h1 h2 h3 h4 => rec (h1, h2, h3, h4)) p.1 p.2.1 p.2.2.1 p.2.2.2)
    (fun i => (fl (nbrs u.1 u.2), ((4 : Nat) : Int), (i : Int), [(stepH a S u).1, (stepH a S u).2])) (fun _ _ => some ((numH a S u : Nat) : Int)) (numH a S u) ?_ ?_ (numH a S u) 0 k (by omega) (by omega)
  · intro rec
    dsimp only
    unfold slices_Index_impl_Cell_s0
    simp only [cnt_fl, Int.toNat_natCast, fl_x, fl_y, hlen]
    rw [bT (p := ((numH a S u : Nat) : Int) < ((4 : Nat) : Int)) (by omega), bT (p := (0 : Int) ≤ ((numH a S u : Nat) : Int)) (by omega)]
    rw [show (nbrs u.1 u.2).getD (numH a S u) (0, 0) = stepH a S u from rfl]
    rw [show eqL [rd [(stepH a S u).1, (stepH a S u).2] 0, rd [(stepH a S u).1, (stepH a S u).2] 1] [(stepH a S u).1, (stepH a S u).2] = (stepH a S u == stepH a S u) from eqL2 _ _, beq_self_eq_true]
    rfl
  · intro i m hi rec hrec
    dsimp only at hrec ⊢
    unfold slices_Index_impl_Cell_s0
    have hbad := n3 i (by omega)
    simp only [cnt_fl, Int.toNat_natCast, fl_x, fl_y, hlen]
    have hw1 : IntKind.wrap .i64 ((i : Int) + 1) = ((i + 1 : Nat) : Int) := by rw [wrap64 (by omega)]; omega
    rw [bT (p := (i : Int) < ((4 : Nat) : Int)) (by omega), bT (p := (0 : Int) ≤ (i : Int)) (by omega), hw1]
    generalize (nbrs u.1 u.2).getD i (0, 0) = d at hbad ⊢
    have hne : (stepH a S u == d) = false := by
      rw [beq_eq_false_iff_ne]
      intro e
      rw [e, hbad] at n2
      cases n2
    rw [show eqL [rd [(stepH a S u).1, (stepH a S u).2] 0, rd [(stepH a S u).1, (stepH a S u).2] 1] [d.1, d.2] = (stepH a S u == d) from eqL2 _ _, hne]
    exact hrec

theorem impl_letters {R : Type} (k : Nat) (hk : 1200 < k) (K1 : ByteArray → Option R) {a : List Int} {w h : Nat} (v : LawnV a w h) {S : List Int} (hS : ∀ j, -1 ≤ rd S j ∧ rd S j ≤ 1000) {p0 p : Int × Int} (hP : Par a p0 S) (ho : openP a p = true) {n : Nat} (hn : rd S (ix p) = (n : Int)) :
    impl_HomeFrom_l0 k K1 (ByteArray.mk #[]) (n : Int) 0 (fl (cellsH a S p n)) = K1 (outH a S p n) := by
  have hb := hS (ix p)
  have hl := cellsH_len a S p n
  unfold impl_HomeFrom_l0
  refine loopF_go (R := R) (step := fun (rec : ByteArray × Int × Int × (List Int) → Option R) (q : ByteArray × Int × Int × (List Int)) => impl_HomeFrom_s0 k K1 (fun h1 h2 h3 h4 => rec (h1, h2, h3, h4)) q.1 q.2.1 q.2.2.1 q.2.2.2)
    (fun i => (outH a S p i, (n : Int), (i : Int), fl (cellsH a S p n))) (fun _ _ => K1 (outH a S p n)) n ?_ ?_ n 0 k (by omega) (by omega)
  · intro rec
    dsimp only
    unfold impl_HomeFrom_s0
    simp (disch := omega) only [bF, cond_false]
  · intro i m hi rec hrec
    dsimp only at hrec ⊢
    unfold impl_HomeFrom_s0
    obtain ⟨h1, h2⟩ := posH_ok hP ho hn i (by omega)
    obtain ⟨n1, _, _⟩ := step_spec hP h1 (by rw [h2]; omega)
    have hsz := outH_size hP ho hn i (by omega)
    have hw1 : IntKind.wrap .i64 ((i : Int) + 1) = ((i + 1 : Nat) : Int) := by rw [wrap64 (by omega)]; omega
    have hw2 : IntKind.wrap .i64 (((numH a S (posH a S p i) : Nat) : Int) + 1) = ((numH a S (posH a S p i) + 1 : Nat) : Int) := by rw [wrap64 (by omega)]; omega
    rw [hw1]
    simp only [cnt_fl, Int.toNat_natCast, fl_x, fl_y, hl]
    rw [cellsH_get a S p (show i < n + 1 by omega), cellsH_get a S p (show i + 1 < n + 1 by omega)]
    have e1 : impl_beside k [(posH a S p i).1, (posH a S p i).2] = some (fl (nbrs (posH a S p i).1 (posH a S p i).2)) := rfl
    rw [e1, bT (p := (i : Int) < (n : Int)) (by omega), bT (p := (0 : Int) ≤ (i : Int)) (by omega), bT (p := (i : Int) < ((n + 1 : Nat) : Int)) (by omega), bT (p := (0 : Int) ≤ ((i + 1 : Nat) : Int)) (by omega), bT (p := ((i + 1 : Nat) : Int) < ((n + 1 : Nat) : Int)) (by omega)]
    simp only [cond_true, Bool.and_true, Option.bind_some]
    rw [show posH a S p (i + 1) = stepH a S (posH a S p i) from rfl, index_step k (by omega) hP h1 (by rw [h2]; omega)]
    simp only [Option.bind_some]
    rw [hw2]
    simp only [Int.toNat_natCast]
    have e4 : (ByteArray.mk #[78, 87, 69, 83]).size = 4 := rfl
    have hlz := letB_size _ n1
    have hout : outH a S p (i + 1) = outH a S p i ++ letB (numH a S (posH a S p i)) := rfl
    rw [hout] at hrec
    generalize numH a S (posH a S p i) = j at n1 hlz hrec ⊢
    rw [e4, bT (p := (0 : Int) ≤ ((j + 1 : Nat) : Int)) (by omega), bT (p := ((j + 1 : Nat) : Int) ≤ ((4 : Nat) : Int)) (by omega), bT (p := (0 : Int) ≤ ((j : Nat) : Int)) (by omega), bT (p := ((j : Nat) : Int) ≤ ((j + 1 : Nat) : Int)) (by omega)]
    simp only [cond_true, Bool.and_true]
    rw [decT (p := (outH a S p i).size + ((ByteArray.mk #[78, 87, 69, 83]).extract j (j + 1)).size ≤ bigLen) (by rw [show (ByteArray.mk #[78, 87, 69, 83]).extract j (j + 1) = letB j from rfl, hlz, bigLen_val]; omega)]
    exact hrec

theorem home_eq (k : Nat) (hk : 1200 < k) {a : List Int} (ha : LawnR a) {p q : Int × Int} (hp1 : -128 ≤ p.1 ∧ p.1 < 128) (hp2 : -128 ≤ p.2 ∧ p.2 < 128) (hq1 : -128 ≤ q.1 ∧ q.1 < 128) (hq2 : -128 ≤ q.2 ∧ q.2 < 128) : ∃ r, spec_HomeFrom k a [p.1, p.2] [q.1, q.2] = some r ∧ impl_HomeFrom k a [p.1, p.2] [q.1, q.2] = some r := by
  unfold spec_HomeFrom impl_HomeFrom
  have e0 : ([rd [p.1, p.2] 0, rd [p.1, p.2] 1] : List Int) = [p.1, p.2] := rfl
  have e1 : ([rd [q.1, q.2] 0, rd [q.1, q.2] 1] : List Int) = [q.1, q.2] := rfl
  have e2 : ([rd [p.1, p.2] 0, rd [p.1, p.2] 1, rd [q.1, q.2] 0, rd [q.1, q.2] 1] : List Int) = [p.1, p.2, q.1, q.2] := rfl
  have e3 : rd [p.1, p.2] 0 = p.1 := rfl
  have e4 : rd [p.1, p.2] 1 = p.2 := rfl
  have hopen := impl_openC k ha [p, q] (by simp) (by omega) (by simp; omega)
  simp only [fl, List.any_cons, List.any_nil, Bool.or_false] at hopen
  rw [e2, show impl_openCode k a [p.1, p.2, q.1, q.2] = _ from hopen, e0, e1, e3, e4]
  rw [show spec_l01Is k a [p.1, p.2] = some (hasB a p.1 p.2) from spec_is k ha hp1 hp2, show spec_l01Is k a [q.1, q.2] = some (hasB a q.1 q.2) from spec_is k ha hq1 hq2]
  simp only [Option.bind_some]
  rw [spec_told k ha (by omega), spec_told k ha (by omega)]
  simp only [Option.bind_some]
  cases hv : lawnB a with
  | false => exact ⟨(ByteArray.mk #[], 1), by cases hasB a p.1 p.2 <;> rfl, rfl⟩
  | true =>
    obtain ⟨w, h, v⟩ := lawnV_of ha hv
    cases hh : hasB a p.1 p.2 with
    | false => exact ⟨(ByteArray.mk #[], 2), rfl, rfl⟩
    | true =>
      cases hh' : hasB a q.1 q.2 with
      | false => exact ⟨(ByteArray.mk #[], 2), rfl, rfl⟩
      | true =>
        simp only [cond_true, Bool.not_true, cond_false, bne_self_eq_false, Bool.or_false]
        rw [spec_openL k v.toLawnS hh, spec_openL k v.toLawnS hh']
        simp only [Option.bind_some]
        cases ho : openP a p with
        | false => exact ⟨(ByteArray.mk #[], 4), rfl, rfl⟩
        | true =>
          cases ho' : openP a q with
          | false => exact ⟨(ByteArray.mk #[], 4), rfl, rfl⟩
          | true =>
            obtain ⟨S, s1, s2, sI, s3, s4⟩ := steps_bothI k (by omega) v (fun z2 => (impl_Lawn_open k a [(rd z2 0), (rd z2 1)]).bind fun b => some b) (openF k v.toLawnS) ho' (Par a q) (par_beg v ho') (fun u S Q c => par_vis v u S Q c)
            obtain ⟨hm, hpx, hpy⟩ := open_in v ho
            have hmm := allC_mem.1 hm
            have hlt : p.2.toNat * w + p.1.toNat < h * w := by
              have := Nat.mul_le_mul_right w (show p.2.toNat + 1 ≤ h by omega)
              rw [Nat.succ_mul] at this
              omega
            have hsp := s2 (ix p)
            simp only [Bool.not_true, cond_false, Bool.or_self, bne_self_eq_false]
            unfold impl_Lawn_homeward
            rw [e0, e1, s3, s4, impl_index k v hm]
            simp only [Option.bind_some]
            rw [cnt1, tabV_len, bT (p := 0 ≤ p.2) (by omega), bT (p := p.2 < 10) (by omega), bT (p := 0 ≤ p.1) (by omega), bT (p := p.1 < 10) (by omega), bT (p := (0 : Int) ≤ ((p.2.toNat * w + p.1.toNat : Nat) : Int)) (by omega), bT (p := ((p.2.toNat * w + p.1.toNat : Nat) : Int) < ((h * w : Nat) : Int)) (by omega)]
            simp only [Bool.and_true, cond_true, Int.toNat_natCast, Nat.mul_one, Nat.zero_add]
            rw [tabV_get S hm, show p.2.toNat * 10 + p.1.toNat = ix p from rfl]
            by_cases hneg : rd S (ix p) < 0
            · rw [bT hneg]
              exact ⟨(ByteArray.mk #[], 6), rfl, rfl⟩
            · rw [bF hneg]
              obtain ⟨n, hn⟩ : ∃ n : Nat, rd S (ix p) = (n : Int) := ⟨(rd S (ix p)).toNat, by omega⟩
              simp only [cond_false]
              rw [spec_way_home k hk _ v s2 sI ho hn, impl_way_home k hk _ v s2 sI ho hn]
              simp only [Option.bind_some, Bool.not_true, cond_false, cnt_fl, cellsH_len]
              rw [bT (p := (1 : Int) ≤ ((n + 1 : Nat) : Int)) (by omega), show n + 1 - 1 = n from rfl]
              simp only [cond_true]
              rw [impl_letters k hk _ v s2 sI ho hn]
              exact ⟨_, rfl, rfl⟩

theorem homeFrom_true {a : List Int} (ha : LawnR a) {x y z u : Int} (hx : -128 ≤ x ∧ x < 128) (hy : -128 ≤ y ∧ y < 128) (hz : -128 ≤ z ∧ z < 128) (hu : -128 ≤ u ∧ u < 128) : ∃ k, laws_FnExactHomeFrom k a [x, y] [z, u] = some true := by
  obtain ⟨k, hk⟩ : ∃ k, k = 2000 := ⟨_, rfl⟩
  obtain ⟨r, e1, e2⟩ := home_eq (k + 11) (by omega) ha (p := (x, y)) (q := (z, u)) hx hy hz hu
  refine ⟨k + 11, ?_⟩
  unfold laws_FnExactHomeFrom
  have ec : laws_toCell (k + 11) [rd [x, y] 0, rd [x, y] 1] = some [x, y] := rfl
  have ed : laws_toCell (k + 11) [rd [z, u] 0, rd [z, u] 1] = some [z, u] := rfl
  simp only [toLawn_id k a ha.len, Option.bind_some, ec, ed, e1, e2, bne_self_eq_false, cond_false, beq_self_eq_true, Bool.not_true]

end Go.Proofs.Ytkblhnedillknaa.Tt
