/- Plain laws: the table of the counts of plans. -/
import Derived.Test.YtkdpdmfkomnalaaC3
set_option linter.unusedVariables false
set_option linter.unusedSimpArgs false
namespace Go.Proofs.Ytkdpdmfkomnalaa.Tt
open Go.Ev Go

def cong (x y : Int) : Prop := ∃ q : Int, x = y + q * 18446744073709551616

theorem cong_refl (x : Int) : cong x x := ⟨0, by omega⟩
theorem cong_of_eq {x y : Int} (h : x = y) : cong x y := ⟨0, by omega⟩
theorem cong_trans {x y z : Int} : cong x y → cong y z → cong x z := by
  rintro ⟨p, hp⟩ ⟨q, hq⟩
  exact ⟨p + q, by omega⟩
theorem cong_symm {x y : Int} : cong x y → cong y x := by
  rintro ⟨p, hp⟩
  exact ⟨-p, by omega⟩
theorem cong_add {x y : Int} (z : Int) : cong x y → cong (x + z) (y + z) := by
  rintro ⟨p, hp⟩
  exact ⟨p, by omega⟩

theorem wrap_cong (x : Int) : cong (IntKind.wrap .i64 x) x := by
  have : ∃ q : Int, IntKind.wrap .i64 x = x + q * 18446744073709551616 := by
    simp only [IntKind.wrap, IntKind.bits, IntKind.signed]
    simp
    refine ⟨((x + 9223372036854775808) % 18446744073709551616 - 9223372036854775808 - x) / 18446744073709551616, ?_⟩
    omega
  exact this

theorem wrap_range (x : Int) : -9223372036854775808 ≤ IntKind.wrap .i64 x ∧ IntKind.wrap .i64 x < 9223372036854775808 := by
  simp only [IntKind.wrap, IntKind.bits, IntKind.signed]
  simp
  omega

theorem cong_small {x y : Int} (h : cong x y) (hx : -9223372036854775808 ≤ x ∧ x < 9223372036854775808) (hy : 0 ≤ y ∧ y ≤ 1073741824) : x = y := by
  obtain ⟨q, hq⟩ := h
  omega

structure Tab201 (M : Nat) (W : List (List Int)) : Prop where
  len : W.length = M + 1
  row : ∀ k : Nat, k ≤ M → (rdr W k).length = 201

theorem rdr_set {W : List (List Int)} {i : Nat} (r : List Int) (k : Nat) (h : i < W.length) : rdr (W.set i r) k = if k = i then r else rdr W k := by
  unfold rdr
  rw [List.getD_eq_getElem?_getD, List.getElem?_set]
  by_cases q : i = k
  · subst q; rw [if_pos rfl, if_pos h, if_pos rfl]; rfl
  · rw [if_neg q, if_neg (fun e => q e.symm), List.getD_eq_getElem?_getD]

theorem tab_set {M : Nat} {W : List (List Int)} (h : Tab201 M W) {i : Nat} (hi : i ≤ M) {r : List Int} (hr : r.length = 201) : Tab201 M (W.set i r) := by
  refine ⟨by rw [List.length_set]; exact h.len, fun k hk => ?_⟩
  rw [rdr_set r k (by rw [h.len]; omega)]
  split
  · exact hr
  · exact h.row k hk

def addAt (W : List (List Int)) (k j : Nat) (n : Int) : List (List Int) := W.set k ((rdr W k).set j (IntKind.wrap .i64 (rd (rdr W k) j + n)))

theorem addAt_tab {M : Nat} {W : List (List Int)} (h : Tab201 M W) {k : Nat} (hk : k ≤ M) (j : Nat) (n : Int) : Tab201 M (addAt W k j n) :=
  tab_set h hk (by rw [List.length_set]; exact h.row k hk)

theorem addAt_cong {M : Nat} {W : List (List Int)} (h : Tab201 M W) {k : Nat} (hk : k ≤ M) {j : Nat} (hj : j ≤ 200) (n : Int) (f : Nat → Nat → Int) : cong (dotR f (addAt W k j n) 0) (dotR f W 0 + n * f k j) := by
  unfold addAt
  rw [dotR_set f W 0 k _ (by rw [h.len]; omega), dot_set _ _ 0 j _ (by rw [h.row k hk]; omega), Nat.zero_add, Nat.zero_add]
  obtain ⟨q, hq⟩ := wrap_cong (rd (rdr W k) j + n)
  rw [hq]
  refine ⟨q * f k j, ?_⟩
  have e : rd (rdr W k) j + n + q * 18446744073709551616 - rd (rdr W k) j = n + q * 18446744073709551616 := by omega
  rw [e, Int.add_mul, Int.mul_right_comm]
  omega

theorem spec_min (k : Nat) (cut h : Int) : spec_l00Min k h cut = some (lowH cut h) := by
  unfold spec_l00Min lowH
  by_cases q : h < cut
  · rw [bT q, if_pos q]; rfl
  · rw [bF q, if_neg q]; rfl

theorem cnt1 (a : List Int) : cnt 1 a = a.length := by unfold cnt; omega

/-- A day: what the counts of a day are by those of the day behind it. -/
def DayC (cut most g : Int) (M : Nat) (C C' : Nat → Int → Int) : Prop := ∀ (k : Nat) (h : Int), k ≤ M → 0 ≤ h → h ≤ 200 → C k h = (if h + g ≤ most then C' k (h + g) else 0) + (if lowH cut h + g ≤ most ∧ k < M then C' (k + 1) (lowH cut h + g) else 0)

theorem s2_step {R : Type} (kk : Nat) (K1 : Int → Int → (List Int) → Int → Int → Int → Int → (List (List Int)) → (List (List Int)) → Option R) (rec : Int → Int → (List Int) → Int → Int → Int → Int → Int → (List (List Int)) → (List (List Int)) → Option R)
    {cut most g : Int} (hcut : 0 ≤ cut ∧ cut ≤ 200) (hmost : 0 ≤ most ∧ most ≤ 200) (hg : 0 ≤ g ∧ g ≤ 24) (Lf : List Int) (i : Int) {M k h : Nat} (hM : M ≤ 30) (hk : k ≤ M) (hh : h ≤ 200) {W N : List (List Int)} (hW : Tab201 M W) (hN : Tab201 M N) {C C' : Nat → Int → Int} (hC : DayC cut most g M C C') :
    ∃ N', spec_CountPlans_s2 kk K1 rec cut most Lf (M : Int) i g (k : Int) (h : Int) W N = rec cut most Lf (M : Int) i g (k : Int) ((h + 1 : Nat) : Int) W N' ∧ Tab201 M N' ∧ cong (dotR (fun k h => C' k (h : Int)) N' 0) (dotR (fun k h => C' k (h : Int)) N 0 + rd (rdr W k) h * C k (h : Int)) := by
  have hlow : 0 ≤ lowH cut h ∧ lowH cut h ≤ 200 := by unfold lowH; split <;> omega
  rw [hC k (h : Int) hk (by omega) (by omega)]
  unfold spec_CountPlans_s2
  have wk := hW.row k hk
  have wn := hN.row k hk
  simp only [Int.toNat_natCast, Nat.mul_one, cnt1, wk, hW.len, hN.len, spec_min]
  rw [wrap64 (x := (h : Int) + 1) (by omega), wrap64 (x := (h : Int) + g) (by omega), wrap64 (x := (k : Int) + 1) (by omega), show (h : Int) + 1 = ((h + 1 : Nat) : Int) by omega, show (k : Int) + 1 = ((k + 1 : Nat) : Int) by omega]
  rw [bT (p := (h : Int) ≤ 200) (by omega), bT (p := (0 : Int) ≤ (k : Int)) (by omega), bT (p := (k : Int) < ((M + 1 : Nat) : Int)) (by omega), bT (p := (0 : Int) ≤ (h : Int)) (by omega), bT (p := (h : Int) < ((201 : Nat) : Int)) (by omega)]
  generalize rd (rdr W k) h = n
  simp only [Bool.and_true, cond_true]
  by_cases hn : n = 0
  · subst hn
    simp only [beq_self_eq_true, cond_true]
    exact ⟨N, rfl, hN, cong_of_eq (by omega)⟩
  rw [eqF hn]
  simp only [cond_false, Option.bind_some, Int.toNat_natCast]
  rw [wrap64 (x := lowH cut h + g) (by omega)]
  by_cases c1 : (h : Int) + g ≤ most
  · rw [bT c1, if_pos c1]
    have t1 := addAt_tab hN hk ((h : Int) + g).toNat n
    have q1 := addAt_cong hN hk (j := ((h : Int) + g).toNat) (by omega) n (fun k h => C' k (h : Int))
    have e1 : N.set k ((rdr N k).set ((h : Int) + g).toNat (IntKind.wrap .i64 (rd (rdr N k) ((h : Int) + g).toNat + n))) = addAt N k ((h : Int) + g).toNat n := rfl
    rw [show (((((h : Int) + g).toNat : Nat)) : Int) = (h : Int) + g by omega] at q1
    rw [wn, e1]
    generalize addAt N k ((h : Int) + g).toNat n = N1 at t1 q1
    rw [bT (p := (0 : Int) ≤ (h : Int) + g) (by omega), bT (p := (h : Int) + g < ((201 : Nat) : Int)) (by omega)]
    simp only [cond_true, Bool.and_true]
    by_cases c3 : k < M
    · rw [bT (p := (k : Int) < (M : Int)) (by omega)]
      simp only [cond_true]
      by_cases c2 : lowH cut h + g ≤ most
      · rw [bT c2, if_pos ⟨c2, c3⟩]
        have t2 := addAt_tab t1 (k := k + 1) (by omega) (lowH cut h + g).toNat n
        have q2 := addAt_cong t1 (k := k + 1) (by omega) (j := (lowH cut h + g).toNat) (by omega) n (fun k h => C' k (h : Int))
        rw [show (((lowH cut h + g).toNat : Nat) : Int) = lowH cut h + g by omega] at q2
        simp only [t1.len, t1.row (k + 1) (by omega)]
        rw [bT (p := (0 : Int) ≤ ((k + 1 : Nat) : Int)) (by omega), bT (p := ((k + 1 : Nat) : Int) < ((M + 1 : Nat) : Int)) (by omega), bT (p := (0 : Int) ≤ lowH cut h + g) (by omega), bT (p := lowH cut h + g < ((201 : Nat) : Int)) (by omega)]
        simp only [cond_true, Bool.and_true]
        refine ⟨_, rfl, t2, cong_trans q2 ?_⟩
        rw [Int.mul_add]
        have := cong_add (n * C' (k + 1) (lowH cut h + g)) q1
        exact cong_trans this (cong_of_eq (by omega))
      · rw [bF c2, if_neg (fun q => c2 q.1)]
        simp only [cond_false]
        refine ⟨_, rfl, t1, ?_⟩
        rw [Int.add_zero]
        exact q1
    · rw [bF (p := (k : Int) < (M : Int)) (by omega), if_neg (fun q => c3 q.2)]
      simp only [cond_false]
      refine ⟨_, rfl, t1, ?_⟩
      rw [Int.add_zero]
      exact q1
  · rw [bF c1, if_neg c1]
    simp only [cond_false]
    rw [Int.zero_add]
    by_cases c3 : k < M
    · rw [bT (p := (k : Int) < (M : Int)) (by omega)]
      simp only [cond_true]
      by_cases c2 : lowH cut h + g ≤ most
      · rw [bT c2, if_pos ⟨c2, c3⟩]
        have t2 := addAt_tab hN (k := k + 1) (by omega) (lowH cut h + g).toNat n
        have q2 := addAt_cong hN (k := k + 1) (by omega) (j := (lowH cut h + g).toNat) (by omega) n (fun k h => C' k (h : Int))
        rw [show (((lowH cut h + g).toNat : Nat) : Int) = lowH cut h + g by omega] at q2
        simp only [hN.row (k + 1) (by omega)]
        rw [bT (p := (0 : Int) ≤ ((k + 1 : Nat) : Int)) (by omega), bT (p := ((k + 1 : Nat) : Int) < ((M + 1 : Nat) : Int)) (by omega), bT (p := (0 : Int) ≤ lowH cut h + g) (by omega), bT (p := lowH cut h + g < ((201 : Nat) : Int)) (by omega)]
        simp only [cond_true, Bool.and_true]
        exact ⟨_, rfl, t2, q2⟩
      · rw [bF c2, if_neg (fun q => c2 q.1)]
        simp only [cond_false]
        exact ⟨N, rfl, hN, cong_of_eq (by omega)⟩
    · rw [bF (p := (k : Int) < (M : Int)) (by omega), if_neg (fun q => c3 q.2)]
      simp only [cond_false]
      exact ⟨N, rfl, hN, cong_of_eq (by omega)⟩

end Go.Proofs.Ytkdpdmfkomnalaa.Tt
