/- Plain laws: the reference counts plans. -/
import Derived.Test.YtkdpdmfkomnalaaC5
set_option linter.unusedVariables false
set_option linter.unusedSimpArgs false
namespace Go.Proofs.Ytkdpdmfkomnalaa.Tt
open Go.Ev Go

theorem dayC {cut most : Int} {gs gs' : List Int} {g : Int} (h : gs = g :: gs') (M : Nat) : DayC cut most g M (fun k h => (cntP cut most gs h (M - k) : Int)) (fun k h => (cntP cut most gs' h (M - k) : Int)) := by
  intro k x hk h0 h1
  subst h
  have e : M - (k + 1) = M - k - 1 := by omega
  have c : (lowH cut x + g ≤ most ∧ 0 < M - k) ↔ (lowH cut x + g ≤ most ∧ k < M) := by omega
  simp only [cntP, e, c]
  split <;> split <;> simp

theorem drop_map {L : List (Int × Int)} {d : Nat} (hdl : d < L.length) : (L.map growV).drop d = growV (L.getD d (0, 0)) :: (L.map growV).drop (d + 1) := by
  rw [drop_getD (L.map growV) 0 (by rw [List.length_map]; exact hdl)]
  congr 1
  simp [List.getD_eq_getElem?_getD, List.getElem?_map, List.getElem?_eq_getElem hdl]

theorem s4_loop {R : Type} (kk : Nat) (K1 : Int → (List (List Int)) → Option R) {cut most : Int} (hcut : 0 ≤ cut ∧ cut ≤ 200) (hmost : 0 ≤ most ∧ most ≤ 200) {L : List (Int × Int)} (hL : L.length ≤ 30) (hday : ∀ p ∈ L, DayOK p) {M : Nat} (hM : M ≤ 30) (hkk : 201 < kk) :
    ∀ (m i f : Nat) (W : List (List Int)), i + m = L.length → m < f → Tab201 M W →
    ∃ W', loopF (fun (rec : Int × Int × (List Int) × Int × Int × (List (List Int)) → Option R) (p : Int × Int × (List Int) × Int × Int × (List (List Int))) => spec_CountPlans_s4 kk K1 (fun h1 h2 h3 h4 h5 h6 => rec (h1, h2, h3, h4, h5, h6)) p.1 p.2.1 p.2.2.1 p.2.2.2.1 p.2.2.2.2.1 p.2.2.2.2.2) f (cut, most, fl L, (M : Int), (i : Int), W) = K1 (M : Int) W' ∧ Tab201 M W' ∧ cong (dotR (fun k h => (cntP cut most [] (h : Int) (M - k) : Int)) W' 0) (dotR (fun k h => (cntP cut most ((L.map growV).drop i) (h : Int) (M - k) : Int)) W 0) := by
  intro m
  induction m with
  | zero =>
    intro i f W hi hf hW
    obtain ⟨f, rfl⟩ : ∃ g, f = g + 1 := ⟨f - 1, by omega⟩
    refine ⟨W, ?_, hW, ?_⟩
    · rw [loopF]
      dsimp only
      rw [spec_CountPlans_s4, cnt_fl, bF (by omega)]
      rfl
    · have hd0 : (L.map growV).drop i = [] := List.drop_of_length_le (by rw [List.length_map]; omega)
      rw [hd0]
      exact cong_refl _
  | succ m ih =>
    intro i f W hi hf hW
    obtain ⟨f, rfl⟩ : ∃ g, f = g + 1 := ⟨f - 1, by omega⟩
    have hil : i < L.length := by omega
    have hp := hday _ (getD_mem L (0, 0) hil)
    have hg := growV_range hp
    have hC := dayC (cut := cut) (most := most) (drop_map hil) M
    rw [loopF]
    dsimp only
    rw [spec_CountPlans_s4, cnt_fl, bT (p := (i : Int) < (L.length : Int)) (by omega), bT (p := (0 : Int) ≤ (i : Int)) (by omega)]
    simp only [cond_true, Bool.and_true, Int.toNat_natCast, fl_x, fl_y]
    rw [spec_grow kk hp, wrap64 (x := (M : Int) + 1) (by omega), show (M : Int) + 1 = ((M + 1 : Nat) : Int) by omega]
    rw [Option.bind_some, bT (p := (0 : Int) ≤ ((M + 1 : Nat) : Int)) (by omega), bT (p := ((M + 1 : Nat) : Int) ≤ 4294967296) (by omega), beq_self_eq_true, Int.toNat_natCast]
    simp only [cond_true, Bool.and_true]
    generalize L.getD i (0, 0) = p at hp hg hC
    rw [spec_CountPlans_l1]
    have e1 := s1_loop kk (fun y2 y3 y4 y5 y6 y7 y8 y9 => spec_CountPlans_l3 kk (fun y10 y11 y12 y13 y14 y15 y16 => loopF (fun (rec : Int × Int × (List Int) × Int × Int × (List (List Int)) → Option R) (p : Int × Int × (List Int) × Int × Int × (List (List Int))) => spec_CountPlans_s4 kk K1 (fun h1 h2 h3 h4 h5 h6 => rec (h1, h2, h3, h4, h5, h6)) p.1 p.2.1 p.2.2.1 p.2.2.2.1 p.2.2.2.2.1 p.2.2.2.2.2) f (y10, y11, y12, y13, (IntKind.wrap .i64 (y14 + 1)), y16)) y2 y3 y4 y5 y6 y7 0 y8 y9) cut most (fl L) (i : Int) (growV p) W hM (M + 1) 0 kk (by omega) (by omega)
    obtain ⟨N, e3, tN, qN⟩ := s3_loop kk (fun y10 y11 y12 y13 y14 y15 y16 => loopF (fun (rec : Int × Int × (List Int) × Int × Int × (List (List Int)) → Option R) (p : Int × Int × (List Int) × Int × Int × (List (List Int))) => spec_CountPlans_s4 kk K1 (fun h1 h2 h3 h4 h5 h6 => rec (h1, h2, h3, h4, h5, h6)) p.1 p.2.1 p.2.2.1 p.2.2.2.1 p.2.2.2.2.1 p.2.2.2.2.2) f (y10, y11, y12, y13, (IntKind.wrap .i64 (y14 + 1)), y16)) hcut hmost hg (fl L) (i : Int) hM hW hC hkk (M + 1) 0 kk (List.replicate (M + 1) (List.replicate 201 0)) (by omega) (by omega) (tab_zero M)
    obtain ⟨W', e4, tW', qW'⟩ := ih (i + 1) f N (by omega) (by omega) tN
    rw [wrap64 (x := (i : Int) + 1) (by omega), show (i : Int) + 1 = ((i + 1 : Nat) : Int) by omega, e4] at e3
    simp only [Int.cast_ofNat_Int] at e3
    refine ⟨W', ?_, tW', ?_⟩
    · simp only [List.replicate_zero, List.nil_append, Int.cast_ofNat_Int] at e1
      refine Eq.trans ?_ (Eq.trans e1 ?_)
      · rfl
      · rw [spec_CountPlans_l3]
        exact e3
    · rw [dotR_zero, Int.zero_add, List.drop_zero] at qN
      exact cong_trans qW' qN

theorem spec_body (k : Nat) {start cut most : Int} (hs : 0 ≤ start ∧ start ≤ 200) (hcut : 0 ≤ cut ∧ cut ≤ 200) (hmost : 0 ≤ most ∧ most ≤ 200) {L : List (Int × Int)} (hL : L.length ≤ 30) (hday : ∀ p ∈ L, DayOK p) {M : Nat} (hM : M ≤ 30) (hk : 201 < k) :
    spec_CountPlans_l0 k (fun y6 y7 y8 y9 y10 y11 =>
        cond (decide (0 < (y11.length : Int)))
          (cond ((decide (0 ≤ y6)) && (decide (y6 < ((cnt 1 (rdr y11 0)) : Int))))
            (spec_CountPlans_l4 k (fun y12 y13 => spec_CountPlans_l5 k (fun y14 => some (y14, (0 : Int))) y12 0 0 y13)
              y7 y8 y9 y10 0 (List.set y11 0 (List.set (rdr y11 0) (y6.toNat * 1) 1)))
            none)
          none) start cut most (fl L) (M : Int) 0 (List.replicate (M + 1) []) = some ((cntP cut most (L.map growV) start M : Int), 0) := by
  rw [spec_CountPlans_l0]
  have e0 := s0_loop k (fun y6 y7 y8 y9 y10 y11 =>
        cond (decide (0 < (y11.length : Int)))
          (cond ((decide (0 ≤ y6)) && (decide (y6 < ((cnt 1 (rdr y11 0)) : Int))))
            (spec_CountPlans_l4 k (fun y12 y13 => spec_CountPlans_l5 k (fun y14 => some (y14, (0 : Int))) y12 0 0 y13)
              y7 y8 y9 y10 0 (List.set y11 0 (List.set (rdr y11 0) (y6.toNat * 1) 1)))
            none)
          none) start cut most (fl L) hM (M + 1) 0 k (by omega) (by omega)
  simp only [List.replicate_zero, List.nil_append] at e0
  refine Eq.trans e0 ?_
  have tz := tab_zero M
  rw [rdr_zero (k := 0) (by omega), List.length_replicate, bT (p := (0 : Int) < ((M + 1 : Nat) : Int)) (by omega), cnt1, List.length_replicate, bT (p := 0 ≤ start) hs.1, bT (p := start < ((201 : Nat) : Int)) (by omega)]
  simp only [cond_true, Bool.and_true, Nat.mul_one]
  rw [spec_CountPlans_l4]
  have t0 : Tab201 M ((List.replicate (M + 1) (List.replicate 201 0)).set 0 ((List.replicate 201 0).set start.toNat 1)) := tab_set tz (by omega) (by rw [List.length_set, List.length_replicate])
  obtain ⟨W, e4, tW, qW⟩ := s4_loop k (fun y12 y13 => spec_CountPlans_l5 k (fun y14 => some (y14, (0 : Int))) y12 0 0 y13) hcut hmost hL hday hM hk L.length 0 k _ (by omega) (by omega) t0
  refine Eq.trans e4 ?_
  rw [spec_CountPlans_l5]
  obtain ⟨s, e5, rs, qs⟩ := s5_loop k (fun y14 => some (y14, (0 : Int))) hM tW 201 0 k 0 (by omega) hk (by omega)
  refine Eq.trans e5 ?_
  have b : (cntP cut most (L.map growV) start M : Int) ≤ 1073741824 := by
    have h1 := cntP_le cut most (L.map growV) start M
    have h2 : 2 ^ (L.map growV).length ≤ 2 ^ 30 := Nat.pow_le_pow_right (by decide) (by rw [List.length_map]; exact hL)
    have : (2 : Nat) ^ 30 = 1073741824 := by decide
    omega
  have total : cong s (cntP cut most (L.map growV) start M : Int) := by
    refine cong_trans qs ?_
    rw [List.drop_zero, Int.zero_add]
    have e1 : dotR (fun k h => (cntP cut most [] (h : Int) (M - k) : Int)) W 0 = dot (fun _ => 1) (rdr W M) 0 := by
      rw [dotR_last (M := M) (fun j h hj => by show ((cntP cut most [] (h : Int) (M - j) : Nat) : Int) = 0; unfold cntP; rw [if_neg (by omega)]; rfl) W 0 (by rw [tW.len]) (by omega), Nat.sub_zero]
      have : (fun h : Nat => ((cntP cut most [] (h : Int) (M - M) : Nat) : Int)) = fun _ => 1 := by
        funext h
        unfold cntP
        rw [Nat.sub_self, if_pos rfl]
        rfl
      exact congrArg (fun f => dot f (rdr W M) 0) this
    rw [← e1]
    refine cong_trans qW ?_
    rw [List.drop_zero, dotR_set _ _ 0 0 _ (by rw [List.length_replicate]; omega), dotR_zero, rdr_zero (k := 0) (by omega), dot_set _ _ 0 _ _ (by rw [List.length_replicate]; omega), dot_zero, Nat.zero_add, Nat.zero_add, Nat.sub_zero]
    apply cong_of_eq
    have : rd (List.replicate 201 0) start.toNat = 0 := by
      unfold rd
      rw [List.getD_eq_getElem?_getD, List.getElem?_replicate, if_pos (by omega)]
      rfl
    rw [this, show ((start.toNat : Nat) : Int) = start by omega]
    omega
  rw [cong_small total rs ⟨by omega, b⟩]

end Go.Proofs.Ytkdpdmfkomnalaa.Tt
