/- Plain laws: the loops over the table of the counts of plans. -/
import Derived.Test.YtkdpdmfkomnalaaC4
set_option linter.unusedVariables false
set_option linter.unusedSimpArgs false
namespace Go.Proofs.Ytkdpdmfkomnalaa.Tt
open Go.Ev Go

theorem s2_loop {R : Type} (kk : Nat) (K1 : Int → Int → (List Int) → Int → Int → Int → Int → (List (List Int)) → (List (List Int)) → Option R)
    {cut most g : Int} (hcut : 0 ≤ cut ∧ cut ≤ 200) (hmost : 0 ≤ most ∧ most ≤ 200) (hg : 0 ≤ g ∧ g ≤ 24) (Lf : List Int) (i : Int) {M k : Nat} (hM : M ≤ 30) (hk : k ≤ M) {W : List (List Int)} (hW : Tab201 M W) {C C' : Nat → Int → Int} (hC : DayC cut most g M C C') :
    ∀ (m h f : Nat) (N : List (List Int)), h + m = 201 → m < f → Tab201 M N →
    ∃ N', loopF (fun (rec : Int × Int × (List Int) × Int × Int × Int × Int × Int × (List (List Int)) × (List (List Int)) → Option R) (p : Int × Int × (List Int) × Int × Int × Int × Int × Int × (List (List Int)) × (List (List Int))) => spec_CountPlans_s2 kk K1 (fun h1 h2 h3 h4 h5 h6 h7 h8 h9 h10 => rec (h1, h2, h3, h4, h5, h6, h7, h8, h9, h10)) p.1 p.2.1 p.2.2.1 p.2.2.2.1 p.2.2.2.2.1 p.2.2.2.2.2.1 p.2.2.2.2.2.2.1 p.2.2.2.2.2.2.2.1 p.2.2.2.2.2.2.2.2.1 p.2.2.2.2.2.2.2.2.2) f (cut, most, Lf, (M : Int), i, g, (k : Int), (h : Int), W, N) = K1 cut most Lf (M : Int) i g (k : Int) W N' ∧ Tab201 M N' ∧ cong (dotR (fun k h => C' k (h : Int)) N' 0) (dotR (fun k h => C' k (h : Int)) N 0 + dot (fun h => C k (h : Int)) ((rdr W k).drop h) h) := by
  intro m
  induction m with
  | zero =>
    intro h f N hh hf hN
    obtain ⟨f, rfl⟩ : ∃ g, f = g + 1 := ⟨f - 1, by omega⟩
    refine ⟨N, ?_, hN, ?_⟩
    · rw [loopF]
      dsimp only
      rw [spec_CountPlans_s2, bF (by omega)]
      rfl
    · have hd0 : (rdr W k).drop h = [] := List.drop_of_length_le (by rw [hW.row k hk]; omega)
      rw [hd0]
      exact cong_of_eq (by simp [dot])
  | succ m ih =>
    intro h f N hh hf hN
    obtain ⟨f, rfl⟩ : ∃ g, f = g + 1 := ⟨f - 1, by omega⟩
    rw [loopF]
    dsimp only
    obtain ⟨N1, e1, t1, q1⟩ := s2_step kk K1 (fun h1 h2 h3 h4 h5 h6 h7 h8 h9 h10 => loopF (fun (rec : Int × Int × (List Int) × Int × Int × Int × Int × Int × (List (List Int)) × (List (List Int)) → Option R) (p : Int × Int × (List Int) × Int × Int × Int × Int × Int × (List (List Int)) × (List (List Int))) => spec_CountPlans_s2 kk K1 (fun h1 h2 h3 h4 h5 h6 h7 h8 h9 h10 => rec (h1, h2, h3, h4, h5, h6, h7, h8, h9, h10)) p.1 p.2.1 p.2.2.1 p.2.2.2.1 p.2.2.2.2.1 p.2.2.2.2.2.1 p.2.2.2.2.2.2.1 p.2.2.2.2.2.2.2.1 p.2.2.2.2.2.2.2.2.1 p.2.2.2.2.2.2.2.2.2) f (h1, h2, h3, h4, h5, h6, h7, h8, h9, h10)) hcut hmost hg Lf i hM hk (h := h) (by omega) hW hN hC
    rw [e1]
    obtain ⟨N2, e2, t2, q2⟩ := ih (h + 1) f N1 (by omega) (by omega) t1
    refine ⟨N2, e2, t2, cong_trans q2 (cong_trans (cong_add _ q1) (cong_of_eq ?_))⟩
    rw [drop_rd (a := rdr W k) (i := h) (by rw [hW.row k hk]; omega)]
    simp only [dot]
    omega

theorem s3_loop {R : Type} (kk : Nat) (K1 : Int → Int → (List Int) → Int → Int → (List (List Int)) → (List (List Int)) → Option R)
    {cut most g : Int} (hcut : 0 ≤ cut ∧ cut ≤ 200) (hmost : 0 ≤ most ∧ most ≤ 200) (hg : 0 ≤ g ∧ g ≤ 24) (Lf : List Int) (i : Int) {M : Nat} (hM : M ≤ 30) {W : List (List Int)} (hW : Tab201 M W) {C C' : Nat → Int → Int} (hC : DayC cut most g M C C') (hkk : 201 < kk) :
    ∀ (m k f : Nat) (N : List (List Int)), k + m = M + 1 → m < f → Tab201 M N →
    ∃ N', loopF (fun (rec : Int × Int × (List Int) × Int × Int × Int × Int × (List (List Int)) × (List (List Int)) → Option R) (p : Int × Int × (List Int) × Int × Int × Int × Int × (List (List Int)) × (List (List Int))) => spec_CountPlans_s3 kk K1 (fun h1 h2 h3 h4 h5 h6 h7 h8 h9 => rec (h1, h2, h3, h4, h5, h6, h7, h8, h9)) p.1 p.2.1 p.2.2.1 p.2.2.2.1 p.2.2.2.2.1 p.2.2.2.2.2.1 p.2.2.2.2.2.2.1 p.2.2.2.2.2.2.2.1 p.2.2.2.2.2.2.2.2) f (cut, most, Lf, (M : Int), i, g, (k : Int), W, N) = K1 cut most Lf (M : Int) i W N' ∧ Tab201 M N' ∧ cong (dotR (fun k h => C' k (h : Int)) N' 0) (dotR (fun k h => C' k (h : Int)) N 0 + dotR (fun k h => C k (h : Int)) (W.drop k) k) := by
  intro m
  induction m with
  | zero =>
    intro k f N hh hf hN
    obtain ⟨f, rfl⟩ : ∃ g, f = g + 1 := ⟨f - 1, by omega⟩
    refine ⟨N, ?_, hN, ?_⟩
    · rw [loopF]
      dsimp only
      rw [spec_CountPlans_s3, bF (by omega)]
      rfl
    · have hd0 : W.drop k = [] := List.drop_of_length_le (by rw [hW.len]; omega)
      rw [hd0]
      exact cong_of_eq (by simp [dotR])
  | succ m ih =>
    intro k f N hh hf hN
    obtain ⟨f, rfl⟩ : ∃ g, f = g + 1 := ⟨f - 1, by omega⟩
    rw [loopF]
    dsimp only
    rw [spec_CountPlans_s3, bT (p := (k : Int) ≤ (M : Int)) (by omega)]
    simp only [cond_true]
    rw [spec_CountPlans_l2]
    obtain ⟨N1, e1, t1, q1⟩ := s2_loop kk (fun y1 y2 y3 y4 y5 y6 y7 y8 y9 => loopF (fun (rec : Int × Int × (List Int) × Int × Int × Int × Int × (List (List Int)) × (List (List Int)) → Option R) (p : Int × Int × (List Int) × Int × Int × Int × Int × (List (List Int)) × (List (List Int))) => spec_CountPlans_s3 kk K1 (fun h1 h2 h3 h4 h5 h6 h7 h8 h9 => rec (h1, h2, h3, h4, h5, h6, h7, h8, h9)) p.1 p.2.1 p.2.2.1 p.2.2.2.1 p.2.2.2.2.1 p.2.2.2.2.2.1 p.2.2.2.2.2.2.1 p.2.2.2.2.2.2.2.1 p.2.2.2.2.2.2.2.2) f (y1, y2, y3, y4, y5, y6, IntKind.wrap .i64 (y7 + 1), y8, y9)) hcut hmost hg Lf i hM (k := k) (by omega) hW hC 201 0 kk N (by omega) hkk hN
    rw [wrap64 (x := (k : Int) + 1) (by omega), show (k : Int) + 1 = ((k + 1 : Nat) : Int) by omega] at e1
    obtain ⟨N2, e2, t2, q2⟩ := ih (k + 1) f N1 (by omega) (by omega) t1
    rw [e2] at e1
    refine ⟨N2, e1, t2, cong_trans q2 (cong_trans (cong_add _ q1) (cong_of_eq ?_))⟩
    have hd : W.drop k = rdr W k :: W.drop (k + 1) := by
      rw [List.drop_eq_getElem_cons (by rw [hW.len]; omega)]
      congr 1
      unfold rdr
      rw [List.getD_eq_getElem?_getD, List.getElem?_eq_getElem (by rw [hW.len]; omega)]
      rfl
    rw [hd]
    simp only [dotR, List.drop_zero]
    omega

theorem fill_set (Z : List Int) (k m : Nat) : (List.replicate k Z ++ List.replicate (m + 1) []).set k Z = List.replicate (k + 1) Z ++ List.replicate m [] := by
  rw [List.set_append_right _ _ (by rw [List.length_replicate]; omega), List.length_replicate, Nat.sub_self, List.replicate_succ, List.set_cons_zero, List.replicate_succ', List.append_assoc]
  rfl

theorem s0_loop {R : Type} (kk : Nat) (K1 : Int → Int → Int → (List Int) → Int → (List (List Int)) → Option R) (a b c : Int) (Lf : List Int) {M : Nat} (hM : M ≤ 30) :
    ∀ (m k f : Nat), k + m = M + 1 → m < f →
    loopF (fun (rec : Int × Int × Int × (List Int) × Int × Int × (List (List Int)) → Option R) (p : Int × Int × Int × (List Int) × Int × Int × (List (List Int))) => spec_CountPlans_s0 kk K1 (fun h1 h2 h3 h4 h5 h6 h7 => rec (h1, h2, h3, h4, h5, h6, h7)) p.1 p.2.1 p.2.2.1 p.2.2.2.1 p.2.2.2.2.1 p.2.2.2.2.2.1 p.2.2.2.2.2.2) f (a, b, c, Lf, (M : Int), (k : Int), List.replicate k (List.replicate 201 0) ++ List.replicate m []) = K1 a b c Lf (M : Int) (List.replicate (M + 1) (List.replicate 201 0)) := by
  intro m
  induction m with
  | zero =>
    intro k f hh hf
    obtain ⟨f, rfl⟩ : ∃ g, f = g + 1 := ⟨f - 1, by omega⟩
    rw [loopF]
    dsimp only
    rw [spec_CountPlans_s0, bF (by omega), show k = M + 1 by omega]
    simp only [cond_false, List.replicate_zero, List.append_nil]
  | succ m ih =>
    intro k f hh hf
    obtain ⟨f, rfl⟩ : ∃ g, f = g + 1 := ⟨f - 1, by omega⟩
    rw [loopF]
    dsimp only
    rw [spec_CountPlans_s0, bT (p := (k : Int) ≤ (M : Int)) (by omega), bT (p := (0 : Int) ≤ (k : Int)) (by omega), bT (by rw [List.length_append, List.length_replicate, List.length_replicate]; omega)]
    simp only [cond_true, Bool.and_true, Int.toNat_natCast, Nat.mul_one]
    rw [fill_set, wrap64 (x := (k : Int) + 1) (by omega), show (k : Int) + 1 = ((k + 1 : Nat) : Int) by omega]
    exact ih (k + 1) f (by omega) (by omega)

theorem s1_loop {R : Type} (kk : Nat) (K1 : Int → Int → (List Int) → Int → Int → Int → (List (List Int)) → (List (List Int)) → Option R) (a b : Int) (Lf : List Int) (i g : Int) (W : List (List Int)) {M : Nat} (hM : M ≤ 30) :
    ∀ (m k f : Nat), k + m = M + 1 → m < f →
    loopF (fun (rec : Int × Int × (List Int) × Int × Int × Int × Int × (List (List Int)) × (List (List Int)) → Option R) (p : Int × Int × (List Int) × Int × Int × Int × Int × (List (List Int)) × (List (List Int))) => spec_CountPlans_s1 kk K1 (fun h1 h2 h3 h4 h5 h6 h7 h8 h9 => rec (h1, h2, h3, h4, h5, h6, h7, h8, h9)) p.1 p.2.1 p.2.2.1 p.2.2.2.1 p.2.2.2.2.1 p.2.2.2.2.2.1 p.2.2.2.2.2.2.1 p.2.2.2.2.2.2.2.1 p.2.2.2.2.2.2.2.2) f (a, b, Lf, (M : Int), i, g, (k : Int), W, List.replicate k (List.replicate 201 0) ++ List.replicate m []) = K1 a b Lf (M : Int) i g W (List.replicate (M + 1) (List.replicate 201 0)) := by
  intro m
  induction m with
  | zero =>
    intro k f hh hf
    obtain ⟨f, rfl⟩ : ∃ g, f = g + 1 := ⟨f - 1, by omega⟩
    rw [loopF]
    dsimp only
    rw [spec_CountPlans_s1, bF (by omega), show k = M + 1 by omega]
    simp only [cond_false, List.replicate_zero, List.append_nil]
  | succ m ih =>
    intro k f hh hf
    obtain ⟨f, rfl⟩ : ∃ g, f = g + 1 := ⟨f - 1, by omega⟩
    rw [loopF]
    dsimp only
    rw [spec_CountPlans_s1, bT (p := (k : Int) ≤ (M : Int)) (by omega), bT (p := (0 : Int) ≤ (k : Int)) (by omega), bT (by rw [List.length_append, List.length_replicate, List.length_replicate]; omega)]
    simp only [cond_true, Bool.and_true, Int.toNat_natCast, Nat.mul_one]
    rw [fill_set, wrap64 (x := (k : Int) + 1) (by omega), show (k : Int) + 1 = ((k + 1 : Nat) : Int) by omega]
    exact ih (k + 1) f (by omega) (by omega)

theorem dot_zero (f : Nat → Int) : ∀ (n j : Nat), dot f (List.replicate n 0) j = 0 := by
  intro n
  induction n with
  | zero => intro j; rfl
  | succ n ih => intro j; rw [List.replicate_succ]; simp [dot, ih]

theorem dotR_zero (f : Nat → Nat → Int) (m : Nat) : ∀ (n k : Nat), dotR f (List.replicate n (List.replicate m 0)) k = 0 := by
  intro n
  induction n with
  | zero => intro k; rfl
  | succ n ih => intro k; rw [List.replicate_succ]; simp [dotR, ih, dot_zero]

theorem rdr_zero {M k : Nat} (hk : k ≤ M) (Z : List Int) : rdr (List.replicate (M + 1) Z) k = Z := by
  unfold rdr
  rw [List.getD_eq_getElem?_getD, List.getElem?_replicate, if_pos (by omega)]
  rfl

theorem tab_zero (M : Nat) : Tab201 M (List.replicate (M + 1) (List.replicate 201 0)) :=
  ⟨List.length_replicate, fun k hk => by rw [rdr_zero hk, List.length_replicate]⟩

theorem dotR_last {f : Nat → Nat → Int} {M : Nat} (hf : ∀ j h, j < M → f j h = 0) : ∀ (W : List (List Int)) (k : Nat), W.length + k = M + 1 → k ≤ M → dotR f W k = dot (f M) (rdr W (M - k)) 0 := by
  have hz : ∀ (l : List Int) (j h : Nat), j < M → dot (f j) l h = 0 := by
    intro l
    induction l with
    | nil => intro j h _; rfl
    | cons x l ih => intro j h hj; simp [dot, hf j h hj, ih j (h + 1) hj]
  intro W
  induction W with
  | nil => intro k h1 h2; simp at h1; omega
  | cons r W ih =>
    intro k h1 h2
    rw [List.length_cons] at h1
    by_cases q : k = M
    · subst q
      have hn : W = [] := by cases W with
        | nil => rfl
        | cons _ _ => rw [List.length_cons] at h1; omega
      subst hn
      rw [Nat.sub_self]
      show dot (f k) r 0 + 0 = dot (f k) r 0
      omega
    · simp only [dotR]
      rw [hz r k 0 (by omega), ih (k + 1) (by omega) (by omega), show M - k = (M - (k + 1)) + 1 by omega]
      have : rdr (r :: W) (M - (k + 1) + 1) = rdr W (M - (k + 1)) := rfl
      rw [this]
      omega

theorem s5_loop {R : Type} (kk : Nat) (K1 : Int → Option R) {M : Nat} (hM : M ≤ 30) {W : List (List Int)} (hW : Tab201 M W) :
    ∀ (m h f : Nat) (s : Int), h + m = 201 → m < f → (-9223372036854775808 ≤ s ∧ s < 9223372036854775808) →
    ∃ s', loopF (fun (rec : Int × Int × Int × (List (List Int)) → Option R) (p : Int × Int × Int × (List (List Int))) => spec_CountPlans_s5 kk K1 (fun h1 h2 h3 h4 => rec (h1, h2, h3, h4)) p.1 p.2.1 p.2.2.1 p.2.2.2) f ((M : Int), s, (h : Int), W) = K1 s' ∧ (-9223372036854775808 ≤ s' ∧ s' < 9223372036854775808) ∧ cong s' (s + dot (fun _ => 1) ((rdr W M).drop h) h) := by
  intro m
  induction m with
  | zero =>
    intro h f s hh hf hs
    obtain ⟨f, rfl⟩ : ∃ g, f = g + 1 := ⟨f - 1, by omega⟩
    refine ⟨s, ?_, hs, ?_⟩
    · rw [loopF]
      dsimp only
      rw [spec_CountPlans_s5, bF (by omega)]
      rfl
    · have hd0 : (rdr W M).drop h = [] := List.drop_of_length_le (by rw [hW.row M (by omega)]; omega)
      rw [hd0]
      exact cong_of_eq (by simp [dot])
  | succ m ih =>
    intro h f s hh hf hs
    obtain ⟨f, rfl⟩ : ∃ g, f = g + 1 := ⟨f - 1, by omega⟩
    rw [loopF]
    dsimp only
    have wk := hW.row M (by omega)
    rw [spec_CountPlans_s5]
    simp only [Int.toNat_natCast, Nat.mul_one, cnt1, wk, hW.len]
    rw [bT (p := (h : Int) ≤ 200) (by omega), bT (p := (0 : Int) ≤ (M : Int)) (by omega), bT (p := (M : Int) < ((M + 1 : Nat) : Int)) (by omega), bT (p := (0 : Int) ≤ (h : Int)) (by omega), bT (p := (h : Int) < ((201 : Nat) : Int)) (by omega)]
    simp only [Bool.and_true, cond_true]
    rw [wrap64 (x := (h : Int) + 1) (by omega), show (h : Int) + 1 = ((h + 1 : Nat) : Int) by omega]
    obtain ⟨s', e1, r1, q1⟩ := ih (h + 1) f (IntKind.wrap .i64 (s + rd (rdr W M) h)) (by omega) (by omega) (wrap_range _)
    refine ⟨s', e1, r1, cong_trans q1 (cong_trans (cong_add _ (wrap_cong _)) (cong_of_eq ?_))⟩
    rw [drop_rd (a := rdr W M) (i := h) (by rw [wk]; omega)]
    simp only [dot]
    omega

end Go.Proofs.Ytkdpdmfkomnalaa.Tt
