/- Plain laws: FnRuns. -/
import Derived.Test.YtkdpdmfkomnalaaF3
set_option linter.unusedVariables false
set_option linter.unusedSimpArgs false
namespace Go.Proofs.Ytkdpdmfkomnalaa.Tt
open Go.Ev Go

/-! ## What is asked of a cell -/

theorem kindAt_eq (k : Nat) {a : List Int} {w h : Nat} (v : LawnV a w h) (hv : lawnB a = true) (x y : Int) (hk : 10 < k) : impl_KindAt k a [x, y] = some (cond (hasB a x y) (kindV a x y) 0, cond (hasB a x y) 0 2) := by
  unfold impl_KindAt
  rw [show ([rd [x, y] 0, rd [x, y] 1] : List Int) = [x, y] from rfl, impl_cells_one k v.toLawnR x y hk, hv]
  simp only [Option.bind_some, cond_true]
  cases hh : hasB a x y with
  | false => rfl
  | true => simp only [cond_true, bne_self_eq_false, cond_false, impl_kind k v.toLawnS hh, Option.bind_some]

theorem notGrass {α : Type} {a : List Int} {x y : Int} (hg : grassB a x y = false) (A B : α) : cond ((cond (hasB a x y) (0 : Int) 2) == 0) (cond ((cond (hasB a x y) (kindV a x y) 0) == 0) A B) B = B := by
  unfold grassB at hg
  cases hh : hasB a x y with
  | false => rfl
  | true =>
    rw [hh, Bool.true_and] at hg
    simp only [cond_true, beq_self_eq_true, hg, cond_false]

theorem stripe_eq (k : Nat) {a : List Int} {w h : Nat} (v : LawnV a w h) (hv : lawnB a = true) (b : Bool) {x y : Int} (hg : grassB a x y = true) {j : Nat} (j1 : j < (runsOf a b (allC w h)).length) (j2 : hitR b x y ((runsOf a b (allC w h)).getD j (0, 0, 0)) = true) (hk : 120 < k) :
    impl_StripeOf k a [x, y] b = some ((j : Int), 0) := by
  have hh : hasB a x y = true := by unfold grassB at hg; rw [Bool.and_eq_true] at hg; exact hg.1
  unfold impl_StripeOf
  rw [show ([rd [x, y] 0, rd [x, y] 1] : List Int) = [x, y] from rfl, impl_cells_one k v.toLawnR x y (by omega), hv, hh]
  have e4 : ((cond b (1 : Int) 0) != 0) = b := by cases b <;> rfl
  rw [e4]
  simp only [Option.bind_some, cond_true, bne_self_eq_false, cond_false, beq_self_eq_true, impl_grass k v.toLawnS x y, hg, Bool.not_true, impl_runs k v b (by omega)]
  have hl : (runsOf a b (allC w h)).length ≤ 100 := Nat.le_trans (runsOf_len _ _ _) (allC_small v)
  have hok := runs_ok v b
  obtain ⟨j', _, _, j3⟩ := one_run v b hg
  have j4 : ∀ i, i < (runsOf a b (allC w h)).length → hitR b x y ((runsOf a b (allC w h)).getD i (0, 0, 0)) = true → i = j := fun i hi hit => (j3 i hi hit).trans (j3 j j1 j2).symm
  generalize runsOf a b (allC w h) = L at hl hok j1 j2 j4 ⊢
  rw [indexFunc_runs k L (fun z4 => (impl_StripeOf_1 k [(rd z4 0), (rd z4 1), (rd z4 2)] [(cond b (1 : Int) 0)] [x, y]).bind fun b => some b) (hitR b x y) (fun p hp => impl_stripe_f k b x y (hok p hp)) (by omega) (by omega)]
  simp only [Option.bind_some]
  have hf : findI (hitR b x y) L 0 = (j : Int) := by
    rcases findI_spec (hitR b x y) (0, 0, 0) L 0 with ⟨h1, h2⟩ | ⟨i, h1, h2, h3, h4⟩
    · have := h2 _ (getD_mem L (0, 0, 0) j1)
      rw [this] at j2
      cases j2
    · rw [h2, j4 i h1 h3]
      omega
  rw [hf]

/-! ## What has been seen -/

def setC (s : List Int) (p : Int × Int) : List Int := List.set s ((0 + p.2.toNat * 10) + p.1.toNat * 1) 1

def in10 (p : Int × Int) : Prop := (0 ≤ p.1 ∧ p.1 < 10) ∧ (0 ≤ p.2 ∧ p.2 < 10)

theorem setC_len (s : List Int) (p : Int × Int) : (setC s p).length = s.length := by simp [setC]

theorem seen_other : ∀ (L : List (Int × Int)) (s : List Int) (q : Int × Int), s.length = 100 → (∀ p ∈ L, in10 p) → in10 q → q ∉ L → rd (L.foldl setC s) ((0 + q.2.toNat * 10) + q.1.toNat * 1) = rd s ((0 + q.2.toNat * 10) + q.1.toNat * 1) := by
  intro L
  induction L with
  | nil => intro s q _ _ _ _; rfl
  | cons p L ih =>
    intro s q hs hL hq hn
    simp only [List.mem_cons, not_or] at hn
    rw [List.foldl_cons, ih (setC s p) q (by rw [setC_len]; exact hs) (fun p hp => hL p (by simp [hp])) hq hn.2]
    have hp := hL p (by simp)
    unfold setC
    unfold in10 at hp hq
    rw [rd_setI _ _ _ _ (by omega), if_neg]
    intro e
    apply hn.1
    rw [Prod.ext_iff]
    constructor <;> omega

theorem seen_zero (L : List (Int × Int)) (q : Int × Int) (hL : ∀ p ∈ L, in10 p) (hq : in10 q) (hn : q ∉ L) : rd (L.foldl setC (List.replicate 100 0)) ((0 + q.2.toNat * 10) + q.1.toNat * 1) = 0 := by
  rw [seen_other L _ q (by simp) hL hq hn]
  simp only [rd, List.getD_eq_getElem?_getD, List.getElem?_replicate]
  split <;> rfl

theorem cellsR_get (b : Bool) (x y : Int) (n : Nat) {u : Nat} (hu : u < n) : (cellsR b (x, y, (n : Int))).getD u (0, 0) = (x + (u : Int) * dxB b, y + (u : Int) * dyB b) := by
  unfold cellsR
  rw [List.getD_eq_getElem?_getD, List.getElem?_map, List.getElem?_range (by simpa using hu)]
  rfl

theorem grass_in10 {a : List Int} {w h : Nat} (v : LawnV a w h) {q : Int × Int} (hg : grassB a q.1 q.2 = true) : in10 q := by
  have := grass_range v.toLawnS hg
  have := v.wv
  have := v.hv
  have := v.wle
  have := v.hle
  unfold in10
  omega

theorem seen_fresh {a : List Int} {w h : Nat} (v : LawnV a w h) (b : Bool) {i : Nat} (hi : i < (runsOf a b (allC w h)).length) {x y : Int} {n : Nat} (e : (runsOf a b (allC w h)).getD i d3 = (x, y, (n : Int))) {u : Nat} (hu : u < n) :
    rd ((upTo3 b (runsOf a b (allC w h)) i ++ (cellsR b (x, y, (n : Int))).take u).foldl setC (List.replicate 100 0)) ((0 + (y + (u : Int) * dyB b).toNat * 10) + (x + (u : Int) * dxB b).toNat * 1) = 0 := by
  have hnd := upTo3_nodup v b (i + 1) hi
  have hmem : ∀ p ∈ upTo3 b (runsOf a b (allC w h)) (i + 1), in10 p := fun p hp => by
    obtain ⟨_, _, _, h3⟩ := upTo3_mem b hi hp
    exact grass_in10 v h3
  rw [upTo3_succ b hi, e] at hnd hmem
  have hlen : u < (cellsR b (x, y, (n : Int))).length := by rw [cellsR_len]; simpa using hu
  have hq := cellsR_get b x y n hu
  have hqm := getD_mem (cellsR b (x, y, (n : Int))) (0, 0) hlen
  have htk := take_getD (cellsR b (x, y, (n : Int))) (0, 0) hlen
  rw [hq] at hqm htk
  refine seen_zero _ (x + (u : Int) * dxB b, y + (u : Int) * dyB b) (fun p hp => ?_) (hmem _ (List.mem_append_right _ hqm)) (fun hp => ?_)
  · rcases List.mem_append.1 hp with hp | hp
    · exact hmem p (List.mem_append_left _ hp)
    · exact hmem p (List.mem_append_right _ (List.mem_of_mem_take hp))
  · obtain ⟨n1, n2, n3⟩ := List.nodup_append.1 hnd
    rcases List.mem_append.1 hp with hp | hp
    · exact n3 _ hp _ hqm rfl
    · have := n2.sublist (List.take_sublist (u + 1) _)
      rw [htk] at this
      exact (List.nodup_append.1 this).2.2 _ hp _ (by simp) rfl

/-! ## One run -/

theorem one_loop {R : Type} (k : Nat) (K1 : Bool → Option R) (K2 : Bool → Int → Int → (List Int) → (List Int) → (List Int) → (List Int) → (List Int) → Option R) {a : List Int} {w h : Nat} (v : LawnV a w h) (hv : lawnB a = true) (b : Bool) (h2 : Int) (h7 h8 : List Int)
    {i : Nat} (hi : i < (runsOf a b (allC w h)).length) {x y : Int} {n : Nat} (e : (runsOf a b (allC w h)).getD i d3 = (x, y, (n : Int))) (hs : startB a b (x, y) = true) (hn : n = longV a b x y) (hk : 120 < k) :
    ∀ (m t f : Nat), t + m = n + 2 → m < f →
    loopF (fun (rec : Bool × Int × Int × Int × (List Int) × (List Int) × (List Int) × (List Int) × (List Int) → Option R) (p : Bool × Int × Int × Int × (List Int) × (List Int) × (List Int) × (List Int) × (List Int)) => laws_FnRuns_s0 k K1 K2 (fun h1 h2 h3 h4 h5 h6 h7 h8 h9 => rec (h1, h2, h3, h4, h5, h6, h7, h8, h9)) p.1 p.2.1 p.2.2.1 p.2.2.2.1 p.2.2.2.2.1 p.2.2.2.2.2.1 p.2.2.2.2.2.2.1 p.2.2.2.2.2.2.2.1 p.2.2.2.2.2.2.2.2) f
      (b, h2, (i : Int), (t : Int) - 1, a, fl3 (runsOf a b (allC w h)), h7, h8, (upTo3 b (runsOf a b (allC w h)) i ++ (cellsR b (x, y, (n : Int))).take (t - 1)).foldl setC (List.replicate 100 0)) =
      K2 b h2 (i : Int) a (fl3 (runsOf a b (allC w h))) h7 h8 ((upTo3 b (runsOf a b (allC w h)) (i + 1)).foldl setC (List.replicate 100 0)) := by
  have h100 : (runsOf a b (allC w h)).length ≤ 100 := Nat.le_trans (runsOf_len _ _ _) (allC_small v)
  obtain ⟨c1, c2, c3⟩ := run_cells b hs
  obtain ⟨c4, c5⟩ := run_end v b hs
  rw [← hn] at c1 c2 c4 c5
  have hxy := grass_in10 v (q := (x, y)) (by have := c2 0 (by omega); simpa using this)
  obtain ⟨⟨x1, x2⟩, y1, y2⟩ := hxy
  simp only at x1 x2 y1 y2
  have e3 : (runsOf a b (allC w h)).getD i (0, 0, 0) = (x, y, (n : Int)) := e
  have hfin : (upTo3 b (runsOf a b (allC w h)) i ++ (cellsR b (x, y, (n : Int))).take n) = upTo3 b (runsOf a b (allC w h)) (i + 1) := by
    rw [upTo3_succ b hi, e, List.take_of_length_le (by rw [cellsR_len]; simp)]
  have hstep : ∀ u, u < n → setC ((upTo3 b (runsOf a b (allC w h)) i ++ (cellsR b (x, y, (n : Int))).take u).foldl setC (List.replicate 100 0)) (x + (u : Int) * dxB b, y + (u : Int) * dyB b) =
      (upTo3 b (runsOf a b (allC w h)) i ++ (cellsR b (x, y, (n : Int))).take (u + 1)).foldl setC (List.replicate 100 0) := by
    intro u hu
    have hlen : u < (cellsR b (x, y, (n : Int))).length := by rw [cellsR_len]; simpa using hu
    rw [take_getD _ (0, 0) hlen, cellsR_get b x y n hu, ← List.append_assoc, List.foldl_append (l' := [_])]
    rfl
  have hfresh := fun u (hu : u < n) => seen_fresh v b hi e hu
  have hgin := fun u (hu : u < n) => grass_in10 v (q := (x + (u : Int) * dxB b, y + (u : Int) * dyB b)) (c2 u hu)
  have hkind := fun u (hu : u < n) => kindAt_eq k v hv (x + (u : Int) * dxB b) (y + (u : Int) * dyB b) (by omega)
  have hstripe : ∀ u, u < n → impl_StripeOf k a [x + (u : Int) * dxB b, y + (u : Int) * dyB b] b = some ((i : Int), 0) := fun u hu => stripe_eq k v hv b (c2 u hu) hi (by
    rw [e3]
    exact (hit_iff b _ _ x y n).2 ⟨u, hu, rfl, rfl⟩) hk
  have hk0 := kindAt_eq k v hv (x - dxB b) (y - dyB b) (by omega)
  have hkn := kindAt_eq k v hv (x + (n : Int) * dxB b) (y + (n : Int) * dyB b) (by omega)
  intro m
  induction m with
  | zero =>
    intro t f ht hf
    obtain ⟨f, rfl⟩ : ∃ g, f = g + 1 := ⟨f - 1, by omega⟩
    rw [loopF]
    dsimp only
    unfold laws_FnRuns_s0
    simp only [cnt_fl3, Int.toNat_natCast, fl3_x, fl3_y, fl3_n]
    rw [e3, bT (p := (0 : Int) ≤ (i : Int)) (by omega), bT (p := (i : Int) < _) (by omega), bF (p := (t : Int) - 1 ≤ (n : Int)) (by omega)]
    simp only [Bool.and_true, cond_true, cond_false]
    rw [show t - 1 = n + 1 by omega, ← hfin, List.take_of_length_le (i := n + 1) (by rw [cellsR_len]; simp), List.take_of_length_le (i := n) (by rw [cellsR_len]; simp)]
  | succ m ih =>
    intro t f ht hf
    obtain ⟨f, rfl⟩ : ∃ g, f = g + 1 := ⟨f - 1, by omega⟩
    have hrec := ih (t + 1) f (by omega) (by omega)
    rw [show ((t + 1 : Nat) : Int) - 1 = (t : Int) by omega, show t + 1 - 1 = t by omega] at hrec
    rw [loopF]
    dsimp only at hrec ⊢
    unfold laws_FnRuns_s0
    simp only [cnt_fl3, Int.toNat_natCast, fl3_x, fl3_y, fl3_n]
    rw [e3, bT (p := (0 : Int) ≤ (i : Int)) (by omega), bT (p := (i : Int) < _) (by omega), bT (p := (t : Int) - 1 ≤ (n : Int)) (by omega)]
    simp only [Bool.and_true, cond_true]
    rw [wrap8 (x := (t : Int) - 1 + 1) (by omega), show (t : Int) - 1 + 1 = (t : Int) by omega]
    rcases Nat.eq_zero_or_pos t with h0 | hpos
    · subst h0
      rw [bT (p := ((0 : Nat) : Int) - 1 < 0) (by omega), show ((0 : Nat) : Int) - 1 = -1 from rfl]
      have hS : (upTo3 b (runsOf a b (allC w h)) i ++ (cellsR b (x, y, (n : Int))).take (0 - 1)) = (upTo3 b (runsOf a b (allC w h)) i ++ (cellsR b (x, y, (n : Int))).take 0) := rfl
      rw [hS]
      cases b
      · simp only [cond_false, cond_true]
        rw [wrap8 (x := y + -1) (by omega)]
        rw [kindAt_eq k v hv x (y + -1) (by omega)]
        simp only [Option.bind_some]
        have hg : grassB a x (y + -1) = false := by simpa [dxB, dyB, Int.sub_eq_add_neg] using c3
        rw [notGrass hg]
        exact hrec
      · simp only [cond_true]
        rw [wrap8 (x := x + -1) (by omega)]
        rw [kindAt_eq k v hv (x + -1) y (by omega)]
        simp only [Option.bind_some]
        have hg : grassB a (x + -1) y = false := by simpa [dxB, dyB, Int.sub_eq_add_neg] using c3
        rw [notGrass hg]
        exact hrec
    · obtain ⟨u, rfl⟩ : ∃ u, t = u + 1 := ⟨t - 1, by omega⟩
      rw [show ((u + 1 : Nat) : Int) - 1 = (u : Int) by omega, show u + 1 - 1 = u by omega] at *
      rw [bF (p := (u : Int) < 0) (by omega)]
      rcases Nat.lt_or_ge u n with hun | hun
      · have f1 := hfresh u hun
        have f2 := hgin u hun
        have f3 := hkind u hun
        have f4 := hstripe u hun
        have f5 := hstep u hun
        have f6 := c2 u hun
        have hh : hasB a (x + (u : Int) * dxB b) (y + (u : Int) * dyB b) = true := by unfold grassB at f6; rw [Bool.and_eq_true] at f6; exact f6.1
        have hkd : kindV a (x + (u : Int) * dxB b) (y + (u : Int) * dyB b) = 0 := by unfold grassB at f6; rw [Bool.and_eq_true] at f6; simpa using f6.2
        rw [hh, hkd] at f3
        obtain ⟨⟨g1, g2⟩, g3, g4⟩ := f2
        simp only at g1 g2 g3 g4
        rw [eqF (a := (u : Int)) (b := (n : Int)) (by omega)]
        rw [setC] at f5
        cases b
        · simp only [dxB, dyB, cond_false, Int.mul_zero, Int.add_zero, Int.mul_one] at f1 f3 f4 f5 g1 g2 g3 g4 ⊢
          rw [wrap8 (x := y + (u : Int)) (by omega), f3, f4]
          simp only [Option.bind_some, cond_true, cond_false, bne_self_eq_false]
          rw [bT (p := (0 : Int) ≤ y + (u : Int)) (by omega), bT (p := y + (u : Int) < 10) (by omega), bT (p := (0 : Int) ≤ x) (by omega), bT (p := x < 10) (by omega)]
          simp only [Bool.and_true, cond_true]
          rw [f1]
          simp only [bne_self_eq_false, cond_false]
          rw [f5]
          exact hrec
        · simp only [dxB, dyB, cond_true, Int.mul_zero, Int.add_zero, Int.mul_one] at f1 f3 f4 f5 g1 g2 g3 g4 ⊢
          rw [wrap8 (x := x + (u : Int)) (by omega), f3, f4]
          simp only [Option.bind_some, cond_true, cond_false, bne_self_eq_false]
          rw [bT (p := (0 : Int) ≤ x + (u : Int)) (by omega), bT (p := x + (u : Int) < 10) (by omega), bT (p := (0 : Int) ≤ y) (by omega), bT (p := y < 10) (by omega)]
          simp only [Bool.and_true, cond_true]
          rw [f1]
          simp only [bne_self_eq_false, cond_false]
          rw [f5]
          exact hrec
      · have hue : u = n := by omega
        subst hue
        rw [eqT (a := (u : Int)) (b := (u : Int)) rfl]
        have hS : (cellsR b (x, y, (u : Int))).take (u + 1) = (cellsR b (x, y, (u : Int))).take u := by
          rw [List.take_of_length_le (i := u + 1) (by rw [cellsR_len]; simp), List.take_of_length_le (i := u) (by rw [cellsR_len]; simp)]
        rw [hS] at hrec
        cases b
        · simp only [dxB, dyB, cond_false, Int.mul_zero, Int.add_zero, Int.mul_one, cond_true] at hkn c5 ⊢
          rw [wrap8 (x := y + (u : Int)) (by omega), hkn]
          simp only [Option.bind_some]
          rw [notGrass c5]
          exact hrec
        · simp only [dxB, dyB, cond_false, Int.mul_zero, Int.add_zero, Int.mul_one, cond_true] at hkn c5 ⊢
          rw [wrap8 (x := x + (u : Int)) (by omega), hkn]
          simp only [Option.bind_some]
          rw [notGrass c5]
          exact hrec

end Go.Proofs.Ytkdpdmfkomnalaa.Tt
