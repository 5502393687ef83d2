/- Plain laws: StripeOf. -/
import Derived.Test.YtbibnmaoagcfgaaY19
import Derived.Test.YtbibnmaoagcfgaaY10b
set_option linter.unusedVariables false
set_option linter.unusedSimpArgs false
namespace Go.Proofs.Ytbibnmaoagcfgaa.Tt
open Go.Ev Go

/-- Does a run hold a cell among its first n? -/
def hitN (b : Bool) (ax ay x y : Int) (n : Int) : Bool := cond b ((y == ay) && (decide (x ≤ ax) && decide (ax < x + n))) ((x == ax) && (decide (y ≤ ay) && decide (ay < y + n)))
def hitR (b : Bool) (ax ay : Int) (r : Int × Int × Int) : Bool := hitN b ax ay r.1 r.2.1 r.2.2

def RunOK (r : Int × Int × Int) : Prop := (0 ≤ r.1 ∧ r.1 < 10) ∧ (0 ≤ r.2.1 ∧ r.2.1 < 10) ∧ (0 ≤ r.2.2 ∧ r.2.2 ≤ 11)

theorem spec_stripe_in {R : Type} (k : Nat) (K1 : Bool → Int → Int → (List Int) → (List Int) → Option R) (b : Bool) (best : Int) (i : Nat) (ax ay : Int) (L : List (Int × Int × Int)) (hi : i < L.length) (hr : RunOK (L.getD i (0, 0, 0))) (hk : 20 < k) :
    spec_StripeOf_l0 k K1 b best (i : Int) 0 [ax, ay] (fl3 L) = K1 b (cond (hitR b ax ay (L.getD i (0, 0, 0))) (i : Int) best) i [ax, ay] (fl3 L) := by
  obtain ⟨hx, hy, hn⟩ := hr
  unfold spec_StripeOf_l0
  obtain ⟨n, hnn⟩ : ∃ n : Nat, (L.getD i (0, 0, 0)).2.2 = (n : Int) := ⟨(L.getD i (0, 0, 0)).2.2.toNat, by omega⟩
  have := loopF_go (R := R) (step := fun (rec : Bool × Int × Int × Int × (List Int) × (List Int) → Option R) (p : Bool × Int × Int × Int × (List Int) × (List Int)) => spec_StripeOf_s0 k K1 (fun h1 h2 h3 h4 h5 h6 => rec (h1, h2, h3, h4, h5, h6)) p.1 p.2.1 p.2.2.1 p.2.2.2.1 p.2.2.2.2.1 p.2.2.2.2.2)
    (fun j => (b, cond (hitN b ax ay (L.getD i (0, 0, 0)).1 (L.getD i (0, 0, 0)).2.1 (j : Int)) (i : Int) best, (i : Int), (j : Int), [ax, ay], fl3 L)) (fun _ _ => K1 b (cond (hitR b ax ay (L.getD i (0, 0, 0))) (i : Int) best) i [ax, ay] (fl3 L)) n ?_ ?_ n 0 k (by omega) (by omega)
  · have e0 : hitN b ax ay (L.getD i (0, 0, 0)).1 (L.getD i (0, 0, 0)).2.1 ((0 : Nat) : Int) = false := by
      unfold hitN
      cases b
      · simp only [cond_false]
        by_cases c : (L.getD i (0, 0, 0)).2.1 ≤ ay
        · rw [bT c, bF (p := ay < _) (by omega)]; simp
        · rw [bF c]; simp
      · simp only [cond_true]
        by_cases c : (L.getD i (0, 0, 0)).1 ≤ ax
        · rw [bT c, bF (p := ax < _) (by omega)]; simp
        · rw [bF c]; simp
    rw [e0] at this
    exact this
  · intro rec
    dsimp only
    unfold spec_StripeOf_s0
    simp only [cnt_fl3, Int.toNat_natCast, fl3_x, fl3_y, fl3_n, hnn]
    simp (disch := omega) only [bT, bF, cond_true, cond_false, Bool.and_true]
    unfold hitR
    rw [hnn]
  · intro j m hj rec hrec
    dsimp only at hrec ⊢
    unfold spec_StripeOf_s0
    simp only [cnt_fl3, Int.toNat_natCast, fl3_x, fl3_y, fl3_n, hnn]
    generalize L.getD i (0, 0, 0) = p at hx hy hn hnn hrec ⊢
    have hback : spec_l01Back k [p.1, p.2.1] b (IntKind.wrap .i8 (0 - (j : Int))) = some [p.1 + j * dxB b, p.2.1 + j * dyB b] := by
      unfold spec_l01Back
      have e1 : rd [p.1, p.2.1] 0 = p.1 := rfl
      have e2 : rd [p.1, p.2.1] 1 = p.2.1 := rfl
      rw [e1, e2]
      cases b
      · simp (disch := omega) only [cond_false, wrap8, dxB, dyB]
        congr 2
        · omega
        · congr 1; omega
      · simp (disch := omega) only [cond_true, wrap8, dxB, dyB]
        congr 2
        · omega
        · congr 1; omega
    rw [hback]
    have e3 : ([rd [ax, ay] 0, rd [ax, ay] 1] : List Int) = [ax, ay] := rfl
    simp (disch := omega) only [bT, cond_true, Bool.and_true, Option.bind_some, wrap8, e3, wrap64]
    have hstep : hitN b ax ay p.1 p.2.1 (((j + 1 : Nat) : Int)) = (eqL [p.1 + j * dxB b, p.2.1 + j * dyB b] [ax, ay] || hitN b ax ay p.1 p.2.1 (j : Int)) := by
      unfold hitN eqL
      cases b
      · simp only [cond_false, dxB, dyB]
        rw [Bool.eq_iff_iff]
        simp [eqL]
        omega
      · simp only [cond_true, dxB, dyB]
        rw [Bool.eq_iff_iff]
        simp [eqL]
        omega
    rw [hstep] at hrec
    cases he : eqL [p.1 + j * dxB b, p.2.1 + j * dyB b] [ax, ay] with
    | true => rw [he, Bool.true_or, cond_true] at hrec; simp only [cond_true]; exact hrec
    | false => rw [he, Bool.false_or] at hrec; simp only [cond_false]; exact hrec

def stripeN (b : Bool) (ax ay : Int) (L : List (Int × Int × Int)) : Nat → Int
  | 0 => 0
  | i + 1 => cond (hitR b ax ay (L.getD i (0, 0, 0))) (i : Int) (stripeN b ax ay L i)

theorem spec_stripe_loop (k : Nat) (b : Bool) (ax ay : Int) (L : List (Int × Int × Int)) (hL : ∀ r ∈ L, RunOK r) (hl : L.length ≤ 100) (hk : 101 < k) :
    spec_StripeOf_l1 k (fun y5 => some (y5, (0 : Int))) b 0 0 [ax, ay] (fl3 L) = some (stripeN b ax ay L L.length, 0) := by
  unfold spec_StripeOf_l1
  refine loopF_go (R := Int × Int) (step := fun (rec : Bool × Int × Int × (List Int) × (List Int) → Option (Int × Int)) (p : Bool × Int × Int × (List Int) × (List Int)) => spec_StripeOf_s1 k (fun y5 => some (y5, (0 : Int))) (fun h1 h2 h3 h4 h5 => rec (h1, h2, h3, h4, h5)) p.1 p.2.1 p.2.2.1 p.2.2.2.1 p.2.2.2.2)
    (fun i => (b, stripeN b ax ay L i, (i : Int), [ax, ay], fl3 L)) (fun _ _ => some (stripeN b ax ay L L.length, 0)) L.length ?_ ?_ L.length 0 k (by omega) (by omega)
  · intro rec
    dsimp only
    unfold spec_StripeOf_s1
    simp (disch := omega) only [cnt_fl3, bF, cond_false]
  · intro i m hi rec hrec
    dsimp only at hrec ⊢
    unfold spec_StripeOf_s1
    have hil : i < L.length := by omega
    rw [spec_stripe_in k _ b _ i ax ay L hil (hL _ (getD_mem L _ hil)) (by omega)]
    simp (disch := omega) only [cnt_fl3, bT, cond_true, wrap64]
    exact hrec

theorem indexFunc_runs (k : Nat) (L : List (Int × Int × Int)) (f : List Int → Option Bool) (g : Int × Int × Int → Bool) (hf : ∀ p ∈ L, f [p.1, p.2.1, p.2.2] = some (g p)) (hL : L.length ≤ 1048576) (hk : L.length < k) :
    slices_IndexFunc_impl_Run k (fl3 L) f = some (findI g L 0) := by
  unfold slices_IndexFunc_impl_Run slices_IndexFunc_impl_Run_l0
  rw [cnt_fl3]
  have := loopF_go (step := fun (rec : (List Int) × (List Int → Option Bool) × Int × Int → Option Int) (p : (List Int) × (List Int → Option Bool) × Int × Int) => slices_IndexFunc_impl_Run_s0 k (fun y1 => some y1) (some (-1)) (fun h1 h2 h3 h4 => rec (h1, h2, h3, h4)) p.1 p.2.1 p.2.2.1 p.2.2.2)
    (fun i => (fl3 L, f, (L.length : Int), (i : Int))) (fun i _ => some (findI g (L.drop i) i)) L.length ?_ ?_ L.length 0 k (by omega) hk
  · exact this
  · intro rec
    dsimp only
    unfold slices_IndexFunc_impl_Run_s0
    simp (disch := omega) only [bF, cond_false, List.drop_length, findI]
  · intro i m hi rec hrec
    dsimp only at hrec ⊢
    unfold slices_IndexFunc_impl_Run_s0
    have hm := hf _ (getD_mem L (0, 0, 0) (show i < L.length by omega))
    rw [drop_getD L (0, 0, 0) (show i < L.length by omega)]
    simp (disch := omega) only [bT, cond_true, cnt_fl3, Bool.and_true, Int.toNat_natCast, fl3_x, fl3_y, fl3_n, hm, Option.bind_some, wrap64, findI]
    cases g (L.getD i (0, 0, 0)) with
    | true => rfl
    | false => simp only [cond_false]; exact hrec

theorem impl_stripe_f (k : Nat) (b : Bool) (ax ay : Int) {p : Int × Int × Int} (hp : RunOK p) : ((fun z4 => (impl_StripeOf_1 k [(rd z4 0), (rd z4 1), (rd z4 2)] [(cond b (1 : Int) 0)] [ax, ay]).bind fun b => some b) [p.1, p.2.1, p.2.2]) = some (hitR b ax ay p) := by
  obtain ⟨hx, hy, hn⟩ := hp
  show (impl_StripeOf_1 k [p.1, p.2.1, p.2.2] [(cond b (1 : Int) 0)] [ax, ay]).bind _ = _
  unfold impl_StripeOf_1 hitR hitN
  have e1 : rd [p.1, p.2.1, p.2.2] 0 = p.1 := rfl
  have e2 : rd [p.1, p.2.1, p.2.2] 1 = p.2.1 := rfl
  have e3 : rd [p.1, p.2.1, p.2.2] 2 = p.2.2 := rfl
  have e4 : rd [ax, ay] 0 = ax := rfl
  have e5 : rd [ax, ay] 1 = ay := rfl
  rw [e1, e2, e3, e4, e5]
  cases b
  · have e6 : (rd [cond false (1 : Int) 0] 0 != 0) = false := rfl
    rw [e6, wrap8 (x := p.2.1 + p.2.2) (by omega)]
    simp only [cond_false]
    cases (p.1 == ax) with
    | false => rfl
    | true =>
      by_cases c : p.2.1 ≤ ay
      · rw [bT (p := ay ≥ p.2.1) c]; simp
      · rw [bF (p := ay ≥ p.2.1) c]; simp
  · have e6 : (rd [cond true (1 : Int) 0] 0 != 0) = true := rfl
    rw [e6, wrap8 (x := p.1 + p.2.2) (by omega)]
    simp only [cond_true]
    cases (p.2.1 == ay) with
    | false => rfl
    | true =>
      by_cases c : p.1 ≤ ax
      · rw [bT (p := ax ≥ p.1) c]; simp
      · rw [bF (p := ax ≥ p.1) c]; simp

/-! ## One run holds a cell of grass, and one alone -/

theorem runLen_grass {a : List Int} {b : Bool} : ∀ (m : Nat) (x y : Int) (t : Nat), t < runLen a b m x y → grassB a (x + t * dxB b) (y + t * dyB b) = true := by
  intro m
  induction m with
  | zero => intro x y t h; simp [runLen] at h
  | succ m ih =>
    intro x y t h
    simp only [runLen] at h
    cases hg : grassB a x y with
    | false => rw [hg] at h; simp at h
    | true =>
      rw [hg] at h
      simp only [cond_true] at h
      cases t with
      | zero => simpa using hg
      | succ t =>
        have := ih (x + dxB b) (y + dyB b) t (by omega)
        have e1 : x + ((t + 1 : Nat) : Int) * dxB b = x + dxB b + t * dxB b := by cases b <;> simp [dxB]; omega
        have e2 : y + ((t + 1 : Nat) : Int) * dyB b = y + dyB b + t * dyB b := by cases b <;> simp [dyB]; omega
        rw [e1, e2]
        exact this

theorem runLen_ge {a : List Int} {b : Bool} : ∀ (m : Nat) (x y : Int) (t : Nat), t ≤ m → (∀ i : Nat, i < t → grassB a (x + i * dxB b) (y + i * dyB b) = true) → t ≤ runLen a b m x y := by
  intro m
  induction m with
  | zero => intro x y t h _; omega
  | succ m ih =>
    intro x y t ht h
    cases t with
    | zero => omega
    | succ t =>
      have h0 := h 0 (by omega)
      have e0 : grassB a x y = true := by simpa using h0
      simp only [runLen, e0, cond_true]
      have := ih (x + dxB b) (y + dyB b) t (by omega) (fun i hi => by
        have := h (i + 1) (by omega)
        have e1 : x + ((i + 1 : Nat) : Int) * dxB b = x + dxB b + i * dxB b := by cases b <;> simp [dxB]; omega
        have e2 : y + ((i + 1 : Nat) : Int) * dyB b = y + dyB b + i * dyB b := by cases b <;> simp [dyB]; omega
        rw [e1, e2] at this
        exact this)
      omega

theorem hit_iff (b : Bool) (ax ay x y : Int) (n : Nat) : hitN b ax ay x y (n : Int) = true ↔ ∃ t : Nat, t < n ∧ ax = x + t * dxB b ∧ ay = y + t * dyB b := by
  unfold hitN
  cases b
  · simp only [cond_false, Bool.and_eq_true, beq_iff_eq, decide_eq_true_eq, dxB, dyB]
    constructor
    · rintro ⟨h1, h2, h3⟩
      exact ⟨(ay - y).toNat, by omega, by omega, by omega⟩
    · rintro ⟨t, h1, h2, h3⟩
      omega
  · simp only [cond_true, Bool.and_eq_true, beq_iff_eq, decide_eq_true_eq, dxB, dyB]
    constructor
    · rintro ⟨h1, h2, h3⟩
      exact ⟨(ax - x).toNat, by omega, by omega, by omega⟩
    · rintro ⟨t, h1, h2, h3⟩
      omega

theorem walk_back {a : List Int} {w h : Nat} (v : LawnV a w h) (b : Bool) : ∀ (n : Nat) (ax ay : Int), ax * dxB b + ay * dyB b < n → grassB a ax ay = true →
    ∃ t : Nat, t < n ∧ startB a b (ax - t * dxB b, ay - t * dyB b) = true ∧ ∀ i : Nat, i ≤ t → grassB a (ax - i * dxB b) (ay - i * dyB b) = true := by
  intro n
  induction n with
  | zero =>
    intro ax ay h hg
    have := grass_range v.toLawnS hg
    cases b
    · simp only [dxB, dyB, cond_false] at h; omega
    · simp only [dxB, dyB, cond_true] at h; omega
  | succ n ih =>
    intro ax ay h hg
    cases hp : grassB a (ax - dxB b) (ay - dyB b) with
    | false =>
      refine ⟨0, by omega, ?_, ?_⟩
      · unfold startB
        simp [hg, hp]
      · intro i hi
        have : i = 0 := by omega
        subst this
        simpa using hg
    | true =>
      obtain ⟨t, h1, h2, h3⟩ := ih (ax - dxB b) (ay - dyB b) (by
        cases b
        · simp only [dxB, dyB, cond_false] at h ⊢; omega
        · simp only [dxB, dyB, cond_true] at h ⊢; omega) hp
      have e1 : ∀ i : Nat, ax - ((i + 1 : Nat) : Int) * dxB b = ax - dxB b - i * dxB b := fun i => by cases b <;> simp [dxB]; omega
      have e2 : ∀ i : Nat, ay - ((i + 1 : Nat) : Int) * dyB b = ay - dyB b - i * dyB b := fun i => by cases b <;> simp [dyB]; omega
      refine ⟨t + 1, by omega, by rw [e1, e2]; exact h2, fun i hi => ?_⟩
      cases i with
      | zero => simpa using hg
      | succ i => rw [e1, e2]; exact h3 i (by omega)

theorem allC_nodup (w h : Nat) : (allC w h).Nodup := by
  have hrow : ∀ (y w : Nat), (rowC y w).Nodup := by
    intro y w
    induction w with
    | zero => simp [rowC]
    | succ w ih =>
      rw [rowC_succ]
      refine List.nodup_append.2 ⟨ih, by simp, ?_⟩
      intro p hp q hq e
      simp only [rowC, List.mem_map, List.mem_range] at hp
      simp only [List.mem_singleton] at hq
      obtain ⟨x, hx, rfl⟩ := hp
      rw [hq, Prod.mk.injEq] at e
      omega
  induction h with
  | zero => simp [allC]
  | succ h ih =>
    rw [allC_succ]
    refine List.nodup_append.2 ⟨ih, hrow h w, ?_⟩
    intro p hp q hq e
    have h1 := allC_mem.1 hp
    simp only [rowC, List.mem_map, List.mem_range] at hq
    obtain ⟨x, hx, rfl⟩ := hq
    rw [e] at h1
    simp only at h1
    omega

theorem stripeN_at (b : Bool) (ax ay : Int) (L : List (Int × Int × Int)) (j : Nat) (hj : hitR b ax ay (L.getD j (0, 0, 0)) = true) : ∀ n, n ≤ L.length → j < n → (∀ i, i < n → hitR b ax ay (L.getD i (0, 0, 0)) = true → i = j) → stripeN b ax ay L n = j := by
  intro n
  induction n with
  | zero => intro _ h; omega
  | succ n ih =>
    intro hn hjn hu
    simp only [stripeN]
    cases hh : hitR b ax ay (L.getD n (0, 0, 0)) with
    | true =>
      have := hu n (by omega) hh
      rw [this]
      rfl
    | false =>
      simp only [cond_false]
      refine ih (by omega) ?_ (fun i hi => hu i (by omega))
      rcases Nat.lt_or_ge j n with h | h
      · exact h
      · have : j = n := by omega
        rw [this, hh] at hj
        cases hj

theorem runs_ok {a : List Int} {w h : Nat} (v : LawnV a w h) (b : Bool) : ∀ r ∈ runsOf a b (allC w h), RunOK r := by
  intro r hr
  unfold runsOf at hr
  obtain ⟨p, hp, rfl⟩ := List.mem_map.1 hr
  have := cells_in' v (List.mem_filter.1 hp).1
  have h3 := runLen_le a b 11 p.1 p.2
  refine ⟨this.1, this.2, ?_⟩
  show 0 ≤ ((longV a b p.1 p.2 : Nat) : Int) ∧ ((longV a b p.1 p.2 : Nat) : Int) ≤ 11
  unfold longV
  omega

theorem one_run {a : List Int} {w h : Nat} (v : LawnV a w h) (b : Bool) {ax ay : Int} (hg : grassB a ax ay = true) :
    ∃ j, j < (runsOf a b (allC w h)).length ∧ hitR b ax ay ((runsOf a b (allC w h)).getD j (0, 0, 0)) = true ∧ ∀ i, i < (runsOf a b (allC w h)).length → hitR b ax ay ((runsOf a b (allC w h)).getD i (0, 0, 0)) = true → i = j := by
  have hgr := grass_range v.toLawnS hg
  have hwv := v.wv
  have hhv := v.hv
  have hw := v.wle
  have hh := v.hle
  have hS : (runsOf a b (allC w h)).length = ((allC w h).filter (startB a b)).length := by unfold runsOf; rw [List.length_map]
  have hget : ∀ i, i < (runsOf a b (allC w h)).length → (runsOf a b (allC w h)).getD i (0, 0, 0) = runOf a b (((allC w h).filter (startB a b)).getD i (0, 0)) := by
    intro i hi
    unfold runsOf
    rw [List.getD_eq_getElem?_getD, List.getElem?_map, List.getD_eq_getElem?_getD]
    rw [hS] at hi
    rw [List.getElem?_eq_getElem hi]
    rfl
  have hnd : ((allC w h).filter (startB a b)).Nodup := (allC_nodup w h).filter _
  obtain ⟨t, h1, h2, h3⟩ := walk_back v b 10 ax ay (by
    cases b
    · simp only [dxB, dyB, cond_false]; omega
    · simp only [dxB, dyB, cond_true]; omega) hg
  have hsin : (ax - t * dxB b, ay - t * dyB b) ∈ (allC w h).filter (startB a b) := by
    refine List.mem_filter.2 ⟨?_, h2⟩
    have := grass_range v.toLawnS (h3 t (Nat.le_refl _))
    rw [hwv, hhv] at this
    exact allC_mem.2 this
  obtain ⟨j, hj, hje⟩ := List.mem_iff_getElem.1 hsin
  have hjd : ((allC w h).filter (startB a b)).getD j (0, 0) = (ax - t * dxB b, ay - t * dyB b) := by
    rw [List.getD_eq_getElem?_getD, List.getElem?_eq_getElem hj, hje]
    rfl
  have hjl : j < (runsOf a b (allC w h)).length := by rw [hS]; exact hj
  refine ⟨j, hjl, ?_, ?_⟩
  · rw [hget j hjl, hjd]
    show hitN b ax ay (ax - t * dxB b) (ay - t * dyB b) ((longV a b (ax - t * dxB b) (ay - t * dyB b) : Nat) : Int) = true
    rw [hit_iff]
    refine ⟨t, ?_, by omega, by omega⟩
    have := runLen_ge (a := a) (b := b) 11 (ax - t * dxB b) (ay - t * dyB b) (t + 1) (by omega) (fun i hi => by
      have := h3 (t - i) (by omega)
      have e1 : ax - ((t - i : Nat) : Int) * dxB b = ax - t * dxB b + i * dxB b := by
        cases b
        · simp [dxB]
        · simp only [dxB, cond_true]; omega
      have e2 : ay - ((t - i : Nat) : Int) * dyB b = ay - t * dyB b + i * dyB b := by
        cases b
        · simp only [dyB, cond_false]; omega
        · simp [dyB]
      rw [e1, e2] at this
      exact this)
    unfold longV
    omega
  · intro i hi hit
    rw [hget i hi] at hit
    have hil : i < ((allC w h).filter (startB a b)).length := by rw [hS] at hi; exact hi
    have hsi : startB a b (((allC w h).filter (startB a b)).getD i (0, 0)) = true := (List.mem_filter.1 (getD_mem _ (0, 0) hil)).2
    have hsame : ((allC w h).filter (startB a b)).getD i (0, 0) = ((allC w h).filter (startB a b)).getD j (0, 0) := by
      rw [hjd]
      generalize ((allC w h).filter (startB a b)).getD i (0, 0) = s at hit hsi
      obtain ⟨x, y⟩ := s
      have hit : hitN b ax ay x y ((longV a b x y : Nat) : Int) = true := hit
      rw [hit_iff] at hit
      obtain ⟨u, u1, u2, u3⟩ := hit
      have hrun : ∀ m : Nat, m < longV a b x y → grassB a (x + m * dxB b) (y + m * dyB b) = true := fun m hm => runLen_grass 11 x y m hm
      unfold startB at hsi h2
      rw [Bool.and_eq_true, Bool.not_eq_true'] at hsi h2
      have htu : u = t := by
        rcases Nat.lt_trichotomy u t with hlt | he | hlt
        · exfalso
          have := h3 (u + 1) (by omega)
          have e1 : ax - ((u + 1 : Nat) : Int) * dxB b = x - dxB b := by cases b <;> simp [dxB] at u2 ⊢ <;> omega
          have e2 : ay - ((u + 1 : Nat) : Int) * dyB b = y - dyB b := by cases b <;> simp [dyB] at u3 ⊢ <;> omega
          rw [e1, e2, hsi.2] at this
          cases this
        · exact he
        · exfalso
          have := hrun (u - (t + 1)) (by omega)
          have e1 : x + ((u - (t + 1) : Nat) : Int) * dxB b = ax - t * dxB b - dxB b := by
            cases b
            · simp [dxB] at u2 ⊢; omega
            · simp only [dxB, cond_true] at u2 ⊢; omega
          have e2 : y + ((u - (t + 1) : Nat) : Int) * dyB b = ay - t * dyB b - dyB b := by
            cases b
            · simp only [dyB, cond_false] at u3 ⊢; omega
            · simp [dyB] at u3 ⊢; omega
          rw [e1, e2, h2.2] at this
          cases this
      subst htu
      rw [Prod.mk.injEq]
      constructor <;> omega
    have hgi : ((allC w h).filter (startB a b))[i]'hil = ((allC w h).filter (startB a b))[j]'hj := by
      rw [List.getD_eq_getElem?_getD, List.getD_eq_getElem?_getD, List.getElem?_eq_getElem hil, List.getElem?_eq_getElem hj] at hsame
      exact hsame
    rcases Nat.lt_trichotomy i j with hlt | he | hlt
    · exact absurd hgi (List.pairwise_iff_getElem.1 hnd i j hil hj hlt)
    · exact he
    · exact absurd hgi.symm (List.pairwise_iff_getElem.1 hnd j i hj hil hlt)

theorem stripeOf_eq (k : Nat) {a : List Int} (ha : LawnR a) {x y : Int} (hx : -128 ≤ x ∧ x < 128) (hy : -128 ≤ y ∧ y < 128) (b : Bool) (hk : 120 < k) : spec_StripeOf k a [x, y] b = impl_StripeOf k a [x, y] b ∧ ∃ r, impl_StripeOf k a [x, y] b = some r := by
  unfold spec_StripeOf impl_StripeOf
  have e0 : ([rd [x, y] 0, rd [x, y] 1] : List Int) = [x, y] := rfl
  rw [e0, show spec_l01Is k a [x, y] = some (hasB a x y) from spec_is k ha hx hy]
  simp only [Option.bind_some]
  rw [spec_told k ha (by omega), impl_cells_one k ha x y (by omega)]
  simp only [Option.bind_some]
  cases hv : lawnB a with
  | false => exact ⟨rfl, _, rfl⟩
  | true =>
    obtain ⟨w, h, v⟩ := lawnV_of ha hv
    cases hh : hasB a x y with
    | false => exact ⟨rfl, _, rfl⟩
    | true =>
      have e1 := spec_at k v.toLawnS hh
      have e2 : impl_Lawn_grass k a [x, y] = some (grassB a x y) := impl_grass k v.toLawnS x y
      simp only [cond_true, bne_self_eq_false, cond_false, beq_self_eq_true, e1, e2, Option.bind_some]
      have e3 : (kindV a x y != 0) = !(grassB a x y) := by unfold grassB; rw [hh, Bool.true_and]; rfl
      rw [e3]
      cases hg : grassB a x y with
      | false => exact ⟨rfl, _, rfl⟩
      | true =>
        have e4 : ((cond b (1 : Int) 0) != 0) = b := by cases b <;> rfl
        rw [e4]
        simp only [Bool.not_true, cond_false]
        rw [spec_runs' k v b (by omega), impl_runs k v b (by omega)]
        simp only [Option.bind_some]
        have hl : (runsOf a b (allC w h)).length ≤ 100 := Nat.le_trans (runsOf_len _ _ _) (allC_small v)
        have hok := runs_ok v b
        obtain ⟨j, j1, j2, j3⟩ := one_run v b hg
        generalize runsOf a b (allC w h) = L at hl hok j1 j2 j3 ⊢
        rw [spec_stripe_loop k b x y L hok hl (by omega), indexFunc_runs k L (fun z4 => (impl_StripeOf_1 k [(rd z4 0), (rd z4 1), (rd z4 2)] [(cond b (1 : Int) 0)] [x, y]).bind fun b => some b) (hitR b x y) (fun p hp => impl_stripe_f k b x y (hok p hp)) (by omega) (by omega)]
        simp only [Option.bind_some]
        rw [stripeN_at b x y L j j2 L.length (Nat.le_refl _) j1 j3]
        have hf : findI (hitR b x y) L 0 = (j : Int) := by
          rcases findI_spec (hitR b x y) (0, 0, 0) L 0 with ⟨h1, h2⟩ | ⟨i, h1, h2, h3, h4⟩
          · have := h2 _ (getD_mem L (0, 0, 0) j1)
            rw [this] at j2
            cases j2
          · rw [h2, j3 i h1 h3]
            omega
        rw [hf]
        exact ⟨rfl, _, rfl⟩

theorem stripeOf_true {a : List Int} (ha : LawnR a) {x y : Int} (hx : -128 ≤ x ∧ x < 128) (hy : -128 ≤ y ∧ y < 128) (b : Bool) : ∃ k, laws_FnExactStripeOf k a [x, y] b = some true := by
  obtain ⟨k, hk⟩ : ∃ k, k = 189 := ⟨_, rfl⟩
  obtain ⟨e, r, hr⟩ := stripeOf_eq (k + 11) ha hx hy b (by omega)
  refine ⟨k + 11, ?_⟩
  unfold laws_FnExactStripeOf
  have ec : laws_toCell (k + 11) [rd [x, y] 0, rd [x, y] 1] = some [x, y] := rfl
  simp only [toLawn_id k a ha.len, Option.bind_some, ec, e, hr]
  simp only [Option.bind_some, cond_false, bne_self_eq_false]

end Go.Proofs.Ytbibnmaoagcfgaa.Tt
