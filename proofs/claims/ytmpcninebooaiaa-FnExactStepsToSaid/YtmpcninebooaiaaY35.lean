/- Plain laws: the search of steps. -/
import Derived.Test.YtmpcninebooaiaaY13
import Derived.Test.YtmpcninebooaiaaY14n
import Derived.Test.YtmpcninebooaiaaY31o
import Derived.Test.YtmpcninebooaiaaY35a
set_option linter.unusedVariables false
set_option linter.unusedSimpArgs false
namespace Go.Proofs.Ytmpcninebooaiaa.Tt
open Go.Ev Go

/-! ## slices.Repeat of one number -/

set_option maxRecDepth 100000 in
theorem mul64_one : ∀ n : Nat, n < 101 → math_bits_Mul64 0 1 (n : Int) = some (0, (n : Int)) := by decide +kernel

theorem mul_one (k : Nat) {n : Nat} (h : n < 101) : math_bits_Mul k 1 (n : Int) = some (0, (n : Int)) := by
  unfold math_bits_Mul
  rw [show math_bits_Mul64 k 1 (n : Int) = math_bits_Mul64 0 1 (n : Int) from rfl, mul64_one n h]
  rfl

theorem wrapu64 {x : Int} (h : 0 ≤ x ∧ x < 18446744073709551616) : IntKind.wrap .u64 x = x := by
  simp only [IntKind.wrap, IntKind.bits, IntKind.signed]
  simp
  omega

theorem cnt1 (l : List Int) : cnt 1 l = l.length := by unfold cnt; omega

theorem copy_rep (v : Int) (n j : Nat) (hj : j ≤ n) : copyI 1 (List.replicate j v ++ List.replicate (n - j) 0) j (n - j) (List.replicate j v) = List.replicate (j + min j (n - j)) v ++ List.replicate (n - (j + min j (n - j))) 0 := by
  unfold copyI setWin
  rw [cnt1, List.length_replicate, Nat.mul_one]
  generalize hq : min j (n - j) = q
  have h1 : q ≤ j ∧ q ≤ n - j := by omega
  rw [List.take_left' (by simp), List.take_replicate, Nat.min_eq_left h1.1]
  have e1 : List.drop (j + q) (List.replicate j v ++ List.replicate (n - j) 0) = List.replicate (n - (j + q)) 0 := by
    rw [List.drop_append, List.drop_eq_nil_of_le (by simp), List.nil_append, List.length_replicate, List.drop_replicate]
    congr 1
    omega
  rw [e1, ← List.append_assoc, List.replicate_append_replicate]

theorem repeat_one (k : Nat) (v : Int) {n : Nat} (hn : 1 ≤ n ∧ n ≤ 100) (hk : 101 < k) : slices_Repeat_int64 k [v] (n : Int) = some (List.replicate n v) := by
  unfold slices_Repeat_int64
  have c1 : cnt 1 [v] = 1 := cnt1 _
  rw [c1, wrapu64 (x := ((1 : Nat) : Int)) (by omega), wrapu64 (x := (n : Int)) (by omega), show (((1 : Nat)) : Int) = 1 from rfl, mul_one k (by omega), bF (p := (n : Int) < 0) (by omega)]
  simp only [cond_false, Option.bind_some]
  rw [bF (p := (0 : Int) > 0) (by omega), bF (p := (n : Int) > 9223372036854775807) (by omega), wrap64 (x := (n : Int)) (by omega), bT (p := (0 : Int) ≤ (n : Int)) (by omega), bT (p := (n : Int) ≤ 4294967296) (by omega)]
  simp only [cond_false, beq_self_eq_true, Bool.and_true, cond_true, Int.toNat_natCast, Nat.mul_one]
  have c2 : cnt 1 (List.replicate n (0 : Int)) = n := by rw [cnt1, List.length_replicate]
  have e0 : copyI 1 (List.replicate n 0) 0 n [v] = List.replicate 1 v ++ List.replicate (n - 1) 0 := by
    unfold copyI setWin
    rw [c1, Nat.min_eq_left hn.1]
    simp
  rw [c2, e0, Nat.min_eq_left hn.1]
  unfold slices_Repeat_int64_l0
  have key := loopF_wf (R := List Int) (step := fun (rec : Int × (List Int) → Option (List Int)) (p : Int × (List Int)) => slices_Repeat_int64_s0 k (fun y2 => some y2) (fun h1 h2 => rec (h1, h2)) p.1 p.2)
    (fun s => ∃ j : Nat, 1 ≤ j ∧ j ≤ n ∧ s = ((j : Int), List.replicate j v ++ List.replicate (n - j) 0)) (fun s => n - s.1.toNat) (fun _ => some (List.replicate n v)) ?_ k (((1 : Nat) : Int), List.replicate 1 v ++ List.replicate (n - 1) 0) ⟨1, by omega, by omega, rfl⟩ (by simp only [Int.toNat_natCast]; omega)
  · exact key
  · rintro s ⟨j, h1, h2, rfl⟩ rec hrec
    dsimp only
    unfold slices_Repeat_int64_s0
    have hl : cnt 1 (List.replicate j v ++ List.replicate (n - j) 0) = n := by rw [cnt1]; simp; omega
    rw [hl]
    by_cases hj : j = n
    · subst hj
      rw [bF (p := (j : Int) < (j : Int)) (by omega)]
      simp
    · have hw : win (List.replicate j v ++ List.replicate (n - j) 0) 0 (j * 1) = List.replicate j v := by
        unfold win
        rw [List.drop_zero, Nat.mul_one, List.take_left' (by simp)]
      simp only [Int.toNat_natCast]
      rw [hw, cnt1, List.length_replicate, Nat.mul_one, copy_rep v n j h2, bT (p := (j : Int) < (n : Int)) (by omega), bT (p := (0 : Int) ≤ (j : Int)) (by omega), bT (p := (j : Int) ≤ (n : Int)) (by omega), wrap64 (by omega)]
      simp only [Bool.and_true, cond_true]
      have e1 : (j : Int) + ((min j (n - j) : Nat) : Int) = ((j + min j (n - j) : Nat) : Int) := by omega
      rw [e1]
      exact hrec _ ⟨j + min j (n - j), by omega, by omega, rfl⟩ (by simp only [Int.toNat_natCast]; omega)

/-! ## The search -/

def ix (p : Int × Int) : Nat := p.2.toNat * 10 + p.1.toNat

/-- A look at a cell beside u: if it is open and new, it is told one step more and goes to the end of the queue. -/
def vis (a : List Int) (u : Int × Int) (s : List Int × List (Int × Int)) (c : Int × Int) : List Int × List (Int × Int) :=
  cond (openP a c && decide (rd s.1 (ix c) < 0)) (List.set s.1 (ix c) (IntKind.wrap .i64 (rd s.1 (ix u) + 1)), s.2 ++ [c]) s

theorem rd_set4 (l : List Int) (i j : Nat) (v : Int) : rd (List.set l i v) j = if i = j ∧ i < l.length then v else rd l j := by
  unfold rd
  rw [List.getD_eq_getElem?_getD, List.getD_eq_getElem?_getD, List.getElem?_set]
  by_cases h : i = j
  · subst h
    by_cases h2 : i < l.length
    · simp [h2]
    · simp [h2]
  · simp [h]

def negs (w h : Nat) (S : List Int) : Nat := ((allC w h).filter fun p => decide (rd S (ix p) < 0)).length

structure BI (a : List Int) (w h : Nat) (S : List Int) (Q : List (Int × Int)) : Prop where
  len : S.length = 100
  low : ∀ j, -1 ≤ rd S j
  high : ∀ j, rd S j < (Q.length : Int)
  qin : ∀ p ∈ Q, openP a p = true ∧ 0 ≤ rd S (ix p)
  few : negs w h S + Q.length ≤ 101

theorem open_in {a : List Int} {w h : Nat} (v : LawnV a w h) {p : Int × Int} (hp : openP a p = true) : p ∈ allC w h ∧ (0 ≤ p.1 ∧ p.1 < 10) ∧ (0 ≤ p.2 ∧ p.2 < 10) := by
  unfold openP openB at hp
  rw [Bool.and_eq_true] at hp
  obtain ⟨h1, h2, h3, h4⟩ := hasB_true hp.1
  rw [v.wv, v.hv] at *
  have := v.wle
  have := v.hle
  exact ⟨allC_mem.2 ⟨h1, by omega, h3, by omega⟩, by omega, by omega⟩

theorem vis_BI {a : List Int} {w h : Nat} (v : LawnV a w h) {S : List Int} {Q : List (Int × Int)} (b : BI a w h S Q) {u : Int × Int} (hu : u ∈ Q) (c : Int × Int) : BI a w h (vis a u (S, Q) c).1 (vis a u (S, Q) c).2 := by
  unfold vis
  cases hq : (openP a c && decide (rd S (ix c) < 0)) with
  | false => exact b
  | true =>
    rw [Bool.and_eq_true, decide_eq_true_eq] at hq
    obtain ⟨ho, hneg⟩ := hq
    obtain ⟨hin, hx, hy⟩ := open_in v ho
    have hu1 := (b.qin u hu).2
    have hu2 := b.high (ix u)
    have hfew := b.few
    have hix : ix c < 100 := by unfold ix; omega
    have hval : IntKind.wrap .i64 (rd S (ix u) + 1) = rd S (ix u) + 1 := wrap64 (by omega)
    simp only [cond_true, hval]
    have hlt : negs w h (List.set S (ix c) (rd S (ix u) + 1)) < negs w h S := by
      unfold negs
      refine filter_lt _ _ _ ?_ ⟨c, hin, by simpa using hneg, ?_⟩
      · intro p _ hp
        rw [rd_set4] at hp
        split at hp
        · simp at hp; omega
        · exact hp
      · rw [rd_set4, if_pos ⟨rfl, by rw [b.len]; exact hix⟩]
        simp
        omega
    refine ⟨by rw [List.length_set]; exact b.len, fun j => ?_, fun j => ?_, fun p hp => ?_, by rw [List.length_append]; simp only [List.length_cons, List.length_nil]; omega⟩
    · rw [rd_set4]
      have := b.low j
      split <;> omega
    · rw [rd_set4, List.length_append]
      have := b.high j
      simp only [List.length_cons, List.length_nil]
      split <;> omega
    · rw [List.mem_append, List.mem_singleton] at hp
      rw [rd_set4]
      rcases hp with hp | rfl
      · obtain ⟨h1, h2⟩ := b.qin p hp
        refine ⟨h1, ?_⟩
        split <;> omega
      · refine ⟨ho, ?_⟩
        rw [if_pos ⟨rfl, by rw [b.len]; exact hix⟩]
        omega

/-- The queue only grows. -/
theorem vis_grow (a : List Int) (u c : Int × Int) (s : List Int × List (Int × Int)) : ∃ r, (vis a u s c).2 = s.2 ++ r := by
  unfold vis
  cases (openP a c && decide (rd s.1 (ix c) < 0)) with
  | false => exact ⟨[], by simp⟩
  | true => exact ⟨[c], rfl⟩

theorem visL_BI {a : List Int} {w h : Nat} (v : LawnV a w h) {u : Int × Int} : ∀ (L : List (Int × Int)) (S : List Int) (Q : List (Int × Int)), BI a w h S Q → u ∈ Q → BI a w h (L.foldl (vis a u) (S, Q)).1 (L.foldl (vis a u) (S, Q)).2 ∧ ∃ r, (L.foldl (vis a u) (S, Q)).2 = Q ++ r := by
  intro L
  induction L with
  | nil => intro S Q b _; exact ⟨b, [], by simp⟩
  | cons c r ih =>
    intro S Q b hu
    rw [List.foldl_cons]
    have hb := vis_BI v b hu c
    obtain ⟨t, ht⟩ := vis_grow a u c (S, Q)
    have hu2 : u ∈ (vis a u (S, Q) c).2 := by rw [ht]; exact List.mem_append_left _ hu
    obtain ⟨h1, t2, ht2⟩ := ih _ _ hb hu2
    exact ⟨h1, t ++ t2, by rw [ht2, ht, List.append_assoc]⟩

theorem vis_few {a : List Int} {w h : Nat} (v : LawnV a w h) {S : List Int} {Q : List (Int × Int)} (b : BI a w h S Q) {u : Int × Int} (hu : u ∈ Q) (c : Int × Int) : negs w h (vis a u (S, Q) c).1 + (vis a u (S, Q) c).2.length ≤ negs w h S + Q.length := by
  unfold vis
  cases hq : (openP a c && decide (rd S (ix c) < 0)) with
  | false => exact Nat.le_refl _
  | true =>
    rw [Bool.and_eq_true, decide_eq_true_eq] at hq
    obtain ⟨ho, hneg⟩ := hq
    obtain ⟨hin, hx, hy⟩ := open_in v ho
    have hu1 := (b.qin u hu).2
    have hu2 := b.high (ix u)
    have hfew := b.few
    have hix : ix c < 100 := by unfold ix; omega
    have hval : IntKind.wrap .i64 (rd S (ix u) + 1) = rd S (ix u) + 1 := wrap64 (by omega)
    simp only [cond_true, hval]
    have hlt : negs w h (List.set S (ix c) (rd S (ix u) + 1)) < negs w h S := by
      unfold negs
      refine filter_lt _ _ _ ?_ ⟨c, hin, by simpa using hneg, ?_⟩
      · intro p _ hp
        rw [rd_set4] at hp
        split at hp
        · simp at hp; omega
        · exact hp
      · rw [rd_set4, if_pos ⟨rfl, by rw [b.len]; exact hix⟩]
        simp
        omega
    rw [List.length_append]
    simp only [List.length_cons, List.length_nil]
    omega

theorem visL_few {a : List Int} {w h : Nat} (v : LawnV a w h) {u : Int × Int} : ∀ (L : List (Int × Int)) (S : List Int) (Q : List (Int × Int)), BI a w h S Q → u ∈ Q → negs w h (L.foldl (vis a u) (S, Q)).1 + (L.foldl (vis a u) (S, Q)).2.length ≤ negs w h S + Q.length := by
  intro L
  induction L with
  | nil => intro S Q _ _; exact Nat.le_refl _
  | cons c r ih =>
    intro S Q b hu
    rw [List.foldl_cons]
    have hb := vis_BI v b hu c
    obtain ⟨t, ht⟩ := vis_grow a u c (S, Q)
    have hu2 : u ∈ (vis a u (S, Q) c).2 := by rw [ht]; exact List.mem_append_left _ hu
    exact Nat.le_trans (ih _ _ hb hu2) (vis_few v b hu c)

theorem getD_app {α : Type} (Q r : List α) (d : α) {i : Nat} (h : i < Q.length) : (Q ++ r).getD i d = Q.getD i d := by
  rw [List.getD_eq_getElem?_getD, List.getD_eq_getElem?_getD, List.getElem?_append_left h]

/-! ## The reference's search -/

theorem spec_beside_cells (k : Nat) {a : List Int} {w h : Nat} (v : LawnV a w h) {x y : Int} (hx : -128 ≤ x ∧ x < 128) (hy : -128 ≤ y ∧ y < 128) (hk : 5 < k) : spec_l01Beside k a [x, y] = some (fl ((nbrs x y).filter fun p => hasB a p.1 p.2)) := by
  unfold spec_l01Beside
  rw [show ([(rd [x, y] 0), (IntKind.wrap .i8 ((rd [x, y] 1) - 1)), (IntKind.wrap .i8 ((rd [x, y] 0) - 1)), (rd [x, y] 1), (IntKind.wrap .i8 ((rd [x, y] 0) + 1)), (rd [x, y] 1), (rd [x, y] 0), (IntKind.wrap .i8 ((rd [x, y] 1) + 1))] : List Int) = fl (nbrs x y) from rfl]
  have hl4 : (nbrs x y).length = 4 := rfl
  unfold spec_l01Beside_l0
  have := loopF_go (R := List Int) (step := fun (rec : (List Int) × Int × (List Int) × (List Int) → Option (List Int)) (p : (List Int) × Int × (List Int) × (List Int)) => spec_l01Beside_s0 k (fun y1 => some y1) (fun h1 h2 h3 h4 => rec (h1, h2, h3, h4)) p.1 p.2.1 p.2.2.1 p.2.2.2)
    (fun i => (a, (i : Int), fl (nbrs x y), fl (((nbrs x y).take i).filter fun p => hasB a p.1 p.2))) (fun _ _ => some (fl ((nbrs x y).filter fun p => hasB a p.1 p.2))) (nbrs x y).length ?_ ?_ 4 0 k rfl (by omega)
  · exact this
  · intro rec
    dsimp only
    unfold spec_l01Beside_s0
    simp (disch := omega) only [cnt_fl, bF, cond_false, List.take_length]
  · intro i m hi rec hrec
    dsimp only at hrec ⊢
    unfold spec_l01Beside_s0
    have hil : i < (nbrs x y).length := by omega
    have hr := nbrs_range hx hy _ (getD_mem (nbrs x y) (0, 0) hil)
    have hlen : (fl (((nbrs x y).take i).filter fun p => hasB a p.1 p.2)).length ≤ 20 := by
      rw [fl_length]
      have h1 := List.length_filter_le (fun p => hasB a p.1 p.2) ((nbrs x y).take i)
      rw [List.length_take] at h1
      omega
    rw [take_getD _ (0, 0) hil, List.filter_append, fl_append] at hrec
    simp only [cnt_fl, Int.toNat_natCast, fl_x, fl_y]
    generalize (nbrs x y).getD i (0, 0) = p at hr hrec ⊢
    generalize fl (((nbrs x y).take i).filter fun p => hasB a p.1 p.2) = o at hlen hrec ⊢
    have hb : decide (o.length + 2 ≤ bigLen) = true := bT (by rw [bigLen_val]; omega)
    rw [show spec_l01Is k a [p.1, p.2] = some (hasB a p.1 p.2) from spec_is k v.toLawnR hr.1 hr.2, wrap64 (x := (i : Int) + 1) (by omega), bT (p := (i : Int) < ((nbrs x y).length : Int)) (by omega), bT (p := (0 : Int) ≤ (i : Int)) (by omega)]
    simp only [cond_true, Bool.and_true, Option.bind_some, hb]
    cases hq : hasB a p.1 p.2 with
    | true =>
      simp only [List.filter_cons, hq, if_true, List.filter_nil] at hrec
      simp only [cond_true]
      exact hrec
    | false =>
      simp only [List.filter_cons, hq, Bool.false_eq_true, if_false, List.filter_nil] at hrec
      simp only [cond_false]
      rw [show fl ([] : List (Int × Int)) = [] from rfl, List.append_nil] at hrec
      exact hrec

theorem spec_openL (k : Nat) {a : List Int} (ha : LawnS a) {p : Int × Int} (h : hasB a p.1 p.2 = true) : spec_l01Open k a [p.1, p.2] = some (openP a p) := by
  unfold spec_l01Open openP openB
  rw [show spec_l01At k a [rd [p.1, p.2] 0, rd [p.1, p.2] 1] = some (kindV a p.1 p.2) from spec_at k ha h, h]
  simp only [Option.bind_some, Bool.true_and]
  cases (kindV a p.1 p.2 == 0) <;> rfl

theorem spec_look {R : Type} (k : Nat) (K1 : (List Int) → Bool → Int → (List Int) → (List Int) → (List Int) → Option R) {a : List Int} {w h : Nat} (v : LawnV a w h) (z S : List Int) (Q : List (Int × Int)) (i : Nat) (hi : i < Q.length) (b : BI a w h S Q) (L : List (Int × Int)) (hL : ∀ p ∈ L, hasB a p.1 p.2 = true) (hl : L.length ≤ 4) (hk : 5 < k) :
    spec_l01Reach_l2 k K1 a false (i : Int) 0 z S (fl Q) (fl L) = K1 a false i z (L.foldl (vis a (Q.getD i (0, 0))) (S, Q)).1 (fl (L.foldl (vis a (Q.getD i (0, 0))) (S, Q)).2) := by
  have hu : Q.getD i (0, 0) ∈ Q := getD_mem Q (0, 0) hi
  generalize hug : Q.getD i (0, 0) = u at hu
  unfold spec_l01Reach_l2
  refine loopF_go (R := R) (step := fun (rec : (List Int) × Bool × Int × Int × (List Int) × (List Int) × (List Int) × (List Int) → Option R) (p : (List Int) × Bool × Int × Int × (List Int) × (List Int) × (List Int) × (List Int)) => spec_l01Reach_s2 k K1 (fun h1 h2 h3 h4 h5 h6 h7 h8 => rec (h1, h2, h3, h4, h5, h6, h7, h8)) p.1 p.2.1 p.2.2.1 p.2.2.2.1 p.2.2.2.2.1 p.2.2.2.2.2.1 p.2.2.2.2.2.2.1 p.2.2.2.2.2.2.2)
    (fun j => (a, false, (i : Int), (j : Int), z, ((L.take j).foldl (vis a u) (S, Q)).1, fl ((L.take j).foldl (vis a u) (S, Q)).2, fl L)) (fun _ _ => K1 a false i z (L.foldl (vis a u) (S, Q)).1 (fl (L.foldl (vis a u) (S, Q)).2)) L.length ?_ ?_ L.length 0 k (by omega) (by omega)
  · intro rec
    dsimp only
    unfold spec_l01Reach_s2
    simp (disch := omega) only [cnt_fl, bF, cond_false, List.take_length]
  · intro j m hj rec hrec
    dsimp only at hrec ⊢
    unfold spec_l01Reach_s2
    have hjl : j < L.length := by omega
    have hh := hL _ (getD_mem L (0, 0) hjl)
    obtain ⟨b2, r, hr⟩ := visL_BI v (L.take j) S Q b hu
    rw [take_getD _ (0, 0) hjl, List.foldl_append, List.foldl_cons, List.foldl_nil] at hrec
    have hi2 : i < ((L.take j).foldl (vis a u) (S, Q)).2.length := by rw [hr, List.length_append]; omega
    have hq2 : (((L.take j).foldl (vis a u) (S, Q)).2).getD i (0, 0) = u := by rw [hr, getD_app Q r _ hi, hug]
    have huq : u ∈ ((L.take j).foldl (vis a u) (S, Q)).2 := by rw [hr]; exact List.mem_append_left _ hu
    simp only [cnt_fl, Int.toNat_natCast, fl_x, fl_y, hq2]
    generalize L.getD j (0, 0) = c at hh hrec ⊢
    generalize (L.take j).foldl (vis a u) (S, Q) = s at hrec b2 hi2 huq ⊢
    have hfew := b2.few
    obtain ⟨_, hux, huy⟩ := open_in v (b2.qin u huq).1
    have hc := hasB_true hh
    rw [v.wv, v.hv] at hc
    have hwl := v.wle
    have hhl := v.hle
    have hb : decide ((fl s.2).length + 2 ≤ bigLen) = true := bT (by rw [bigLen_val, fl_length]; omega)
    rw [spec_openL k v.toLawnS hh, wrap64 (x := (j : Int) + 1) (by omega), bT (p := (j : Int) < (L.length : Int)) (by omega), bT (p := (0 : Int) ≤ (j : Int)) (by omega), bT (p := (0 : Int) ≤ (i : Int)) (by omega), bT (p := (i : Int) < (s.2.length : Int)) (by omega), bT (p := 0 ≤ c.2) (by omega), bT (p := c.2 < 10) (by omega), bT (p := 0 ≤ c.1) (by omega), bT (p := c.1 < 10) (by omega), bT (p := 0 ≤ u.2) (by omega), bT (p := u.2 < 10) (by omega), bT (p := 0 ≤ u.1) (by omega), bT (p := u.1 < 10) (by omega)]
    simp only [cond_true, cond_false, Bool.and_true, Option.bind_some, hb, Nat.zero_add, Nat.mul_one]
    rw [show c.2.toNat * 10 + c.1.toNat = ix c from rfl, show u.2.toNat * 10 + u.1.toNat = ix u from rfl]
    unfold vis at hrec
    cases ho : openP a c with
    | false => rw [ho] at hrec; simp only [Bool.not_false, cond_true, Bool.false_and, cond_false] at hrec ⊢; exact hrec
    | true =>
      rw [ho] at hrec
      simp only [Bool.not_true, cond_false, Bool.true_and] at hrec ⊢
      by_cases hn : rd s.1 (ix c) < 0
      · rw [bT hn] at hrec
        rw [bF (p := rd s.1 (ix c) ≥ 0) (by omega)]
        simp only [cond_true, cond_false] at hrec ⊢
        rw [fl_append] at hrec
        exact hrec
      · rw [bF hn] at hrec
        rw [bT (p := rd s.1 (ix c) ≥ 0) (by omega)]
        simp only [cond_true, cond_false] at hrec ⊢
        exact hrec

theorem vis_has (a : List Int) (u : Int × Int) : ∀ (L : List (Int × Int)) (s : List Int × List (Int × Int)), (L.filter fun p => hasB a p.1 p.2).foldl (vis a u) s = L.foldl (vis a u) s := by
  intro L
  induction L with
  | nil => intro s; rfl
  | cons c r ih =>
    intro s
    rw [List.filter_cons]
    cases hh : hasB a c.1 c.2 with
    | true => simp only [if_true, List.foldl_cons]; exact ih _
    | false =>
      have hv : vis a u s c = s := by
        unfold vis openP openB
        rw [hh]
        rfl
      simp only [Bool.false_eq_true, if_false, List.foldl_cons, hv]
      exact ih _

/-! ## The program's search -/

/-- What the program keeps of steps: a number for each cell of the lawn. -/
def tabV (w h : Nat) (S : List Int) : List Int := (allC w h).map fun p => rd S (ix p)

theorem tabV_len (w h : Nat) (S : List Int) : (tabV w h S).length = h * w := by unfold tabV; rw [List.length_map, allC_length]

theorem allC_get (w : Nat) : ∀ (h : Nat) (x y : Nat), x < w → y < h → (allC w h)[y * w + x]? = some ((x : Int), (y : Int)) := by
  intro h
  induction h with
  | zero => intro x y _ hy; omega
  | succ h ih =>
    intro x y hx hy
    rw [allC_succ]
    by_cases e : y = h
    · subst e
      rw [List.getElem?_append_right (by rw [allC_length]; omega), allC_length]
      have : y * w + x - y * w = x := by omega
      rw [this]
      simp [rowC, hx]
    · rw [List.getElem?_append_left (by
        rw [allC_length]
        have := Nat.mul_le_mul_right w (show y + 1 ≤ h by omega)
        rw [Nat.succ_mul] at this
        omega)]
      exact ih x y hx (by omega)

theorem rd_some {l : List Int} {i : Nat} {n : Int} (h : l[i]? = some n) : rd l i = n := by
  unfold rd
  rw [List.getD_eq_getElem?_getD, h]
  rfl

theorem tabV_get {w h : Nat} (S : List Int) {p : Int × Int} (hp : p ∈ allC w h) : rd (tabV w h S) (p.2.toNat * w + p.1.toNat) = rd S (ix p) := by
  have hm := allC_mem.1 hp
  obtain ⟨x, y⟩ := p
  simp only at hm
  have hg := allC_get w h x.toNat y.toNat (by omega) (by omega)
  have e1 : ((x.toNat : Nat) : Int) = x := by omega
  have e2 : ((y.toNat : Nat) : Int) = y := by omega
  rw [e1, e2] at hg
  refine rd_some ?_
  unfold tabV
  rw [List.getElem?_map, hg]
  rfl

theorem tabV_set {w h : Nat} (hw : w ≤ 10) (hh : h ≤ 10) (S : List Int) (hS : S.length = 100) {c : Int × Int} (hc : c ∈ allC w h) (n : Int) : List.set (tabV w h S) (c.2.toNat * w + c.1.toNat) n = tabV w h (List.set S (ix c) n) := by
  have hm := allC_mem.1 hc
  apply List.ext_getElem?
  intro j
  rw [List.getElem?_set]
  unfold tabV
  rw [List.getElem?_map, List.getElem?_map, List.length_map, allC_length]
  have hcix : ix c < 100 := by unfold ix; omega
  have hcpos : c.2.toNat * w + c.1.toNat < h * w := by
    have := Nat.mul_le_mul_right w (show c.2.toNat + 1 ≤ h by omega)
    rw [Nat.succ_mul] at this
    omega
  rcases Nat.lt_or_ge j (h * w) with hj | hj
  · have hjl : j < (allC w h).length := by rw [allC_length]; exact hj
    have hmem := List.getElem_mem hjl
    have hmj := allC_mem.1 hmem
    rw [List.getElem?_eq_getElem hjl]
    simp only [Option.map_some]
    rw [rd_set4, hS]
    have hw0 : 0 < w := by omega
    have hg := allC_get w h (j % w) (j / w) (Nat.mod_lt _ hw0) (by rw [Nat.div_lt_iff_lt_mul hw0]; exact hj)
    have hdm : j / w * w + j % w = j := by rw [Nat.mul_comm]; exact Nat.div_add_mod j w
    rw [hdm, List.getElem?_eq_getElem hjl] at hg
    injection hg with hg
    have hmod := Nat.mod_lt j hw0
    by_cases e : c.2.toNat * w + c.1.toNat = j
    · rw [if_pos e, if_pos hcpos]
      have hgc := allC_get w h c.1.toNat c.2.toNat (by omega) (by omega)
      rw [e, List.getElem?_eq_getElem hjl] at hgc
      injection hgc with hgc
      rw [if_pos]
      refine ⟨?_, hcix⟩
      rw [hgc]
      unfold ix
      simp only [Int.toNat_natCast]
    · rw [if_neg e, if_neg]
      rintro ⟨h1, _⟩
      apply e
      unfold ix at h1
      have hx : (allC w h)[j].1 = c.1 := by omega
      have hy : (allC w h)[j].2 = c.2 := by omega
      rw [hg] at hx hy
      simp only at hx hy
      rw [← hx, ← hy, Int.toNat_natCast, Int.toNat_natCast]
      exact hdm
  · rw [List.getElem?_eq_none (by rw [allC_length]; exact hj), if_neg (by omega)]
    rfl

theorem impl_index (k : Nat) {a : List Int} {w h : Nat} (v : LawnV a w h) {p : Int × Int} (hp : p ∈ allC w h) : impl_Lawn_index k a [p.1, p.2] = some (((p.2.toNat * w + p.1.toNat : Nat)) : Int) := by
  have hm := allC_mem.1 hp
  have hw := v.wle
  have hh := v.hle
  unfold impl_Lawn_index
  rw [v.wv, show rd [p.1, p.2] 0 = p.1 from rfl, show rd [p.1, p.2] 1 = p.2 from rfl]
  obtain ⟨x, y⟩ := p
  simp only at hm ⊢
  obtain ⟨m, rfl⟩ : ∃ m : Nat, x = (m : Int) := ⟨x.toNat, by omega⟩
  obtain ⟨n, rfl⟩ : ∃ n : Nat, y = (n : Int) := ⟨y.toNat, by omega⟩
  have hb : n * w ≤ 100 := by
    have := Nat.mul_le_mul (show n ≤ 10 by omega) hw
    omega
  have e : (n : Int) * (w : Int) = ((n * w : Nat) : Int) := by rw [Int.natCast_mul]
  rw [wrap64 (x := (n : Int)) (by omega), wrap64 (x := (w : Int)) (by omega), wrap64 (x := (m : Int)) (by omega), e, wrap64 (x := ((n * w : Nat) : Int)) (by omega), wrap64 (by omega)]
  simp only [Int.toNat_natCast]
  rw [Int.natCast_add]

theorem impl_look {R : Type} (k : Nat) (K1 : (List Int → Option Bool) → (List Int) → (List Int) → (List Int) → Option R) {a : List Int} {w h : Nat} (v : LawnV a w h) (f : List Int → Option Bool) (hf : ∀ p : Int × Int, f [p.1, p.2] = some (openP a p)) (S : List Int) (Q : List (Int × Int)) (i : Nat) (hi : i < Q.length) (b : BI a w h S Q) (L : List (Int × Int)) (hl : L.length ≤ 4) (hk : 5 < k) :
    impl_Lawn_steps_l0 k K1 f (L.length : Int) 0 a (tabV w h S) (fl (Q.drop i)) (fl L) = K1 f a (tabV w h (L.foldl (vis a (Q.getD i (0, 0))) (S, Q)).1) (fl ((L.foldl (vis a (Q.getD i (0, 0))) (S, Q)).2.drop i)) := by
  have hu : Q.getD i (0, 0) ∈ Q := getD_mem Q (0, 0) hi
  generalize hug : Q.getD i (0, 0) = u at hu
  unfold impl_Lawn_steps_l0
  refine loopF_go (R := R) (step := fun (rec : (List Int → Option Bool) × Int × Int × (List Int) × (List Int) × (List Int) × (List Int) → Option R) (p : (List Int → Option Bool) × Int × Int × (List Int) × (List Int) × (List Int) × (List Int)) => impl_Lawn_steps_s0 k K1 (fun h1 h2 h3 h4 h5 h6 h7 => rec (h1, h2, h3, h4, h5, h6, h7)) p.1 p.2.1 p.2.2.1 p.2.2.2.1 p.2.2.2.2.1 p.2.2.2.2.2.1 p.2.2.2.2.2.2)
    (fun j => (f, (L.length : Int), (j : Int), a, tabV w h ((L.take j).foldl (vis a u) (S, Q)).1, fl (((L.take j).foldl (vis a u) (S, Q)).2.drop i), fl L)) (fun _ _ => K1 f a (tabV w h (L.foldl (vis a u) (S, Q)).1) (fl ((L.foldl (vis a u) (S, Q)).2.drop i))) L.length ?_ ?_ L.length 0 k (by omega) (by omega)
  · intro rec
    dsimp only
    unfold impl_Lawn_steps_s0
    simp (disch := omega) only [bF, cond_false, List.take_length]
  · intro j m hj rec hrec
    dsimp only at hrec ⊢
    unfold impl_Lawn_steps_s0
    have hjl : j < L.length := by omega
    obtain ⟨b2, r, hr⟩ := visL_BI v (L.take j) S Q b hu
    rw [take_getD _ (0, 0) hjl, List.foldl_append, List.foldl_cons, List.foldl_nil] at hrec
    have hi2 : i < ((L.take j).foldl (vis a u) (S, Q)).2.length := by rw [hr, List.length_append]; omega
    have hq2 : (((L.take j).foldl (vis a u) (S, Q)).2).getD i (0, 0) = u := by rw [hr, getD_app Q r _ hi, hug]
    have huq : u ∈ ((L.take j).foldl (vis a u) (S, Q)).2 := by rw [hr]; exact List.mem_append_left _ hu
    simp only [cnt_fl, Int.toNat_natCast, fl_x, fl_y]
    generalize L.getD j (0, 0) = c at hrec ⊢
    generalize (L.take j).foldl (vis a u) (S, Q) = s at hrec b2 hi2 hq2 huq ⊢
    have hfew := b2.few
    obtain ⟨huin, hux, huy⟩ := open_in v (b2.qin u huq).1
    have hum := allC_mem.1 huin
    have hwl := v.wle
    have hhl := v.hle
    rw [impl_has, show ((decide (0 ≤ c.1) && decide (c.1 < rd a 0)) && (decide (0 ≤ c.2) && decide (c.2 < rd a 1))) = hasB a c.1 c.2 from rfl, hf c, wrap64 (x := (j : Int) + 1) (by omega), bT (p := (j : Int) < (L.length : Int)) (by omega), bT (p := (0 : Int) ≤ (j : Int)) (by omega)]
    simp only [cond_true, Bool.and_true, Option.bind_some]
    unfold vis at hrec
    cases hh : hasB a c.1 c.2 with
    | false =>
      have ho : openP a c = false := by unfold openP openB; rw [hh]; rfl
      rw [ho] at hrec
      simp only [Bool.false_and, cond_false] at hrec ⊢
      exact hrec
    | true =>
      simp only [cond_true]
      cases ho : openP a c with
      | false => rw [ho] at hrec; simp only [Bool.false_and, cond_false] at hrec ⊢; exact hrec
      | true =>
        rw [ho] at hrec
        obtain ⟨hcin, hcx, hcy⟩ := open_in v ho
        have hcm := allC_mem.1 hcin
        have hcpos : c.2.toNat * w + c.1.toNat < h * w := by
          have := Nat.mul_le_mul_right w (show c.2.toNat + 1 ≤ h by omega)
          rw [Nat.succ_mul] at this
          omega
        have hupos : u.2.toNat * w + u.1.toNat < h * w := by
          have := Nat.mul_le_mul_right w (show u.2.toNat + 1 ≤ h by omega)
          rw [Nat.succ_mul] at this
          omega
        rw [impl_index k v hcin]
        simp only [Option.bind_some, cond_true, Bool.true_and, Int.toNat_natCast, Nat.mul_one] at hrec ⊢
        rw [cnt1, tabV_len, bT (p := (0 : Int) ≤ ((c.2.toNat * w + c.1.toNat : Nat) : Int)) (by omega), bT (p := ((c.2.toNat * w + c.1.toNat : Nat) : Int) < ((h * w : Nat) : Int)) (by omega)]
        simp only [Bool.and_true, cond_true, tabV_get s.1 hcin]
        have hdl : (s.2.drop i).length = s.2.length - i := List.length_drop
        have hd0 : s.2.drop i = u :: s.2.drop (i + 1) := by rw [drop_getD s.2 (0, 0) hi2, hq2]
        have hc2 : cnt 2 (fl (s.2.drop i)) = s.2.length - i := by rw [cnt_fl, hdl]
        have hu0 : rd (fl (s.2.drop i)) 0 = u.1 := by rw [hd0]; rfl
        have hu1 : rd (fl (s.2.drop i)) 1 = u.2 := by rw [hd0]; rfl
        have hb : decide ((fl (s.2.drop i)).length + 2 ≤ bigLen) = true := bT (by rw [bigLen_val, fl_length, hdl]; omega)
        cases hn : decide (rd s.1 (ix c) < 0) with
        | false => rw [hn] at hrec; simp only [cond_false] at hrec ⊢; exact hrec
        | true =>
          rw [hn] at hrec
          simp only [cond_true] at hrec ⊢
          rw [hdl, bT (p := (0 : Int) < ((s.2.length - i : Nat) : Int)) (by omega)]
          simp only [cond_true, hu0, hu1]
          rw [impl_index k v huin]
          simp only [Option.bind_some, Int.toNat_natCast]
          rw [bT (p := (0 : Int) ≤ ((u.2.toNat * w + u.1.toNat : Nat) : Int)) (by omega), bT (p := ((u.2.toNat * w + u.1.toNat : Nat) : Int) < ((h * w : Nat) : Int)) (by omega)]
          simp only [Bool.and_true, cond_true, hb, tabV_get s.1 huin]
          rw [tabV_set hwl hhl s.1 b2.len hcin]
          have hdrop : (s.2 ++ [c]).drop i = s.2.drop i ++ [c] := List.drop_append_of_le_length (by omega)
          rw [hdrop, fl_append] at hrec
          exact hrec

/-! ## Both -/

theorem search_both (k : Nat) (hk : 101 < k) {R R' : Type} (K1 : (List Int) → (List Int) → Option R) (K1' : (List Int) → Option R') {a : List Int} {w h : Nat} (v : LawnV a w h) (f : List Int → Option Bool) (hf : ∀ p : Int × Int, f [p.1, p.2] = some (openP a p)) (z : List Int) : ∀ (m : Nat) (S : List Int) (Q : List (Int × Int)) (i : Nat), i ≤ Q.length → BI a w h S Q → negs w h S + Q.length ≤ i + m →
    ∃ S' : List Int, S'.length = 100 ∧ (∀ j, -1 ≤ rd S' j ∧ rd S' j ≤ 1000) ∧
      (∀ n, m < n → loopF (fun (rec : (List Int) × Bool × Int × (List Int) × (List Int) × (List Int) → Option R) (p : (List Int) × Bool × Int × (List Int) × (List Int) × (List Int)) => spec_l01Reach_s3 k K1 (fun h1 h2 h3 h4 h5 h6 => rec (h1, h2, h3, h4, h5, h6)) p.1 p.2.1 p.2.2.1 p.2.2.2.1 p.2.2.2.2.1 p.2.2.2.2.2) n (a, false, (i : Int), z, S, fl Q) = K1 z S') ∧
      (∀ n, m < n → loopF (fun (rec : (List Int → Option Bool) × (List Int) × (List Int) × (List Int) → Option R') (p : (List Int → Option Bool) × (List Int) × (List Int) × (List Int)) => impl_Lawn_steps_s1 k K1' (fun h1 h2 h3 h4 => rec (h1, h2, h3, h4)) p.1 p.2.1 p.2.2.1 p.2.2.2) n (f, a, tabV w h S, fl (Q.drop i)) = K1' (tabV w h S')) := by
  intro m
  induction m with
  | zero =>
    intro S Q i hi b hm
    have hiq : i = Q.length := by omega
    have hfew := b.few
    refine ⟨S, b.len, fun j => ⟨b.low j, by have := b.high j; omega⟩, ?_, ?_⟩
    · intro n hn
      obtain ⟨n, rfl⟩ : ∃ g, n = g + 1 := ⟨n - 1, by omega⟩
      rw [loopF]
      dsimp only
      unfold spec_l01Reach_s3
      simp (disch := omega) only [cnt_fl, bF, cond_false]
    · intro n hn
      obtain ⟨n, rfl⟩ : ∃ g, n = g + 1 := ⟨n - 1, by omega⟩
      rw [loopF]
      dsimp only
      unfold impl_Lawn_steps_s1
      rw [cnt_fl, List.length_drop, bF (p := ((Q.length - i : Nat) : Int) > 0) (by omega)]
      rfl
  | succ m ih =>
    intro S Q i hi b hm
    have hfew := b.few
    by_cases hiq : i = Q.length
    · refine ⟨S, b.len, fun j => ⟨b.low j, by have := b.high j; omega⟩, ?_, ?_⟩
      · intro n hn
        obtain ⟨n, rfl⟩ : ∃ g, n = g + 1 := ⟨n - 1, by omega⟩
        rw [loopF]
        dsimp only
        unfold spec_l01Reach_s3
        simp (disch := omega) only [cnt_fl, bF, cond_false]
      · intro n hn
        obtain ⟨n, rfl⟩ : ∃ g, n = g + 1 := ⟨n - 1, by omega⟩
        rw [loopF]
        dsimp only
        unfold impl_Lawn_steps_s1
        rw [cnt_fl, List.length_drop, bF (p := ((Q.length - i : Nat) : Int) > 0) (by omega)]
        rfl
    · have hil : i < Q.length := by omega
      have hu := getD_mem Q (0, 0) hil
      obtain ⟨huin, hux, huy⟩ := open_in v (b.qin _ hu).1
      have hbes : ∀ p ∈ (nbrs (Q.getD i (0, 0)).1 (Q.getD i (0, 0)).2).filter (fun p => hasB a p.1 p.2), hasB a p.1 p.2 = true := fun p hp => (List.mem_filter.1 hp).2
      have hbl : ((nbrs (Q.getD i (0, 0)).1 (Q.getD i (0, 0)).2).filter fun p => hasB a p.1 p.2).length ≤ 4 := List.length_filter_le _ _
      obtain ⟨b2, r, hr⟩ := visL_BI v (nbrs (Q.getD i (0, 0)).1 (Q.getD i (0, 0)).2) S Q b hu
      have hnew : negs w h ((nbrs (Q.getD i (0, 0)).1 (Q.getD i (0, 0)).2).foldl (vis a (Q.getD i (0, 0))) (S, Q)).1 + ((nbrs (Q.getD i (0, 0)).1 (Q.getD i (0, 0)).2).foldl (vis a (Q.getD i (0, 0))) (S, Q)).2.length ≤ negs w h S + Q.length :=
        visL_few v (nbrs (Q.getD i (0, 0)).1 (Q.getD i (0, 0)).2) S Q b hu
      obtain ⟨S', s1, s2, s3, s4⟩ := ih _ _ (i + 1) (by rw [hr, List.length_append]; omega) b2 (by omega)
      refine ⟨S', s1, s2, ?_, ?_⟩
      · intro n hn
        obtain ⟨n, rfl⟩ : ∃ g, n = g + 1 := ⟨n - 1, by omega⟩
        rw [loopF]
        dsimp only
        unfold spec_l01Reach_s3
        simp only [cnt_fl, Int.toNat_natCast, fl_x, fl_y]
        rw [spec_beside_cells k v (by omega) (by omega) (by omega), bT (p := (i : Int) < (Q.length : Int)) (by omega), bT (p := (0 : Int) ≤ (i : Int)) (by omega)]
        simp only [cond_true, Bool.and_true, Option.bind_some]
        rw [spec_look k _ v z S Q i hil b _ hbes hbl (by omega), vis_has, wrap64 (by omega), show (i : Int) + 1 = ((i + 1 : Nat) : Int) by omega]
        exact s3 n (by omega)
      · intro n hn
        obtain ⟨n, rfl⟩ : ∃ g, n = g + 1 := ⟨n - 1, by omega⟩
        rw [loopF]
        dsimp only
        unfold impl_Lawn_steps_s1
        have hd0 : Q.drop i = Q.getD i (0, 0) :: Q.drop (i + 1) := drop_getD Q (0, 0) hil
        have hu0 : rd (fl (Q.drop i)) 0 = (Q.getD i (0, 0)).1 := by rw [hd0]; rfl
        have hu1 : rd (fl (Q.drop i)) 1 = (Q.getD i (0, 0)).2 := by rw [hd0]; rfl
        rw [cnt_fl, List.length_drop, bT (p := ((Q.length - i : Nat) : Int) > 0) (by omega), hu0, hu1]
        simp only [cond_true]
        rw [show impl_beside k [(Q.getD i (0, 0)).1, (Q.getD i (0, 0)).2] = some (fl (nbrs (Q.getD i (0, 0)).1 (Q.getD i (0, 0)).2)) from rfl]
        simp only [Option.bind_some, cnt_fl]
        rw [impl_look k _ v f hf S Q i hil b _ (by show 4 ≤ 4; omega) (by omega)]
        generalize (nbrs (Q.getD i (0, 0)).1 (Q.getD i (0, 0)).2).foldl (vis a (Q.getD i (0, 0))) (S, Q) = s at hr s4 ⊢
        have hsl : s.2.length = Q.length + r.length := by rw [hr, List.length_append]
        rw [cnt_fl, List.length_drop, bT (p := (1 : Int) ≤ ((s.2.length - i : Nat) : Int)) (by omega)]
        simp only [cond_true]
        have hwin : win (fl (s.2.drop i)) 2 ((s.2.length - i - 1) * 2) = fl (s.2.drop (i + 1)) := by
          have e : s.2.drop i = s.2.getD i (0, 0) :: s.2.drop (i + 1) := drop_getD s.2 (0, 0) (by omega)
          rw [e]
          unfold win
          show List.take _ (fl (s.2.drop (i + 1))) = _
          exact List.take_of_length_le (by rw [fl_length, List.length_drop]; omega)
        rw [hwin]
        exact s4 n (by omega)

end Go.Proofs.Ytmpcninebooaiaa.Tt
