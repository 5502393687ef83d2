/- Plain laws: the sides of a cell, and of all grass. -/
import Derived.Test.YtmpcninebooaiaaY13
set_option linter.unusedVariables false
set_option linter.unusedSimpArgs false
namespace Go.Proofs.Ytmpcninebooaiaa.Tt
open Go.Ev Go

theorem wrap8_range (n : Int) : -128 ≤ IntKind.wrap .i8 n ∧ IntKind.wrap .i8 n < 128 := by
  simp only [IntKind.wrap, IntKind.bits, IntKind.signed]
  simp
  omega

theorem rowB_all {a : List Int} {y : Nat} : ∀ (m x : Nat), rowB a y x m = true → ∀ j, x ≤ j → j < x + m → cellB a y j = true := by
  intro m
  induction m with
  | zero => intro x _ j h1 h2; omega
  | succ m ih =>
    intro x h j h1 h2
    simp only [rowB, Bool.and_eq_true] at h
    by_cases e : j = x
    · rw [e]; exact h.1
    · exact ih (x + 1) h.2 j (by omega) (by omega)

theorem rowsB_all {a : List Int} : ∀ (m y : Nat), rowsB a y m = true → ∀ j, y ≤ j → j < y + m → rowB a j 0 10 = true := by
  intro m
  induction m with
  | zero => intro x _ j h1 h2; omega
  | succ m ih =>
    intro x h j h1 h2
    simp only [rowsB, Bool.and_eq_true] at h
    by_cases e : j = x
    · rw [e]; exact h.1
    · exact ih (x + 1) h.2 j (by omega) (by omega)

def Kind3 (a : List Int) : Prop := ∀ x y, hasB a x y = true → kindV a x y ≤ 3

theorem kind3_of {a : List Int} (ha : LawnR a) (h : lawnB a = true) : Kind3 a := by
  intro x y hh
  have hs := lawnS_of' ha h
  obtain ⟨h1, h2, h3, h4⟩ := hasB_true hh
  have := hs.w10
  have := hs.h10
  unfold lawnB at h
  simp only [Bool.and_eq_true] at h
  have hr := rowsB_all 10 0 h.2.2 y.toNat (by omega) (by omega)
  have hc := rowB_all 10 0 hr x.toNat (by omega) (by omega)
  unfold cellB at hc
  simp only [Bool.and_eq_true, decide_eq_true_eq] at hc
  exact hc.1

/-! ## Around a cell -/

def nbrs (x y : Int) : List (Int × Int) := [(x, IntKind.wrap .i8 (y - 1)), (IntKind.wrap .i8 (x - 1), y), (IntKind.wrap .i8 (x + 1), y), (x, IntKind.wrap .i8 (y + 1))]

def arS (a : List Int) (o : List Int) (p : Int × Int) : List Int :=
  cond (hasB a p.1 p.2) (List.set o (kindV a p.1 p.2).toNat (IntKind.wrap .i64 (rd o (kindV a p.1 p.2).toNat + 1))) (List.set o 4 (IntKind.wrap .i64 (rd o 4 + 1)))

def arL (a : List Int) (L : List (Int × Int)) : List Int := L.foldl (arS a) [0, 0, 0, 0, 0]
def arV (a : List Int) (x y : Int) : List Int := arL a (nbrs x y)

theorem arL_snoc (a : List Int) (L : List (Int × Int)) (p : Int × Int) : arL a (L ++ [p]) = arS a (arL a L) p := by simp [arL]

theorem arS_len (a o : List Int) (p : Int × Int) : (arS a o p).length = o.length := by
  unfold arS
  cases hasB a p.1 p.2 <;> simp

theorem foldl_len {α : Type} (s : List Int → α → List Int) (hs : ∀ o p, (s o p).length = o.length) : ∀ (L : List α) (o : List Int), (L.foldl s o).length = o.length := by
  intro L
  induction L with
  | nil => intro o; rfl
  | cons p r ih => intro o; rw [List.foldl_cons, ih, hs]

theorem arL_len (a : List Int) (L : List (Int × Int)) : (arL a L).length = 5 := foldl_len _ (arS_len a) L _

theorem five {o : List Int} (h : o.length = 5) : [rd o 0, rd o 1, rd o 2, rd o 3, rd o 4] = o := by
  match o, h with
  | [a, b, c, d, e], _ => rfl

theorem impl_around (k : Nat) {a : List Int} {w h : Nat} (v : LawnV a w h) (h3 : Kind3 a) (x y : Int) (hk : 5 < k) : impl_Lawn_around k a [x, y] = some (arV a x y) := by
  unfold impl_Lawn_around
  rw [show impl_beside k [rd [x, y] 0, rd [x, y] 1] = some (fl (nbrs x y)) from rfl]
  simp only [Option.bind_some, cnt_fl]
  unfold impl_Lawn_around_l0
  refine loopF_go (R := List Int) (step := fun (rec : Int × Int × (List Int) × (List Int) × (List Int) × (List Int) → Option (List Int)) (p : Int × Int × (List Int) × (List Int) × (List Int) × (List Int)) => impl_Lawn_around_s0 k (fun y2 y3 => some [(rd y3 0), (rd y3 1), (rd y3 2), (rd y3 3), (rd y3 4)]) (fun h1 h2 h3 h4 h5 h6 => rec (h1, h2, h3, h4, h5, h6)) p.1 p.2.1 p.2.2.1 p.2.2.2.1 p.2.2.2.2.1 p.2.2.2.2.2)
    (fun i => (((nbrs x y).length : Int), (i : Int), a, [0, 0, 0, 0, 0], arL a ((nbrs x y).take i), fl (nbrs x y))) (fun _ _ => some (arV a x y)) (nbrs x y).length ?_ ?_ 4 0 k rfl (by omega)
  · intro rec
    dsimp only
    unfold impl_Lawn_around_s0
    simp (disch := omega) only [bF, cond_false, List.take_length]
    rw [five (arL_len _ _)]
    rfl
  · intro i m hi rec hrec
    dsimp only at hrec ⊢
    unfold impl_Lawn_around_s0
    have hil : i < (nbrs x y).length := by omega
    have hl4 : (nbrs x y).length = 4 := rfl
    rw [take_getD _ (0, 0) hil, arL_snoc] at hrec
    simp only [cnt_fl, Int.toNat_natCast, fl_x, fl_y]
    generalize (nbrs x y).getD i (0, 0) = p at hrec ⊢
    generalize arL a ((nbrs x y).take i) = o at hrec ⊢
    rw [impl_has]
    rw [show ((decide (0 ≤ p.1) && decide (p.1 < rd a 0)) && (decide (0 ≤ p.2) && decide (p.2 < rd a 1))) = hasB a p.1 p.2 from rfl]
    unfold arS at hrec
    simp (disch := omega) only [bT, cond_true, Bool.and_true, Option.bind_some, wrap64, Nat.zero_add, Nat.mul_one]
    cases hq : hasB a p.1 p.2 with
    | false =>
      rw [hq] at hrec
      simp only [cond_false] at hrec ⊢
      exact hrec
    | true =>
      rw [hq] at hrec
      simp only [cond_true] at hrec ⊢
      rw [impl_kind k v.toLawnS hq]
      have h1 := h3 _ _ hq
      have h2 := kind_range v.toLawnS hq
      simp (disch := omega) only [bT, cond_true, Bool.and_true, Option.bind_some]
      exact hrec

theorem nbrs_range {x y : Int} (hx : -128 ≤ x ∧ x < 128) (hy : -128 ≤ y ∧ y < 128) : ∀ p ∈ nbrs x y, (-128 ≤ p.1 ∧ p.1 < 128) ∧ (-128 ≤ p.2 ∧ p.2 < 128) := by
  intro p hp
  have w1 := wrap8_range (y - 1)
  have w2 := wrap8_range (x - 1)
  have w3 := wrap8_range (x + 1)
  have w4 := wrap8_range (y + 1)
  simp only [nbrs, List.mem_cons, List.not_mem_nil, or_false] at hp
  rcases hp with rfl | rfl | rfl | rfl
  · exact ⟨hx, w1⟩
  · exact ⟨w2, hy⟩
  · exact ⟨w3, hy⟩
  · exact ⟨hx, w4⟩

theorem spec_near (k : Nat) {a : List Int} {w h : Nat} (v : LawnV a w h) (h3 : Kind3 a) {x y : Int} (hx : -128 ≤ x ∧ x < 128) (hy : -128 ≤ y ∧ y < 128) (hk : 5 < k) : spec_l05At k a [x, y] = some (arV a x y) := by
  unfold spec_l05At
  rw [show spec_l05Near k [rd [x, y] 0, rd [x, y] 1] = some (fl (nbrs x y)) from rfl]
  simp only [Option.bind_some]
  unfold spec_l05At_l0
  refine loopF_go (R := List Int) (step := fun (rec : (List Int) × Int × (List Int) × (List Int) × (List Int) → Option (List Int)) (p : (List Int) × Int × (List Int) × (List Int) × (List Int)) => spec_l05At_s0 k (fun y2 y3 => some [(rd y3 0), (rd y3 1), (rd y3 2), (rd y3 3), (rd y3 4)]) (fun h1 h2 h3 h4 h5 => rec (h1, h2, h3, h4, h5)) p.1 p.2.1 p.2.2.1 p.2.2.2.1 p.2.2.2.2)
    (fun i => (a, (i : Int), [0, 0, 0, 0, 0], arL a ((nbrs x y).take i), fl (nbrs x y))) (fun _ _ => some (arV a x y)) (nbrs x y).length ?_ ?_ 4 0 k rfl (by omega)
  · intro rec
    dsimp only
    unfold spec_l05At_s0
    simp (disch := omega) only [cnt_fl, bF, cond_false, List.take_length]
    rw [five (arL_len _ _)]
    rfl
  · intro i m hi rec hrec
    dsimp only at hrec ⊢
    unfold spec_l05At_s0
    have hil : i < (nbrs x y).length := by omega
    have hl4 : (nbrs x y).length = 4 := rfl
    have hr := nbrs_range hx hy _ (getD_mem (nbrs x y) (0, 0) hil)
    rw [take_getD _ (0, 0) hil, arL_snoc] at hrec
    simp only [cnt_fl, Int.toNat_natCast, fl_x, fl_y]
    generalize (nbrs x y).getD i (0, 0) = p at hrec hr ⊢
    generalize arL a ((nbrs x y).take i) = o at hrec ⊢
    rw [spec_is k v.toLawnR hr.1 hr.2]
    rw [show ((decide (0 ≤ p.1) && decide (p.1 < rd a 0)) && (decide (0 ≤ p.2) && decide (p.2 < rd a 1))) = hasB a p.1 p.2 from rfl]
    unfold arS at hrec
    simp (disch := omega) only [bT, cond_true, Bool.and_true, Option.bind_some, wrap64, Nat.zero_add, Nat.mul_one]
    cases hq : hasB a p.1 p.2 with
    | false =>
      rw [hq] at hrec
      simp only [cond_false] at hrec ⊢
      exact hrec
    | true =>
      rw [hq] at hrec
      simp only [cond_true] at hrec ⊢
      rw [spec_at k v.toLawnS hq]
      have h1 := h3 _ _ hq
      have h2 := kind_range v.toLawnS hq
      simp (disch := omega) only [bT, cond_true, Bool.and_true, Option.bind_some]
      exact hrec

/-! ## All sides -/

def addJ (s : List Int) (o : List Int) (j : Nat) : List Int := List.set o j (IntKind.wrap .i64 (rd o j + rd s j))
def addN (s o : List Int) (n : Nat) : List Int := (List.range n).foldl (addJ s) o
theorem addN_succ (s o : List Int) (n : Nat) : addN s o (n + 1) = addJ s (addN s o n) n := by simp [addN, List.range_succ]
theorem addN_len (s o : List Int) (n : Nat) : (addN s o n).length = o.length := foldl_len _ (fun o j => by simp [addJ]) _ _

def sdS (a o : List Int) (p : Int × Int) : List Int := addN (arV a p.1 p.2) o 5
def sdL (a : List Int) (L : List (Int × Int)) : List Int := L.foldl (sdS a) [0, 0, 0, 0, 0]
theorem sdL_snoc (a : List Int) (L : List (Int × Int)) (p : Int × Int) : sdL a (L ++ [p]) = sdS a (sdL a L) p := by simp [sdL]
theorem sdL_len (a : List Int) (L : List (Int × Int)) : (sdL a L).length = 5 := foldl_len _ (fun o p => addN_len _ _ _) L _

def grassL (a : List Int) (w h : Nat) : List (Int × Int) := (allC w h).filter fun p => grassB a p.1 p.2
def sidesV (a : List Int) (w h : Nat) : List Int := sdL a (grassL a w h)

theorem grassL_len {a : List Int} {w h : Nat} (v : LawnV a w h) : (grassL a w h).length ≤ 100 := Nat.le_trans (List.length_filter_le _ _) (allC_small v)

theorem grassL_mem {a : List Int} {w h : Nat} (v : LawnV a w h) {p : Int × Int} (hp : p ∈ grassL a w h) : (0 ≤ p.1 ∧ p.1 < 10) ∧ (0 ≤ p.2 ∧ p.2 < 10) := by
  have := allC_mem.1 (List.mem_filter.1 hp).1
  have := v.wle
  have := v.hle
  omega

theorem impl_sides_add {R : Type} (k : Nat) (K1 : Int → Int → (List Int) → (List Int) → (List Int) → (List Int) → Option R) (q r : Int) (s a z o c : List Int) (hk : 5 < k) :
    impl_Lawn_sides_l0 k K1 q r s 0 a z o c = K1 q r a z (addN s o 5) c := by
  unfold impl_Lawn_sides_l0
  refine loopF_go (step := fun (rec : Int × Int × (List Int) × Int × (List Int) × (List Int) × (List Int) × (List Int) → Option R) (p : Int × Int × (List Int) × Int × (List Int) × (List Int) × (List Int) × (List Int)) => impl_Lawn_sides_s0 k K1 (fun h1 h2 h3 h4 h5 h6 h7 h8 => rec (h1, h2, h3, h4, h5, h6, h7, h8)) p.1 p.2.1 p.2.2.1 p.2.2.2.1 p.2.2.2.2.1 p.2.2.2.2.2.1 p.2.2.2.2.2.2.1 p.2.2.2.2.2.2.2)
    (fun i => (q, r, s, (i : Int), a, z, addN s o i, c)) (fun _ _ => K1 q r a z (addN s o 5) c) 5 ?_ ?_ 5 0 k rfl hk
  · intro rec
    dsimp only
    unfold impl_Lawn_sides_s0
    simp (disch := omega) only [bF, cond_false]
  · intro i m hi rec hrec
    dsimp only at hrec ⊢
    unfold impl_Lawn_sides_s0
    simp (disch := omega) only [bT, cond_true, Bool.and_true, Int.toNat_natCast, Nat.zero_add, Nat.mul_one, wrap64 (x := (i : Int) + 1)]
    rw [addN_succ] at hrec
    exact hrec

theorem impl_sides (k : Nat) {a : List Int} {w h : Nat} (v : LawnV a w h) (h3 : Kind3 a) (hk : 101 < k) : impl_Lawn_sides k a = some (sidesV a w h) := by
  have hsm := grassL_len v
  unfold impl_Lawn_sides
  rw [impl_those k v _ (fun p => grassB a p.1 p.2) (fun p _ => impl_grassL k v.toLawnS p) hk]
  rw [show (allC w h).filter (fun p => grassB a p.1 p.2) = grassL a w h from rfl]
  simp only [Option.bind_some, cnt_fl]
  unfold impl_Lawn_sides_l1
  have := loopF_go (R := List Int) (step := fun (rec : Int × Int × (List Int) × (List Int) × (List Int) × (List Int) → Option (List Int)) (p : Int × Int × (List Int) × (List Int) × (List Int) × (List Int)) => impl_Lawn_sides_s1 k (fun y3 y4 => some [(rd y4 0), (rd y4 1), (rd y4 2), (rd y4 3), (rd y4 4)]) (fun h1 h2 h3 h4 h5 h6 => rec (h1, h2, h3, h4, h5, h6)) p.1 p.2.1 p.2.2.1 p.2.2.2.1 p.2.2.2.2.1 p.2.2.2.2.2)
    (fun i => (((grassL a w h).length : Int), (i : Int), a, [0, 0, 0, 0, 0], sdL a ((grassL a w h).take i), fl (grassL a w h))) (fun _ _ => some (sidesV a w h)) (grassL a w h).length ?_ ?_ (grassL a w h).length 0 k (by omega) (by omega)
  · exact this
  · intro rec
    dsimp only
    unfold impl_Lawn_sides_s1
    simp (disch := omega) only [bF, cond_false, List.take_length]
    rw [five (sdL_len _ _)]
    rfl
  · intro i m hi rec hrec
    dsimp only at hrec ⊢
    unfold impl_Lawn_sides_s1
    have hil : i < (grassL a w h).length := by omega
    rw [take_getD _ (0, 0) hil, sdL_snoc] at hrec
    simp only [cnt_fl, Int.toNat_natCast, fl_x, fl_y]
    generalize (grassL a w h).getD i (0, 0) = p at hrec ⊢
    rw [impl_around k v h3 _ _ (by omega)]
    simp (disch := omega) only [bT, cond_true, Bool.and_true, Option.bind_some]
    rw [impl_sides_add k _ _ _ _ _ _ _ _ (by omega), wrap64 (by omega)]
    exact hrec

theorem spec_sides_add {R : Type} (k : Nat) (K1 : (List Int) → Int → (List Int) → (List Int) → (List Int) → Option R) (r : Int) (s a z o c : List Int) (hk : 5 < k) :
    spec_l05All_l0 k K1 a r 0 z o c s = K1 a r z (addN s o 5) c := by
  unfold spec_l05All_l0
  refine loopF_go (step := fun (rec : (List Int) × Int × Int × (List Int) × (List Int) × (List Int) × (List Int) → Option R) (p : (List Int) × Int × Int × (List Int) × (List Int) × (List Int) × (List Int)) => spec_l05All_s0 k K1 (fun h1 h2 h3 h4 h5 h6 h7 => rec (h1, h2, h3, h4, h5, h6, h7)) p.1 p.2.1 p.2.2.1 p.2.2.2.1 p.2.2.2.2.1 p.2.2.2.2.2.1 p.2.2.2.2.2.2)
    (fun i => (a, r, (i : Int), z, addN s o i, c, s)) (fun _ _ => K1 a r z (addN s o 5) c) 5 ?_ ?_ 5 0 k rfl hk
  · intro rec
    dsimp only
    unfold spec_l05All_s0
    simp (disch := omega) only [bF, cond_false]
  · intro i m hi rec hrec
    dsimp only at hrec ⊢
    unfold spec_l05All_s0
    simp (disch := omega) only [bT, cond_true, Bool.and_true, Int.toNat_natCast, Nat.zero_add, Nat.mul_one, wrap64 (x := (i : Int) + 1)]
    rw [addN_succ] at hrec
    exact hrec

theorem spec_sides (k : Nat) {a : List Int} {w h : Nat} (v : LawnV a w h) (h3 : Kind3 a) (hk : 101 < k) : spec_l05All k a = some (sidesV a w h) := by
  have hsm := grassL_len v
  unfold spec_l05All
  rw [spec_cells k v 0 hk, grass_filter v]
  rw [show (allC w h).filter (fun p => grassB a p.1 p.2) = grassL a w h from rfl]
  simp only [Option.bind_some]
  unfold spec_l05All_l1
  have := loopF_go (R := List Int) (step := fun (rec : (List Int) × Int × (List Int) × (List Int) × (List Int) → Option (List Int)) (p : (List Int) × Int × (List Int) × (List Int) × (List Int)) => spec_l05All_s1 k (fun y2 y3 => some [(rd y3 0), (rd y3 1), (rd y3 2), (rd y3 3), (rd y3 4)]) (fun h1 h2 h3 h4 h5 => rec (h1, h2, h3, h4, h5)) p.1 p.2.1 p.2.2.1 p.2.2.2.1 p.2.2.2.2)
    (fun i => (a, (i : Int), [0, 0, 0, 0, 0], sdL a ((grassL a w h).take i), fl (grassL a w h))) (fun _ _ => some (sidesV a w h)) (grassL a w h).length ?_ ?_ (grassL a w h).length 0 k (by omega) (by omega)
  · exact this
  · intro rec
    dsimp only
    unfold spec_l05All_s1
    simp (disch := omega) only [cnt_fl, bF, cond_false, List.take_length]
    rw [five (sdL_len _ _)]
    rfl
  · intro i m hi rec hrec
    dsimp only at hrec ⊢
    unfold spec_l05All_s1
    have hil : i < (grassL a w h).length := by omega
    have hr := grassL_mem v (getD_mem (grassL a w h) (0, 0) hil)
    rw [take_getD _ (0, 0) hil, sdL_snoc] at hrec
    simp only [cnt_fl, Int.toNat_natCast, fl_x, fl_y]
    generalize (grassL a w h).getD i (0, 0) = p at hrec hr ⊢
    rw [spec_near k v h3 (by omega) (by omega) (by omega)]
    simp (disch := omega) only [bT, cond_true, Bool.and_true, Option.bind_some]
    rw [spec_sides_add k _ _ _ _ _ _ _ (by omega), wrap64 (by omega)]
    exact hrec

def edgeV (a : List Int) (w h : Nat) : Int := IntKind.wrap .i64 ((IntKind.wrap .i64 ((IntKind.wrap .i64 ((rd (sidesV a w h) 1) + (rd (sidesV a w h) 2))) + (rd (sidesV a w h) 3))) + (rd (sidesV a w h) 4))

theorem impl_edge (k : Nat) {a : List Int} {w h : Nat} (v : LawnV a w h) (h3 : Kind3 a) (hk : 101 < k) : impl_Lawn_edge k a = some (edgeV a w h) := by
  unfold impl_Lawn_edge
  rw [impl_sides k v h3 hk]
  rfl

theorem spec_edge (k : Nat) {a : List Int} {w h : Nat} (v : LawnV a w h) (h3 : Kind3 a) (hk : 101 < k) : spec_l05Edge k a = some (edgeV a w h) := by
  unfold spec_l05Edge
  rw [spec_sides k v h3 hk]
  rfl

end Go.Proofs.Ytmpcninebooaiaa.Tt
