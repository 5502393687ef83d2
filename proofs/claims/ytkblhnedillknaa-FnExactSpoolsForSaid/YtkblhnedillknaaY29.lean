/- Plain laws: SpoolsFor. -/
import Derived.Test.YtkblhnedillknaaY17a
set_option linter.unusedVariables false
set_option linter.unusedSimpArgs false
namespace Go.Proofs.Ytkblhnedillknaa.Tt
open Go.Ev Go

/-! ## How great sides are -/

def Bd (o : List Int) (m : Int) : Prop := ∀ j, 0 ≤ rd o j ∧ rd o j ≤ m

theorem rd_set3 (l : List Int) (i j : Nat) (v : Int) : rd (List.set l i v) j = if i = j ∧ i < l.length then v else rd l j := by
  unfold rd
  rw [List.getD_eq_getElem?_getD, List.getD_eq_getElem?_getD, List.getElem?_set]
  by_cases h : i = j
  · subst h
    by_cases h2 : i < l.length
    · simp [h2]
    · simp [h2]
  · simp [h]

theorem Bd.set {o : List Int} {m m' : Int} (h : Bd o m) (hm : m ≤ m') {i : Nat} {v : Int} (hv : 0 ≤ v ∧ v ≤ m') : Bd (List.set o i v) m' := by
  intro j
  rw [rd_set3]
  have := h j
  split
  · exact hv
  · omega

theorem bd_zero (n : Nat) : Bd (List.replicate n 0) 0 := by
  intro j
  have : rd (List.replicate n 0) j = 0 := by
    unfold rd
    rw [List.getD_eq_getElem?_getD, List.getElem?_replicate]
    split <;> rfl
  omega

theorem arL_bd (a : List Int) : ∀ (L : List (Int × Int)) (o : List Int) (m : Nat), m + L.length ≤ 1000 → Bd o (m : Int) → Bd (L.foldl (arS a) o) ((m + L.length : Nat) : Int) := by
  intro L
  induction L with
  | nil => intro o m _ h; exact h
  | cons p r ih =>
    intro o m hm h
    simp only [List.length_cons] at hm
    rw [List.foldl_cons]
    have hb : Bd (arS a o p) ((m + 1 : Nat) : Int) := by
      unfold arS
      cases hasB a p.1 p.2 with
      | true =>
        simp only [cond_true]
        have := h (kindV a p.1 p.2).toNat
        exact h.set (by omega) (by rw [wrap64 (by omega)]; omega)
      | false =>
        simp only [cond_false]
        have := h 4
        exact h.set (by omega) (by rw [wrap64 (by omega)]; omega)
    have := ih (arS a o p) (m + 1) (by omega) hb
    have e : m + 1 + r.length = m + (p :: r).length := by simp only [List.length_cons]; omega
    rw [e] at this
    exact this

theorem arV_bd (a : List Int) (x y : Int) : Bd (arV a x y) 4 := arL_bd a (nbrs x y) [0, 0, 0, 0, 0] 0 (by show 0 + 4 ≤ 1000; omega) (bd_zero 5)

theorem addN_bd {s o : List Int} {m : Int} (hs : Bd s 4) (ho : Bd o m) (hm : 0 ≤ m ∧ m ≤ 100000) : ∀ n, n ≤ 5 → (∀ j, 0 ≤ rd (addN s o n) j ∧ rd (addN s o n) j ≤ m + 4) ∧ ∀ j, n ≤ j → rd (addN s o n) j = rd o j := by
  intro n
  induction n with
  | zero =>
    intro _
    refine ⟨fun j => ?_, fun j _ => rfl⟩
    have := ho j
    have e : addN s o 0 = o := rfl
    rw [e]
    omega
  | succ n ih =>
    intro hn
    obtain ⟨h1, h2⟩ := ih (by omega)
    rw [addN_succ]
    unfold addJ
    have a1 := hs n
    have a2 := ho n
    have a3 := h2 n (Nat.le_refl _)
    refine ⟨fun j => ?_, fun j hj => ?_⟩
    · rw [rd_set3]
      have := h1 j
      split
      · rw [a3, wrap64 (by omega)]; omega
      · exact this
    · rw [rd_set3, if_neg (by omega)]
      exact h2 j (by omega)

theorem sdL_bd (a : List Int) : ∀ (L : List (Int × Int)) (o : List Int) (m : Nat), m + 4 * L.length ≤ 10000 → Bd o (m : Int) → Bd (L.foldl (sdS a) o) ((m + 4 * L.length : Nat) : Int) := by
  intro L
  induction L with
  | nil => intro o m _ h; exact h
  | cons p r ih =>
    intro o m hm h
    simp only [List.length_cons] at hm
    rw [List.foldl_cons]
    have hb : Bd (sdS a o p) ((m + 4 : Nat) : Int) := by
      have := (addN_bd (arV_bd a p.1 p.2) h (by omega) 5 (Nat.le_refl _)).1
      intro j
      have := this j
      unfold sdS
      omega
    have := ih (sdS a o p) (m + 4) (by omega) hb
    have e : m + 4 + 4 * r.length = m + 4 * (p :: r).length := by simp only [List.length_cons]; omega
    rw [e] at this
    exact this

theorem sides_bd {a : List Int} {w h : Nat} (v : LawnV a w h) : ∀ j, 0 ≤ rd (sidesV a w h) j ∧ rd (sidesV a w h) j ≤ 400 := by
  have hl := grassL_len v
  have := sdL_bd a (grassL a w h) [0, 0, 0, 0, 0] 0 (by omega) (bd_zero 5)
  intro j
  have hj := this j
  unfold sidesV sdL
  omega

/-! ## Spools -/

/-- One side: how many spools, and what is left of the last. -/
def spS (holds need : Int) (s : Int × Int) : Int × Int := cond (decide (s.2 < need)) (IntKind.wrap .i64 (s.1 + 1), IntKind.wrap .i64 (holds - need)) (s.1, IntKind.wrap .i64 (s.2 - need))
def spN (holds need : Int) (s : Int × Int) : Nat → Int × Int
  | 0 => s
  | i + 1 => spS holds need (spN holds need s i)

def spK (holds : Int) (s w : List Int) : Nat → Int × Int
  | 0 => (0, 0)
  | j + 1 => spN holds (rd w (j + 1)) (spK holds s w j) (rd s (j + 1)).toNat

theorem spec_spool_in {R : Type} (k : Nat) (K1 : Int → Int → Int → Int → (List Int) → (List Int) → Option R) (holds : Int) (s w : List Int) (t : Int × Int) (j : Nat) (hj : j < 5) (hw : -128 ≤ rd w j ∧ rd w j < 128) (n : Nat) (hn : rd s j = (n : Int)) (hn2 : n ≤ 400) (hk : 401 < k) :
    spec_SpoolsFor_l1 k K1 holds t.1 t.2 (j : Int) 0 w s = K1 holds (spN holds (rd w j) t n).1 (spN holds (rd w j) t n).2 j w s := by
  unfold spec_SpoolsFor_l1
  refine loopF_go (R := R) (step := fun (rec : Int × Int × Int × Int × Int × (List Int) × (List Int) → Option R) (p : Int × Int × Int × Int × Int × (List Int) × (List Int)) => spec_SpoolsFor_s1 k K1 (fun h1 h2 h3 h4 h5 h6 h7 => rec (h1, h2, h3, h4, h5, h6, h7)) p.1 p.2.1 p.2.2.1 p.2.2.2.1 p.2.2.2.2.1 p.2.2.2.2.2.1 p.2.2.2.2.2.2)
    (fun i => (holds, (spN holds (rd w j) t i).1, (spN holds (rd w j) t i).2, (j : Int), (i : Int), w, s)) (fun _ _ => K1 holds (spN holds (rd w j) t n).1 (spN holds (rd w j) t n).2 j w s) n ?_ ?_ n 0 k (by omega) (by omega)
  · intro rec
    dsimp only
    unfold spec_SpoolsFor_s1
    simp only [Int.toNat_natCast, Nat.zero_add, Nat.mul_one, hn]
    simp (disch := omega) only [bT, bF, cond_true, cond_false, Bool.and_true]
  · intro i m hi rec hrec
    dsimp only at hrec ⊢
    unfold spec_SpoolsFor_s1
    simp only [Int.toNat_natCast, Nat.zero_add, Nat.mul_one, hn]
    rw [wrap64 (x := rd w j) (by omega), wrap64 (x := (i : Int) + 1) (by omega), bT (p := (0 : Int) ≤ (j : Int)) (by omega), bT (p := (j : Int) < 5) (by omega), bT (p := (i : Int) < (n : Int)) (by omega)]
    simp only [cond_true, Bool.and_true]
    simp only [spN, spS] at hrec
    generalize spN holds (rd w j) t i = u at hrec ⊢
    have e : decide (rd w j > u.2) = decide (u.2 < rd w j) := rfl
    rw [e]
    cases hq : decide (u.2 < rd w j) with
    | true => rw [hq] at hrec; simp only [cond_true] at hrec ⊢; exact hrec
    | false => rw [hq] at hrec; simp only [cond_false] at hrec ⊢; exact hrec

theorem impl_spool_in {R : Type} (k : Nat) (K1 : Int → Int → Int → (List Int) → Int → (List Int) → Option R) (holds need : Int) (s w : List Int) (t : Int × Int) (q : Int) (n : Nat) (hn2 : n ≤ 400) (hk : 401 < k) :
    impl_SpoolsFor_l0 k K1 holds t.1 t.2 need s q (n : Int) 0 w = K1 holds (spN holds need t n).1 (spN holds need t n).2 s q w := by
  unfold impl_SpoolsFor_l0
  refine loopF_go (R := R) (step := fun (rec : Int × Int × Int × Int × (List Int) × Int × Int × Int × (List Int) → Option R) (p : Int × Int × Int × Int × (List Int) × Int × Int × Int × (List Int)) => impl_SpoolsFor_s0 k K1 (fun h1 h2 h3 h4 h5 h6 h7 h8 h9 => rec (h1, h2, h3, h4, h5, h6, h7, h8, h9)) p.1 p.2.1 p.2.2.1 p.2.2.2.1 p.2.2.2.2.1 p.2.2.2.2.2.1 p.2.2.2.2.2.2.1 p.2.2.2.2.2.2.2.1 p.2.2.2.2.2.2.2.2)
    (fun i => (holds, (spN holds need t i).1, (spN holds need t i).2, need, s, q, (n : Int), (i : Int), w)) (fun _ _ => K1 holds (spN holds need t n).1 (spN holds need t n).2 s q w) n ?_ ?_ n 0 k (by omega) (by omega)
  · intro rec
    dsimp only
    unfold impl_SpoolsFor_s0
    simp (disch := omega) only [bF, cond_false]
  · intro i m hi rec hrec
    dsimp only at hrec ⊢
    unfold impl_SpoolsFor_s0
    rw [wrap64 (x := (i : Int) + 1) (by omega), bT (p := (i : Int) < (n : Int)) (by omega)]
    simp only [cond_true]
    simp only [spN, spS] at hrec
    generalize spN holds need t i = u at hrec ⊢
    cases hq : decide (u.2 < need) with
    | true => rw [hq] at hrec; simp only [cond_true] at hrec ⊢; exact hrec
    | false => rw [hq] at hrec; simp only [cond_false] at hrec ⊢; exact hrec

/-- Does a side need more than a spool holds? -/
def overB (holds : Int) (s w : List Int) (j : Nat) : Bool := decide (rd s j > 0) && decide (rd w j > holds)
def overN (holds : Int) (s w : List Int) : Nat → Nat → Bool
  | _, 0 => false
  | j, m + 1 => overB holds s w j || overN holds s w (j + 1) m

theorem spec_over_loop {R : Type} (k : Nat) (K1 : Int → Int → Option R) (K2 : Int → (List Int) → (List Int) → Option R) (holds : Int) (s w : List Int) (hw : WearR w) (hk : 6 < k) :
    spec_SpoolsFor_l0 k K1 K2 holds 1 w s = cond (overN holds s w 1 4) (K1 0 6) (K2 holds w s) := by
  unfold spec_SpoolsFor_l0
  have := loopF_go (R := R) (step := fun (rec : Int × Int × (List Int) × (List Int) → Option R) (p : Int × Int × (List Int) × (List Int)) => spec_SpoolsFor_s0 k K1 K2 (fun h1 h2 h3 h4 => rec (h1, h2, h3, h4)) p.1 p.2.1 p.2.2.1 p.2.2.2)
    (fun i => (holds, (i : Int), w, s)) (fun i m => cond (overN holds s w i m) (K1 0 6) (K2 holds w s)) 5 ?_ ?_ 4 1 k rfl (by omega)
  · exact this
  · intro rec
    dsimp only
    unfold spec_SpoolsFor_s0
    simp (disch := omega) only [bF, cond_false, overN]
  · intro i m hi rec hrec
    dsimp only at hrec ⊢
    unfold spec_SpoolsFor_s0
    have r := hw.rng i (by omega)
    simp only [Int.toNat_natCast, Nat.zero_add, Nat.mul_one]
    rw [wrap64 (x := rd w i) (by omega), wrap64 (x := (i : Int) + 1) (by omega), bT (p := (i : Int) < 5) (by omega), bT (p := (0 : Int) ≤ (i : Int)) (by omega)]
    simp only [cond_true, Bool.and_true, overN, overB]
    cases decide (rd s i > 0) with
    | false => simp only [cond_false, Bool.false_and, Bool.false_or]; exact hrec
    | true =>
      simp only [cond_true, Bool.true_and]
      cases decide (rd w i > holds) with
      | false => simp only [cond_false, Bool.false_or]; exact hrec
      | true => rfl

theorem spec_spools_loop (k : Nat) (holds : Int) (s w : List Int) (hw : WearR w) (hs : ∀ j, 0 ≤ rd s j ∧ rd s j ≤ 400) (hk : 401 < k) :
    spec_SpoolsFor_l2 k (fun y10 => some (y10, (0 : Int))) holds 0 0 1 w s = some ((spK holds s w 4).1, 0) := by
  unfold spec_SpoolsFor_l2
  have := loopF_go (R := Int × Int) (step := fun (rec : Int × Int × Int × Int × (List Int) × (List Int) → Option (Int × Int)) (p : Int × Int × Int × Int × (List Int) × (List Int)) => spec_SpoolsFor_s2 k (fun y10 => some (y10, (0 : Int))) (fun h1 h2 h3 h4 h5 h6 => rec (h1, h2, h3, h4, h5, h6)) p.1 p.2.1 p.2.2.1 p.2.2.2.1 p.2.2.2.2.1 p.2.2.2.2.2)
    (fun i => (holds, (spK holds s w i).1, (spK holds s w i).2, ((i + 1 : Nat) : Int), w, s)) (fun _ _ => some ((spK holds s w 4).1, 0)) 4 ?_ ?_ 4 0 k rfl (by omega)
  · exact this
  · intro rec
    dsimp only
    unfold spec_SpoolsFor_s2
    simp (disch := omega) only [bF, cond_false]
  · intro i m hi rec hrec
    dsimp only at hrec ⊢
    unfold spec_SpoolsFor_s2
    have h1 := hs (i + 1)
    rw [bT (p := ((i + 1 : Nat) : Int) < 5) (by omega)]
    simp only [cond_true]
    rw [spec_spool_in k _ holds s w (spK holds s w i) (i + 1) (by omega) (hw.rng (i + 1) (by omega)) (rd s (i + 1)).toNat (by omega) (by omega) hk, wrap64 (by omega)]
    exact hrec

theorem spN_zero (holds : Int) : ∀ n, spN holds 0 (0, 0) n = (0, 0) := by
  intro n
  induction n with
  | zero => rfl
  | succ n ih =>
    simp only [spN, ih]
    rfl

theorem impl_spools_loop (k : Nat) (holds : Int) (s w : List Int) (hw : WearR w) (hh : 1 ≤ holds) (hs : ∀ j, 0 ≤ rd s j ∧ rd s j ≤ 400) (h0 : rd w 0 = 0) (hk : 401 < k) :
    impl_SpoolsFor_l1 k (fun y5 y6 => some (y5, y6)) (fun y7 => some (y7, (0 : Int))) holds 0 0 s 0 w = some (cond (overN holds s w 1 4) (0, 6) ((spK holds s w 4).1, 0)) := by
  unfold impl_SpoolsFor_l1
  have := loopF_go (R := Int × Int) (step := fun (rec : Int × Int × Int × (List Int) × Int × (List Int) → Option (Int × Int)) (p : Int × Int × Int × (List Int) × Int × (List Int)) => impl_SpoolsFor_s1 k (fun y5 y6 => some (y5, y6)) (fun y7 => some (y7, (0 : Int))) (fun h1 h2 h3 h4 h5 h6 => rec (h1, h2, h3, h4, h5, h6)) p.1 p.2.1 p.2.2.1 p.2.2.2.1 p.2.2.2.2.1 p.2.2.2.2.2)
    (fun i => (holds, (spK holds s w (i - 1)).1, (spK holds s w (i - 1)).2, s, (i : Int), w)) (fun i m => some (cond (overN holds s w i m) (0, 6) ((spK holds s w 4).1, 0))) 5 ?_ ?_ 5 0 k rfl (by omega)
  · have e0 : overN holds s w 0 5 = overN holds s w 1 4 := by
      show (overB holds s w 0 || overN holds s w 1 4) = _
      unfold overB
      rw [h0, bF (p := (0 : Int) > holds) (by omega), Bool.and_false, Bool.false_or]
    rw [e0] at this
    exact this
  · intro rec
    dsimp only
    unfold impl_SpoolsFor_s1
    simp (disch := omega) only [bF, cond_false, overN]
  · intro i m hi rec hrec
    dsimp only at hrec ⊢
    unfold impl_SpoolsFor_s1
    have r := hw.rng i (by omega)
    have h1 := hs i
    have hnat : rd s i = (((rd s i).toNat : Nat) : Int) := by omega
    simp only [Int.toNat_natCast, Nat.zero_add, Nat.mul_one]
    rw [wrap64 (x := rd w i) (by omega), bT (p := (i : Int) < 5) (by omega), bT (p := (0 : Int) ≤ (i : Int)) (by omega)]
    simp only [cond_true, Bool.and_true, overN, overB]
    have hnext : spN holds (rd w i) (spK holds s w (i - 1)) (rd s i).toNat = spK holds s w i := by
      cases i with
      | zero =>
        rw [h0]
        exact spN_zero holds _
      | succ i => rfl
    have key : impl_SpoolsFor_l0 k (fun y1 y2 y3 y4 y5 y6 => rec (y1, y2, y3, y4, (IntKind.wrap .i64 (y5 + 1)), y6)) holds (spK holds s w (i - 1)).1 (spK holds s w (i - 1)).2 (rd w i) s (i : Int) (rd s i) 0 w = some (cond (overN holds s w (i + 1) m) (0, 6) ((spK holds s w 4).1, 0)) := by
      have e := impl_spool_in k (fun y1 y2 y3 y4 y5 y6 => rec (y1, y2, y3, y4, (IntKind.wrap .i64 (y5 + 1)), y6)) holds (rd w i) s w (spK holds s w (i - 1)) (i : Int) (rd s i).toNat (by omega) hk
      rw [← hnat, hnext, wrap64 (by omega)] at e
      exact e.trans hrec
    cases hq : decide (rd s i > 0) with
    | false => simp only [cond_false, Bool.false_and, Bool.false_or]; exact key
    | true =>
      simp only [cond_true, Bool.true_and]
      cases decide (rd w i > holds) with
      | false => simp only [cond_false, Bool.false_or]; exact key
      | true => rfl

theorem wear_zero {s : List Int} (h : wearB s = true) : rd s 0 = 0 := by
  unfold wearB at h
  rw [Bool.and_eq_true] at h
  simpa using h.1

theorem spools_eq (k : Nat) {a s : List Int} (ha : LawnR a) (hs : WearR s) (n : Int) (hk : 401 < k) : spec_SpoolsFor k a s n = impl_SpoolsFor k a s n ∧ ∃ r, impl_SpoolsFor k a s n = some r := by
  unfold spec_SpoolsFor impl_SpoolsFor
  rw [spec_valid k (by omega) ha, impl_valid k (by omega) ha, five hs.len, spec_wear k hs (by omega), impl_wear k hs (by omega)]
  have hline : spec_l05Line k n = some (decide (1 ≤ n) && decide (n ≤ 5000)) := by unfold spec_l05Line; rw [spec_in]; rfl
  rw [hline, impl_in]
  cases hv : lawnB a with
  | false => exact ⟨rfl, _, rfl⟩
  | true =>
    cases hw : wearB s with
    | false => exact ⟨rfl, _, rfl⟩
    | true =>
      cases hn : (decide (1 ≤ n) && decide (n ≤ 5000)) with
      | false => exact ⟨rfl, _, rfl⟩
      | true =>
        obtain ⟨w, h, v⟩ := lawnV_of ha hv
        have h3 := kind3_of ha hv
        have e1 := spec_sides k v h3 (by omega)
        have e2 := impl_sides k v h3 (by omega)
        rw [Bool.and_eq_true, decide_eq_true_eq] at hn
        simp only [Option.bind_some, Bool.not_true, cond_false, e1, e2]
        rw [spec_over_loop k _ _ n _ s hs (by omega), impl_spools_loop k n _ s hs hn.1 (sides_bd v) (wear_zero hw) hk, spec_spools_loop k n _ s hs (sides_bd v) hk]
        cases overN n (sidesV a w h) s 1 4 <;> exact ⟨rfl, _, rfl⟩

theorem spoolsFor_true {a s : List Int} (ha : LawnR a) (hs : WearR s) (n : Int) : ∃ k, laws_FnExactSpoolsFor k a s n = some true := by
  obtain ⟨k, hk⟩ : ∃ k, k = 500 := ⟨_, rfl⟩
  obtain ⟨e, r, hr⟩ := spools_eq (k + 11) ha hs n (by omega)
  refine ⟨k + 11, ?_⟩
  unfold laws_FnExactSpoolsFor
  rw [five hs.len]
  simp only [toLawn_id k a ha.len, toWear_id (k + 5) hs, Option.bind_some, e, hr]
  simp only [Option.bind_some, cond_false, bne_self_eq_false]

end Go.Proofs.Ytkblhnedillknaa.Tt
