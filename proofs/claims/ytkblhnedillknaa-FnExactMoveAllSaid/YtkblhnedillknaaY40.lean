/- Plain laws: hauls of soil. -/
import Derived.Test.YtkblhnedillknaaY11
import Derived.Test.YtkblhnedillknaaY22a
set_option linter.unusedVariables false
set_option linter.unusedSimpArgs false
namespace Go.Proofs.Ytkblhnedillknaa.Tt
open Go.Ev Go

/-! ## Levels, cell by cell -/

theorem lrowB_iff (a g : List Int) (y : Nat) : ∀ (m x : Nat), lrowB a g y x m = true ↔ ∀ j, x ≤ j → j < x + m → lcellB a g y j = true := by
  intro m
  induction m with
  | zero => intro x; exact ⟨fun _ j h1 h2 => by omega, fun _ => rfl⟩
  | succ m ih =>
    intro x
    simp only [lrowB, Bool.and_eq_true]
    rw [ih (x + 1)]
    constructor
    · rintro ⟨h1, h2⟩ j h3 h4
      rcases Nat.eq_or_lt_of_le h3 with e | e
      · exact e ▸ h1
      · exact h2 j (by omega) (by omega)
    · intro h
      exact ⟨h x (by omega) (by omega), fun j h3 h4 => h j (by omega) (by omega)⟩

theorem lrowsB_iff (a g : List Int) : ∀ (m y : Nat), lrowsB a g y m = true ↔ ∀ j, y ≤ j → j < y + m → lrowB a g j 0 10 = true := by
  intro m
  induction m with
  | zero => intro y; exact ⟨fun _ j h1 h2 => by omega, fun _ => rfl⟩
  | succ m ih =>
    intro y
    simp only [lrowsB, Bool.and_eq_true]
    rw [ih (y + 1)]
    constructor
    · rintro ⟨h1, h2⟩ j h3 h4
      rcases Nat.eq_or_lt_of_le h3 with e | e
      · exact e ▸ h1
      · exact h2 j (by omega) (by omega)
    · intro h
      exact ⟨h y (by omega) (by omega), fun j h3 h4 => h j (by omega) (by omega)⟩

theorem levB_iff (a g : List Int) : levB a g = true ↔ ∀ y x, y < 10 → x < 10 → lcellB a g y x = true := by
  unfold levB
  rw [lrowsB_iff]
  constructor
  · intro h y x hy hx
    exact (lrowB_iff a g y 10 0).1 (h y (by omega) (by omega)) x (by omega) (by omega)
  · intro h y h1 h2
    exact (lrowB_iff a g y 10 0).2 fun x h3 h4 => h y x (by omega) (by omega)

/-- Levels whose one cell of grass is changed. -/
theorem levB_set {a g : List Int} (hg : LevR g) (hl : levB a g = true) {p : Int × Int} (hp : in10 p) (hgr : grassB a p.1 p.2 = true) (v : Int) :
    levB a (List.set g (p.2.toNat * 10 + p.1.toNat) v) = (decide (-9 ≤ v) && decide (v ≤ 9)) := by
  obtain ⟨hx, hy⟩ := hp
  have hlen := hg.len
  rw [Bool.eq_iff_iff, levB_iff]
  rw [levB_iff] at hl
  constructor
  · intro h
    have := h p.2.toNat p.1.toNat (by omega) (by omega)
    unfold lcellB at this
    rw [rd_set, if_pos ⟨rfl, by omega⟩] at this
    simp only [Bool.and_eq_true] at this ⊢
    exact ⟨this.1, this.2.1⟩
  · intro h y x h1 h2
    have h0 := hl y x h1 h2
    unfold lcellB at h0 ⊢
    rw [rd_set]
    split
    · rename_i e
      have ey : y = p.2.toNat := by omega
      have ex : x = p.1.toNat := by omega
      simp only [Bool.and_eq_true] at h ⊢
      refine ⟨h.1, h.2, ?_⟩
      rw [Bool.or_eq_true]
      right
      rw [ex, ey, show ((p.1.toNat : Nat) : Int) = p.1 by omega, show ((p.2.toNat : Nat) : Int) = p.2 by omega]
      exact hgr
    · exact h0

theorem lev9 {a g : List Int} (hl : levB a g = true) {p : Int × Int} (hp : in10 p) : -9 ≤ levP g p ∧ levP g p ≤ 9 := by
  obtain ⟨hx, hy⟩ := hp
  have := (levB_iff a g).1 hl p.2.toNat p.1.toNat (by omega) (by omega)
  unfold lcellB at this
  simp only [Bool.and_eq_true, decide_eq_true_eq] at this
  exact ⟨this.1, this.2.1⟩

/-- Levels with so much at two cells of grass. -/
theorem levB_two {a g : List Int} (hg : LevR g) (hl : levB a g = true) {p q : Int × Int} (hp : in10 p) (hq : in10 q) (hgp : grassB a p.1 p.2 = true) (hgq : grassB a q.1 q.2 = true) (hne : p.2.toNat * 10 + p.1.toNat ≠ q.2.toNat * 10 + q.1.toNat) {A B : Int} (hA : -128 ≤ A ∧ A < 128) (hB : -128 ≤ B ∧ B < 128) :
    levB a (List.set (List.set g (p.2.toNat * 10 + p.1.toNat) A) (q.2.toNat * 10 + q.1.toNat) B) = ((decide (-9 ≤ A) && decide (A ≤ 9)) && (decide (-9 ≤ B) && decide (B ≤ 9))) := by
  cases h : (decide (-9 ≤ A) && decide (A ≤ 9)) with
  | true =>
    have h1 := levB_set hg hl hp hgp A
    rw [h] at h1
    rw [levB_set (hg.set hA) h1 hq hgq B]
    rfl
  | false =>
    rw [Bool.false_and]
    rw [Bool.eq_false_iff]
    intro hc
    have := (levB_iff a _).1 hc p.2.toNat p.1.toNat (by have := hp.2; omega) (by have := hp.1; omega)
    unfold lcellB at this
    have hlen := hg.len
    obtain ⟨hx, hy⟩ := hp
    rw [rd_set, if_neg (fun e => hne e.1.symm), rd_set, if_pos ⟨rfl, by omega⟩] at this
    simp only [Bool.and_eq_true] at this
    rw [this.1, this.2.1] at h
    cases h

/-! ## One haul -/

theorem eqLxy (x y z u : Int) : eqL [x, y] [z, u] = (decide (x = z) && decide (y = u)) := by
  simp only [eqL, Bool.and_true]
  congr 1 <;> (rw [Bool.eq_iff_iff]; simp)

theorem impl_more (k : Nat) {g : List Int} {p : Int × Int} (hp : in10 p) (n : Int) : impl_Levels_more k g [p.1, p.2] n = some (List.set g (p.2.toNat * 10 + p.1.toNat) (IntKind.wrap .i8 (levP g p + IntKind.wrap .i8 n))) := by
  obtain ⟨hx, hy⟩ := hp
  unfold impl_Levels_more levP
  have e1 : rd [p.1, p.2] 0 = p.1 := rfl
  have e2 : rd [p.1, p.2] 1 = p.2 := rfl
  rw [e1, e2]
  simp (disch := omega) only [bT, cond_true, Bool.and_true, Nat.mul_one, Nat.zero_add]

theorem grass_in10 {a : List Int} {w h : Nat} (v : LawnV a w h) {x y : Int} (hgr : grassB a x y = true) : in10 (x, y) := by
  have h1 := grass_range v.toLawnS hgr
  have hw := v.wle
  have hh := v.hle
  rw [v.wv, v.hv] at h1
  exact ⟨⟨h1.1, by show x < 10; omega⟩, ⟨h1.2.2.1, by show y < 10; omega⟩⟩

theorem move_both (k : Nat) {a : List Int} {w h : Nat} (v : LawnV a w h) (hv : lawnB a = true) {g : List Int} (hg : LevR g) (hl : levB a g = true) {x y z u n : Int} (hx : -128 ≤ x ∧ x < 128) (hy : -128 ≤ y ∧ y < 128) (hz : -128 ≤ z ∧ z < 128) (hu : -128 ≤ u ∧ u < 128) (hn : -128 ≤ n ∧ n < 128) (hk : 10 < k) :
    ∃ c g', spec_l06Move k a g [x, y, z, u, n] = some (c, g') ∧ ((c = 0 ∧ LevR g' ∧ levB a g' = true ∧ impl_Lawn_move k a g [x, y, z, u, n] = some (g', 0)) ∨ (c ≠ 0 ∧ impl_Lawn_move k a g [x, y, z, u, n] = some (List.replicate 100 0, c))) := by
  unfold spec_l06Move impl_Lawn_move
  have e0 : ([rd [x, y, z, u, n] 0, rd [x, y, z, u, n] 1] : List Int) = [x, y] := rfl
  have e1 : ([rd [x, y, z, u, n] 2, rd [x, y, z, u, n] 3] : List Int) = [z, u] := rfl
  have e2 : rd [x, y, z, u, n] 4 = n := rfl
  have f0 : rd [x, y, z, u, n] 0 = x := rfl
  have f1 : rd [x, y, z, u, n] 1 = y := rfl
  have f2 : rd [x, y, z, u, n] 2 = z := rfl
  have f3 : rd [x, y, z, u, n] 3 = u := rfl
  rw [e0, e1, e2, f0, f1, f2, f3, show spec_l01Is k a [x, y] = some (hasB a x y) from spec_is k v.toLawnR hx hy, show spec_l01Is k a [z, u] = some (hasB a z u) from spec_is k v.toLawnR hz hu,
    show impl_Lawn_has k a [x, y] = some (hasB a x y) from impl_has k a x y, show impl_Lawn_has k a [z, u] = some (hasB a z u) from impl_has k a z u, wrap64 (x := n) (by omega), spec_in, impl_in]
  simp only [Option.bind_some]
  cases h1 : hasB a x y with
  | false => exact ⟨2, g, rfl, .inr ⟨by omega, rfl⟩⟩
  | true =>
    cases h2 : hasB a z u with
    | false => exact ⟨2, g, rfl, .inr ⟨by omega, rfl⟩⟩
    | true =>
      simp only [Bool.not_true, cond_false]
      cases h3 : (decide (1 ≤ n) && decide (n ≤ 18)) with
      | false => exact ⟨2, g, rfl, .inr ⟨by omega, rfl⟩⟩
      | true =>
        simp only [Bool.and_eq_true, decide_eq_true_eq] at h3
        rw [spec_grass k v.toLawnS hx hy, spec_grass k v.toLawnS hz hu, impl_grass k v.toLawnS, impl_grass k v.toLawnS]
        simp only [Option.bind_some, Bool.not_true, cond_false]
        cases h4 : grassB a x y with
        | false => exact ⟨4, g, rfl, .inr ⟨by omega, rfl⟩⟩
        | true =>
          cases h5 : grassB a z u with
          | false => exact ⟨4, g, rfl, .inr ⟨by omega, rfl⟩⟩
          | true =>
            simp only [Bool.not_true, cond_false]
            rw [eqLxy]
            cases h6 : (decide (x = z) && decide (y = u)) with
            | true => exact ⟨4, g, rfl, .inr ⟨by omega, rfl⟩⟩
            | false =>
              have hp := grass_in10 v h4
              have hq := grass_in10 v h5
              have hA := lev9 hl hp
              have hB := lev9 hl hq
              obtain ⟨hpx, hpy⟩ := hp
              obtain ⟨hqx, hqy⟩ := hq
              simp only at hpx hpy hqx hqy
              have hne : y.toNat * 10 + x.toNat ≠ u.toNat * 10 + z.toNat := by
                intro e
                have ex : x = z := by omega
                have ey : y = u := by omega
                subst ex ey
                simp at h6
              have hAv : rd g (y.toNat * 10 + x.toNat) = levP g (x, y) := rfl
              have hBv : rd g (u.toNat * 10 + z.toNat) = levP g (z, u) := rfl
              simp only [cond_false]
              rw [show spec_l06At k g [x, y] = some (levP g (x, y)) from spec_lat' k hg (p := (x, y)) ⟨hpx, hpy⟩, show spec_l06At k g [z, u] = some (levP g (z, u)) from spec_lat' k hg (p := (z, u)) ⟨hqx, hqy⟩,
                show impl_Levels_more k g [x, y] _ = some _ from impl_more k (p := (x, y)) ⟨hpx, hpy⟩ _]
              simp only [Option.bind_some]
              rw [show ∀ g', impl_Levels_more k g' [z, u] n = some (List.set g' (u.toNat * 10 + z.toNat) (IntKind.wrap .i8 (levP g' (z, u) + IntKind.wrap .i8 n))) from fun g' => impl_more k (p := (z, u)) ⟨hqx, hqy⟩ n]
              simp only [Option.bind_some]
              have hB2 : ∀ V, levP (List.set g (y.toNat * 10 + x.toNat) V) (z, u) = levP g (z, u) := by
                intro V
                show rd (List.set g _ V) (u.toNat * 10 + z.toNat) = _
                rw [rd_set, if_neg (fun e => hne e.1)]
                rfl
              have hB3 : ∀ V, rd (List.set g (y.toNat * 10 + x.toNat) V) (u.toNat * 10 + z.toNat) = levP g (z, u) := hB2
              simp only [hB2, hB3, Nat.zero_add, Nat.mul_one, hAv]
              rw [spec_level, spec_level]
              generalize levP g (x, y) = A at hA ⊢
              generalize levP g (z, u) = B at hB ⊢
              rw [wrap64 (x := A - n) (by omega), wrap64 (x := B + n) (by omega), wrap64 (x := 0 - n) (by omega), wrap8 (x := 0 - n) (by omega), wrap8 (x := n) (by omega), wrap8 (x := A + (0 - n)) (by omega), wrap8 (x := B + n) (by omega), wrap8 (x := A - n) (by omega), show A + (0 - n) = A - n by omega]
              have hR : LevR (List.set (List.set g (y.toNat * 10 + x.toNat) (A - n)) (u.toNat * 10 + z.toNat) (B + n)) := (hg.set (by omega)).set (by omega)
              rw [impl_lev k v.toLawnR hR hk, hv, Bool.true_and]
              have h2 := levB_two hg hl (p := (x, y)) (q := (z, u)) ⟨hpx, hpy⟩ ⟨hqx, hqy⟩ h4 h5 hne (A := A - n) (B := B + n) (by omega) (by omega)
              simp only at h2
              rw [h2]
              simp only [Option.bind_some]
              cases h7 : (decide (-9 ≤ A - n) && decide (A - n ≤ 9)) with
              | false => exact ⟨4, g, rfl, .inr ⟨by omega, rfl⟩⟩
              | true =>
                cases h8 : (decide (-9 ≤ B + n) && decide (B + n ≤ 9)) with
                | false => exact ⟨4, g, rfl, .inr ⟨by omega, rfl⟩⟩
                | true =>
                  rw [h7, h8] at h2
                  simp (disch := omega) only [Bool.not_true, cond_false, bT, cond_true, Bool.and_true]
                  exact ⟨0, _, rfl, .inl ⟨rfl, hR, h2, rfl⟩⟩

end Go.Proofs.Ytkblhnedillknaa.Tt
