/- Plain laws: hauls, one behind the other. -/
import Derived.Test.YtkblhnedillknaaY40
set_option linter.unusedVariables false
set_option linter.unusedSimpArgs false
namespace Go.Proofs.Ytkblhnedillknaa.Tt
open Go.Ev Go

theorem cnt_five {a : List Int} {n : Nat} (h : a.length = n * 5) : cnt 5 a = n := by unfold cnt; omega

/-- Rows of hauls. -/
structure HaulsR (l : List Int) (n : Nat) : Prop where
  len : l.length = n * 5
  small : n ≤ 1048576
  rng : ∀ j, j < l.length → -128 ≤ rd l j ∧ rd l j < 128

def haul (l : List Int) (i : Nat) : List Int := [rd l (i * 5), rd l (i * 5 + 1), rd l (i * 5 + 2), rd l (i * 5 + 3), rd l (i * 5 + 4)]

/-! ## All hauls -/

/-- The code and the levels behind a haul. -/
def mvS (k : Nat) (a : List Int) (s : Int × List Int) (h : List Int) : Int × List Int :=
  cond (s.1 == 0) (((impl_Lawn_move k a s.2 h).getD ([], 0)).2, ((impl_Lawn_move k a s.2 h).getD ([], 0)).1) s
def mvN (k : Nat) (a l : List Int) (s : Int × List Int) : Nat → Int × List Int
  | 0 => s
  | i + 1 => mvS k a (mvN k a l s i) (haul l i)

theorem mvN_stick (k : Nat) (a l : List Int) (s : Int × List Int) (i : Nat) (h : (mvN k a l s i).1 ≠ 0) : ∀ m, mvN k a l s (i + m) = mvN k a l s i := by
  intro m
  induction m with
  | zero => rfl
  | succ m ih =>
    show mvS k a (mvN k a l s (i + m)) (haul l (i + m)) = _
    rw [ih]
    unfold mvS
    rw [eqF h]
    rfl

theorem haul_range {l : List Int} {n : Nat} (hl : HaulsR l n) {i : Nat} (hi : i < n) : (-128 ≤ rd l (i * 5) ∧ rd l (i * 5) < 128) ∧ (-128 ≤ rd l (i * 5 + 1) ∧ rd l (i * 5 + 1) < 128) ∧ (-128 ≤ rd l (i * 5 + 2) ∧ rd l (i * 5 + 2) < 128) ∧ (-128 ≤ rd l (i * 5 + 3) ∧ rd l (i * 5 + 3) < 128) ∧ (-128 ≤ rd l (i * 5 + 4) ∧ rd l (i * 5 + 4) < 128) := by
  have := hl.len
  exact ⟨hl.rng _ (by omega), hl.rng _ (by omega), hl.rng _ (by omega), hl.rng _ (by omega), hl.rng _ (by omega)⟩

def StOK (a : List Int) (s : Int × List Int) : Prop := s.1 = 0 → LevR s.2 ∧ levB a s.2 = true

theorem mv_step (k : Nat) {a : List Int} {w h : Nat} (v : LawnV a w h) (hv : lawnB a = true) {l : List Int} {n : Nat} (hl : HaulsR l n) {i : Nat} (hi : i < n) (hk : 10 < k) {s : Int × List Int} (hs : StOK a s) (h0 : s.1 = 0) :
    ∃ c g', spec_l06Move k a s.2 (haul l i) = some (c, g') ∧ (mvS k a s (haul l i)).1 = c ∧ (c = 0 → (mvS k a s (haul l i)).2 = g') ∧ impl_Lawn_move k a s.2 (haul l i) = some ((mvS k a s (haul l i)).2, (mvS k a s (haul l i)).1) ∧ StOK a (mvS k a s (haul l i)) := by
  obtain ⟨r1, r2, r3, r4, r5⟩ := haul_range hl hi
  obtain ⟨hg, hb⟩ := hs h0
  obtain ⟨c, g', q1, q2⟩ := move_both k v hv hg hb r1 r2 r3 r4 r5 hk
  refine ⟨c, g', q1, ?_⟩
  unfold mvS
  rw [eqT h0]
  simp only [cond_true]
  unfold haul
  rcases q2 with ⟨e, h1, h2, h3⟩ | ⟨e, h3⟩
  · rw [h3]
    exact ⟨e.symm, fun _ => rfl, rfl, fun _ => ⟨h1, h2⟩⟩
  · rw [h3]
    exact ⟨rfl, fun h => absurd h e, rfl, fun h => absurd h e⟩

theorem spec_all_hauls {R : Type} (k : Nat) (hk : 100 < k) (K1 : Int → (List Int) → Option R) (K2 : (List Int) → (List Int) → Option R) {a : List Int} {w h : Nat} (v : LawnV a w h) (hv : lawnB a = true) {l : List Int} {n : Nat} (hl : HaulsR l n) (hn : n ≤ 60) (s : Int × List Int) (hs : StOK a s) (h0 : s.1 = 0) (z : List Int) :
    spec_MoveAll_l0 k K1 K2 l 0 a s.2 z = cond ((mvN k a l s n).1 != 0) (K1 (mvN k a l s n).1 (List.replicate 100 0)) (K2 (mvN k a l s n).2 z) := by
  have go : ∀ m i f, i + m = n → m < f → (mvN k a l s i).1 = 0 → StOK a (mvN k a l s i) →
      loopF (fun (rec : (List Int) × Int × (List Int) × (List Int) × (List Int) → Option R) (p : (List Int) × Int × (List Int) × (List Int) × (List Int)) => spec_MoveAll_s0 k K1 K2 (fun h1 h2 h3 h4 h5 => rec (h1, h2, h3, h4, h5)) p.1 p.2.1 p.2.2.1 p.2.2.2.1 p.2.2.2.2) f (l, (i : Int), a, (mvN k a l s i).2, z) =
        cond ((mvN k a l s n).1 != 0) (K1 (mvN k a l s n).1 (List.replicate 100 0)) (K2 (mvN k a l s n).2 z) := by
    intro m
    induction m with
    | zero =>
      intro i f hi hf h1 h2
      obtain ⟨f, rfl⟩ : ∃ g, f = g + 1 := ⟨f - 1, by omega⟩
      have : i = n := by omega
      subst this
      rw [loopF]
      dsimp only
      unfold spec_MoveAll_s0
      rw [cnt_five hl.len, bF (by omega), neF h1]
      rfl
    | succ m ih =>
      intro i f hi hf h1 h2
      obtain ⟨f, rfl⟩ : ∃ g, f = g + 1 := ⟨f - 1, by omega⟩
      obtain ⟨c, g', q1, q2, q3, _, q5⟩ := mv_step k v hv hl (i := i) (by omega) (by omega) h2 h1
      have hm1 : mvN k a l s (i + 1) = mvS k a (mvN k a l s i) (haul l i) := rfl
      rw [← hm1] at q2 q3 q5
      rw [loopF]
      dsimp only
      unfold spec_MoveAll_s0
      rw [cnt_five hl.len, bT (p := (i : Int) < (n : Int)) (by omega), bT (p := (0 : Int) ≤ (i : Int)) (by omega)]
      simp only [cond_true, Bool.and_true, Int.toNat_natCast]
      rw [show ([rd l (i * 5), rd l (i * 5 + 1), rd l (i * 5 + 2), rd l (i * 5 + 3), rd l (i * 5 + 4)] : List Int) = haul l i from rfl, q1]
      simp only [Option.bind_some]
      have e3 : IntKind.wrap .i64 ((i : Int) + 1) = ((i + 1 : Nat) : Int) := by have := hl.small; rw [wrap64 (by omega)]; omega
      by_cases hc : c = 0
      · rw [neF hc, e3]
        simp only [cond_false]
        rw [← q3 hc]
        exact ih (i + 1) f (by omega) (by omega) (q2.trans hc) q5
      · rw [neT hc]
        simp only [cond_true]
        have hst := mvN_stick k a l s (i + 1) (by rw [q2]; exact hc) m
        rw [show i + 1 + m = n by omega] at hst
        rw [hst, q2, neT hc]
        rfl
  exact go n 0 k (by omega) (by omega) h0 hs

end Go.Proofs.Ytkblhnedillknaa.Tt
