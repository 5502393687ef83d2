/- Plain laws: codes of lawns and cells; functions of package slices over cells. -/
import Derived.Test.YtkblhnedillknaaY9
set_option linter.unusedVariables false
set_option linter.unusedSimpArgs false
namespace Go.Proofs.Ytkblhnedillknaa.Tt
open Go.Ev Go

theorem eqT {a b : Int} (h : a = b) : (a == b) = true := by simp [h]
theorem eqF {a b : Int} (h : a ≠ b) : (a == b) = false := by simp [h]
theorem neT {a b : Int} (h : a ≠ b) : (a != b) = true := by simp [h]
theorem neF {a b : Int} (h : a = b) : (a != b) = false := by simp [h]

theorem tdiv2 {d : Int} (h : 0 ≤ d) : Int.tdiv d 2 = d / 2 := Int.tdiv_eq_ediv_of_nonneg h

def findI {α : Type} (g : α → Bool) : List α → Nat → Int
  | [], _ => -1
  | p :: r, i => cond (g p) (i : Int) (findI g r (i + 1))

theorem findI_any {α : Type} (g : α → Bool) : ∀ (L : List α) (i : Nat), decide (findI g L i ≥ 0) = L.any g := by
  intro L
  induction L with
  | nil => intro i; rfl
  | cons p r ih =>
    intro i
    simp only [findI, List.any_cons]
    have := ih (i + 1)
    by_cases h : g p = true
    · simp [h]
    · simpa [h] using this

theorem drop_getD {α : Type} (L : List α) (d : α) {i : Nat} (h : i < L.length) : L.drop i = L.getD i d :: L.drop (i + 1) := by
  rw [List.drop_eq_getElem_cons h]
  simp [List.getD_eq_getElem?_getD, h]

theorem indexFunc_cells (k : Nat) (L : List (Int × Int)) (f : List Int → Option Bool) (g : Int × Int → Bool) (hf : ∀ p ∈ L, f [p.1, p.2] = some (g p)) (hL : L.length ≤ 1048576) (hk : L.length < k) :
    slices_IndexFunc_impl_Cell k (fl L) f = some (findI g L 0) := by
  unfold slices_IndexFunc_impl_Cell slices_IndexFunc_impl_Cell_l0
  rw [cnt_fl]
  have := loopF_go (step := fun (rec : (List Int) × (List Int → Option Bool) × Int × Int → Option Int) (p : (List Int) × (List Int → Option Bool) × Int × Int) => slices_IndexFunc_impl_Cell_s0 k (fun y1 => some y1) (some (-1)) (fun h1 h2 h3 h4 => rec (h1, h2, h3, h4)) p.1 p.2.1 p.2.2.1 p.2.2.2)
    (fun i => (fl L, f, (L.length : Int), (i : Int))) (fun i _ => some (findI g (L.drop i) i)) L.length ?_ ?_ L.length 0 k (by omega) hk
  · exact this
  · intro rec
    dsimp only
    unfold slices_IndexFunc_impl_Cell_s0
    simp (disch := omega) only [bF, cond_false, List.drop_length, findI]
  · intro i m hi rec hrec
    dsimp only at hrec ⊢
    unfold slices_IndexFunc_impl_Cell_s0
    have hm := hf _ (getD_mem L (0, 0) (show i < L.length by omega))
    rw [drop_getD L (0, 0) (show i < L.length by omega)]
    simp (disch := omega) only [bT, cond_true, cnt_fl, Bool.and_true, Int.toNat_natCast, fl_x, fl_y, hm, Option.bind_some, wrap64, findI]
    cases g (L.getD i (0, 0)) with
    | true => rfl
    | false => simp only [cond_false]; exact hrec

theorem containsFunc_cells (k : Nat) (L : List (Int × Int)) (f : List Int → Option Bool) (g : Int × Int → Bool) (hf : ∀ p ∈ L, f [p.1, p.2] = some (g p)) (hL : L.length ≤ 1048576) (hk : L.length < k) :
    slices_ContainsFunc_impl_Cell k (fl L) f = some (L.any g) := by
  unfold slices_ContainsFunc_impl_Cell
  rw [indexFunc_cells k L f g hf hL hk]
  simp only [Option.bind_some]
  rw [findI_any]

theorem impl_cells (k : Nat) {a : List Int} (ha : LawnR a) (L : List (Int × Int)) (hL : L.length ≤ 1000) (hk : 10 < k) (hk2 : L.length < k) :
    impl_cellsCode k a (fl L) = some (cond (lawnB a) (cond (L.any fun p => !(hasB a p.1 p.2)) 2 0) 1) := by
  unfold impl_cellsCode
  rw [impl_valid k hk ha]
  simp only [Option.bind_some]
  cases lawnB a with
  | false => rfl
  | true =>
    simp only [Bool.not_true, cond_false, cond_true]
    rw [containsFunc_cells k L _ (fun p => !(hasB a p.1 p.2)) (fun p _ => by unfold impl_cellsCode_1; rw [show impl_Lawn_has k a [rd [rd [p.1, p.2] 0, rd [p.1, p.2] 1] 0, rd [rd [p.1, p.2] 0, rd [p.1, p.2] 1] 1] = some (hasB a p.1 p.2) from impl_has k a p.1 p.2]; rfl) (by omega) hk2]
    simp only [Option.bind_some]
    cases (L.any fun p => !(hasB a p.1 p.2)) <;> rfl

theorem impl_cells_nil (k : Nat) {a : List Int} (ha : LawnR a) (hk : 10 < k) : impl_cellsCode k a [] = some (cond (lawnB a) 0 1) := by
  have := impl_cells k ha [] (by simp) hk (by simp; omega)
  simpa [fl] using this

theorem impl_cells_one (k : Nat) {a : List Int} (ha : LawnR a) (x y : Int) (hk : 10 < k) : impl_cellsCode k a [x, y] = some (cond (lawnB a) (cond (hasB a x y) 0 2) 1) := by
  have := impl_cells k ha [(x, y)] (by simp) hk (by simp; omega)
  simp only [fl, List.any_cons, List.any_nil, Bool.or_false] at this
  rw [this]
  cases hasB a x y <;> rfl

/-! ## Cells 0 to 9, of whatever lawn -/

theorem spec_at10 (k : Nat) {a : List Int} (ha : LawnR a) {x y : Int} (hx : 0 ≤ x ∧ x < 10) (hy : 0 ≤ y ∧ y < 10) : spec_l01At k a [x, y] = some (kindV a x y) := by
  have hc := ha.cell (y.toNat * 10 + x.toNat) (by omega)
  have e : 2 + (y.toNat * 10 + x.toNat) = 2 + y.toNat * 10 + x.toNat := by omega
  rw [e] at hc
  unfold spec_l01At
  have e1 : rd [x, y] 0 = x := rfl
  have e2 : rd [x, y] 1 = y := rfl
  rw [e1, e2]
  simp (disch := omega) only [bT, cond_true, Bool.and_true, Nat.mul_one, wrap64]
  rfl

theorem impl_grass10 (k : Nat) {a : List Int} (ha : LawnR a) {x y : Int} (hx : 0 ≤ x ∧ x < 10) (hy : 0 ≤ y ∧ y < 10) : impl_Lawn_grass k a [x, y] = some (grassB a x y) := by
  unfold impl_Lawn_grass impl_Lawn_is grassB
  have e : impl_Lawn_has k a [rd [rd [x, y] 0, rd [x, y] 1] 0, rd [rd [x, y] 0, rd [x, y] 1] 1] = some (hasB a x y) := impl_has k a x y
  rw [e]
  cases h : hasB a x y with
  | false => rfl
  | true =>
    have e2 : impl_Lawn_kind k a [rd [rd [x, y] 0, rd [x, y] 1] 0, rd [rd [x, y] 0, rd [x, y] 1] 1] = some (kindV a x y) := spec_at10 k ha hx hy
    simp only [Option.bind_some, cond_true, e2, Bool.true_and]

theorem spec_in (k : Nat) (n lo hi : Int) : spec_l00In k n lo hi = some (decide (lo ≤ n) && decide (n ≤ hi)) := by
  unfold spec_l00In
  by_cases h : lo ≤ n
  · rw [bT (p := n ≥ lo) h]; rfl
  · rw [bF (p := n ≥ lo) h]; rfl

theorem impl_in (k : Nat) (n lo hi : Int) : impl_within k n lo hi = some (decide (lo ≤ n) && decide (n ≤ hi)) := by
  unfold impl_within
  by_cases h : lo ≤ n
  · rw [bT h]; rfl
  · rw [bF h]; rfl

end Go.Proofs.Ytkblhnedillknaa.Tt
