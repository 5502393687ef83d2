/- Plain laws: the cells beside a cell, in the reference. -/
import Derived.Test.YtkblhnedillknaaY13
import Derived.Test.YtkblhnedillknaaY14n
set_option linter.unusedVariables false
set_option linter.unusedSimpArgs false
namespace Go.Proofs.Ytkblhnedillknaa.Tt
open Go.Ev Go

theorem spec_beside_cells (k : Nat) {a : List Int} {w h : Nat} (v : LawnV a w h) {x y : Int} (hx : -128 ≤ x ∧ x < 128) (hy : -128 ≤ y ∧ y < 128) (hk : 5 < k) : spec_l01Beside k a [x, y] = some (fl ((nbrs x y).filter fun p => hasB a p.1 p.2)) := by
  unfold spec_l01Beside
  rw [show ([(rd [x, y] 0), (IntKind.wrap .i8 ((rd [x, y] 1) - 1)), (IntKind.wrap .i8 ((rd [x, y] 0) - 1)), (rd [x, y] 1), (IntKind.wrap .i8 ((rd [x, y] 0) + 1)), (rd [x, y] 1), (rd [x, y] 0), (IntKind.wrap .i8 ((rd [x, y] 1) + 1))] : List Int) = fl (nbrs x y) from rfl]
  have hl4 : (nbrs x y).length = 4 := rfl
  unfold spec_l01Beside_l0
  have := loopF_go (R := List Int) (step := fun (rec : (List Int) × Int × (List Int) × (List Int) → Option (List Int)) (p : (List Int) × Int × (List Int) × (List Int)) => spec_l01Beside_s0 k (fun y1 => some y1) (fun h1 h2 h3 h4 => rec (h1, h2, h3, h4)) p.1 p.2.1 p.2.2.1 p.2.2.2)
    (fun i => (a, (i : Int), fl (nbrs x y), fl (((nbrs x y).take i).filter fun p => hasB a p.1 p.2))) (fun _ _ => some (fl ((nbrs x y).filter fun p => hasB a p.1 p.2))) (nbrs x y).length ?_ ?_ 4 0 k rfl (by omega)
  · exact this
  · intro rec
    dsimp only
    unfold spec_l01Beside_s0
    simp (disch := omega) only [cnt_fl, bF, cond_false, List.take_length]
  · intro i m hi rec hrec
    dsimp only at hrec ⊢
    unfold spec_l01Beside_s0
    have hil : i < (nbrs x y).length := by omega
    have hr := nbrs_range hx hy _ (getD_mem (nbrs x y) (0, 0) hil)
    have hlen : (fl (((nbrs x y).take i).filter fun p => hasB a p.1 p.2)).length ≤ 20 := by
      rw [fl_length]
      have h1 := List.length_filter_le (fun p => hasB a p.1 p.2) ((nbrs x y).take i)
      rw [List.length_take] at h1
      omega
    rw [take_getD _ (0, 0) hil, List.filter_append, fl_append] at hrec
    simp only [cnt_fl, Int.toNat_natCast, fl_x, fl_y]
    generalize (nbrs x y).getD i (0, 0) = p at hr hrec ⊢
    generalize fl (((nbrs x y).take i).filter fun p => hasB a p.1 p.2) = o at hlen hrec ⊢
    have hb : decide (o.length + 2 ≤ bigLen) = true := bT (by rw [bigLen_val]; omega)
    rw [show spec_l01Is k a [p.1, p.2] = some (hasB a p.1 p.2) from spec_is k v.toLawnR hr.1 hr.2, wrap64 (x := (i : Int) + 1) (by omega), bT (p := (i : Int) < ((nbrs x y).length : Int)) (by omega), bT (p := (0 : Int) ≤ (i : Int)) (by omega)]
    simp only [cond_true, Bool.and_true, Option.bind_some, hb]
    cases hq : hasB a p.1 p.2 with
    | true =>
      simp only [List.filter_cons, hq, if_true, List.filter_nil] at hrec
      simp only [cond_true]
      exact hrec
    | false =>
      simp only [List.filter_cons, hq, Bool.false_eq_true, if_false, List.filter_nil] at hrec
      simp only [cond_false]
      rw [show fl ([] : List (Int × Int)) = [] from rfl, List.append_nil] at hrec
      exact hrec

end Go.Proofs.Ytkblhnedillknaa.Tt
