/- Plain laws: levels compared. -/
import Derived.Test.YtkblhnedillknaaY11
set_option linter.unusedVariables false
set_option linter.unusedSimpArgs false
namespace Go.Proofs.Ytkblhnedillknaa.Tt
open Go.Ev Go

theorem eqInt8A10_self (k : Nat) (a : List Int) (hk : 10 < k) : laws_eqInt8A10 k a a = some true := by
  unfold laws_eqInt8A10 laws_eqInt8A10_l0
  refine loopF_go (step := fun (rec : Int × (List Int) × (List Int) → Option Bool) (p : Int × (List Int) × (List Int)) => laws_eqInt8A10_s0 k (fun y1 => some y1) (some true) (fun h1 h2 h3 => rec (h1, h2, h3)) p.1 p.2.1 p.2.2)
    (fun i => ((i : Int), a, a)) (fun _ _ => some true) 10 ?_ ?_ 10 0 k (by omega) hk
  · intro rec
    dsimp only
    unfold laws_eqInt8A10_s0
    simp (disch := omega) only [bF, cond_false]
  · intro i m hi rec hrec
    dsimp only at hrec ⊢
    unfold laws_eqInt8A10_s0
    simp (disch := omega) only [bT, cond_true, Bool.and_true, bne_self_eq_false, cond_false, wrap64]
    exact hrec

theorem eqLevels_self (k : Nat) (a : List Int) (hk : 10 < k) : laws_eqLevels k a a = some true := by
  unfold laws_eqLevels laws_eqLevels_l0
  refine loopF_go (step := fun (rec : Int × (List Int) × (List Int) → Option Bool) (p : Int × (List Int) × (List Int)) => laws_eqLevels_s0 k (fun y1 => some y1) (some true) (fun h1 h2 h3 => rec (h1, h2, h3)) p.1 p.2.1 p.2.2)
    (fun i => ((i : Int), a, a)) (fun _ _ => some true) 10 ?_ ?_ 10 0 k (by omega) hk
  · intro rec
    dsimp only
    unfold laws_eqLevels_s0
    simp (disch := omega) only [bF, cond_false]
  · intro i m hi rec hrec
    dsimp only at hrec ⊢
    unfold laws_eqLevels_s0
    rw [eqInt8A10_self k _ hk]
    simp (disch := omega) only [bT, cond_true, Bool.and_true, Bool.not_true, Option.bind_some, cond_false, wrap64]
    exact hrec

end Go.Proofs.Ytkblhnedillknaa.Tt
