/- Plain laws: SidesOf and EdgeLong. -/
import Derived.Test.YtbibnmaoagcfgaaY14
set_option linter.unusedVariables false
set_option linter.unusedSimpArgs false
namespace Go.Proofs.Ytbibnmaoagcfgaa.Tt
open Go.Ev Go

theorem eqSides_self (k : Nat) (a : List Int) (hk : 5 < k) : laws_eqSides k a a = some true := by
  unfold laws_eqSides laws_eqSides_l0
  refine loopF_go (step := fun (rec : Int × (List Int) × (List Int) → Option Bool) (p : Int × (List Int) × (List Int)) => laws_eqSides_s0 k (fun y1 => some y1) (some true) (fun h1 h2 h3 => rec (h1, h2, h3)) p.1 p.2.1 p.2.2)
    (fun i => ((i : Int), a, a)) (fun _ _ => some true) 5 ?_ ?_ 5 0 k rfl hk
  · intro rec
    dsimp only
    unfold laws_eqSides_s0
    simp (disch := omega) only [bF, cond_false]
  · intro i m hi rec hrec
    dsimp only at hrec ⊢
    unfold laws_eqSides_s0
    simp (disch := omega) only [bT, cond_true, Bool.and_true, bne_self_eq_false, cond_false, wrap64]
    exact hrec

/-- A pair of functions of a lawn alone that agree. -/
theorem sidesOf_eq (k : Nat) {a : List Int} (ha : LawnR a) (hk : 101 < k) : spec_SidesOf k a = impl_SidesOf k a ∧ ∃ r, impl_SidesOf k a = some r := by
  unfold spec_SidesOf impl_SidesOf
  rw [spec_valid k (by omega) ha, impl_valid k (by omega) ha]
  cases hv : lawnB a with
  | false => exact ⟨rfl, _, rfl⟩
  | true =>
    obtain ⟨w, h, v⟩ := lawnV_of ha hv
    have h3 := kind3_of ha hv
    have e1 := spec_sides k v h3 hk
    have e2 := impl_sides k v h3 hk
    simp only [Option.bind_some, Bool.not_true, cond_false, e1, e2]
    exact ⟨trivial, _, rfl⟩

theorem sidesOf_true {a : List Int} (ha : LawnR a) : ∃ k, laws_FnExactSidesOf k a = some true := by
  obtain ⟨k, hk⟩ : ∃ k, k = 189 := ⟨_, rfl⟩
  obtain ⟨e, r, hr⟩ := sidesOf_eq (k + 11) ha (by omega)
  refine ⟨k + 11, ?_⟩
  unfold laws_FnExactSidesOf
  simp only [toLawn_id k a ha.len, Option.bind_some, e, hr]
  rw [eqSides_self (k + 11) _ (by omega)]
  simp only [Option.bind_some, Bool.not_true, cond_false, bne_self_eq_false]

theorem edgeLong_eq (k : Nat) {a : List Int} (ha : LawnR a) (hk : 101 < k) : spec_EdgeLong k a = impl_EdgeLong k a ∧ ∃ r, impl_EdgeLong k a = some r := by
  unfold spec_EdgeLong impl_EdgeLong
  rw [spec_valid k (by omega) ha, impl_valid k (by omega) ha]
  cases hv : lawnB a with
  | false => exact ⟨rfl, _, rfl⟩
  | true =>
    obtain ⟨w, h, v⟩ := lawnV_of ha hv
    have h3 := kind3_of ha hv
    have e1 := spec_edge k v h3 hk
    have e2 := impl_edge k v h3 hk
    simp only [Option.bind_some, Bool.not_true, cond_false, e1, e2]
    exact ⟨trivial, _, rfl⟩

theorem edgeLong_true {a : List Int} (ha : LawnR a) : ∃ k, laws_FnExactEdgeLong k a = some true := by
  obtain ⟨k, hk⟩ : ∃ k, k = 189 := ⟨_, rfl⟩
  obtain ⟨e, r, hr⟩ := edgeLong_eq (k + 11) ha (by omega)
  refine ⟨k + 11, ?_⟩
  unfold laws_FnExactEdgeLong
  simp only [toLawn_id k a ha.len, Option.bind_some, e, hr]
  simp only [Option.bind_some, cond_false, bne_self_eq_false]

end Go.Proofs.Ytbibnmaoagcfgaa.Tt
