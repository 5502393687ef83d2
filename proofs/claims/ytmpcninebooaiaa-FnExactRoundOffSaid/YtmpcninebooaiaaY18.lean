/- Plain laws: RoundOff. -/
import Derived.Test.YtmpcninebooaiaaY16
set_option linter.unusedVariables false
set_option linter.unusedSimpArgs false
namespace Go.Proofs.Ytmpcninebooaiaa.Tt
open Go.Ev Go

def bedB (a : List Int) (p : Int × Int) : Bool := kindV a p.1 p.2 == 1
def quaB (a : List Int) (p : Int × Int) : Bool := decide (rd (arV a p.1 p.2) 0 ≥ 3)

theorem filter_le {α : Type} (q q' : α → Bool) : ∀ (L : List α), (∀ x ∈ L, q' x = true → q x = true) → (L.filter q').length ≤ (L.filter q).length := by
  intro L
  induction L with
  | nil => intro _; simp
  | cons y r ih =>
    intro h1
    have := ih fun x hx => h1 x (by simp [hx])
    have hy := h1 y (by simp)
    simp only [List.filter_cons]
    cases e1 : q' y with
    | true => rw [hy e1]; simpa using this
    | false => cases q y <;> simp <;> omega

theorem filter_lt {α : Type} (q q' : α → Bool) : ∀ (L : List α), (∀ x ∈ L, q' x = true → q x = true) → (∃ x ∈ L, q x = true ∧ q' x = false) → (L.filter q').length < (L.filter q).length := by
  intro L
  induction L with
  | nil => intro _ h; obtain ⟨x, hx, _⟩ := h; simp at hx
  | cons p r ih =>
    intro h1 h2
    have hle := filter_le q q' r fun x hx => h1 x (by simp [hx])
    simp only [List.filter_cons]
    obtain ⟨x, hx, g1, g2⟩ := h2
    rcases List.mem_cons.1 hx with rfl | hx
    · rw [g1, g2]
      simp
      omega
    · have := ih (fun x hx => h1 x (by simp [hx])) ⟨x, hx, g1, g2⟩
      have hp := h1 p (by simp)
      cases e1 : q' p with
      | true => rw [hp e1]; simpa using this
      | false => cases q p <;> simp <;> omega

/-- As loopF_go; a round may also go to a state whose own round ends. -/
theorem loopF_go2 {S R : Type} {step : (S → Option R) → S → Option R} (σ : Nat → S) (V : Nat → Nat → Option R) (n : Nat)
    (h0 : ∀ rec : S → Option R, step rec (σ n) = V n 0)
    (hs : ∀ i m, i + (m + 1) = n → ∀ rec : S → Option R, rec (σ (i + 1)) = V (i + 1) m → (∀ s' r, (∀ rec' : S → Option R, step rec' s' = r) → rec s' = r) → step rec (σ i) = V i (m + 1)) :
    ∀ m i f, i + m = n → m < f → loopF step f (σ i) = V i m := by
  intro m
  induction m with
  | zero =>
    intro i f hi hf
    obtain ⟨f, rfl⟩ : ∃ g, f = g + 1 := ⟨f - 1, by omega⟩
    have : i = n := by omega
    subst this
    rw [loopF]
    exact h0 _
  | succ m ih =>
    intro i f hi hf
    obtain ⟨f, rfl⟩ : ∃ g, f = g + 1 := ⟨f - 1, by omega⟩
    rw [loopF]
    refine hs i m hi _ (ih (i + 1) f (by omega) (by omega)) fun s' r h => ?_
    obtain ⟨g, rfl⟩ : ∃ g, f = g + 1 := ⟨f - 1, by omega⟩
    rw [loopF]
    exact h _

theorem turn_kind {a : List Int} {w h : Nat} (v : LawnV a w h) {p q : Int × Int} (hp : p ∈ allC w h) (hq : q ∈ allC w h) (n : Int) : kindV (turn a p.1 p.2 n) q.1 q.2 = if p = q then n else kindV a q.1 q.2 := by
  obtain ⟨p1, p2⟩ := cells_in v hp
  obtain ⟨q1, q2⟩ := cells_in v hq
  unfold kindV turn
  rw [rd_set2, v.len]
  by_cases e : p = q
  · subst e
    rw [if_pos (by omega), if_pos rfl]
  · rw [if_neg e, if_neg]
    intro hh
    apply e
    obtain ⟨x, y⟩ := p
    obtain ⟨x', y'⟩ := q
    simp only at p1 p2 q1 q2 hh ⊢
    rw [Prod.mk.injEq]
    omega

def beds (a : List Int) (w h : Nat) : List (Int × Int) := (allC w h).filter (bedB a)

theorem beds_turn {a : List Int} {w h : Nat} (v : LawnV a w h) {p : Int × Int} (hp : p ∈ beds a w h) : (beds (turn a p.1 p.2 0) w h).length < (beds a w h).length := by
  obtain ⟨hp1, hp2⟩ := List.mem_filter.1 hp
  refine filter_lt (bedB a) (bedB (turn a p.1 p.2 0)) (allC w h) ?_ ⟨p, hp1, hp2, ?_⟩
  · intro q hq
    unfold bedB
    rw [turn_kind v hp1 hq]
    split
    · intro h; simp at h
    · exact id
  · unfold bedB
    rw [turn_kind v hp1 hp1, if_pos rfl]
    rfl

theorem those_qua (k : Nat) {a : List Int} {w h : Nat} (v : LawnV a w h) (h3 : Kind3 a) (hk : 101 < k) :
    impl_Lawn_those k a (fun z1 => (impl_RoundOff_1 k [(rd z1 0), (rd z1 1)] a).bind fun b => some b) = some (fl ((beds a w h).filter (quaB a))) := by
  rw [impl_those k v (fun z1 => (impl_RoundOff_1 k [(rd z1 0), (rd z1 1)] a).bind fun b => some b) (fun p => bedB a p && quaB a p) (fun p hp => by
    show (impl_RoundOff_1 k [p.1, p.2] a).bind _ = _
    unfold impl_RoundOff_1
    rw [show impl_Lawn_is k a [rd [p.1, p.2] 0, rd [p.1, p.2] 1] 1 = some (hasB a p.1 p.2 && (kindV a p.1 p.2 == 1)) from impl_is k v.toLawnS p.1 p.2 1, hasB_all v hp, show impl_Lawn_around k a [rd [p.1, p.2] 0, rd [p.1, p.2] 1] = some (arV a p.1 p.2) from impl_around k v h3 _ _ (by omega)]
    simp only [Option.bind_some, Bool.true_and, bedB, quaB]
    cases (kindV a p.1 p.2 == 1) <;> rfl) hk]
  unfold beds
  rw [List.filter_filter]
  congr 2
  exact List.filter_congr fun p _ => Bool.and_comm _ _

/-- The search for the first cell in the reference. -/
theorem spec_first {R : Type} (k : Nat) (K1 : Int → Bool → (List Int) → (List Int) → Option R) {a : List Int} {w h : Nat} (v : LawnV a w h) (h3 : Kind3 a) (n : Int) (z : List Int) (hk : 101 < k) :
    spec_RoundOff_l0 k K1 n false 0 a z (fl (beds a w h)) = match (beds a w h).filter (quaB a) with
      | [] => K1 n false a z
      | p :: _ => K1 (IntKind.wrap .i64 (n + 1)) true (turn a p.1 p.2 0) z := by
  have hsm : (beds a w h).length ≤ 100 := filter_small v _
  have hin : ∀ p ∈ beds a w h, p ∈ allC w h := fun p hp => (List.mem_filter.1 hp).1
  generalize beds a w h = L at hsm hin ⊢
  unfold spec_RoundOff_l0
  have := loopF_go2 (R := R) (step := fun (rec : Int × Bool × Int × (List Int) × (List Int) × (List Int) → Option R) (p : Int × Bool × Int × (List Int) × (List Int) × (List Int)) => spec_RoundOff_s0 k K1 (fun h1 h2 h3 h4 h5 h6 => rec (h1, h2, h3, h4, h5, h6)) p.1 p.2.1 p.2.2.1 p.2.2.2.1 p.2.2.2.2.1 p.2.2.2.2.2)
    (fun i => (n, false, (i : Int), a, z, fl L)) (fun i _ => match (L.drop i).filter (quaB a) with
      | [] => K1 n false a z
      | p :: _ => K1 (IntKind.wrap .i64 (n + 1)) true (turn a p.1 p.2 0) z) L.length ?_ ?_ L.length 0 k (by omega) (by omega)
  · exact this
  · intro rec
    dsimp only
    unfold spec_RoundOff_s0
    simp (disch := omega) only [cnt_fl, bF, cond_false, List.drop_length, List.filter_nil]
  · intro i m hi rec hrec hend
    dsimp only at hrec ⊢
    unfold spec_RoundOff_s0
    have hil : i < L.length := by omega
    have hr := cells_in v (hin _ (getD_mem L (0, 0) hil))
    rw [drop_getD L (0, 0) hil, List.filter_cons]
    simp only [cnt_fl, Int.toNat_natCast, fl_x, fl_y]
    generalize L.getD i (0, 0) = p at hr ⊢
    rw [spec_near k v h3 (by omega) (by omega) (by omega), spec_with k a 0 hr.1 hr.2]
    simp (disch := omega) only [bT, cond_true, Bool.and_true, Bool.not_false, Option.bind_some, wrap64 (x := (i : Int) + 1)]
    rw [show decide (rd (arV a p.1 p.2) 0 ≥ 3) = quaB a p from rfl]
    cases hq : quaB a p with
    | false =>
      simp only [cond_false, Bool.false_eq_true, if_false]
      exact hrec
    | true =>
      simp only [cond_true, if_true]
      refine hend _ _ fun rec' => ?_
      dsimp only
      unfold spec_RoundOff_s0
      simp only [Bool.not_true, cond_false]
      cases decide ((i : Int) + 1 < ((cnt 2 (fl L) : Nat) : Int)) <;> rfl

theorem round_both (k : Nat) (z : List Int) (hk : 101 < k) : ∀ (m : Nat) (a : List Int) (w h : Nat) (n : Int), LawnV a w h → Kind3 a → (beds a w h).length ≤ m →
    ∃ r : List Int × Int × Int, (∀ f, m < f → loopF (fun (rec : Int × (List Int) × (List Int) → Option (List Int × Int × Int)) (p : Int × (List Int) × (List Int)) => impl_RoundOff_s0 k (fun y2 y3 y4 => some (y4, y2, y3)) (fun h1 h2 h3 => rec (h1, h2, h3)) p.1 p.2.1 p.2.2) f (n, a, z) = some r) ∧
      (∀ f, m + 1 < f → loopF (fun (rec : Int × Bool × (List Int) × (List Int) → Option (List Int × Int × Int)) (p : Int × Bool × (List Int) × (List Int)) => spec_RoundOff_s1 k (fun y2 y3 (y4 : List Int) => some (y3, y2, 0)) (fun h1 h2 h3 h4 => rec (h1, h2, h3, h4)) p.1 p.2.1 p.2.2.1 p.2.2.2) f (n, true, a, z) = some r) := by
  intro m
  induction m with
  | zero =>
    intro a w h n v h3 hm
    have hb : beds a w h = [] := List.length_eq_zero_iff.1 (by omega)
    refine ⟨(a, n, 0), ?_, ?_⟩
    · intro f hf
      obtain ⟨f, rfl⟩ : ∃ g, f = g + 1 := ⟨f - 1, by omega⟩
      rw [loopF]
      dsimp only
      unfold impl_RoundOff_s0
      rw [those_qua k v h3 hk, hb]
      have c0 : cnt 2 (fl ([] : List (Int × Int))) = 0 := by rw [cnt_fl]; rfl
      simp (disch := omega) only [Option.bind_some, List.filter_nil, c0, eqT, cond_true]
    · intro f hf
      obtain ⟨f, rfl⟩ : ∃ g, f = g + 1 + 1 := ⟨f - 2, by omega⟩
      rw [loopF]
      dsimp only
      unfold spec_RoundOff_s1
      rw [spec_cells k v 1 hk]
      simp only [cond_true, Option.bind_some]
      have e := spec_first (R := List Int × Int × Int) k (fun y2 y3 y4 y5 => loopF (fun (rec : Int × Bool × (List Int) × (List Int) → Option (List Int × Int × Int)) (p : Int × Bool × (List Int) × (List Int)) => spec_RoundOff_s1 k (fun y2 y3 (y4 : List Int) => some (y3, y2, 0)) (fun h1 h2 h3 h4 => rec (h1, h2, h3, h4)) p.1 p.2.1 p.2.2.1 p.2.2.2) (f + 1) (y2, y3, y4, y5)) v h3 n z hk
      rw [hb] at e
      unfold beds bedB at hb
      rw [hb]
      refine e.trans ?_
      simp only [List.filter_nil]
      rw [loopF]
      rfl
  | succ m ih =>
    intro a w h n v h3 hm
    cases hq : (beds a w h).filter (quaB a) with
    | nil =>
      refine ⟨(a, n, 0), ?_, ?_⟩
      · intro f hf
        obtain ⟨f, rfl⟩ : ∃ g, f = g + 1 := ⟨f - 1, by omega⟩
        rw [loopF]
        dsimp only
        unfold impl_RoundOff_s0
        rw [those_qua k v h3 hk, hq]
        have c0 : cnt 2 (fl ([] : List (Int × Int))) = 0 := by rw [cnt_fl]; rfl
        simp (disch := omega) only [Option.bind_some, c0, eqT, cond_true]
      · intro f hf
        obtain ⟨f, rfl⟩ : ∃ g, f = g + 1 + 1 := ⟨f - 2, by omega⟩
        rw [loopF]
        dsimp only
        unfold spec_RoundOff_s1
        rw [spec_cells k v 1 hk]
        simp only [cond_true, Option.bind_some]
        have e := spec_first (R := List Int × Int × Int) k (fun y2 y3 y4 y5 => loopF (fun (rec : Int × Bool × (List Int) × (List Int) → Option (List Int × Int × Int)) (p : Int × Bool × (List Int) × (List Int)) => spec_RoundOff_s1 k (fun y2 y3 (y4 : List Int) => some (y3, y2, 0)) (fun h1 h2 h3 h4 => rec (h1, h2, h3, h4)) p.1 p.2.1 p.2.2.1 p.2.2.2) (f + 1) (y2, y3, y4, y5)) v h3 n z hk
        rw [hq] at e
        refine Eq.trans e ?_
        rw [loopF]
        rfl
    | cons p q =>
      have hp : p ∈ beds a w h := (List.mem_filter.1 (by rw [hq]; simp : p ∈ (beds a w h).filter (quaB a))).1
      have hin := cells_in v (List.mem_filter.1 hp).1
      have hlt := beds_turn v hp
      obtain ⟨r, h1, h2⟩ := ih (turn a p.1 p.2 0) w h (IntKind.wrap .i64 (n + 1)) (turn_V v p.1 p.2 (n := 0) (by omega)) (turn_K h3 p.1 p.2 (n := 0) (by omega)) (by omega)
      refine ⟨r, ?_, ?_⟩
      · intro f hf
        obtain ⟨f, rfl⟩ : ∃ g, f = g + 1 := ⟨f - 1, by omega⟩
        rw [loopF]
        dsimp only
        unfold impl_RoundOff_s0
        rw [those_qua k v h3 hk, hq]
        obtain ⟨x, y⟩ := p
        have et := impl_turned k a 0 hin.1 hin.2
        simp only at et h1
        have e0 : cnt 2 (fl ((x, y) :: q)) = q.length + 1 := by rw [cnt_fl]; rfl
        have e1 : rd (fl ((x, y) :: q)) 0 = x := rfl
        have e2 : rd (fl ((x, y) :: q)) 1 = y := rfl
        simp (disch := omega) only [Option.bind_some, e0, e1, e2, eqF, cond_false, bT, cond_true, et]
        exact h1 f (by omega)
      · intro f hf
        obtain ⟨f, rfl⟩ : ∃ g, f = g + 1 := ⟨f - 1, by omega⟩
        rw [loopF]
        dsimp only
        unfold spec_RoundOff_s1
        rw [spec_cells k v 1 hk]
        simp only [cond_true, Option.bind_some]
        have e := spec_first (R := List Int × Int × Int) k (fun y2 y3 y4 y5 => loopF (fun (rec : Int × Bool × (List Int) × (List Int) → Option (List Int × Int × Int)) (p : Int × Bool × (List Int) × (List Int)) => spec_RoundOff_s1 k (fun y2 y3 (y4 : List Int) => some (y3, y2, 0)) (fun h1 h2 h3 h4 => rec (h1, h2, h3, h4)) p.1 p.2.1 p.2.2.1 p.2.2.2) f (y2, y3, y4, y5)) v h3 n z hk
        rw [hq] at e
        exact Eq.trans e (h2 f (by omega))

theorem roundOff_eq (k : Nat) {a : List Int} (ha : LawnR a) (hk : 110 < k) : spec_RoundOff k a = impl_RoundOff k a ∧ ∃ r, impl_RoundOff k a = some r := by
  unfold spec_RoundOff impl_RoundOff
  rw [spec_valid k (by omega) ha, impl_valid k (by omega) ha]
  cases hv : lawnB a with
  | false => exact ⟨rfl, _, rfl⟩
  | true =>
    obtain ⟨w, h, v⟩ := lawnV_of ha hv
    have h3 := kind3_of ha hv
    simp only [Option.bind_some, Bool.not_true, cond_false]
    obtain ⟨r, h1, h2⟩ := round_both k (List.replicate 102 0) (by omega) 100 a w h 0 v h3 (filter_small v _)
    have e1 := h1 k (by omega)
    have e2 := h2 k (by omega)
    unfold spec_RoundOff_l1 impl_RoundOff_l0
    exact ⟨e2.trans e1.symm, r, e1⟩

theorem eqByteA10_self (k : Nat) (a : List Int) (hk : 10 < k) : laws_eqByteA10 k a a = some true := by
  unfold laws_eqByteA10 laws_eqByteA10_l0
  refine loopF_go (step := fun (rec : Int × (List Int) × (List Int) → Option Bool) (p : Int × (List Int) × (List Int)) => laws_eqByteA10_s0 k (fun y1 => some y1) (some true) (fun h1 h2 h3 => rec (h1, h2, h3)) p.1 p.2.1 p.2.2)
    (fun i => ((i : Int), a, a)) (fun _ _ => some true) 10 ?_ ?_ 10 0 k (by omega) hk
  · intro rec
    dsimp only
    unfold laws_eqByteA10_s0
    simp (disch := omega) only [bF, cond_false]
  · intro i m hi rec hrec
    dsimp only at hrec ⊢
    unfold laws_eqByteA10_s0
    simp (disch := omega) only [bT, cond_true, Bool.and_true, bne_self_eq_false, cond_false, wrap64]
    exact hrec

theorem eqLawn_self (k : Nat) (a : List Int) (hk : 10 < k) : laws_eqLawn k a a = some true := by
  have e : laws_eqByteA10A10 k (win a 2 100) (win a 2 100) = some true := by
    generalize win a 2 100 = b
    unfold laws_eqByteA10A10 laws_eqByteA10A10_l0
    refine loopF_go (step := fun (rec : Int × (List Int) × (List Int) → Option Bool) (p : Int × (List Int) × (List Int)) => laws_eqByteA10A10_s0 k (fun y1 => some y1) (some true) (fun h1 h2 h3 => rec (h1, h2, h3)) p.1 p.2.1 p.2.2)
      (fun i => ((i : Int), b, b)) (fun _ _ => some true) 10 ?_ ?_ 10 0 k (by omega) hk
    · intro rec
      dsimp only
      unfold laws_eqByteA10A10_s0
      simp (disch := omega) only [bF, cond_false]
    · intro i m hi rec hrec
      dsimp only at hrec ⊢
      unfold laws_eqByteA10A10_s0
      rw [eqByteA10_self k _ hk]
      simp (disch := omega) only [bT, cond_true, Bool.and_true, Bool.not_true, Option.bind_some, cond_false, wrap64]
      exact hrec
  unfold laws_eqLawn
  simp only [bne_self_eq_false, cond_false, e, Option.bind_some, Bool.not_true]

theorem roundOff_true {a : List Int} (ha : LawnR a) : ∃ k, laws_FnExactRoundOff k a = some true := by
  obtain ⟨k, hk⟩ : ∃ k, k = 189 := ⟨_, rfl⟩
  obtain ⟨e, r, hr⟩ := roundOff_eq (k + 11) ha (by omega)
  refine ⟨k + 11, ?_⟩
  unfold laws_FnExactRoundOff
  simp only [toLawn_id k a ha.len, Option.bind_some, e, hr]
  rw [eqLawn_self (k + 11) _ (by omega)]
  simp only [Option.bind_some, Bool.not_true, cond_false, bne_self_eq_false]

end Go.Proofs.Ytmpcninebooaiaa.Tt
