/- Plain laws: rows of cells. -/
import Derived.Test.YtkdpdmfkomnalaaY7
import Derived.Test.YtkdpdmfkomnalaaY9a
set_option linter.unusedVariables false
set_option linter.unusedSimpArgs false
namespace Go.Proofs.Ytkdpdmfkomnalaa.Tt
open Go.Ev Go

abbrev Cs := List (Int × Int)

structure RowsR (Ls : List Cs) : Prop where
  cnt : Ls.length ≤ 1048576
  len : ∀ L ∈ Ls, L.length ≤ 1048576
  rng : ∀ L ∈ Ls, ∀ p ∈ L, (-128 ≤ p.1 ∧ p.1 < 128) ∧ (-128 ≤ p.2 ∧ p.2 < 128)

theorem rdr_map (Ls : List Cs) (i : Nat) : rdr (Ls.map fl) i = fl (Ls.getD i []) := by
  unfold rdr
  rw [List.getD_eq_getElem?_getD, List.getD_eq_getElem?_getD, List.getElem?_map]
  cases Ls[i]? <;> rfl

theorem fl_of : ∀ (n : Nat) (l : List Int), l.length = n * 2 → ∃ L : Cs, l = fl L ∧ L.length = n := by
  intro n
  induction n with
  | zero => intro l h; exact ⟨[], List.eq_nil_of_length_eq_zero (by omega), rfl⟩
  | succ n ih =>
    intro l h
    cases l with
    | nil => simp at h
    | cons x l =>
      cases l with
      | nil => simp at h; omega
      | cons y r =>
        obtain ⟨L, rfl, h2⟩ := ih r (by simp at h; omega)
        exact ⟨(x, y) :: L, rfl, by simp [h2]⟩

theorem rd_mem_fl : ∀ (L : Cs) (p : Int × Int), p ∈ L → ∃ j, j + 1 < (fl L).length ∧ rd (fl L) j = p.1 ∧ rd (fl L) (j + 1) = p.2 := by
  intro L
  induction L with
  | nil => intro p h; cases h
  | cons q r ih =>
    intro p h
    obtain ⟨x, y⟩ := q
    rcases List.mem_cons.1 h with rfl | h
    · exact ⟨0, by simp [fl], rfl, rfl⟩
    · obtain ⟨j, h1, h2, h3⟩ := ih p h
      exact ⟨j + 2, by simp only [fl, List.length_cons]; omega, h2, h3⟩

theorem cellsR_fl {L : Cs} (h1 : L.length ≤ 1048576) (h2 : ∀ p ∈ L, (-128 ≤ p.1 ∧ p.1 < 128) ∧ (-128 ≤ p.2 ∧ p.2 < 128)) : CellsR (fl L) L.length := by
  refine ⟨fl_length L, h1, fun j hj => ?_⟩
  rw [fl_length] at hj
  have hm := getD_mem L (0, 0) (i := j / 2) (by omega)
  obtain ⟨q1, q2⟩ := h2 _ hm
  rcases Nat.mod_two_eq_zero_or_one j with e | e
  · have : j = j / 2 * 2 := by omega
    rw [this, fl_x]
    exact q1
  · have : j = j / 2 * 2 + 1 := by omega
    rw [this, fl_y]
    exact q2

theorem RowsR.row {Ls : List Cs} (h : RowsR Ls) {i : Nat} (hi : i < Ls.length) : CellsR (fl (Ls.getD i [])) (Ls.getD i []).length :=
  cellsR_fl (h.len _ (getD_mem _ _ hi)) (h.rng _ (getD_mem _ _ hi))

theorem wrap64_succ {i : Nat} (h : i < 4294967296) : IntKind.wrap .i64 ((i : Int) + 1) = ((i + 1 : Nat) : Int) := by rw [wrap64 (by omega)]; omega

/-- The sizes. -/
theorem szCellSS_some (k : Nat) {Ls : List Cs} (h : RowsR Ls) (hk : Ls.length < k) : ∃ x, laws_szCellSS k (Ls.map fl) 1048576 = some x := by
  have hc := h.cnt
  unfold laws_szCellSS laws_szCellSS_l0
  rw [List.length_map, wrap64 (by omega), bF (by omega), cond_false]
  have key : ∀ (m i f : Nat) (left : Int), i + m = Ls.length → m < f → 0 ≤ left → left ≤ 1048576 → ∃ x, loopF (fun (rec : (List (List Int)) × Int × Int → Option Int) (p : (List (List Int)) × Int × Int) => laws_szCellSS_s0 k some some (fun h1 h2 h3 => rec (h1, h2, h3)) p.1 p.2.1 p.2.2) f (Ls.map fl, left, (i : Int)) = some x := by
    intro m
    induction m with
    | zero =>
      intro i f left hi hf h1 h2
      obtain ⟨f, rfl⟩ : ∃ g, f = g + 1 := ⟨f - 1, by omega⟩
      rw [loopF]
      dsimp only
      unfold laws_szCellSS_s0
      rw [List.length_map, bF (by omega)]
      exact ⟨_, rfl⟩
    | succ m ih =>
      intro i f left hi hf h1 h2
      obtain ⟨f, rfl⟩ : ∃ g, f = g + 1 := ⟨f - 1, by omega⟩
      rw [loopF]
      dsimp only
      unfold laws_szCellSS_s0
      have hrow := h.len _ (getD_mem Ls [] (i := i) (by omega))
      rw [List.length_map, bT (p := (i : Int) < (Ls.length : Int)) (by omega), bT (p := (0 : Int) ≤ (i : Int)) (by omega)]
      simp only [cond_true, Bool.and_true, Int.toNat_natCast]
      rw [rdr_map]
      unfold laws_szCellS
      rw [cnt_fl, wrap64 (by omega), wrap64_succ (by omega)]
      generalize hr : (Ls.getD i []).length = r at hrow
      by_cases c : left - (r : Int) < 0
      · rw [bT c]
        exact ⟨_, rfl⟩
      · rw [bF c]
        simp only [cond_false, Option.bind_some]
        rw [bF c]
        simp only [cond_false]
        exact ih (i + 1) f _ (by omega) (by omega) (by omega) (by omega)
  exact key Ls.length 0 k (1048576 - (Ls.length : Int)) (by omega) hk (by omega) (by omega)

theorem set_take_rep {α : Type} (L : List α) (z d : α) {i : Nat} (hi : i < L.length) : List.set (L.take i ++ List.replicate (L.length - i) z) i (L.getD i d) = L.take (i + 1) ++ List.replicate (L.length - (i + 1)) z := by
  rw [List.set_append_right _ _ (by rw [List.length_take]; omega), List.length_take, Nat.min_eq_left (by omega), Nat.sub_self]
  have : L.length - i = (L.length - (i + 1)) + 1 := by omega
  rw [this, List.replicate_succ, List.set_cons_zero, take_getD L d hi]
  simp

theorem toCellSS_id (k : Nat) {Ls : List Cs} (h : RowsR Ls) (hk : Ls.length < k) (hk2 : ∀ L ∈ Ls, L.length < k) : laws_toCellSS k (Ls.map fl) = some (Ls.map fl, []) := by
  have hc := h.cnt
  unfold laws_toCellSS laws_toCellSS_l0
  simp only [List.length_map]
  rw [bT (p := 0 ≤ (Ls.length : Int)) (by omega), bT (p := (Ls.length : Int) ≤ 4294967296) (by omega)]
  simp only [Bool.true_and, beq_self_eq_true, cond_true, Int.toNat_natCast]
  have key := loopF_go (step := fun (rec : (List (List Int)) × Int × (List (List Int)) → Option ((List (List Int)) × List Int)) (p : (List (List Int)) × Int × (List (List Int))) => laws_toCellSS_s0 k (fun y1 => some (y1, [])) (fun h1 h2 h3 => rec (h1, h2, h3)) p.1 p.2.1 p.2.2)
    (fun i => (Ls.map fl, (i : Int), (Ls.map fl).take i ++ List.replicate ((Ls.map fl).length - i) [])) (fun _ _ => some (Ls.map fl, [])) Ls.length ?_ ?_ Ls.length 0 k (by omega) hk
  · simpa using key
  · intro rec
    dsimp only
    unfold laws_toCellSS_s0
    rw [List.length_map, bF (by omega)]
    simp only [cond_false]
    rw [List.take_of_length_le (by simp)]
    simp
  · intro i m him rec hrec
    dsimp only at hrec ⊢
    unfold laws_toCellSS_s0
    have hrow := h.len _ (getD_mem Ls [] (i := i) (by omega))
    have hrow2 := hk2 _ (getD_mem Ls [] (i := i) (by omega))
    have hl2 : ((Ls.map fl).take i ++ List.replicate ((Ls.map fl).length - i) ([] : List Int)).length = Ls.length := by simp; omega
    rw [hl2, List.length_map, bT (p := (i : Int) < (Ls.length : Int)) (by omega), bT (p := (0 : Int) ≤ (i : Int)) (by omega)]
    simp only [cond_true, Bool.and_true, Int.toNat_natCast]
    rw [rdr_map, toCellS_id k _ _ (fl_length _) hrow hrow2, wrap64_succ (by omega)]
    simp only [Option.bind_some, Nat.mul_one]
    have e : fl (Ls.getD i []) = (Ls.map fl).getD i [] := (rdr_map Ls i).symm
    have e2 := set_take_rep (Ls.map fl) [] [] (i := i) (by rw [List.length_map]; omega)
    rw [List.length_map] at e2 hrec
    rw [e, e2]
    exact hrec

theorem eqCellSS_self (k : Nat) {Ls : List Cs} (h : RowsR Ls) (hk : Ls.length < k) (hk2 : ∀ L ∈ Ls, L.length < k) : laws_eqCellSS k (Ls.map fl) (Ls.map fl) = some true := by
  have hc := h.cnt
  unfold laws_eqCellSS laws_eqCellSS_l0
  simp only [bne_self_eq_false, cond_false]
  have key := loopF_go (step := fun (rec : (List (List Int)) × (List (List Int)) × Int → Option Bool) (p : (List (List Int)) × (List (List Int)) × Int) => laws_eqCellSS_s0 k (fun y1 => some y1) (some true) (fun h1 h2 h3 => rec (h1, h2, h3)) p.1 p.2.1 p.2.2)
    (fun i => (Ls.map fl, Ls.map fl, (i : Int))) (fun _ _ => some true) Ls.length ?_ ?_ Ls.length 0 k (by omega) hk
  · exact key
  · intro rec
    dsimp only
    unfold laws_eqCellSS_s0
    rw [List.length_map, bF (by omega)]
    rfl
  · intro i m him rec hrec
    dsimp only at hrec ⊢
    unfold laws_eqCellSS_s0
    have hrow := h.len _ (getD_mem Ls [] (i := i) (by omega))
    have hrow2 := hk2 _ (getD_mem Ls [] (i := i) (by omega))
    rw [List.length_map, bT (p := (i : Int) < (Ls.length : Int)) (by omega), bT (p := (0 : Int) ≤ (i : Int)) (by omega)]
    simp only [cond_true, Bool.and_true, Int.toNat_natCast]
    rw [rdr_map, eqCellS_self k _ _ (fl_length _) hrow hrow2, wrap64_succ (by omega)]
    simp only [Option.bind_some, Bool.not_true, cond_false]
    exact hrec

end Go.Proofs.Ytkdpdmfkomnalaa.Tt
