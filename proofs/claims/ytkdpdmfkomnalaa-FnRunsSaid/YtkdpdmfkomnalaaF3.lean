/- Plain laws: the cells of runs; the longest of runs. -/
import Derived.Test.YtkdpdmfkomnalaaF2
set_option linter.unusedVariables false
set_option linter.unusedSimpArgs false
namespace Go.Proofs.Ytkdpdmfkomnalaa.Tt
open Go.Ev Go

abbrev d3 : Int × Int × Int := (0, 0, 0)

def cellsR (b : Bool) (r : Int × Int × Int) : List (Int × Int) := (List.range r.2.2.toNat).map fun t => (r.1 + ((t : Nat) : Int) * dxB b, r.2.1 + ((t : Nat) : Int) * dyB b)

theorem cellsR_len (b : Bool) (r : Int × Int × Int) : (cellsR b r).length = r.2.2.toNat := by simp [cellsR]

theorem cellsR_mem {b : Bool} {r : Int × Int × Int} (h : 0 ≤ r.2.2) {q : Int × Int} : q ∈ cellsR b r ↔ hitR b q.1 q.2 r = true := by
  obtain ⟨x, y, n⟩ := r
  obtain ⟨ax, ay⟩ := q
  obtain ⟨m, rfl⟩ : ∃ m : Nat, n = (m : Int) := ⟨n.toNat, by simp only at h; omega⟩
  show _ ↔ hitN b ax ay x y (m : Int) = true
  rw [hit_iff]
  simp only [cellsR, List.mem_map, List.mem_range, Int.toNat_natCast, Prod.mk.injEq]
  constructor
  · rintro ⟨t, h1, h2, h3⟩; exact ⟨t, h1, h2.symm, h3.symm⟩
  · rintro ⟨t, h1, h2, h3⟩; exact ⟨t, h1, h2.symm, h3.symm⟩

theorem cellsR_nodup (b : Bool) (r : Int × Int × Int) : (cellsR b r).Nodup := by
  unfold cellsR List.Nodup
  rw [List.pairwise_map]
  refine List.Pairwise.imp ?_ (List.nodup_range (n := r.2.2.toNat))
  intro s t hst e
  rw [Prod.mk.injEq] at e
  cases b
  · simp only [dxB, dyB, cond_false] at e; omega
  · simp only [dxB, dyB, cond_true] at e; omega

section
variable {a : List Int} {w h : Nat} (v : LawnV a w h) (b : Bool)

/-- What is known of one run. -/
theorem run_facts {i : Nat} (hi : i < (runsOf a b (allC w h)).length) : ∃ x y : Int, ∃ n : Nat, (runsOf a b (allC w h)).getD i d3 = (x, y, (n : Int)) ∧ startB a b (x, y) = true ∧ n = longV a b x y ∧ (x, y) ∈ allC w h := by
  have hm := getD_mem _ d3 hi
  generalize (runsOf a b (allC w h)).getD i d3 = r at hm ⊢
  unfold runsOf at hm
  obtain ⟨p, hp, rfl⟩ := List.mem_map.1 hm
  obtain ⟨p1, p2⟩ := List.mem_filter.1 hp
  exact ⟨p.1, p.2, _, rfl, p2, rfl, p1⟩

theorem run_cells {x y : Int} (hs : startB a b (x, y) = true) : 1 ≤ longV a b x y ∧ (∀ t : Nat, t < longV a b x y → grassB a (x + t * dxB b) (y + t * dyB b) = true) ∧ grassB a (x - dxB b) (y - dyB b) = false := by
  unfold startB at hs
  rw [Bool.and_eq_true, Bool.not_eq_true'] at hs
  refine ⟨runLen_ge 11 x y 1 (by omega) fun i hi => ?_, fun t ht => runLen_grass 11 x y t ht, hs.2⟩
  have : i = 0 := by omega
  subst this
  simpa using hs.1

theorem runLen_end : ∀ (m : Nat) (x y : Int), runLen a b m x y < m → grassB a (x + (runLen a b m x y : Nat) * dxB b) (y + (runLen a b m x y : Nat) * dyB b) = false := by
  intro m
  induction m with
  | zero => intro x y h; omega
  | succ m ih =>
    intro x y h
    simp only [runLen] at h ⊢
    cases hg : grassB a x y with
    | false => simpa using hg
    | true =>
      rw [hg] at h
      simp only [cond_true] at h ⊢
      have := ih (x + dxB b) (y + dyB b) (by omega)
      have e1 : x + ((runLen a b m (x + dxB b) (y + dyB b) + 1 : Nat) : Int) * dxB b = x + dxB b + (runLen a b m (x + dxB b) (y + dyB b) : Nat) * dxB b := by cases b <;> simp [dxB]; omega
      have e2 : y + ((runLen a b m (x + dxB b) (y + dyB b) + 1 : Nat) : Int) * dyB b = y + dyB b + (runLen a b m (x + dxB b) (y + dyB b) : Nat) * dyB b := by cases b <;> simp [dyB]; omega
      rw [e1, e2]
      exact this

include v in
theorem run_end {x y : Int} (hs : startB a b (x, y) = true) : longV a b x y ≤ 10 ∧ grassB a (x + (longV a b x y : Nat) * dxB b) (y + (longV a b x y : Nat) * dyB b) = false := by
  obtain ⟨h1, h2, _⟩ := run_cells b hs
  have h10 : longV a b x y ≤ 10 := by
    have h3 := grass_range v.toLawnS (h2 (longV a b x y - 1) (by omega))
    have h4 := grass_range v.toLawnS (h2 0 (by omega))
    have := v.wv
    have := v.hv
    have := v.wle
    have := v.hle
    cases b
    · simp only [dxB, dyB, cond_false] at h3 h4; omega
    · simp only [dxB, dyB, cond_true] at h3 h4; omega
  exact ⟨h10, runLen_end b 11 x y (show longV a b x y < 11 by omega)⟩

/-! ## The cells of the first runs -/

def upTo3 (R : List (Int × Int × Int)) (i : Nat) : List (Int × Int) := (R.take i).flatMap (cellsR b)

theorem upTo3_succ {R : List (Int × Int × Int)} {i : Nat} (hi : i < R.length) : upTo3 b R (i + 1) = upTo3 b R i ++ cellsR b (R.getD i d3) := by
  unfold upTo3
  rw [take_getD R d3 hi, List.flatMap_append]
  simp

theorem upTo3_mem {i : Nat} (hi : i ≤ (runsOf a b (allC w h)).length) {q : Int × Int} (hq : q ∈ upTo3 b (runsOf a b (allC w h)) i) : ∃ j, j < i ∧ hitR b q.1 q.2 ((runsOf a b (allC w h)).getD j d3) = true ∧ grassB a q.1 q.2 = true := by
  induction i with
  | zero => simp [upTo3] at hq
  | succ i ih =>
    rw [upTo3_succ b (by omega)] at hq
    rcases List.mem_append.1 hq with hq | hq
    · obtain ⟨j, h1, h2⟩ := ih (by omega) hq
      exact ⟨j, by omega, h2⟩
    · obtain ⟨x, y, n, e, hs, hn, _⟩ := run_facts (w := w) (h := h) (a := a) b (i := i) (by omega)
      have hh := (cellsR_mem (by rw [e]; simp)).1 hq
      refine ⟨i, by omega, hh, ?_⟩
      rw [e] at hh
      obtain ⟨t, t1, t2, t3⟩ := (hit_iff b q.1 q.2 x y n).1 hh
      rw [t2, t3]
      exact (run_cells b hs).2.1 t (hn ▸ t1)

include v in
theorem upTo3_nodup : ∀ i, i ≤ (runsOf a b (allC w h)).length → (upTo3 b (runsOf a b (allC w h)) i).Nodup := by
  intro i
  induction i with
  | zero => intro _; simp [upTo3]
  | succ i ih =>
    intro hi
    rw [upTo3_succ b (by omega)]
    refine List.nodup_append.2 ⟨ih (by omega), cellsR_nodup b _, fun p hp q hq e => ?_⟩
    subst e
    obtain ⟨j, h1, h2, h3⟩ := upTo3_mem b (by omega) hp
    obtain ⟨x, y, n, e, _⟩ := run_facts (w := w) (h := h) (a := a) b (i := i) (by omega)
    have hh := (cellsR_mem (by rw [e]; simp)).1 hq
    obtain ⟨j0, _, _, u⟩ := one_run v b h3
    have := u j (by omega) h2
    have := u i (by omega) hh
    omega

include v in
theorem upTo3_all (q : Int × Int) : q ∈ upTo3 b (runsOf a b (allC w h)) (runsOf a b (allC w h)).length ↔ grassB a q.1 q.2 = true := by
  constructor
  · intro hq
    obtain ⟨_, _, _, h3⟩ := upTo3_mem b (Nat.le_refl _) hq
    exact h3
  · intro hg
    obtain ⟨j, h1, h2, _⟩ := one_run v b hg
    unfold upTo3
    rw [List.take_length, List.mem_flatMap]
    obtain ⟨x, y, n, e, _⟩ := run_facts (w := w) (h := h) (a := a) b h1
    exact ⟨_, getD_mem _ d3 h1, (cellsR_mem (by rw [e]; simp)).2 h2⟩

include v in
theorem upTo3_len : (upTo3 b (runsOf a b (allC w h)) (runsOf a b (allC w h)).length).length = ((allC w h).filter fun p => kindV a p.1 p.2 == 0).length := by
  refine ((List.perm_ext_iff_of_nodup (upTo3_nodup v b _ (Nat.le_refl _)) ((allC_nodup w h).filter _)).2 fun q => ?_).length_eq
  rw [upTo3_all v b, grass_filter v, List.mem_filter]
  constructor
  · intro hg
    have hr := grass_range v.toLawnS hg
    rw [v.wv, v.hv] at hr
    exact ⟨allC_mem.2 hr, hg⟩
  · exact fun h => h.2

/-! ## The longest -/

def lexle (s p : Int × Int × Int) : Prop := s.2.1 < p.2.1 ∨ (s.2.1 = p.2.1 ∧ s.1 ≤ p.1)

theorem allC_sorted (w h : Nat) : (allC w h).Pairwise fun p q => p.2 < q.2 ∨ (p.2 = q.2 ∧ p.1 ≤ q.1) := by
  have hrow : ∀ (y w : Nat), (rowC y w).Pairwise fun p q => p.2 < q.2 ∨ (p.2 = q.2 ∧ p.1 ≤ q.1) := by
    intro y w
    induction w with
    | zero => simp [rowC]
    | succ w ih =>
      rw [rowC_succ]
      refine List.pairwise_append.2 ⟨ih, by simp, ?_⟩
      intro p hp q hq
      simp only [rowC, List.mem_map, List.mem_range] at hp
      simp only [List.mem_singleton] at hq
      obtain ⟨x, hx, rfl⟩ := hp
      subst hq
      right
      exact ⟨rfl, by simp only; omega⟩
  induction h with
  | zero => simp [allC]
  | succ h ih =>
    rw [allC_succ]
    refine List.pairwise_append.2 ⟨ih, hrow h w, ?_⟩
    intro p hp q hq
    have h1 := allC_mem.1 hp
    simp only [rowC, List.mem_map, List.mem_range] at hq
    obtain ⟨x, hx, rfl⟩ := hq
    left
    simp only
    omega

theorem runs_sorted (L : List (Int × Int)) (hL : L.Pairwise fun p q => p.2 < q.2 ∨ (p.2 = q.2 ∧ p.1 ≤ q.1)) : (runsOf a b L).Pairwise lexle := by
  unfold runsOf
  rw [List.pairwise_map]
  exact List.Pairwise.imp (fun h => h) (hL.filter _)

theorem getD_eq {α : Type} (L : List α) (d : α) {i : Nat} (h : i < L.length) : L.getD i d = L[i] := by
  rw [List.getD_eq_getElem?_getD, List.getElem?_eq_getElem h]
  rfl

theorem longL_spec {R : List (Int × Int × Int)} (hs : R.Pairwise lexle) (hn : ∀ i, i < R.length → 1 ≤ (R.getD i d3).2.2) : ∀ i, i ≤ R.length →
    (∀ j, j < i → (R.getD j d3).2.2 ≤ (longL (R.take i)).2.2 ∧ ((R.getD j d3).2.2 = (longL (R.take i)).2.2 → lexle (longL (R.take i)) (R.getD j d3))) ∧ ((i = 0 ∧ longL (R.take i) = (0, 0, 0)) ∨ ∃ j, j < i ∧ longL (R.take i) = R.getD j d3) := by
  intro i
  induction i with
  | zero => intro _; exact ⟨fun j hj => by omega, .inl ⟨rfl, rfl⟩⟩
  | succ i ih =>
    intro hi
    obtain ⟨h1, h2⟩ := ih (by omega)
    rw [take_getD R d3 (by omega), longL_snoc]
    have hsame : longL (R.take i) = longL (R.take i) := rfl
    generalize longL (R.take i) = s at h1 h2
    unfold longS
    by_cases c : (R.getD i d3).2.2 > s.2.2
    · rw [bT c]
      simp only [cond_true]
      refine ⟨fun j hj => ?_, .inr ⟨i, by omega, rfl⟩⟩
      rcases Nat.lt_or_ge j i with hji | hji
      · have := h1 j hji
        exact ⟨by omega, fun e => by omega⟩
      · have : j = i := by omega
        subst this
        exact ⟨Int.le_refl _, fun _ => .inr ⟨rfl, Int.le_refl _⟩⟩
    · rw [bF c]
      simp only [cond_false]
      have hp := hn i (by omega)
      have hj0 : ∃ j, j < i ∧ s = R.getD j d3 := by
        rcases h2 with ⟨_, e⟩ | h2
        · rw [e] at c; simp only at c; omega
        · exact h2
      refine ⟨fun j hj => ?_, .inr (let ⟨j, q1, q2⟩ := hj0; ⟨j, by omega, q2⟩)⟩
      rcases Nat.lt_or_ge j i with hji | hji
      · exact h1 j hji
      · have : j = i := by omega
        subst this
        refine ⟨by omega, fun _ => ?_⟩
        obtain ⟨j0, q1, q2⟩ := hj0
        rw [q2, getD_eq R d3 (show j0 < R.length by omega), getD_eq R d3 (show j < R.length by omega)]
        exact List.pairwise_iff_getElem.1 hs j0 j _ _ q1

end

end Go.Proofs.Ytkdpdmfkomnalaa.Tt
