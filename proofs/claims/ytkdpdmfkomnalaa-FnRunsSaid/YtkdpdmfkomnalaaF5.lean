/- Plain laws: FnRuns, the whole. -/
import Derived.Test.YtkdpdmfkomnalaaF4
set_option linter.unusedVariables false
set_option linter.unusedSimpArgs false
namespace Go.Proofs.Ytkdpdmfkomnalaa.Tt
open Go.Ev Go

theorem eqL_refl' : ∀ l : List Int, eqL l l = true := by
  intro l
  induction l with
  | nil => rfl
  | cons x l ih => simp [eqL, ih]

theorem sameRuns_self (k : Nat) (L : List (Int × Int × Int)) (hl : L.length ≤ 1000) (hk : L.length < k) : spec_SameRuns k (fl3 L) (fl3 L) = some true := by
  unfold spec_SameRuns spec_SameRuns_l0
  simp only [bne_self_eq_false, cond_false]
  have := loopF_go (R := Bool) (step := fun (rec : (List Int) × (List Int) × Int → Option Bool) (p : (List Int) × (List Int) × Int) => spec_SameRuns_s0 k (fun y1 => some y1) (some true) (fun h1 h2 h3 => rec (h1, h2, h3)) p.1 p.2.1 p.2.2)
    (fun i => (fl3 L, fl3 L, (i : Int))) (fun _ _ => some true) L.length ?_ ?_ L.length 0 k (by omega) (by omega)
  · exact this
  · intro rec
    dsimp only
    unfold spec_SameRuns_s0
    simp (disch := omega) only [cnt_fl3, bF, cond_false]
  · intro i m hi rec hrec
    dsimp only at hrec ⊢
    unfold spec_SameRuns_s0
    simp (disch := omega) only [cnt_fl3, bT, cond_true, Bool.and_true, wrap64 (x := (i : Int) + 1)]
    rw [eqL_refl']
    exact hrec

section
variable {a : List Int} {w h : Nat} (v : LawnV a w h) (hv : lawnB a = true) (b : Bool)

theorem upTo3_small (v : LawnV a w h) (b : Bool) {i : Nat} (hi : i ≤ (runsOf a b (allC w h)).length) : (upTo3 b (runsOf a b (allC w h)) i).length ≤ 100 := by
  refine Nat.le_trans ((upTo3_nodup v b i hi).length_le_of_subset (l₂ := allC w h) fun q hq => ?_) (allC_small v)
  obtain ⟨_, _, _, hg⟩ := upTo3_mem b hi hq
  have hr := grass_range v.toLawnS hg
  rw [v.wv, v.hv] at hr
  exact allC_mem.2 hr

theorem runs_loop (k : Nat) (v : LawnV a w h) (hv : lawnB a = true) (b : Bool) (G : List (Int × Int)) (hG : G = (allC w h).filter fun p => kindV a p.1 p.2 == 0) (H6 : List Int)
    (h6 : 0 < (runsOf a b (allC w h)).length → rd H6 0 = (longL (runsOf a b (allC w h))).1 ∧ rd H6 1 = (longL (runsOf a b (allC w h))).2.1 ∧ rd H6 2 = (longL (runsOf a b (allC w h))).2.2) (hk : 120 < k) :
    laws_FnRuns_l1 k (fun y13 => some y13) (fun y14 y15 => some (y14 == ((cnt 2 y15) : Int))) b 0 0 a (fl3 (runsOf a b (allC w h))) H6 (fl G) (List.replicate 100 0) = some true := by
  have h100 : (runsOf a b (allC w h)).length ≤ 100 := Nat.le_trans (runsOf_len _ _ _) (allC_small v)
  have hsorted := runs_sorted (a := a) b _ (allC_sorted w h)
  have hpos : ∀ i, i < (runsOf a b (allC w h)).length → 1 ≤ ((runsOf a b (allC w h)).getD i d3).2.2 := by
    intro i hi
    obtain ⟨x, y, n, e, hs, hn, _⟩ := run_facts (w := w) (h := h) (a := a) b hi
    have := (run_cells b hs).1
    rw [e]
    simp only
    omega
  obtain ⟨hlong, _⟩ := longL_spec hsorted hpos _ (Nat.le_refl _)
  rw [List.take_length] at hlong
  unfold laws_FnRuns_l1
  have := loopF_go (R := Bool) (step := fun (rec : Bool × Int × Int × (List Int) × (List Int) × (List Int) × (List Int) × (List Int) → Option Bool) (p : Bool × Int × Int × (List Int) × (List Int) × (List Int) × (List Int) × (List Int)) => laws_FnRuns_s1 k (fun y13 => some y13) (fun y14 y15 => some (y14 == ((cnt 2 y15) : Int))) (fun h1 h2 h3 h4 h5 h6 h7 h8 => rec (h1, h2, h3, h4, h5, h6, h7, h8)) p.1 p.2.1 p.2.2.1 p.2.2.2.1 p.2.2.2.2.1 p.2.2.2.2.2.1 p.2.2.2.2.2.2.1 p.2.2.2.2.2.2.2)
    (fun i => (b, ((upTo3 b (runsOf a b (allC w h)) i).length : Int), (i : Int), a, fl3 (runsOf a b (allC w h)), H6, fl G, (upTo3 b (runsOf a b (allC w h)) i).foldl setC (List.replicate 100 0))) (fun _ _ => some true) (runsOf a b (allC w h)).length ?_ ?_ (runsOf a b (allC w h)).length 0 k (by omega) (by omega)
  · exact this
  · intro rec
    dsimp only
    unfold laws_FnRuns_s1
    simp (disch := omega) only [cnt_fl3, bF, cond_false, cnt_fl]
    rw [upTo3_len v b, hG, beq_self_eq_true]
  · intro i m hi rec hrec
    have hil : i < (runsOf a b (allC w h)).length := by omega
    dsimp only at hrec ⊢
    unfold laws_FnRuns_s1
    obtain ⟨x, y, n, e, hs, hn, _⟩ := run_facts (w := w) (h := h) (a := a) b hil
    have e3 : (runsOf a b (allC w h)).getD i (0, 0, 0) = (x, y, (n : Int)) := e
    obtain ⟨l1, l2⟩ := hlong i hil
    have hp := hpos i hil
    obtain ⟨q0, q1, q2⟩ := h6 (by omega)
    rw [e] at l1 l2 hp
    simp only at l1 l2 hp
    have hU := upTo3_small v b (i := i) (by omega)
    have hn10 := (run_end v b hs).1
    rw [← hn] at hn10
    have hlen : (upTo3 b (runsOf a b (allC w h)) (i + 1)).length = (upTo3 b (runsOf a b (allC w h)) i).length + n := by
      rw [upTo3_succ b hil, List.length_append, e, cellsR_len]
      simp
    have hone := fun (K2 : Bool → Int → Int → (List Int) → (List Int) → (List Int) → (List Int) → (List Int) → Option Bool) (h2 : Int) => one_loop k (fun y13 => some y13) K2 v hv b h2 H6 (fl G) hil e hs hn hk (n + 2) 0 k (by omega) (by omega)
    have hinner : ∀ (K2 : Bool → Int → Int → (List Int) → (List Int) → (List Int) → (List Int) → (List Int) → Option Bool) (h2 : Int), laws_FnRuns_l0 k (fun y13 => some y13) K2 b h2 (i : Int) (-1) a (fl3 (runsOf a b (allC w h))) H6 (fl G) ((upTo3 b (runsOf a b (allC w h)) i).foldl setC (List.replicate 100 0)) =
        K2 b h2 (i : Int) a (fl3 (runsOf a b (allC w h))) H6 (fl G) ((upTo3 b (runsOf a b (allC w h)) (i + 1)).foldl setC (List.replicate 100 0)) := by
      intro K2 h2
      have := hone K2 h2
      rw [show (0 - 1 : Nat) = 0 from rfl, List.take_zero, List.append_nil] at this
      unfold laws_FnRuns_l0
      exact this
    have hw : IntKind.wrap .i64 (((upTo3 b (runsOf a b (allC w h)) i).length : Int) + IntKind.wrap .i64 (n : Int)) = ((upTo3 b (runsOf a b (allC w h)) (i + 1)).length : Int) := by
      rw [wrap64 (x := (n : Int)) (by omega), wrap64 (by omega), hlen]
      omega
    have hi1 : IntKind.wrap .i64 ((i : Int) + 1) = ((i + 1 : Nat) : Int) := by rw [wrap64 (by omega)]; omega
    simp only [cnt_fl3, Int.toNat_natCast, fl3_x, fl3_y, fl3_n]
    rw [e3, bT (p := (i : Int) < _) (by omega), bT (p := (0 : Int) ≤ (i : Int)) (by omega)]
    simp only [Bool.and_true, cond_true]
    rw [bF (p := (n : Int) < 1) (by omega), q2, bF (p := (n : Int) > _) (by omega)]
    simp only [cond_false]
    rw [hw, hinner, hi1]
    by_cases c1 : (n : Int) = (longL (runsOf a b (allC w h))).2.2
    · rw [eqT c1, q1]
      simp only [cond_true]
      have hle := l2 c1
      unfold lexle at hle
      simp only at hle
      rw [bF (p := y < _) (by omega)]
      simp only [cond_false]
      by_cases c2 : y = (longL (runsOf a b (allC w h))).2.1
      · rw [eqT c2, q0, bF (p := x < _) (by omega)]
        simp only [cond_true, cond_false]
        exact hrec
      · rw [eqF c2]
        simp only [cond_false]
        exact hrec
    · rw [eqF c1]
      simp only [cond_false]
      exact hrec

end

theorem at_total (k : Nat) (M : List Int) : ∃ x, laws_a2At k M 0 2 = some x := by
  unfold laws_a2At
  rw [cnt_one]
  by_cases h : (0 : Int) ≥ (M.length : Int)
  · rw [bT h]; exact ⟨_, rfl⟩
  · rw [bF h, bF (p := (2 : Int) < 1) (by omega), bT (p := (0 : Int) ≤ 0) (by omega), bT (p := (0 : Int) < (M.length : Int)) (by omega)]
    exact ⟨_, rfl⟩

theorem fnRuns_true (k : Nat) {B M : List Int} (hB : ∀ i, i < B.length → 0 ≤ rd B i ∧ rd B i < 256) (hk : 120 < k) : laws_FnRuns k B M = some true := by
  unfold laws_FnRuns laws_a2Long
  rw [cnt_one, cnt_one]
  by_cases hb : (B.length : Int) > 3000
  · rw [bT hb]; rfl
  rw [bF hb]
  simp only [cond_false, Option.bind_some]
  by_cases hm : (M.length : Int) > 3000
  · rw [bT hm]; rfl
  rw [bF hm]
  simp only [cond_false]
  obtain ⟨a, w, h, e1, v, hv, _, _⟩ := lawn_drawn k ⟨by omega, hB⟩ (by omega)
  obtain ⟨x3, e2⟩ := at_total k M
  rw [e1]
  simp only [Option.bind_some]
  rw [e2]
  simp only [Option.bind_some]
  generalize (x3 == 1) = b
  have hcode := impl_cells_nil k v.toLawnR (show 10 < k by omega)
  have hval := spec_valid k (by omega) v.toLawnR
  rw [hv] at hcode hval
  have hl : ∀ b, (runsOf a b (allC w h)).length ≤ 100 := fun b => Nat.le_trans (runsOf_len _ _ _) (allC_small v)
  have a1 : ∀ b, impl_RunsOf k a b = some (fl3 (runsOf a b (allC w h)), 0) := fun b => by
    unfold impl_RunsOf
    rw [hcode]
    simp only [cond_true, Option.bind_some, bne_self_eq_false, cond_false, impl_runs k v b (by omega)]
  have a2 : ∀ b, spec_RunsOf k a b = some (fl3 (runsOf a b (allC w h)), 0) := fun b => by
    unfold spec_RunsOf
    rw [hval]
    simp only [Option.bind_some, Bool.not_true, cond_false, spec_runs' k v b (show 101 < k by omega)]
  have a3 : impl_LongestRun k a b = some (longR (longL (runsOf a b (allC w h)))) := by
    unfold impl_LongestRun
    rw [hcode]
    simp only [cond_true, Option.bind_some, bne_self_eq_false, cond_false, impl_runs k v b (show 101 < k by omega), cnt_fl3]
    exact impl_long_loop k _ (hl b) (by omega)
  have a4 : spec_LongestRun k a b = some (longR (longL (runsOf a b (allC w h)))) := (longestRun_eq k v.toLawnR b (by omega)).1.trans a3
  have a5 : impl_BestStripes k a = some (decide (((runsOf a true (allC w h)).length : Int) ≤ ((runsOf a false (allC w h)).length : Int)), minI ((runsOf a true (allC w h)).length : Int) ((runsOf a false (allC w h)).length : Int), 0) := by
    unfold impl_BestStripes
    rw [hcode]
    simp only [cond_true, Option.bind_some, bne_self_eq_false, cond_false, impl_runs k v _ (show 101 < k by omega), cnt_fl3]
  have hmin : ∀ x y : Int, spec_l00Min k x y = some (minI x y) := fun x y => by
    unfold spec_l00Min minI
    by_cases c : x < y
    · rw [bT c, if_neg (by omega)]; rfl
    · rw [bF c]
      by_cases c2 : y < x
      · rw [if_pos c2]; rfl
      · rw [if_neg c2, show x = y by omega]; rfl
  have a6 : spec_BestStripes k a = some (decide (((runsOf a true (allC w h)).length : Int) ≤ ((runsOf a false (allC w h)).length : Int)), minI ((runsOf a true (allC w h)).length : Int) ((runsOf a false (allC w h)).length : Int), 0) := by
    unfold spec_BestStripes
    rw [hval]
    simp only [Option.bind_some, Bool.not_true, cond_false, spec_runs' k v _ (show 101 < k by omega), cnt_fl3, hmin]
  have a7 : spec_CellsOf k a 0 = some (fl ((allC w h).filter fun p => kindV a p.1 p.2 == 0), 0) := by
    unfold spec_CellsOf
    have hkind : spec_l01Kind k 0 = some true := by unfold spec_l01Kind; rw [spec_in]; rfl
    rw [hkind]
    simp only [Option.bind_some]
    rw [spec_told k v.toLawnR (by omega), hv]
    simp only [Option.bind_some, cond_true, bne_self_eq_false, cond_false, spec_cells k v 0 (show 101 < k by omega)]
  rw [a1 b, a2 b, a2 (!b)]
  simp only [Option.bind_some]
  rw [a3, a4, a5, a6]
  simp only [Option.bind_some]
  rw [a7]
  simp only [Option.bind_some, bne_self_eq_false, cond_false]
  rw [sameRuns_self k _ (by have := hl b; omega) (by have := hl b; omega)]
  simp only [Option.bind_some, Bool.not_true, cond_false]
  rw [eqL_refl']
  simp only [Bool.not_true, cond_false, cnt_fl3]
  -- the longest, and whether there is grass
  have hsorted := runs_sorted (a := a) b _ (allC_sorted w h)
  have hpos : ∀ i, i < (runsOf a b (allC w h)).length → 1 ≤ ((runsOf a b (allC w h)).getD i d3).2.2 := by
    intro i hi
    obtain ⟨x, y, n, e, hs, hn, _⟩ := run_facts (w := w) (h := h) (a := a) b hi
    have := (run_cells b hs).1
    rw [e]
    simp only
    omega
  obtain ⟨hlong, hwho⟩ := longL_spec hsorted hpos _ (Nat.le_refl _)
  rw [List.take_length] at hlong hwho
  have hG : (0 < (runsOf a b (allC w h)).length) ↔ 0 < ((allC w h).filter fun p => kindV a p.1 p.2 == 0).length := by
    rw [← upTo3_len v b]
    constructor
    · intro h0
      obtain ⟨x, y, n, e, hs, hn, _⟩ := run_facts (w := w) (h := h) (a := a) b h0
      have hg := (run_cells b hs).2.1 0 (by have := (run_cells b hs).1; omega)
      have := (upTo3_all v b (x + ((0 : Nat) : Int) * dxB b, y + ((0 : Nat) : Int) * dyB b)).2 hg
      exact List.length_pos_of_mem this
    · intro h0
      refine Nat.pos_of_ne_zero fun e => ?_
      rw [e] at h0
      simp [upTo3] at h0
  have hlong0 : ((longL (runsOf a b (allC w h))).2.2 == 0) = !decide (0 < (runsOf a b (allC w h)).length) := by
    rcases hwho with ⟨e0, e1⟩ | ⟨j, j1, j2⟩
    · rw [e1, e0]; rfl
    · rw [bT (p := 0 < (runsOf a b (allC w h)).length) (by omega), j2, eqF (by have := hpos j j1; omega)]; rfl
  have hL : longR (longL (runsOf a b (allC w h))) = cond (decide (0 < (runsOf a b (allC w h)).length)) ([(longL (runsOf a b (allC w h))).1, (longL (runsOf a b (allC w h))).2.1, (longL (runsOf a b (allC w h))).2.2], 0) ([0, 0, 0], 6) := by
    unfold longR
    rw [hlong0]
    cases decide (0 < (runsOf a b (allC w h)).length) <;> rfl
  have hgrass : decide (((cnt 2 (fl ((allC w h).filter fun p => kindV a p.1 p.2 == 0)) : Nat) : Int) > 0) = decide (0 < (runsOf a b (allC w h)).length) := by
    rw [cnt_fl]
    by_cases c : 0 < (runsOf a b (allC w h)).length
    · rw [bT c, bT (by have := hG.1 c; omega)]
    · rw [bF c, bF (fun h' => c (hG.2 (by omega)))]
  rw [hgrass]
  have hcode6 : ((longR (longL (runsOf a b (allC w h)))).2 == 0) = decide (0 < (runsOf a b (allC w h)).length) := by
    rw [hL]
    cases decide (0 < (runsOf a b (allC w h)).length) <;> rfl
  rw [hcode6]
  have hself : ∀ z : Bool, (z == z) = true := fun z => by cases z <;> rfl
  rw [hself]
  have hH6 : 0 < (runsOf a b (allC w h)).length → rd (longR (longL (runsOf a b (allC w h)))).1 0 = (longL (runsOf a b (allC w h))).1 ∧ rd (longR (longL (runsOf a b (allC w h)))).1 1 = (longL (runsOf a b (allC w h))).2.1 ∧ rd (longR (longL (runsOf a b (allC w h)))).1 2 = (longL (runsOf a b (allC w h))).2.2 := by
    intro c
    rw [hL, bT c]
    exact ⟨rfl, rfl, rfl⟩
  have hloop := runs_loop k v hv b _ rfl _ hH6 hk
  simp only [Bool.not_true, cond_false]
  cases b
  · have hm2 : minI ((runsOf a true (allC w h)).length : Int) ((runsOf a false (allC w h)).length : Int) = minI ((runsOf a false (allC w h)).length : Int) ((runsOf a true (allC w h)).length : Int) := by unfold minI; split <;> split <;> omega
    simp only [Bool.not_false, hself, Bool.not_true, cond_false, cond_true]
    rw [hm2]
    simp only [bne_self_eq_false, cond_false]
    exact hloop
  · simp only [Bool.not_true, hself, cond_false, bne_self_eq_false]
    exact hloop

end Go.Proofs.Ytkdpdmfkomnalaa.Tt
