/- Plain laws: FirstClash. -/
import Derived.Test.YtkdpdmfkomnalaaY45
set_option linter.unusedVariables false
set_option linter.unusedSimpArgs false
namespace Go.Proofs.Ytkdpdmfkomnalaa.Tt
open Go.Ev Go

def mostL (Ls : List Cs) : Nat → Nat → Nat → Nat
  | _, 0, b => b
  | i, m + 1, b => mostL Ls (i + 1) m (max b (Ls.getD i []).length)

theorem mostL_le (Ls : List Cs) : ∀ (m i b : Nat), b ≤ mostL Ls i m b ∧ (∀ j, i ≤ j → j < i + m → (Ls.getD j []).length ≤ mostL Ls i m b) ∧ ∀ B, b ≤ B → (∀ j, i ≤ j → j < i + m → (Ls.getD j []).length ≤ B) → mostL Ls i m b ≤ B := by
  intro m
  induction m with
  | zero => intro i b; exact ⟨Nat.le_refl _, fun j h1 h2 => by omega, fun B h _ => h⟩
  | succ m ih =>
    intro i b
    obtain ⟨h1, h2, h3⟩ := ih (i + 1) (max b (Ls.getD i []).length)
    refine ⟨by simp only [mostL]; omega, fun j g1 g2 => ?_, fun B g1 g2 => ?_⟩
    · simp only [mostL]
      by_cases e : j = i
      · subst e; omega
      · exact h2 j (by omega) (by omega)
    · exact h3 B (by have := g2 i (by omega) (by omega); omega) fun j q1 q2 => g2 j (by omega) (by omega)

theorem spec_longest (k : Nat) {Ls : List Cs} (h : RowsR Ls) (hk : Ls.length < k) : spec_l04Longest k (Ls.map fl) = some ((mostL Ls 0 Ls.length 0 : Nat) : Int) := by
  have hc := h.cnt
  unfold spec_l04Longest spec_l04Longest_l0
  have key : ∀ (m i f : Nat) (b : Nat), i + m = Ls.length → m < f → b < 4294967296 → loopF (fun (rec : (List (List Int)) × Int × Int → Option Int) (p : (List (List Int)) × Int × Int) => spec_l04Longest_s0 k (fun y1 => some y1) (fun h1 h2 h3 => rec (h1, h2, h3)) p.1 p.2.1 p.2.2) f (Ls.map fl, (b : Int), (i : Int)) = some ((mostL Ls i m b : Nat) : Int) := by
    intro m
    induction m with
    | zero =>
      intro i f b hi hf _
      obtain ⟨f, rfl⟩ : ∃ g, f = g + 1 := ⟨f - 1, by omega⟩
      rw [loopF]
      dsimp only
      unfold spec_l04Longest_s0
      rw [List.length_map, bF (by omega)]
      rfl
    | succ m ih =>
      intro i f b hi hf hb
      obtain ⟨f, rfl⟩ : ∃ g, f = g + 1 := ⟨f - 1, by omega⟩
      rw [loopF]
      have hrow := h.len _ (getD_mem Ls [] (i := i) (by omega))
      have hih := ih (i + 1) f (max b (Ls.getD i []).length) (by omega) (by omega) (by omega)
      simp only [mostL]
      rw [← hih]
      rw [spec_l04Longest_s0]
      rw [List.length_map, bT (p := (i : Int) < (Ls.length : Int)) (by omega), bT (p := (0 : Int) ≤ (i : Int)) (by omega)]
      simp only [cond_true, Bool.and_true, Int.toNat_natCast]
      simp only [rdr_map, cnt_fl]
      rw [wrap64_succ (by omega)]
      by_cases c : b < (Ls.getD i []).length
      · rw [bT (p := ((Ls.getD i []).length : Int) > (b : Int)) (by omega), show max b (Ls.getD i []).length = (Ls.getD i []).length by omega]
        rfl
      · rw [bF (p := ((Ls.getD i []).length : Int) > (b : Int)) (by omega), show max b (Ls.getD i []).length = b by omega]
        rfl
  exact key Ls.length 0 k 0 (by omega) hk (by omega)

def longB (Ls : List Cs) : Bool := Ls.any fun L => decide (201 < L.length)
def rightB (a : List Int) (L : Cs) : Bool := walkB a (fl L) 0 L.length && decide (0 < L.length)

theorem spec_right (k : Nat) {a : List Int} {L : Cs} (ha : LawnS a) (hl : CellsR (fl L) L.length) (hk : L.length < k) : spec_l04Right k a (fl L) = some (rightB a L) := by
  have h : spec_l04Right k a (fl L) = cond (walkB a (fl L) 0 L.length) (some (decide (((cnt 2 (fl L)) : Int) > 0))) (some false) :=
    spec_walk k (fun y1 => some y1) (fun y2 => some (decide (((cnt 2 y2) : Int) > 0))) ha hl L.length 0 k (by omega) hk (.inl rfl)
  rw [h, cnt_fl]
  unfold rightB
  cases walkB a (fl L) 0 L.length with
  | false => rfl
  | true =>
    simp only [cond_true, Bool.true_and]
    congr 1
    by_cases c : 0 < L.length
    · rw [bT c, bT (by omega)]
    · rw [bF c, bF (by omega)]

theorem impl_right (k : Nat) {a : List Int} {L : Cs} (ha : LawnS a) (hl : CellsR (fl L) L.length) (hk : L.length < k + 6) : impl_Lawn_isWalk (k + 6) a (fl L) = some (rightB a L) := by
  have h : impl_Lawn_isWalk (k + 6) a (fl L) = cond (walkB a (fl L) 0 L.length) (some (decide ((L.length : Int) > 0))) (some false) := by
    unfold impl_Lawn_isWalk impl_Lawn_isWalk_l0
    rw [cnt_fl]
    refine Eq.trans ?_ (show cond (walkB a (fl L) 0 L.length) (some (decide (((cnt 2 (fl L)) : Int) > 0))) (some false) = _ by rw [cnt_fl])
    exact impl_walk k (fun y1 => some y1) (fun y2 => some (decide (((cnt 2 y2) : Int) > 0))) ha hl L.length 0 (k + 6) (by omega) hk (.inl rfl)
  rw [h]
  unfold rightB
  cases walkB a (fl L) 0 L.length with
  | false => rfl
  | true =>
    simp only [cond_true, Bool.true_and]
    congr 1
    by_cases c : 0 < L.length
    · rw [bT c, bT (by omega)]
    · rw [bF c, bF (by omega)]

/-- A search through rows. -/
theorem containsRows (k : Nat) (Ls : List Cs) (hn : Ls.length ≤ 1048576) (hk : Ls.length < k) (g : List Int → Option Bool) (b : Cs → Bool) (hg : ∀ L ∈ Ls, g (fl L) = some (b L)) : slices_ContainsFunc_S_impl_Cell k (Ls.map fl) g = some (Ls.any b) := by
  unfold slices_ContainsFunc_S_impl_Cell slices_IndexFunc_S_impl_Cell slices_IndexFunc_S_impl_Cell_l0
  have key := loopF_go (step := fun (rec : (List (List Int)) × (List Int → Option Bool) × Int × Int → Option Int) (p : (List (List Int)) × (List Int → Option Bool) × Int × Int) => slices_IndexFunc_S_impl_Cell_s0 k (fun y1 => some y1) (some (-1)) (fun h1 h2 h3 h4 => rec (h1, h2, h3, h4)) p.1 p.2.1 p.2.2.1 p.2.2.2)
    (fun i => (Ls.map fl, g, (Ls.length : Int), (i : Int))) (fun i _ => some (match ((List.range (Ls.length - i)).map (· + i)).find? (fun j => b (Ls.getD j [])) with | some j => (j : Int) | none => -1)) Ls.length ?_ ?_ Ls.length 0 k (by omega) hk
  · rw [List.length_map]
    have key2 := key
    refine (congrArg (fun z => Option.bind z fun x1 => some (decide (x1 ≥ 0))) key2).trans ?_
    simp only [Option.bind_some, Nat.sub_zero, Nat.add_zero, List.map_id']
    congr 1
    cases hf : (List.range Ls.length).find? (fun j => b (Ls.getD j [])) with
    | some j =>
      have h1 := List.find?_some hf
      have h2 := List.mem_of_find?_eq_some hf
      rw [List.mem_range] at h2
      simp only
      rw [bT (by omega)]
      symm
      rw [List.any_eq_true]
      exact ⟨_, getD_mem Ls [] h2, h1⟩
    | none =>
      simp only
      rw [bF (by omega)]
      symm
      rw [List.any_eq_false]
      intro L hL
      rw [List.find?_eq_none] at hf
      obtain ⟨j, hj, rfl⟩ := List.mem_iff_getElem.1 hL
      have := hf j (List.mem_range.2 hj)
      rwa [List.getD_eq_getElem?_getD, List.getElem?_eq_getElem hj] at this
  · intro rec
    dsimp only
    unfold slices_IndexFunc_S_impl_Cell_s0
    rw [bF (by omega), Nat.sub_self]
    rfl
  · intro i m him rec hrec
    dsimp only at hrec ⊢
    unfold slices_IndexFunc_S_impl_Cell_s0
    rw [List.length_map, bT (p := (i : Int) < (Ls.length : Int)) (by omega), bT (p := (0 : Int) ≤ (i : Int)) (by omega)]
    simp only [cond_true, Bool.and_true, Int.toNat_natCast]
    rw [rdr_map, hg _ (getD_mem Ls [] (by omega)), wrap64_succ (by omega)]
    simp only [Option.bind_some]
    have hs : Ls.length - i = (Ls.length - (i + 1)) + 1 := by omega
    rw [hs, List.range_succ_eq_map, List.map_cons, List.find?_cons, Nat.zero_add, List.map_map]
    cases hb : b (Ls.getD i []) with
    | true => rfl
    | false =>
      simp only [cond_false]
      rw [hrec]
      have : ((fun x => x + i) ∘ Nat.succ) = (fun x => x + (i + 1)) := by funext x; simp [Function.comp]; omega
      rw [this]

def severalV (a : List Int) (Ls : List Cs) : Int := cond (!lawnB a) 1 (cond (longB Ls) 3 (cond (decide (6 < Ls.length)) 3 (cond (Ls.any fun L => !rightB a L) 4 0)))

theorem spec_several (k : Nat) (hk : 10 < k) {a : List Int} {Ls : List Cs} (ha : LawnR a) (h : RowsR Ls) (hn : Ls.length < k) (hk2 : ∀ L ∈ Ls, L.length < k) : spec_l04Several k a (Ls.map fl) = some (severalV a Ls) := by
  have hc := h.cnt
  unfold spec_l04Several severalV
  rw [spec_valid k hk ha]
  simp only [Option.bind_some]
  cases hv : lawnB a with
  | false => rfl
  | true =>
    simp only [Bool.not_true, cond_false]
    have hS := lawnS_of' ha hv
    -- the second loop
    have key2 : spec_l04Several_l1 k (fun y5 => some y5) (some 0) a (Ls.map fl) 0 = some (cond (Ls.any fun L => !rightB a L) 4 0) := by
      unfold spec_l04Several_l1
      have key := loopF_go (step := fun (rec : (List Int) × (List (List Int)) × Int → Option Int) (p : (List Int) × (List (List Int)) × Int) => spec_l04Several_s1 k (fun y5 => some y5) (some 0) (fun h1 h2 h3 => rec (h1, h2, h3)) p.1 p.2.1 p.2.2)
        (fun i => (a, Ls.map fl, (i : Int))) (fun i _ => some (cond ((Ls.drop i).any fun L => !rightB a L) 4 0)) Ls.length ?_ ?_ Ls.length 0 k (by omega) hn
      · exact key
      · intro rec
        dsimp only
        unfold spec_l04Several_s1
        rw [List.length_map, bF (by omega), List.drop_length]
        rfl
      · intro i m him rec hrec
        dsimp only at hrec ⊢
        unfold spec_l04Several_s1
        have gi := getD_mem Ls [] (i := i) (by omega)
        rw [List.length_map, bT (p := (i : Int) < (Ls.length : Int)) (by omega), bT (p := (0 : Int) ≤ (i : Int)) (by omega)]
        simp only [cond_true, Bool.and_true, Int.toNat_natCast]
        have hrow := h.row (i := i) (by omega)
        have hlt := hk2 _ gi
        rw [rdr_map, wrap64_succ (by omega), hrec]
        have hd : Ls.drop i = Ls.getD i [] :: Ls.drop (i + 1) := by
          rw [List.drop_eq_getElem_cons (by omega : i < Ls.length), List.getD_eq_getElem?_getD, List.getElem?_eq_getElem (by omega)]
          rfl
        rw [spec_right k hS hrow hlt, hd, List.any_cons]
        simp only [Option.bind_some]
        cases rightB a (Ls.getD i []) <;> rfl
    unfold spec_l04Several_l0
    have key := loopF_go (step := fun (rec : (List Int) × (List (List Int)) × Int → Option Int) (p : (List Int) × (List (List Int)) × Int) => spec_l04Several_s0 k (fun y2 => some y2) (fun y3 y4 => cond (decide ((y4.length : Int) > 6)) (some 3) (spec_l04Several_l1 k (fun y5 => some y5) (some 0) y3 y4 0)) (fun h1 h2 h3 => rec (h1, h2, h3)) p.1 p.2.1 p.2.2)
      (fun i => (a, Ls.map fl, (i : Int))) (fun i _ => some (cond (longB (Ls.drop i)) 3 (cond (decide (6 < Ls.length)) 3 (cond (Ls.any fun L => !rightB a L) 4 0)))) Ls.length ?_ ?_ Ls.length 0 k (by omega) hn
    · exact key
    · intro rec
      dsimp only
      unfold spec_l04Several_s0
      rw [List.length_map, bF (by omega), List.drop_length, cond_false]
      show cond (decide (((Ls.map fl).length : Int) > 6)) (some 3) (spec_l04Several_l1 k (fun y5 => some y5) (some 0) a (Ls.map fl) 0) = _
      rw [key2, List.length_map]
      by_cases c : 6 < Ls.length
      · rw [bT c, bT (p := (Ls.length : Int) > 6) (by omega)]; rfl
      · rw [bF c, bF (p := (Ls.length : Int) > 6) (by omega)]; rfl
    · intro i m him rec hrec
      dsimp only at hrec ⊢
      unfold spec_l04Several_s0
      rw [List.length_map, bT (p := (i : Int) < (Ls.length : Int)) (by omega), bT (p := (0 : Int) ≤ (i : Int)) (by omega)]
      simp only [cond_true, Bool.and_true, Int.toNat_natCast]
      simp only [rdr_map, cnt_fl]
      rw [wrap64_succ (by omega), hrec]
      have hd : Ls.drop i = Ls.getD i [] :: Ls.drop (i + 1) := by
        rw [List.drop_eq_getElem_cons (by omega : i < Ls.length), List.getD_eq_getElem?_getD, List.getElem?_eq_getElem (by omega)]
        rfl
      rw [hd]
      unfold longB
      rw [List.any_cons]
      by_cases c : 201 < (Ls.getD i []).length
      · rw [bT c, bT (p := ((Ls.getD i []).length : Int) > 201) (by omega)]; rfl
      · rw [bF c, bF (p := ((Ls.getD i []).length : Int) > 201) (by omega)]; rfl

def walksV (a : List Int) (Ls : List Cs) : Int := cond (!lawnB a) 1 (cond (longB Ls) 3 (cond (Ls.any fun L => !rightB a L) 4 0))

theorem impl_walks (k : Nat) (hk : 10 < k + 6) {a : List Int} {Ls : List Cs} (ha : LawnR a) (h : RowsR Ls) (hn : Ls.length < k + 6) (hk2 : ∀ L ∈ Ls, L.length < k + 6) : impl_walkCode (k + 6) a (Ls.map fl) = some (walksV a Ls) := by
  unfold impl_walkCode walksV
  rw [impl_valid (k + 6) hk ha]
  simp only [Option.bind_some]
  cases hv : lawnB a with
  | false => rfl
  | true =>
    simp only [Bool.not_true, cond_false]
    have hS := lawnS_of' ha hv
    rw [containsRows (k + 6) Ls h.cnt hn _ (fun L => decide (201 < L.length)) (by
      intro L _
      unfold impl_walkCode_1
      rw [cnt_fl]
      simp only [Option.bind_some]
      congr 1
      by_cases c : 201 < L.length
      · rw [bT c, bT (by omega)]
      · rw [bF c, bF (by omega)])]
    rw [containsRows (k + 6) Ls h.cnt hn _ (fun L => !rightB a L) (by
      intro L hL
      unfold impl_walkCode_2
      rw [impl_right k hS (cellsR_fl (h.len _ hL) (h.rng _ hL)) (hk2 _ hL)]
      rfl)]
    unfold longB
    simp only [Option.bind_some]
    cases (Ls.any fun L => decide (201 < L.length)) with
    | true => rfl
    | false => cases (Ls.any fun L => !rightB a L) <;> rfl

def clashV (a : List Int) (Ls : List Cs) : Int × Int × Int × Int := cond (severalV a Ls != 0) (0, 0, 0, severalV a Ls) (match firstO (midO Ls) 0 201 with
  | some p => ((p.1 : Int), (p.2.1 : Int), (p.2.2 : Int), 0)
  | none => (0, 0, 0, 6))

theorem walks_of {a : List Int} {Ls : List Cs} (h : RowsR Ls) (hs : severalV a Ls = 0) : WalksR Ls ∧ Ls.length ≤ 6 ∧ (∀ L ∈ Ls, L.length ≤ 201) := by
  unfold severalV at hs
  cases hv : lawnB a with
  | false => rw [hv] at hs; cases hs
  | true =>
    rw [hv] at hs
    simp only [Bool.not_true, cond_false] at hs
    cases hl : longB Ls with
    | true => rw [hl] at hs; cases hs
    | false =>
      rw [hl] at hs
      simp only [cond_false] at hs
      by_cases c : 6 < Ls.length
      · rw [bT c] at hs; cases hs
      · rw [bF c] at hs
        simp only [cond_false] at hs
        cases hr : (Ls.any fun L => !rightB a L) with
        | true => rw [hr] at hs; cases hs
        | false =>
          rw [List.any_eq_false] at hr
          unfold longB at hl
          rw [List.any_eq_false] at hl
          refine ⟨⟨h, fun L hL => ?_⟩, by omega, fun L hL => ?_⟩
          · intro e
            subst e
            have := hr _ hL
            simp [rightB] at this
          · have := hl L hL
            simp at this
            omega

theorem spec_clash (k : Nat) (hk : 300 < k) {a : List Int} {Ls : List Cs} (ha : LawnR a) (h : RowsR Ls) (hn : Ls.length < k) (hk2 : ∀ L ∈ Ls, L.length < k) : spec_FirstClash k a (Ls.map fl) = some (clashV a Ls) := by
  unfold spec_FirstClash clashV
  rw [spec_several k (by omega) ha h hn hk2]
  simp only [Option.bind_some]
  cases hs : (severalV a Ls != 0) with
  | true => rfl
  | false =>
    have hs : severalV a Ls = 0 := by simpa using hs
    obtain ⟨hw, h6, h201⟩ := walks_of h hs
    obtain ⟨m1, m2, m3⟩ := mostL_le Ls Ls.length 0 0
    have hb := m3 201 (by omega) fun j _ hj => h201 _ (getD_mem Ls [] (by omega))
    simp only [cond_false]
    unfold spec_l04Clash spec_l04Clash_l2
    rw [spec_longest k h hn]
    simp only [Option.bind_some]
    have htop := spec_top k (fun y2 y3 y4 y5 => some (y2, y3, y4, y5)) (some (0, 0, 0, false)) hw (most := mostL Ls 0 Ls.length 0) (by omega) hn (mostL Ls 0 Ls.length 0) 0 k (by omega) (by omega)
    have htop : _ = _ := htop
    rw [show ((0 : Nat) : Int) = 0 from rfl] at htop
    rw [htop]
    have hlate := top_late (Ls := Ls) (most := mostL Ls 0 Ls.length 0) (r := 201 - mostL Ls 0 Ls.length 0) (by
      intro L hL
      obtain ⟨j, hj, rfl⟩ := List.mem_iff_getElem.1 hL
      have := m2 j (by omega) (by omega)
      rwa [List.getD_eq_getElem?_getD, List.getElem?_eq_getElem hj] at this) (by
      cases hL : Ls with
      | nil => exact .inr rfl
      | cons L r =>
        left
        have hp : 0 < L.length := List.length_pos_iff.2 (hw.ne L (by simp [hL]))
        have := m2 0 (by omega) (by simp [hL])
        rw [hL] at this
        simp only [List.getD_cons_zero] at this
        rw [← hL] at this ⊢
        omega)
    rw [show mostL Ls 0 Ls.length 0 + (201 - mostL Ls 0 Ls.length 0) = 201 by omega] at hlate
    rw [hlate]
    cases firstO (midO Ls) 0 (mostL Ls 0 Ls.length 0) <;> rfl

theorem impl_clashV (k : Nat) (hk : 300 < k + 6) {a : List Int} {Ls : List Cs} (ha : LawnR a) (h : RowsR Ls) (hn : Ls.length < k + 6) (hk2 : ∀ L ∈ Ls, L.length < k + 6) : impl_FirstClash (k + 6) a (Ls.map fl) = some (clashV a Ls) := by
  unfold impl_FirstClash
  rw [impl_walks k (by omega) ha h hn hk2, impl_valid (k + 6) (by omega) ha]
  simp only [Option.bind_some, List.length_map]
  have htop : severalV a Ls = 0 → impl_FirstClash_l2 (k + 6) (fun y3 y4 y5 y6 => some (y3, y4, y5, y6)) (some (0, 0, 0, 6)) (Ls.map fl) 0 = some (match firstO (midO Ls) 0 201 with
      | some p => ((p.1 : Int), (p.2.1 : Int), (p.2.2 : Int), 0)
      | none => (0, 0, 0, 6)) := by
    intro hs
    obtain ⟨hw, h6, h201⟩ := walks_of h hs
    have := impl_top (k + 6) (fun y3 y4 y5 y6 => some (y3, y4, y5, y6)) (some (0, 0, 0, 6)) hw hn 201 0 (k + 6) (by omega) (by omega)
    refine Eq.trans this ?_
    cases firstO (midO Ls) 0 201 <;> rfl
  unfold clashV severalV walksV
  cases hv : lawnB a with
  | false => rfl
  | true =>
    simp only [Bool.not_true, cond_false, cond_true]
    by_cases c : 6 < Ls.length
    · rw [bT c, bT (p := (Ls.length : Int) > 6) (by omega)]
      simp only [cond_true]
      cases longB Ls <;> rfl
    · rw [bF c, bF (p := (Ls.length : Int) > 6) (by omega)]
      simp only [cond_false]
      cases hl : longB Ls with
      | true => rfl
      | false =>
        simp only [cond_false]
        cases hr : (Ls.any fun L => !rightB a L) with
        | true => rfl
        | false =>
          exact htop (by unfold severalV; rw [hv, hl, bF c, hr]; rfl)

theorem firstClash_true (n : Nat) (hn : 1048590 ≤ n) {a : List Int} {Ls : List Cs} (ha : LawnR a) (h : RowsR Ls) : laws_FnExactFirstClash (n + 5 + 6) a (Ls.map fl) = some true := by
  have hc := h.cnt
  have hk2 : ∀ L ∈ Ls, L.length < n + 5 + 6 := fun L hL => by have := h.len L hL; omega
  unfold laws_FnExactFirstClash
  obtain ⟨x, hx⟩ := szCellSS_some (n + 5 + 6) h (by omega)
  rw [hx]
  simp only [Option.bind_some]
  by_cases c : x < 0
  · rw [bT c]; rfl
  · rw [bF c]
    have t1 : laws_toLawn (n + 5 + 6) a = some a := toLawn_id n a ha.len
    simp only [cond_false, t1, Option.bind_some, toCellSS_id (n + 5 + 6) h (by omega) hk2]
    rw [spec_clash (n + 5 + 6) (by omega) ha h (by omega) hk2, impl_clashV (n + 5) (by omega) ha h (by omega) hk2]
    simp only [Option.bind_some, bne_self_eq_false, cond_false]
    rw [eqCellSS_self (n + 5 + 6) h (by omega) hk2]
    rfl

end Go.Proofs.Ytkdpdmfkomnalaa.Tt
