/- Plain laws: FirstClash, the search. -/
import Derived.Test.YtkdpdmfkomnalaaY44
set_option linter.unusedVariables false
set_option linter.unusedSimpArgs false
namespace Go.Proofs.Ytkdpdmfkomnalaa.Tt
open Go.Ev Go

def posP (L : Cs) (t : Nat) : Int × Int := L.getD (min t (L.length - 1)) (0, 0)
def eqP (p q : Int × Int) : Bool := (p.1 == q.1) && (p.2 == q.2)
def meetB (A B : Cs) (t : Nat) : Bool := eqP (posP A t) (posP B t) || (decide (0 < t) && (eqP (posP A t) (posP B (t - 1)) && eqP (posP A (t - 1)) (posP B t)))

theorem eqL_pair (p q : Int × Int) : eqL [p.1, p.2] [q.1, q.2] = eqP p q := by rw [eqL_two]; rfl
theorem eqP_comm (p q : Int × Int) : eqP p q = eqP q p := by unfold eqP; rw [BEq.comm (a := p.1), BEq.comm (a := p.2)]

theorem spec_where (k : Nat) {A : Cs} (h0 : A ≠ []) (h1 : A.length ≤ 1048576) (t : Nat) : spec_l04Where k (fl A) (t : Int) = some [(posP A t).1, (posP A t).2] := by
  have hl : 0 < A.length := List.length_pos_iff.2 h0
  unfold spec_l04Where posP
  rw [cnt_fl]
  have e : IntKind.wrap .i64 ((A.length : Int) - 1) = ((A.length - 1 : Nat) : Int) := by rw [wrap64 (by omega)]; omega
  by_cases c : A.length ≤ t
  · rw [bT (p := (t : Int) ≥ (A.length : Int)) (by omega), e, bT (p := (0 : Int) ≤ ((A.length - 1 : Nat) : Int)) (by omega), bT (p := ((A.length - 1 : Nat) : Int) < (A.length : Int)) (by omega)]
    simp only [cond_true, Bool.and_true, Int.toNat_natCast]
    rw [fl_x, fl_y, show min t (A.length - 1) = A.length - 1 by omega]
  · rw [bF (p := (t : Int) ≥ (A.length : Int)) (by omega), bT (p := (0 : Int) ≤ (t : Int)) (by omega), bT (p := (t : Int) < (A.length : Int)) (by omega)]
    simp only [cond_true, cond_false, Bool.and_true, Int.toNat_natCast]
    rw [fl_x, fl_y, show min t (A.length - 1) = t by omega]

theorem impl_where (k : Nat) {A : Cs} (h0 : A ≠ []) (h1 : A.length ≤ 1048576) (t : Nat) : impl_at k (fl A) (t : Int) = some [(posP A t).1, (posP A t).2] := by
  have hl : 0 < A.length := List.length_pos_iff.2 h0
  unfold impl_at posP
  rw [cnt_fl]
  have e : IntKind.wrap .i64 ((A.length : Int) - 1) = ((A.length - 1 : Nat) : Int) := by rw [wrap64 (by omega)]; omega
  have em : minI (t : Int) ((A.length - 1 : Nat) : Int) = ((min t (A.length - 1) : Nat) : Int) := by unfold minI; split <;> omega
  rw [e, em, bT (p := (0 : Int) ≤ ((min t (A.length - 1) : Nat) : Int)) (by omega), bT (p := ((min t (A.length - 1) : Nat) : Int) < (A.length : Int)) (by omega)]
  simp only [cond_true, Bool.and_true, Int.toNat_natCast]
  rw [fl_x, fl_y]

theorem spec_meet (k : Nat) {A B : Cs} (a0 : A ≠ []) (a1 : A.length ≤ 1048576) (b0 : B ≠ []) (b1 : B.length ≤ 1048576) (t : Nat) (ht : t < 4294967296) : spec_l04Meet k (fl A) (fl B) (t : Int) = some (meetB A B t) := by
  unfold spec_l04Meet meetB
  rw [spec_where k a0 a1, spec_where k b0 b1]
  simp only [Option.bind_some]
  have e1 : ∀ (p : Int × Int), [rd [p.1, p.2] 0, rd [p.1, p.2] 1] = [p.1, p.2] := fun p => rfl
  rw [e1, e1, eqL_pair]
  cases eqP (posP A t) (posP B t) with
  | true => rfl
  | false =>
    simp only [cond_false, Bool.false_or]
    by_cases c : 0 < t
    · have e3 : IntKind.wrap .i64 ((t : Int) - 1) = ((t - 1 : Nat) : Int) := by rw [wrap64 (by omega)]; omega
      rw [bT (p := (t : Int) > 0) (by omega), bT c, e3, spec_where k a0 a1, spec_where k b0 b1]
      simp only [cond_true, Option.bind_some, Bool.true_and]
      rw [eqL_pair, eqL_pair, eqP_comm (posP B t)]
      cases eqP (posP A t) (posP B (t - 1)) <;> rfl
    · rw [bF (p := (t : Int) > 0) (by omega), bF c]
      rfl

theorem impl_meet (k : Nat) {A B : Cs} (a0 : A ≠ []) (a1 : A.length ≤ 1048576) (b0 : B ≠ []) (b1 : B.length ≤ 1048576) (t : Nat) (ht : t < 4294967296) : impl_clash k (fl A) (fl B) (t : Int) = some (meetB A B t) := by
  unfold impl_clash meetB
  rw [impl_where k a0 a1, impl_where k b0 b1]
  simp only [Option.bind_some]
  rw [eqL_pair]
  cases eqP (posP A t) (posP B t) with
  | true => rfl
  | false =>
    simp only [cond_false, Bool.false_or]
    by_cases c : 0 < t
    · have e3 : IntKind.wrap .i64 ((t : Int) - 1) = ((t - 1 : Nat) : Int) := by rw [wrap64 (by omega)]; omega
      rw [bT (p := (t : Int) > 0) (by omega), bT c, e3, impl_where k a0 a1, impl_where k b0 b1]
      simp only [cond_true, Option.bind_some, Bool.true_and]
      rw [eqL_pair, eqL_pair]
      cases eqP (posP A t) (posP B (t - 1)) <;> rfl
    · rw [bF (p := (t : Int) > 0) (by omega), bF c]
      rfl

/-! ## Searches -/

def firstO {β : Type} (q : Nat → Option β) : Nat → Nat → Option β
  | _, 0 => none
  | i, m + 1 => match q i with
    | some b => some b
    | none => firstO q (i + 1) m

theorem firstO_add {β : Type} (q : Nat → Option β) : ∀ (m r i : Nat), firstO q i (m + r) = match firstO q i m with
    | some b => some b
    | none => firstO q (i + m) r := by
  intro m
  induction m with
  | zero => intro r i; simp [firstO]
  | succ m ih =>
    intro r i
    rw [show m + 1 + r = (m + r) + 1 by omega]
    simp only [firstO]
    cases q i with
    | some b => rfl
    | none => simp only []; rw [ih, show i + 1 + m = i + (m + 1) by omega]

theorem firstO_none {β : Type} {q : Nat → Option β} : ∀ {m i : Nat}, firstO q i m = none ↔ ∀ j, i ≤ j → j < i + m → q j = none := by
  intro m
  induction m with
  | zero => intro i; simp [firstO]; intro j h1 h2; omega
  | succ m ih =>
    intro i
    simp only [firstO]
    cases hq : q i with
    | some b =>
      simp only [reduceCtorEq, false_iff]
      intro h
      rw [h i (by omega) (by omega)] at hq
      cases hq
    | none =>
      simp only []
      rw [ih]
      constructor
      · intro h j h1 h2
        by_cases e : j = i
        · subst e; exact hq
        · exact h j (by omega) (by omega)
      · intro h j h1 h2
        exact h j (by omega) (by omega)

def pairO (Ls : List Cs) (t i j : Nat) : Option (Nat × Nat × Nat) := cond (meetB (Ls.getD i []) (Ls.getD j []) t) (some (t, i, j)) none
def innerO (Ls : List Cs) (t i : Nat) : Option (Nat × Nat × Nat) := firstO (pairO Ls t i) (i + 1) (Ls.length - (i + 1))
def midO (Ls : List Cs) (t : Nat) : Option (Nat × Nat × Nat) := firstO (innerO Ls t) 0 Ls.length

structure WalksR (Ls : List Cs) : Prop extends RowsR Ls where
  ne : ∀ L ∈ Ls, L ≠ []

def K3 {R : Type} (o : Option (Nat × Nat × Nat)) (K1 : Int → Int → Int → Option R) (K2 : Option R) : Option R := match o with
  | some p => K1 p.1 p.2.1 p.2.2
  | none => K2

theorem spec_inner {R : Type} (k : Nat) (K1 : Int → Int → Int → Bool → Option R) (K2 : (List (List Int)) → Int → Int → Int → Option R) {Ls : List Cs} (h : WalksR Ls) (most : Int) {t i : Nat} (ht : t < 1000000) (hi : i < Ls.length) :
    ∀ (m j f : Nat), j + m = Ls.length → m < f → loopF (fun (rec : (List (List Int)) × Int × Int × Int × Int → Option R) (p : (List (List Int)) × Int × Int × Int × Int) => spec_l04Clash_s0 k K1 K2 (fun h1 h2 h3 h4 h5 => rec (h1, h2, h3, h4, h5)) p.1 p.2.1 p.2.2.1 p.2.2.2.1 p.2.2.2.2) f (Ls.map fl, most, (t : Int), (i : Int), (j : Int)) =
      K3 (firstO (pairO Ls t i) j m) (fun t i j => K1 t i j true) (K2 (Ls.map fl) most t i) := by
  have hc := h.cnt
  refine loopF_go (fun j => (Ls.map fl, most, (t : Int), (i : Int), (j : Int))) (fun j m => K3 (firstO (pairO Ls t i) j m) (fun t i j => K1 t i j true) (K2 (Ls.map fl) most t i)) Ls.length ?_ ?_
  · intro rec
    dsimp only
    unfold spec_l04Clash_s0
    rw [List.length_map, bF (by omega)]
    rfl
  · intro j m hj rec hrec
    dsimp only
    unfold spec_l04Clash_s0
    have gi := getD_mem Ls [] hi
    have gj := getD_mem Ls [] (i := j) (by omega)
    rw [List.length_map, bT (p := (j : Int) < (Ls.length : Int)) (by omega), bT (p := (0 : Int) ≤ (i : Int)) (by omega), bT (p := (i : Int) < (Ls.length : Int)) (by omega), bT (p := (0 : Int) ≤ (j : Int)) (by omega)]
    simp only [cond_true, Bool.and_true, Int.toNat_natCast]
    rw [rdr_map, rdr_map, spec_meet k (h.ne _ gi) (h.len _ gi) (h.ne _ gj) (h.len _ gj) t (by omega), wrap64_succ (by omega), hrec]
    simp only [Option.bind_some, firstO, pairO]
    cases meetB (Ls.getD i []) (Ls.getD j []) t <;> rfl

theorem spec_mid {R : Type} (k : Nat) (K1 : Int → Int → Int → Bool → Option R) (K2 : (List (List Int)) → Int → Int → Option R) {Ls : List Cs} (h : WalksR Ls) (most : Int) {t : Nat} (ht : t < 1000000) (hk : Ls.length < k) :
    ∀ (m i f : Nat), i + m = Ls.length → m < f → loopF (fun (rec : (List (List Int)) × Int × Int × Int → Option R) (p : (List (List Int)) × Int × Int × Int) => spec_l04Clash_s1 k K1 K2 (fun h1 h2 h3 h4 => rec (h1, h2, h3, h4)) p.1 p.2.1 p.2.2.1 p.2.2.2) f (Ls.map fl, most, (t : Int), (i : Int)) =
      K3 (firstO (innerO Ls t) i m) (fun t i j => K1 t i j true) (K2 (Ls.map fl) most t) := by
  have hc := h.cnt
  refine loopF_go (fun i => (Ls.map fl, most, (t : Int), (i : Int))) (fun i m => K3 (firstO (innerO Ls t) i m) (fun t i j => K1 t i j true) (K2 (Ls.map fl) most t)) Ls.length ?_ ?_
  · intro rec
    dsimp only
    unfold spec_l04Clash_s1
    rw [List.length_map, bF (by omega)]
    rfl
  · intro i m hi rec hrec
    dsimp only
    unfold spec_l04Clash_s1 spec_l04Clash_l0
    rw [List.length_map, bT (p := (i : Int) < (Ls.length : Int)) (by omega)]
    simp only [cond_true]
    have hw : IntKind.wrap .i64 ((i : Int) + 1) = ((i + 1 : Nat) : Int) := wrap64_succ (by omega)
    rw [hw, spec_inner k _ _ h most ht (by omega) (Ls.length - (i + 1)) (i + 1) k (by omega) (by omega), hw, hrec]
    simp only [firstO]
    show K3 (innerO Ls t i) _ _ = _
    cases innerO Ls t i <;> rfl

theorem spec_top {R : Type} (k : Nat) (K1 : Int → Int → Int → Bool → Option R) (K2 : Option R) {Ls : List Cs} (h : WalksR Ls) {most : Nat} (hm : most < 1000) (hk : Ls.length < k) :
    ∀ (m t f : Nat), t + m = most → m < f → loopF (fun (rec : (List (List Int)) × Int × Int → Option R) (p : (List (List Int)) × Int × Int) => spec_l04Clash_s2 k K1 K2 (fun h1 h2 h3 => rec (h1, h2, h3)) p.1 p.2.1 p.2.2) f (Ls.map fl, (most : Int), (t : Int)) =
      K3 (firstO (midO Ls) t m) (fun t i j => K1 t i j true) K2 := by
  refine loopF_go (fun t => (Ls.map fl, (most : Int), (t : Int))) (fun t m => K3 (firstO (midO Ls) t m) (fun t i j => K1 t i j true) K2) most ?_ ?_
  · intro rec
    dsimp only
    unfold spec_l04Clash_s2
    rw [bF (by omega)]
    rfl
  · intro t m ht rec hrec
    dsimp only
    unfold spec_l04Clash_s2 spec_l04Clash_l1
    rw [bT (p := (t : Int) < (most : Int)) (by omega)]
    simp only [cond_true]
    have h0 := spec_mid k (fun y1 y2 y3 y4 => K1 y1 y2 y3 y4) (fun y5 y6 y7 => rec (y5, y6, (IntKind.wrap .i64 (y7 + 1)))) h most (t := t) (by omega) hk Ls.length 0 k (by omega) hk
    rw [wrap64_succ (by omega), hrec] at h0
    simp only [firstO]
    refine h0.trans ?_
    show K3 (midO Ls t) _ _ = _
    cases midO Ls t <;> rfl

theorem impl_inner {R : Type} (k : Nat) (K1 : Int → Int → Int → Int → Option R) (K2 : (List (List Int)) → Int → Int → Int → Int → Option R) {Ls : List Cs} (h : WalksR Ls) (q5 q6 q7 : Int) {t i : Nat} (ht : t < 1000000) (hi : i < Ls.length) :
    ∀ (m j f : Nat), j + m = Ls.length → m < f → loopF (fun (rec : (List (List Int)) × Int × Int × Int × Int × Int × Int → Option R) (p : (List (List Int)) × Int × Int × Int × Int × Int × Int) => impl_FirstClash_s0 k K1 K2 (fun h1 h2 h3 h4 h5 h6 h7 => rec (h1, h2, h3, h4, h5, h6, h7)) p.1 p.2.1 p.2.2.1 p.2.2.2.1 p.2.2.2.2.1 p.2.2.2.2.2.1 p.2.2.2.2.2.2) f (Ls.map fl, (t : Int), (i : Int), (j : Int), q5, q6, q7) =
      K3 (firstO (pairO Ls t i) j m) (fun t i j => K1 t i j 0) (K2 (Ls.map fl) t q5 q6 q7) := by
  have hc := h.cnt
  refine loopF_go (fun j => (Ls.map fl, (t : Int), (i : Int), (j : Int), q5, q6, q7)) (fun j m => K3 (firstO (pairO Ls t i) j m) (fun t i j => K1 t i j 0) (K2 (Ls.map fl) t q5 q6 q7)) Ls.length ?_ ?_
  · intro rec
    dsimp only
    unfold impl_FirstClash_s0
    rw [List.length_map, bF (by omega)]
    rfl
  · intro j m hj rec hrec
    dsimp only
    unfold impl_FirstClash_s0
    have gi := getD_mem Ls [] hi
    have gj := getD_mem Ls [] (i := j) (by omega)
    rw [List.length_map, bT (p := (j : Int) < (Ls.length : Int)) (by omega), bT (p := (0 : Int) ≤ (i : Int)) (by omega), bT (p := (i : Int) < (Ls.length : Int)) (by omega), bT (p := (0 : Int) ≤ (j : Int)) (by omega)]
    simp only [cond_true, Bool.and_true, Int.toNat_natCast]
    rw [rdr_map, rdr_map, impl_meet k (h.ne _ gi) (h.len _ gi) (h.ne _ gj) (h.len _ gj) t (by omega), wrap64_succ (by omega), hrec]
    simp only [Option.bind_some, firstO, pairO]
    cases meetB (Ls.getD i []) (Ls.getD j []) t <;> rfl

theorem impl_mid {R : Type} (k : Nat) (K1 : Int → Int → Int → Int → Option R) (K2 : (List (List Int)) → Int → Option R) {Ls : List Cs} (h : WalksR Ls) {t : Nat} (ht : t < 1000000) (hk : Ls.length < k) :
    ∀ (m i f : Nat), i + m = Ls.length → m < f → loopF (fun (rec : (List (List Int)) × Int × Int × Int × Int → Option R) (p : (List (List Int)) × Int × Int × Int × Int) => impl_FirstClash_s1 k K1 K2 (fun h1 h2 h3 h4 h5 => rec (h1, h2, h3, h4, h5)) p.1 p.2.1 p.2.2.1 p.2.2.2.1 p.2.2.2.2) f (Ls.map fl, (t : Int), (t : Int), (Ls.length : Int), (i : Int)) =
      K3 (firstO (innerO Ls t) i m) (fun t i j => K1 t i j 0) (K2 (Ls.map fl) t) := by
  have hc := h.cnt
  refine loopF_go (fun i => (Ls.map fl, (t : Int), (t : Int), (Ls.length : Int), (i : Int))) (fun i m => K3 (firstO (innerO Ls t) i m) (fun t i j => K1 t i j 0) (K2 (Ls.map fl) t)) Ls.length ?_ ?_
  · intro rec
    dsimp only
    unfold impl_FirstClash_s1
    rw [bF (by omega)]
    rfl
  · intro i m hi rec hrec
    dsimp only
    unfold impl_FirstClash_s1 impl_FirstClash_l0
    rw [bT (p := (i : Int) < (Ls.length : Int)) (by omega)]
    simp only [cond_true]
    have hw : IntKind.wrap .i64 ((i : Int) + 1) = ((i + 1 : Nat) : Int) := wrap64_succ (by omega)
    rw [hw, impl_inner k _ _ h _ _ _ ht (by omega) (Ls.length - (i + 1)) (i + 1) k (by omega) (by omega), hw, hrec]
    simp only [firstO]
    show K3 (innerO Ls t i) _ _ = _
    cases innerO Ls t i <;> rfl

theorem impl_top {R : Type} (k : Nat) (K1 : Int → Int → Int → Int → Option R) (K2 : Option R) {Ls : List Cs} (h : WalksR Ls) (hk : Ls.length < k) :
    ∀ (m t f : Nat), t + m = 201 → m < f → loopF (fun (rec : (List (List Int)) × Int → Option R) (p : (List (List Int)) × Int) => impl_FirstClash_s2 k K1 K2 (fun h1 h2 => rec (h1, h2)) p.1 p.2) f (Ls.map fl, (t : Int)) =
      K3 (firstO (midO Ls) t m) (fun t i j => K1 t i j 0) K2 := by
  refine loopF_go (fun t => (Ls.map fl, (t : Int))) (fun t m => K3 (firstO (midO Ls) t m) (fun t i j => K1 t i j 0) K2) 201 ?_ ?_
  · intro rec
    dsimp only
    unfold impl_FirstClash_s2
    rw [bF (by omega)]
    rfl
  · intro t m ht rec hrec
    dsimp only
    unfold impl_FirstClash_s2 impl_FirstClash_l1
    rw [bT (p := (t : Int) < 201) (by omega)]
    simp only [cond_true, List.length_map]
    have h0 := impl_mid k (fun y1 y2 y3 y4 => K1 y1 y2 y3 y4) (fun y5 y6 => rec (y5, (IntKind.wrap .i64 (y6 + 1)))) h (t := t) (by omega) hk Ls.length 0 k (by omega) hk
    rw [wrap64_succ (by omega), hrec] at h0
    simp only [firstO]
    refine h0.trans ?_
    show K3 (midO Ls t) _ _ = _
    cases midO Ls t <;> rfl

/-! ## Later than the longest walk nothing is new. -/

theorem pos_late {A : Cs} {t : Nat} (h : A.length ≤ t + 1) : posP A t = posP A (t + 1) := by
  unfold posP
  congr 1
  omega

theorem mid_late {Ls : List Cs} {t : Nat} (h : ∀ L ∈ Ls, L.length ≤ t + 1) (h0 : midO Ls t = none) : midO Ls (t + 1) = none := by
  unfold midO at h0 ⊢
  rw [firstO_none] at h0 ⊢
  intro i hi1 hi2
  have h1 := h0 i hi1 hi2
  unfold innerO at h1 ⊢
  rw [firstO_none] at h1 ⊢
  intro j hj1 hj2
  have h2 := h1 j hj1 hj2
  have gi := h _ (getD_mem Ls [] (i := i) (by omega))
  have gj := h _ (getD_mem Ls [] (i := j) (by omega))
  unfold pairO at h2 ⊢
  have hm : meetB (Ls.getD i []) (Ls.getD j []) t = false := by
    cases hb : meetB (Ls.getD i []) (Ls.getD j []) t with
    | false => rfl
    | true => rw [hb] at h2; cases h2
  have e1 := pos_late gi
  have e2 := pos_late gj
  unfold meetB at hm
  rw [Bool.or_eq_false_iff] at hm
  have : meetB (Ls.getD i []) (Ls.getD j []) (t + 1) = false := by
    unfold meetB
    rw [Nat.add_sub_cancel, ← e1, ← e2, hm.1]
    simp
  rw [this]
  rfl

theorem top_late {Ls : List Cs} {most r : Nat} (h : ∀ L ∈ Ls, L.length ≤ most) (h0 : 0 < most ∨ Ls = []) : firstO (midO Ls) 0 (most + r) = firstO (midO Ls) 0 most := by
  rw [firstO_add]
  cases hq : firstO (midO Ls) 0 most with
  | some b => rfl
  | none =>
    simp only []
    rw [firstO_none]
    rcases h0 with h0 | h0
    · rw [firstO_none] at hq
      have hl := hq (most - 1) (by omega) (by omega)
      have key : ∀ d, midO Ls (most - 1 + d) = none := by
        intro d
        induction d with
        | zero => exact hl
        | succ d ih => exact mid_late (t := most - 1 + d) (fun L hL => by have := h L hL; omega) ih
      intro j h1 h2
      have := key (j - (most - 1))
      rwa [show most - 1 + (j - (most - 1)) = j by omega] at this
    · subst h0
      intro j _ _
      rfl

end Go.Proofs.Ytkdpdmfkomnalaa.Tt
