/- Plain laws: pieces, marked and held. -/
import Derived.Test.YtkdpdmfkomnalaaP0
set_option linter.unusedVariables false
set_option linter.unusedSimpArgs false
namespace Go.Proofs.Ytkdpdmfkomnalaa.Tt
open Go.Ev Go

def marksR : Int → List Cs → List (List Int)
  | _, [] => []
  | c, L :: r => mk8 c (L.length * 2) :: marksR (c + 2 * (L.length : Int)) r
def endR : Int → List Cs → Int
  | c, [] => c
  | c, L :: r => endR (c + 2 * (L.length : Int)) r

theorem marksR_len : ∀ (Ls : List Cs) (c : Int), (marksR c Ls).length = Ls.length := by
  intro Ls
  induction Ls with
  | nil => intro c; rfl
  | cons L r ih => intro c; simp [marksR, ih]

theorem rdr_mid (A r : List (List Int)) (x : List Int) {i : Nat} (h : A.length = i) : rdr (A ++ x :: r) i = x := by
  subst h
  unfold rdr
  rw [List.getD_eq_getElem?_getD, List.getElem?_append_right (Nat.le_refl _), Nat.sub_self]
  rfl

theorem set_midR (A r : List (List Int)) (x v : List Int) {i : Nat} (h : A.length = i) : List.set (A ++ x :: r) i v = A ++ v :: r := by
  subst h
  rw [List.set_append_right _ _ (Nat.le_refl _), Nat.sub_self]
  rfl

theorem mark_rows {R : Type} (k : Nat) (K1 : Int → (List (List Int)) → Option R) (hk : 100 < k) :
    ∀ (Ls : List Cs) (done : List (List Int)) (c : Int) (f : Nat), (∀ L ∈ Ls, L.length ≤ 100) → Ls.length < f → 0 ≤ c → c + 200 * (Ls.length : Int) ≤ 1000000 → done.length + Ls.length ≤ 100000 → Ls.length ≤ 100 →
      loopF (fun (rec : Int × Int × (List (List Int)) → Option R) (p : Int × Int × (List (List Int))) => laws_markCellSS_s0 k K1 (fun h1 h2 h3 => rec (h1, h2, h3)) p.1 p.2.1 p.2.2) f (c, (done.length : Int), done ++ Ls.map fl) = K1 (endR c Ls) (done ++ marksR c Ls) := by
  intro Ls
  induction Ls with
  | nil =>
    intro done c f _ hf _ _ _ _
    obtain ⟨f, rfl⟩ : ∃ g, f = g + 1 := ⟨f - 1, by simp only [List.length_nil] at hf; omega⟩
    rw [loopF]
    dsimp only
    rw [laws_markCellSS_s0, List.map_nil, List.append_nil, bF (by omega)]
    simp [marksR, endR]
  | cons L r ih =>
    intro done c f hL hf hc hc2 hd hr
    simp only [List.length_cons] at hf hc2 hr hd
    obtain ⟨f, rfl⟩ : ∃ g, f = g + 1 := ⟨f - 1, by omega⟩
    have hl := hL L (by simp)
    rw [loopF]
    dsimp only
    rw [laws_markCellSS_s0, List.map_cons]
    have e0 : (done ++ fl L :: r.map fl).length = done.length + (r.length + 1) := by simp
    rw [e0, bT (p := (done.length : Int) < ((done.length + (r.length + 1) : Nat) : Int)) (by omega), bT (p := (0 : Int) ≤ (done.length : Int)) (by omega)]
    simp only [cond_true, Bool.and_true, Int.toNat_natCast, Nat.mul_one]
    rw [rdr_mid done _ (fl L) rfl, mark_cells k (fl L) L.length c (fl_length L) (by omega) (by omega) (by omega)]
    simp only [Option.bind_some]
    rw [set_midR done _ (fl L) _ rfl, wrap64 (x := (done.length : Int) + 1) (by omega)]
    have := ih (done ++ [mk8 c (L.length * 2)]) (c + 2 * (L.length : Int)) f (fun x hx => hL x (by simp [hx])) (by omega) (by omega) (by omega) (by simp only [List.length_append, List.length_singleton]; omega) (by omega)
    simp only [List.length_append, List.length_singleton, List.append_assoc, List.singleton_append] at this
    rw [show ((done.length + 1 : Nat) : Int) = (done.length : Int) + 1 by omega] at this
    exact this

theorem held_rows {R : Type} (k : Nat) (K1 K2 : Int → Option R) (hk : 100 < k) :
    ∀ (Ls : List Cs) (done : List (List Int)) (c : Int) (f : Nat), (∀ L ∈ Ls, L.length ≤ 100) → Ls.length < f → 0 ≤ c → c + 200 * (Ls.length : Int) ≤ 1000000 → done.length + Ls.length ≤ 100000 → Ls.length ≤ 100 →
      loopF (fun (rec : (List (List Int)) × Int × Int → Option R) (p : (List (List Int)) × Int × Int) => laws_heldCellSS_s0 k K1 K2 (fun h1 h2 h3 => rec (h1, h2, h3)) p.1 p.2.1 p.2.2) f (done ++ marksR c Ls, c, (done.length : Int)) = K2 (endR c Ls) := by
  intro Ls
  induction Ls with
  | nil =>
    intro done c f _ hf _ _ _ _
    obtain ⟨f, rfl⟩ : ∃ g, f = g + 1 := ⟨f - 1, by simp only [List.length_nil] at hf; omega⟩
    rw [loopF]
    dsimp only
    rw [laws_heldCellSS_s0, show marksR c [] = [] from rfl, List.append_nil, bF (by omega)]
    rfl
  | cons L r ih =>
    intro done c f hL hf hc hc2 hd hr
    simp only [List.length_cons] at hf hc2 hr hd
    obtain ⟨f, rfl⟩ : ∃ g, f = g + 1 := ⟨f - 1, by omega⟩
    have hl := hL L (by simp)
    rw [loopF]
    dsimp only
    rw [laws_heldCellSS_s0, show marksR c (L :: r) = mk8 c (L.length * 2) :: marksR (c + 2 * (L.length : Int)) r from rfl]
    have e0 : (done ++ mk8 c (L.length * 2) :: marksR (c + 2 * (L.length : Int)) r).length = done.length + (r.length + 1) := by simp [marksR_len]
    rw [e0, bT (p := (done.length : Int) < ((done.length + (r.length + 1) : Nat) : Int)) (by omega), bT (p := (0 : Int) ≤ (done.length : Int)) (by omega)]
    simp only [cond_true, Bool.and_true, Int.toNat_natCast]
    rw [rdr_mid done _ _ rfl, held_cells k L.length c (by omega) (by omega) (by omega)]
    simp only [Option.bind_some]
    rw [bF (p := c + 2 * (L.length : Int) < 0) (by omega), wrap64 (x := (done.length : Int) + 1) (by omega)]
    simp only [cond_false]
    have := ih (done ++ [mk8 c (L.length * 2)]) (c + 2 * (L.length : Int)) f (fun x hx => hL x (by simp [hx])) (by omega) (by omega) (by omega) (by simp only [List.length_append, List.length_singleton]; omega) (by omega)
    simp only [List.length_append, List.length_singleton, List.append_assoc, List.singleton_append] at this
    rw [show ((done.length + 1 : Nat) : Int) = (done.length : Int) + 1 by omega] at this
    exact this

theorem endR_pos : ∀ (Ls : List Cs) (c : Int), 0 ≤ c → 0 ≤ endR c Ls := by
  intro Ls
  induction Ls with
  | nil => intro c h; exact h
  | cons L r ih => intro c h; exact ih _ (by omega)

theorem marks_rows (k : Nat) (hk : 101 < k) (Ls : List Cs) (hL : ∀ L ∈ Ls, L.length ≤ 100) (hl : Ls.length ≤ 100) :
    laws_markCellSS k (Ls.map fl) 1 = some (endR 1 Ls, marksR 1 Ls) ∧ laws_heldCellSS k (marksR 1 Ls) 1 = some (endR 1 Ls) := by
  unfold laws_markCellSS laws_heldCellSS laws_markCellSS_l0 laws_heldCellSS_l0
  exact ⟨mark_rows k (fun y1 y2 => some (y1, y2)) (by omega) Ls [] 1 k hL (by omega) (by omega) (by omega) (by simp only [List.length_nil]; omega) hl, held_rows k (fun y1 => some y1) (fun y2 => some y2) (by omega) Ls [] 1 k hL (by omega) (by omega) (by omega) (by simp only [List.length_nil]; omega) hl⟩

theorem parts_lenP (g : Cell → Bool) (nb : Cell → List Cell) (n : Nat) : ∀ (L : List Cell) (s : List Cell × List (List Cell)), (L.foldl (stepO g nb n) s).2.length ≤ s.2.length + L.length := by
  intro L
  induction L with
  | nil => intro s; simp
  | cons c L ih =>
    intro s
    rw [List.foldl_cons, List.length_cons]
    have h := ih (stepO g nb n s c)
    have : (stepO g nb n s c).2.length ≤ s.2.length + 1 := by
      unfold stepO
      cases (g c && !(decide (c ∈ s.1))) <;> simp
    omega

theorem pieces_true {a : List Int} (hl : a.length = 102) (ha : LawnR a) : ∃ k, laws_FnExactPiecesOf k a = some true := by
  refine ⟨200, ?_⟩
  suffices h : ∃ (Ls : List Cs) (c : Int), RowsR Ls ∧ Ls.length ≤ 100 ∧ (∀ L ∈ Ls, L.length ≤ 100) ∧ spec_PiecesOf 200 a = some (Ls.map fl, c) ∧ impl_PiecesOf 200 a = some (Ls.map fl, c) by
    obtain ⟨Ls, c, hR, h1, h2, e1, e2⟩ := h
    obtain ⟨m1, m2⟩ := marks_rows 200 (by decide) Ls h2 h1
    have hs := eqCellSS_self 200 hR (by omega) (fun L hx => Nat.lt_of_le_of_lt (h2 L hx) (by decide))
    have hp := endR_pos Ls 1 (by omega)
    unfold laws_FnExactPiecesOf
    rw [toLawn_id 189 a hl]
    simp only [Option.bind_some, e1, e2, hs, m1, m2, Bool.not_true, cond_false, bne_self_eq_false]
    rw [bF (p := endR 1 Ls < 0) (by omega)]
    rfl
  unfold spec_PiecesOf impl_PiecesOf
  rw [spec_valid 200 (by decide) ha, impl_cells_nil 200 ha (by decide)]
  simp only [Option.bind_some]
  cases hv : lawnB a with
  | false => exact ⟨[], 1, ⟨by simp, by simp, by simp⟩, by simp, by simp, rfl, rfl⟩
  | true =>
    obtain ⟨w, h, v⟩ := lawnV_of ha hv
    simp only [Bool.not_true, cond_false, cond_true, bne_self_eq_false]
    rw [spec_pieces 200 v (by decide), impl_pieces 200 v (by decide)]
    simp only [Option.bind_some]
    have hs := allC_small v
    have hp : (partsL (gB a) nb4 ((allC w h).filter (gB a))).length ≤ 100 := by
      have h1 := parts_lenP (gB a) nb4 101 ((allC w h).filter (gB a)) ([], [])
      have h2 := List.length_filter_le (gB a) (allC w h)
      simp only [List.length_nil] at h1
      show (((allC w h).filter (gB a)).foldl (stepO (gB a) nb4 101) ([], [])).2.length ≤ 100
      omega
    have e1 : (partsL (gB a) nb4 ((allC w h).filter (gB a))).map (rowP w h) = ((partsL (gB a) nb4 ((allC w h).filter (gB a))).map fun P => (allC w h).filter fun c => decide (c ∈ P)).map fl := by rw [List.map_map]; rfl
    have hrow : ∀ L ∈ (partsL (gB a) nb4 ((allC w h).filter (gB a))).map fun P => (allC w h).filter fun c => decide (c ∈ P), L.length ≤ 100 ∧ ∀ p ∈ L, p ∈ allC w h := by
      intro L hL
      obtain ⟨P, _, rfl⟩ := List.mem_map.1 hL
      exact ⟨Nat.le_trans (List.length_filter_le _ _) hs, fun p hp => (List.mem_filter.1 hp).1⟩
    rw [e1]
    refine ⟨_, 0, ⟨by rw [List.length_map]; omega, fun L hL => Nat.le_trans (hrow L hL).1 (by decide), fun L hL p hp => ?_⟩, by rw [List.length_map]; exact hp, fun L hL => (hrow L hL).1, rfl, rfl⟩
    obtain ⟨q1, q2⟩ := cells_in' v ((hrow L hL).2 p hp)
    omega

end Go.Proofs.Ytkdpdmfkomnalaa.Tt
