/- Plain laws: the specification's pieces, whole. -/
import Derived.Test.YtkdpdmfkomnalaaG4
set_option linter.unusedVariables false
set_option linter.unusedSimpArgs false
namespace Go.Proofs.Ytkdpdmfkomnalaa.Tt
open Go.Ev Go

theorem piece_row {R : Type} (k : Nat) (K1 : (List Int) → Int → (List (List Int)) → (List Int) → (List Int) → (List Int) → Option R) (a : List Int) (h2 : Int) (rows : List (List Int)) (L : List Cell) (hL : ∀ c ∈ L, In10 c) (hl : L.length ≤ 100) (S : List Int) (P : List Cell) (hd : Dist S P) :
    ∀ (m j f : Nat) (M o : List Int) (T : Cell → Prop), j + m = L.length → m < f → MarkOf M T → o.length ≤ j * 2 →
      ∃ M', loopF (fun (rec : (List Int) × Int × Int × (List (List Int)) × (List Int) × (List Int) × (List Int) × (List Int) → Option R) (p : (List Int) × Int × Int × (List (List Int)) × (List Int) × (List Int) × (List Int) × (List Int)) => spec_l01Pieces_s0 k K1 (fun h1 h2 h3 h4 h5 h6 h7 h8 => rec (h1, h2, h3, h4, h5, h6, h7, h8)) p.1 p.2.1 p.2.2.1 p.2.2.2.1 p.2.2.2.2.1 p.2.2.2.2.2.1 p.2.2.2.2.2.2.1 p.2.2.2.2.2.2.2) f
        (a, h2, (j : Int), rows, M, fl L, S, o) = K1 a h2 rows M' (fl L) (o ++ fl ((L.drop j).filter fun c => decide (c ∈ P))) ∧ MarkOf M' (fun c => T c ∨ (c ∈ P ∧ c ∈ L.drop j)) := by
  intro m
  induction m with
  | zero =>
    intro j f M o T hj hf hM ho
    obtain ⟨f, rfl⟩ : ∃ g, f = g + 1 := ⟨f - 1, by omega⟩
    have hd0 : L.drop j = [] := List.drop_of_length_le (by omega)
    rw [hd0]
    refine ⟨M, ?_, markOf_congr hM fun x _ => by simp⟩
    rw [loopF]
    dsimp only
    rw [spec_l01Pieces_s0]
    simp (disch := omega) only [cnt_fl, bF, cond_false]
    simp [fl]
  | succ m ih =>
    intro j f M o T hj hf hM ho
    obtain ⟨f, rfl⟩ : ∃ g, f = g + 1 := ⟨f - 1, by omega⟩
    have hjl : j < L.length := by omega
    have hc10 := hL _ (getD_mem L (0, 0) hjl)
    rw [drop_getD L (0, 0) hjl, loopF]
    dsimp only
    rw [spec_l01Pieces_s0]
    simp only [cnt_fl, Int.toNat_natCast, fl_x, fl_y, List.filter_cons]
    generalize L.getD j (0, 0) = c at hc10 ⊢
    have hb : decide (o.length + 2 ≤ bigLen) = true := bT (by rw [bigLen_val]; omega)
    rw [wrap64 (x := (j : Int) + 1) (by omega), show (j : Int) + 1 = ((j + 1 : Nat) : Int) by omega, bT (p := (j : Int) < (L.length : Int)) (by omega), bT (p := (0 : Int) ≤ (j : Int)) (by omega), bT (p := 0 ≤ c.2) hc10.2.1, bT (p := c.2 < 10) hc10.2.2, bT (p := 0 ≤ c.1) hc10.1.1, bT (p := c.1 < 10) hc10.1.2]
    simp only [cond_true, Bool.and_true, hb, Nat.zero_add, Nat.mul_one]
    rw [show c.2.toNat * 10 + c.1.toNat = ixC c from rfl]
    by_cases hcp : c ∈ P
    · rw [bT ((hd.at_ c hc10).2 hcp), bT hcp]
      simp only [cond_true, if_true]
      obtain ⟨M', e, hm⟩ := ih (j + 1) f (List.set M (ixC c) 1) (o ++ [c.1, c.2]) _ (by omega) (by omega) (markOf_set hM hc10) (by simp only [List.length_append, List.length_cons, List.length_nil]; omega)
      refine ⟨M', ?_, markOf_congr hm fun x _ => ?_⟩
      · rw [e, List.append_assoc]
        rfl
      · simp only [List.mem_cons]
        constructor
        · rintro ((q | rfl) | q)
          · exact .inl q
          · exact .inr ⟨hcp, .inl rfl⟩
          · exact .inr ⟨q.1, .inr q.2⟩
        · rintro (q | ⟨q1, rfl | q2⟩)
          · exact .inl (.inl q)
          · exact .inl (.inr rfl)
          · exact .inr ⟨q1, q2⟩
    · rw [bF (fun q => hcp ((hd.at_ c hc10).1 q)), bF hcp]
      simp only [cond_false, Bool.false_eq_true, if_false]
      obtain ⟨M', e, hm⟩ := ih (j + 1) f M o T (by omega) (by omega) hM (by omega)
      refine ⟨M', e, markOf_congr hm fun x _ => ?_⟩
      simp only [List.mem_cons]
      constructor
      · rintro (q | q)
        · exact .inl q
        · exact .inr ⟨q.1, .inr q.2⟩
      · rintro (q | ⟨q1, rfl | q2⟩)
        · exact .inl q
        · exact absurd q1 hcp
        · exact .inr ⟨q1, q2⟩

theorem rowP_gB {a : List Int} {w h : Nat} {P : List Cell} (hP : ∀ x ∈ P, gB a x = true) : fl (((allC w h).filter (gB a)).filter fun c => decide (c ∈ P)) = rowP w h P := by
  unfold rowP
  congr 1
  rw [List.filter_filter]
  apply List.filter_congr
  intro c _
  by_cases hc : c ∈ P
  · simp [hc, hP c hc]
  · simp [hc]

theorem pieces_loop {R : Type} (k : Nat) (K1 : (List (List Int)) → Option R) {a : List Int} {w h : Nat} (v : LawnV a w h) (hk : 101 < k) :
    ∀ (m i f : Nat) (M : List Int) (s : List Cell × List (List Cell)), i + m = ((allC w h).filter (gB a)).length → m < f → MarkOf M (fun c => c ∈ s.1) → s.2.length ≤ i →
      loopF (fun (rec : (List Int) × Int × (List (List Int)) × (List Int) × (List Int) → Option R) (p : (List Int) × Int × (List (List Int)) × (List Int) × (List Int)) => spec_l01Pieces_s1 k K1 (fun h1 h2 h3 h4 h5 => rec (h1, h2, h3, h4, h5)) p.1 p.2.1 p.2.2.1 p.2.2.2.1 p.2.2.2.2) f
        (a, (i : Int), s.2.map (rowP w h), M, fl ((allC w h).filter (gB a))) = K1 (((((allC w h).filter (gB a)).drop i).foldl (stepO (gB a) nb4 101) s).2.map (rowP w h)) := by
  have hlen : ((allC w h).filter (gB a)).length ≤ 100 := Nat.le_trans (List.length_filter_le _ _) (allC_small v)
  have hall : ∀ c ∈ (allC w h).filter (gB a), gB a c = true := fun c hc => (List.mem_filter.1 hc).2
  intro m
  induction m with
  | zero =>
    intro i f M s hi hf hM hs
    obtain ⟨f, rfl⟩ : ∃ g, f = g + 1 := ⟨f - 1, by omega⟩
    have hd0 : ((allC w h).filter (gB a)).drop i = [] := List.drop_of_length_le (by omega)
    rw [hd0, loopF]
    dsimp only
    rw [spec_l01Pieces_s1]
    simp (disch := omega) only [cnt_fl, bF, cond_false]
    rfl
  | succ m ih =>
    intro i f M s hi hf hM hs
    obtain ⟨f, rfl⟩ : ∃ g, f = g + 1 := ⟨f - 1, by omega⟩
    have hil : i < ((allC w h).filter (gB a)).length := by omega
    have hgc := hall _ (getD_mem _ (0, 0) hil)
    rw [drop_getD _ (0, 0) hil, List.foldl_cons, loopF]
    dsimp only
    rw [spec_l01Pieces_s1]
    simp only [cnt_fl, Int.toNat_natCast, fl_x, fl_y]
    generalize ((allC w h).filter (gB a)).getD i (0, 0) = c at hgc ⊢
    have hc10 := gB_in v.toLawnS hgc
    rw [wrap64 (x := (i : Int) + 1) (by omega), show (i : Int) + 1 = ((i + 1 : Nat) : Int) by omega, bT (p := (i : Int) < (((allC w h).filter (gB a)).length : Int)) (by omega), bT (p := (0 : Int) ≤ (i : Int)) (by omega), bT (p := 0 ≤ c.2) hc10.2.1, bT (p := c.2 < 10) hc10.2.2, bT (p := 0 ≤ c.1) hc10.1.1, bT (p := c.1 < 10) hc10.1.2]
    simp only [cond_true, Bool.and_true, Nat.zero_add, Nat.mul_one]
    rw [show c.2.toNat * 10 + c.1.toNat = ixC c from rfl]
    by_cases hcs : c ∈ s.1
    · have e : stepO (gB a) nb4 101 s c = s := by unfold stepO; simp [hcs]
      rw [e, neT ((hM.at_ c hc10).2 hcs)]
      simp only [cond_true]
      exact ih (i + 1) f M s (by omega) (by omega) hM (by omega)
    · have e : stepO (gB a) nb4 101 s c = (s.1 ++ comp (gB a) nb4 101 c, s.2 ++ [comp (gB a) nb4 101 c]) := by unfold stepO; simp [hcs, hgc]
      have hz : rd M (ixC c) = 0 := by
        by_cases q : rd M (ixC c) = 0
        · exact q
        · exact absurd ((hM.at_ c hc10).1 q) hcs
      rw [neF hz]
      simp only [cond_false]
      obtain ⟨S, hS, hd⟩ := spec_reach k v hgc hk
      have hsm := allC_small v
      obtain ⟨hok, _, _⟩ := comp_spec (gB a) nb4 (fun x hx => gB_all v hx) (n := 101) (by omega) hgc
      rw [hS]
      simp only [Option.bind_some]
      unfold spec_l01Pieces_l0
      obtain ⟨M', e1, hM'⟩ := piece_row k (fun y2 y3 y4 y5 y6 y7 => cond (decide (y4.length + [y7].length ≤ bigLen)) ((loopF (fun (rec : (List Int) × Int × (List (List Int)) × (List Int) × (List Int) → Option R) (p : (List Int) × Int × (List (List Int)) × (List Int) × (List Int)) => spec_l01Pieces_s1 k K1 (fun h1 h2 h3 h4 h5 => rec (h1, h2, h3, h4, h5)) p.1 p.2.1 p.2.2.1 p.2.2.2.1 p.2.2.2.2) f) (y2, (IntKind.wrap .i64 (y3 + 1)), (y4 ++ [y7]), y5, y6)) none)
        a (i : Int) (s.2.map (rowP w h)) ((allC w h).filter (gB a)) (fun x hx => gB_in v.toLawnS (hall x hx)) hlen S _ hd _ 0 k M [] _ (Nat.zero_add _) (by omega) hM (by simp)
      refine (show _ = _ from e1).trans ?_
      rw [List.drop_zero] at hM' ⊢
      rw [List.nil_append, rowP_gB hok.all, bT (by rw [bigLen_val]; simp only [List.length_map, List.length_singleton]; omega)]
      simp only [cond_true]
      rw [wrap64 (x := (i : Int) + 1) (by omega), show (i : Int) + 1 = ((i + 1 : Nat) : Int) by omega, e]
      have := ih (i + 1) f M' (s.1 ++ comp (gB a) nb4 101 c, s.2 ++ [comp (gB a) nb4 101 c]) (by omega) (by omega) (markOf_congr hM' fun x _ => by
        simp only [List.mem_append, List.mem_filter]
        constructor
        · rintro (q | q)
          · exact .inl q
          · exact .inr q.1
        · rintro (q | q)
          · exact .inl q
          · exact .inr ⟨q, gB_all v (hok.all x q), hok.all x q⟩) (by simp only [List.length_append, List.length_singleton]; omega)
      rw [← this]
      simp only [List.map_append, List.map_cons, List.map_nil]

theorem spec_pieces (k : Nat) {a : List Int} {w h : Nat} (v : LawnV a w h) (hk : 101 < k) : spec_l01Pieces k a = some ((partsL (gB a) nb4 ((allC w h).filter (gB a))).map (rowP w h)) := by
  unfold spec_l01Pieces
  rw [spec_cells k v 0 hk, grass_filter v]
  simp only [Option.bind_some]
  unfold spec_l01Pieces_l1
  have hlen : ((allC w h).filter (gB a)).length ≤ 100 := Nat.le_trans (List.length_filter_le _ _) (allC_small v)
  exact pieces_loop k (fun y2 => some y2) v hk _ 0 k (List.replicate 100 0) ([], []) (Nat.zero_add _) (by omega) (markOf_congr markOf_nil fun x _ => by simp) (Nat.le_refl 0)

/-- The grass search of the program. -/
theorem nb4_in {a : List Int} (ha : LawnS a) (u c : Cell) (hu : gB a u = true) (hc : gB a c = true) (h : c ∈ nb4 u) : u ∈ nb4 c := by
  obtain ⟨⟨h1, h2⟩, h3, h4⟩ := gB_in ha hu
  obtain ⟨⟨h5, h6⟩, h7, h8⟩ := gB_in ha hc
  obtain ⟨u1, u2⟩ := u
  obtain ⟨c1, c2⟩ := c
  simp only [nb4, nbrs, List.mem_cons, List.not_mem_nil, or_false, Prod.mk.injEq] at h h1 h2 h3 h4 h5 h6 h7 h8 ⊢
  rw [wrap8 (x := u2 - 1) (by omega), wrap8 (x := u1 - 1) (by omega), wrap8 (x := u1 + 1) (by omega), wrap8 (x := u2 + 1) (by omega)] at h
  rw [wrap8 (x := c2 - 1) (by omega), wrap8 (x := c1 - 1) (by omega), wrap8 (x := c1 + 1) (by omega), wrap8 (x := c2 + 1) (by omega)]
  omega

theorem grass_srch (k : Nat) {a : List Int} {w h : Nat} (v : LawnV a w h) : Srch a (fun z2 => (impl_Lawn_grass k a [(rd z2 0), (rd z2 1)]).bind fun b => some b) (fun z3 => (impl_beside k [(rd z3 0), (rd z3 1)]).bind fun b => some b) (gB a) (gB a) nb4 (allC w h) := by
  refine ⟨fun c => ?_, fun c _ => impl_grassL k v.toLawnS c, fun u hu => rfl, fun u => by show 4 ≤ 100; decide, fun x hx => gB_all v hx, allC_small v, fun u c hu hc hm => nb4_in v.toLawnS u c hu hc hm⟩
  unfold gB grassB
  cases hasB a c.1 c.2 <;> rfl

theorem impl_pieces (k : Nat) {a : List Int} {w h : Nat} (v : LawnV a w h) (hk : 102 < k) : impl_Lawn_parts k a (fun z2 => (impl_Lawn_grass k a [(rd z2 0), (rd z2 1)]).bind fun b => some b) (fun z3 => (impl_beside k [(rd z3 0), (rd z3 1)]).bind fun b => some b) = some ((partsL (gB a) nb4 ((allC w h).filter (gB a))).map (rowP w h)) := impl_parts k v (grass_srch k v) hk

end Go.Proofs.Ytkdpdmfkomnalaa.Tt
