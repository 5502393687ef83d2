/- Plain laws: pieces and holes counted. -/
import Derived.Test.YtkdpdmfkomnalaaG6
set_option linter.unusedVariables false
set_option linter.unusedSimpArgs false
namespace Go.Proofs.Ytkdpdmfkomnalaa.Tt
open Go.Ev Go

theorem stepO_skip {g : Cell → Bool} {nb : Cell → List Cell} {n : Nat} {c : Cell} (s : List Cell × List (List Cell)) (h : g c = false) : stepO g nb n s c = s := by unfold stepO; rw [h]; rfl

theorem stepO_filter (g : Cell → Bool) (nb : Cell → List Cell) (n : Nat) : ∀ (L : List Cell) (s : List Cell × List (List Cell)), (L.filter g).foldl (stepO g nb n) s = L.foldl (stepO g nb n) s := by
  intro L
  induction L with
  | nil => intro s; rfl
  | cons c L ih =>
    intro s
    rw [List.filter_cons, List.foldl_cons]
    cases h : g c with
    | true => rw [if_pos rfl, List.foldl_cons, ih]
    | false => rw [if_neg (by simp), ih, stepO_skip s h]

theorem bfs_congr {g : Cell → Bool} {nb nb' : Cell → List Cell} (he : ∀ u Q, Qok g Q → u ∈ Q → stepQ g nb Q u = stepQ g nb' Q u) : ∀ (n i : Nat) (Q : List Cell), Qok g Q → bfs g nb n i Q = bfs g nb' n i Q := by
  intro n
  induction n with
  | zero => intro i Q _; rfl
  | succ n ih =>
    intro i Q hQ
    rw [bfs, bfs]
    by_cases hlt : i < Q.length
    · rw [if_pos hlt, if_pos hlt, ← he _ Q hQ (getD_mem Q (0, 0) hlt)]
      exact ih (i + 1) _ (visL_ok g (nb (Q.getD i (0, 0))) hQ).1
    · rw [if_neg hlt, if_neg hlt]

theorem stepO_congr {g : Cell → Bool} {nb nb' : Cell → List Cell} (he : ∀ u Q, Qok g Q → u ∈ Q → stepQ g nb Q u = stepQ g nb' Q u) (n : Nat) (s : List Cell × List (List Cell)) (c : Cell) : stepO g nb n s c = stepO g nb' n s c := by
  cases hg : g c with
  | false => rw [stepO_skip s hg, stepO_skip s hg]
  | true =>
    have : comp g nb n c = comp g nb' n c := bfs_congr he n 0 [c] ⟨by simp, by simpa using hg⟩
    unfold stepO
    rw [this]

theorem partsL_congr {g : Cell → Bool} {nb nb' : Cell → List Cell} (he : ∀ u Q, Qok g Q → u ∈ Q → stepQ g nb Q u = stepQ g nb' Q u) (L : List Cell) : partsL g nb L = partsL g nb' L := by
  have : stepO g nb 101 = stepO g nb' 101 := by
    funext s c
    exact stepO_congr he 101 s c
  unfold partsL
  rw [this]

theorem cN_mid {u : Cell} (hu : In10 u) : cN u 1 1 = u := by
  rw [cN_val hu (by decide) (by decide)]
  apply Prod.ext
  · simp
  · simp

theorem visQ_self {g : Cell → Bool} {Q : List Cell} {u : Cell} (h : u ∈ Q) : visQ g Q u = Q := by unfold visQ; simp [h]

theorem step98 {a : List Int} (ha : LawnS a) (u : Cell) (Q : List Cell) (hQ : Qok (hB a) Q) (hu : u ∈ Q) : stepQ (hB a) nb9 Q u = stepQ (hB a) nb8 Q u := by
  have hm := cN_mid (hB_in ha (hQ.all u hu))
  have e9 : nb9 u = [cN u 0 0, cN u 0 1, cN u 0 2, cN u 1 0] ++ cN u 1 1 :: [cN u 1 2, cN u 2 0, cN u 2 1, cN u 2 2] := rfl
  have e8 : nb8 u = [cN u 0 0, cN u 0 1, cN u 0 2, cN u 1 0] ++ [cN u 1 2, cN u 2 0, cN u 2 1, cN u 2 2] := rfl
  unfold stepQ
  rw [e9, e8, List.foldl_append, List.foldl_append, List.foldl_cons, hm, visQ_self ((visL_mem (hB a)).2 (.inl hu))]

theorem nb98 {u c : Cell} (h : c ∈ nb9 u) : c ∈ nb8 u ∨ c = cN u 1 1 := by
  obtain ⟨i, j, hi, hj, e⟩ := nb9_of h
  have h1 : i = 0 ∨ i = 1 ∨ i = 2 := by omega
  have h2 : j = 0 ∨ j = 1 ∨ j = 2 := by omega
  rw [e]
  unfold nb8
  rcases h1 with rfl | rfl | rfl <;> rcases h2 with rfl | rfl | rfl <;> simp

theorem nb8_9 {u c : Cell} (h : c ∈ nb8 u) : c ∈ nb9 u := by
  unfold nb8 at h
  unfold nb9
  simp only [List.mem_cons, List.not_mem_nil, or_false] at h ⊢
  rcases h with h | h | h | h | h | h | h | h <;> simp [h]

theorem nb8_in {a : List Int} (ha : LawnS a) (u c : Cell) (hu : hB a u = true) (hc : hB a c = true) (h : c ∈ nb8 u) : u ∈ nb8 c := by
  rcases nb98 (nb9_in ha u c hu hc (nb8_9 h)) with q | q
  · exact q
  · rw [cN_mid (hB_in ha hc)] at q
    subst q
    exact h

theorem impl_near (n : Nat) (x y : Int) : impl_near8 (n + 11) [x, y] = some (fl (nb8 (x, y))) := by kernel_rfl

theorem holes_srch (k : Nat) {a : List Int} {w h : Nat} (v : LawnV a w h) (hk : 11 < k) : Srch a (fun z5 => (impl_RingsOf_1 k [(rd z5 0), (rd z5 1)] a).bind fun b => some b) (fun z6 => (impl_near8 k [(rd z6 0), (rd z6 1)]).bind fun b => some b) (fun c => !(grassB a c.1 c.2)) (hB a) nb8 (allC w h) := by
  obtain ⟨k, rfl⟩ : ∃ n, k = n + 11 := ⟨k - 11, by omega⟩
  refine ⟨fun c => rfl, fun c _ => ?_, fun u _ => ?_, fun u => by show 8 ≤ 100; decide, fun x hx => hB_all v hx, allC_small v, fun u c hu hc hm => nb8_in v.toLawnS u c hu hc hm⟩
  · unfold impl_RingsOf_1
    rw [show impl_Lawn_grass (k + 11) a [rd [rd [c.1, c.2] 0, rd [c.1, c.2] 1] 0, rd [rd [c.1, c.2] 0, rd [c.1, c.2] 1] 1] = some (grassB a c.1 c.2) from impl_grass (k + 11) v.toLawnS c.1 c.2]
    rfl
  · rw [show impl_near8 (k + 11) [rd [u.1, u.2] 0, rd [u.1, u.2] 1] = some (fl (nb8 u)) from impl_near k u.1 u.2]
    rfl

/-- The parts that are not grass. -/
def holesL (a : List Int) (w h : Nat) : List (List Cell) := partsL (hB a) nb9 (allC w h)

theorem impl_holes (k : Nat) {a : List Int} {w h : Nat} (v : LawnV a w h) (hk : 102 < k) : impl_Lawn_parts k a (fun z5 => (impl_RingsOf_1 k [(rd z5 0), (rd z5 1)] a).bind fun b => some b) (fun z6 => (impl_near8 k [(rd z6 0), (rd z6 1)]).bind fun b => some b) = some ((holesL a w h).map (rowP w h)) := by
  rw [impl_parts k v (holes_srch k v (by omega)) hk]
  unfold holesL
  rw [← partsL_congr (step98 v.toLawnS)]
  unfold partsL
  rw [stepO_filter]

theorem parts_len (g : Cell → Bool) (nb : Cell → List Cell) (n : Nat) : ∀ (L : List Cell) (s : List Cell × List (List Cell)), (L.foldl (stepO g nb n) s).2.length ≤ s.2.length + L.length := by
  intro L
  induction L with
  | nil => intro s; simp
  | cons c L ih =>
    intro s
    rw [List.foldl_cons, List.length_cons]
    have h := ih (stepO g nb n s c)
    have : (stepO g nb n s c).2.length ≤ s.2.length + 1 := by
      unfold stepO
      cases (g c && !(decide (c ∈ s.1))) <;> simp
    omega

theorem parts_gd (g : Cell → Bool) (nb : Cell → List Cell) {U : List Cell} (hU : ∀ x, g x = true → x ∈ U) {n : Nat} (hn : U.length < n) : ∀ (L : List Cell) (s : List Cell × List (List Cell)), (∀ P ∈ s.2, ∀ x ∈ P, g x = true) → ∀ P ∈ (L.foldl (stepO g nb n) s).2, ∀ x ∈ P, g x = true := by
  intro L
  induction L with
  | nil => intro s h; exact h
  | cons c L ih =>
    intro s h
    rw [List.foldl_cons]
    apply ih
    intro P hP
    cases hg : g c with
    | false => rw [stepO_skip s hg] at hP; exact h P hP
    | true =>
      unfold stepO at hP
      by_cases hc : c ∈ s.1
      · simp only [hc, decide_true, Bool.not_true, Bool.and_false, cond_false] at hP; exact h P hP
      · simp only [hc, hg, decide_false, Bool.not_false, Bool.and_true, cond_true] at hP
        rcases List.mem_append.1 hP with q | q
        · exact h P q
        · rw [List.mem_singleton] at q
          rw [q]
          exact (comp_spec g nb hU hn hg).1.all

def inn (a : List Int) (P : List Cell) : Bool := P.all fun c => !(bdB a c)

theorem hole_outer {R : Type} (k : Nat) (K1 : Int → Option R) {a : List Int} {w h : Nat} (v : LawnV a w h) (hk : 102 < k) :
    ∀ (m i f : Nat) (M : List Int) (s : List Cell × List (List Cell)), i + m = (allC w h).length → m < f → MarkOf M (fun c => c ∈ s.1) → Closed (hB a) nb9 s.1 → s.2.length ≤ i →
      loopF (fun (rec : (List Int) × Int × Int × (List Int) × (List Int) → Option R) (p : (List Int) × Int × Int × (List Int) × (List Int)) => spec_l05Holes_s3 k K1 (fun h1 h2 h3 h4 h5 => rec (h1, h2, h3, h4, h5)) p.1 p.2.1 p.2.2.1 p.2.2.2.1 p.2.2.2.2) f
        (a, ((s.2.filter (inn a)).length : Int), (i : Int), M, fl (allC w h)) = K1 ((((((allC w h).drop i).foldl (stepO (hB a) nb9 101) s).2.filter (inn a)).length : Nat) : Int) := by
  have hlen := allC_small v
  intro m
  induction m with
  | zero =>
    intro i f M s hi hf hM hc hs
    obtain ⟨f, rfl⟩ : ∃ g, f = g + 1 := ⟨f - 1, by omega⟩
    have hd0 : (allC w h).drop i = [] := List.drop_of_length_le (by omega)
    rw [hd0, loopF]
    dsimp only
    rw [spec_l05Holes_s3]
    simp (disch := omega) only [cnt_fl, bF, cond_false]
    rfl
  | succ m ih =>
    intro i f M s hi hf hM hcl hs
    obtain ⟨f, rfl⟩ : ∃ g, f = g + 1 := ⟨f - 1, by omega⟩
    have hil : i < (allC w h).length := by omega
    have hcm := getD_mem (allC w h) (0, 0) hil
    rw [drop_getD _ (0, 0) hil, List.foldl_cons, loopF]
    dsimp only
    rw [spec_l05Holes_s3]
    simp only [cnt_fl, Int.toNat_natCast, fl_x, fl_y]
    generalize (allC w h).getD i (0, 0) = c at hcm ⊢
    have hh := hasB_all v hcm
    have hc10 := has_in v.toLawnS hh
    rw [spec_at k v.toLawnS hh, wrap64 (x := (i : Int) + 1) (by omega), show (i : Int) + 1 = ((i + 1 : Nat) : Int) by omega, bT (p := (i : Int) < ((allC w h).length : Int)) (by omega), bT (p := (0 : Int) ≤ (i : Int)) (by omega), bT (p := 0 ≤ c.2) hc10.2.1, bT (p := c.2 < 10) hc10.2.2, bT (p := 0 ≤ c.1) hc10.1.1, bT (p := c.1 < 10) hc10.1.2]
    simp only [cond_true, Bool.and_true, Nat.zero_add, Nat.mul_one, Option.bind_some]
    rw [show c.2.toNat * 10 + c.1.toNat = ixC c from rfl]
    have hgc : hB a c = !(kindV a c.1 c.2 == 0) := by unfold hB grassB; rw [hh]; rfl
    cases hk0 : (kindV a c.1 c.2 == 0) with
    | true =>
      rw [stepO_skip s (by rw [hgc, hk0]; rfl)]
      simp only [cond_true]
      exact ih (i + 1) f M s (by omega) (by omega) hM hcl (by omega)
    | false =>
      have hg1 : hB a c = true := by rw [hgc, hk0]; rfl
      simp only [cond_false]
      by_cases hcs : c ∈ s.1
      · have e : stepO (hB a) nb9 101 s c = s := by unfold stepO; simp [hcs]
        rw [e, neT ((hM.at_ c hc10).2 hcs)]
        simp only [cond_true]
        exact ih (i + 1) f M s (by omega) (by omega) hM hcl (by omega)
      · have e : stepO (hB a) nb9 101 s c = (s.1 ++ comp (hB a) nb9 101 c, s.2 ++ [comp (hB a) nb9 101 c]) := by unfold stepO; simp [hcs, hg1]
        have hcl' := stepO_ok (hB a) nb9 (fun x hx => hB_all v hx) (n := 101) (by omega) hcl c
        rw [e] at hcl' ⊢
        have hz : rd M (ixC c) = 0 := by
          by_cases q : rd M (ixC c) = 0
          · exact q
          · exact absurd ((hM.at_ c hc10).1 q) hcs
        rw [neF hz]
        simp only [cond_false]
        unfold spec_l05Holes_l2
        obtain ⟨M', e1, hM'⟩ := hole_search k (fun y2 y3 y4 y5 y6 y7 => cond y5 ((loopF (fun (rec : (List Int) × Int × Int × (List Int) × (List Int) → Option R) (p : (List Int) × Int × Int × (List Int) × (List Int)) => spec_l05Holes_s3 k K1 (fun h1 h2 h3 h4 h5 => rec (h1, h2, h3, h4, h5)) p.1 p.2.1 p.2.2.1 p.2.2.2.1 p.2.2.2.2) f) (y2, (IntKind.wrap .i64 (y3 + 1)), (IntKind.wrap .i64 (y4 + 1)), y6, y7)) ((loopF (fun (rec : (List Int) × Int × Int × (List Int) × (List Int) → Option R) (p : (List Int) × Int × Int × (List Int) × (List Int)) => spec_l05Holes_s3 k K1 (fun h1 h2 h3 h4 h5 => rec (h1, h2, h3, h4, h5)) p.1 p.2.1 p.2.2.1 p.2.2.2.1 p.2.2.2.2) f) (y2, y3, (IntKind.wrap .i64 (y4 + 1)), y6, y7)))
          v ((s.2.filter (inn a)).length : Int) (i : Int) (fl (allC w h)) (fun x => x ∈ s.1) hcl (by omega) 101 0 k (List.set M (ixC c) 1) [c] true (by omega) (by omega) (markOf_congr (markOf_set hM hc10) fun x _ => by simp only [List.mem_singleton]) ⟨by simp, by simpa using hg1⟩ (by simpa using hcs) (by omega)
        refine (show _ = _ from e1).trans ?_
        have hin : (true && ((bfs (hB a) nb9 101 0 [c]).drop 0).all fun x => !(bdB a x)) = inn a (comp (hB a) nb9 101 c) := rfl
        rw [hin]
        have hfl := List.length_filter_le (inn a) s.2
        rw [wrap64 (x := (i : Int) + 1) (by omega), show (i : Int) + 1 = ((i + 1 : Nat) : Int) by omega, wrap64 (x := ((s.2.filter (inn a)).length : Int) + 1) (by omega)]
        have := ih (i + 1) f M' (s.1 ++ comp (hB a) nb9 101 c, s.2 ++ [comp (hB a) nb9 101 c]) (by omega) (by omega) (markOf_congr hM' fun x _ => by rw [List.mem_append]; rfl) hcl' (by simp only [List.length_append, List.length_singleton]; omega)
        rw [← this]
        cases hi' : inn a (comp (hB a) nb9 101 c) with
        | true =>
          simp only [cond_true, List.filter_append, List.filter_cons, hi', if_true, List.filter_nil, List.length_append, List.length_singleton]
          rw [show (((s.2.filter (inn a)).length + 1 : Nat) : Int) = ((s.2.filter (inn a)).length : Int) + 1 by omega]
        | false =>
          simp only [cond_false, List.filter_append, List.filter_cons, hi', Bool.false_eq_true, if_false, List.filter_nil, List.append_nil]

theorem spec_holes (k : Nat) {a : List Int} {w h : Nat} (v : LawnV a w h) (hk : 102 < k) : spec_l05Holes k a = some ((((holesL a w h).filter (inn a)).length : Nat) : Int) := by
  unfold spec_l05Holes
  rw [spec_all k v (by omega)]
  simp only [Option.bind_some]
  unfold spec_l05Holes_l3
  have hlen := allC_small v
  exact hole_outer k (fun y2 => some y2) v hk _ 0 k (List.replicate 100 0) ([], []) (Nat.zero_add _) (by omega) (markOf_congr markOf_nil fun x _ => by simp) (fun u hu => by cases hu) (Nat.le_refl 0)

theorem impl_bd (k : Nat) (a : List Int) (p : Cell) : ((fun z1 => (impl_RingsOf_2 k [(rd z1 0), (rd z1 1)] a).bind fun b => some b) [p.1, p.2]) = some (bdB a p) := by
  show (impl_RingsOf_2 k [p.1, p.2] a).bind _ = _
  unfold impl_RingsOf_2 bdB
  simp only [show rd [p.1, p.2] 0 = p.1 from rfl, show rd [p.1, p.2] 1 = p.2 from rfl]
  cases (p.1 == 0) <;> cases (p.2 == 0) <;> cases (p.1 == IntKind.wrap .i8 (rd a 0 - 1)) <;> rfl

theorem inn_row {a : List Int} {w h : Nat} {P : List Cell} (hP : ∀ x ∈ P, x ∈ allC w h) : (!(((allC w h).filter fun c => decide (c ∈ P)).any (bdB a))) = inn a P := by
  rw [Bool.eq_iff_iff]
  unfold inn
  simp only [Bool.not_eq_true', List.any_eq_false, List.all_eq_true, List.mem_filter, decide_eq_true_eq]
  constructor
  · intro q x hx
    simpa using q x ⟨hP x hx, hx⟩
  · intro q x hx
    simpa using q x hx.2

theorem rings_loop {R : Type} (k : Nat) (K1 : Int → Option R) (a : List Int) (Ls : List Cs) (hL : Ls.length ≤ 100) (hLs : ∀ L ∈ Ls, L.length ≤ 100) (n : Nat) (hn : n ≤ 100) (hk : 102 < k) :
    impl_RingsOf_l0 k K1 (n : Int) (Ls.length : Int) 0 a (Ls.map fl) = K1 ((n + (Ls.filter fun L => !(L.any (bdB a))).length : Nat) : Int) := by
  have key : ∀ (m i f c : Nat), i + m = Ls.length → m < f → c ≤ 100 + i → loopF (fun (rec : Int × Int × Int × (List Int) × (List (List Int)) → Option R) (p : Int × Int × Int × (List Int) × (List (List Int))) => impl_RingsOf_s0 k K1 (fun h1 h2 h3 h4 h5 => rec (h1, h2, h3, h4, h5)) p.1 p.2.1 p.2.2.1 p.2.2.2.1 p.2.2.2.2) f ((c : Int), (Ls.length : Int), (i : Int), a, Ls.map fl) = K1 ((c + ((Ls.drop i).filter fun L => !(L.any (bdB a))).length : Nat) : Int) := by
    intro m
    induction m with
    | zero =>
      intro i f c hi hf hc
      obtain ⟨f, rfl⟩ : ∃ g, f = g + 1 := ⟨f - 1, by omega⟩
      have hd0 : Ls.drop i = [] := List.drop_of_length_le (by omega)
      rw [hd0, loopF]
      dsimp only
      rw [impl_RingsOf_s0, bF (by omega)]
      rfl
    | succ m ih =>
      intro i f c hi hf hc
      obtain ⟨f, rfl⟩ : ∃ g, f = g + 1 := ⟨f - 1, by omega⟩
      have hil : i < Ls.length := by omega
      have hlm := hLs _ (getD_mem Ls [] hil)
      rw [drop_getD Ls [] hil, loopF]
      dsimp only
      rw [impl_RingsOf_s0]
      simp only [Int.toNat_natCast, Nat.mul_one, rdr_map, List.length_map, List.filter_cons]
      rw [bT (p := (i : Int) < (Ls.length : Int)) (by omega), bT (p := (0 : Int) ≤ (i : Int)) (by omega), containsFunc_cells k (Ls.getD i []) _ (bdB a) (fun p _ => impl_bd k a p) (by omega) (by omega)]
      simp only [cond_true, Bool.and_true, Option.bind_some]
      rw [wrap64 (x := (i : Int) + 1) (by omega), show (i : Int) + 1 = ((i + 1 : Nat) : Int) by omega, wrap64 (x := (c : Int) + 1) (by omega), show (c : Int) + 1 = ((c + 1 : Nat) : Int) by omega]
      cases (Ls.getD i []).any (bdB a) with
      | true =>
        simp only [Bool.not_true, cond_false, Bool.false_eq_true, if_false]
        exact ih (i + 1) f c (by omega) (by omega) (by omega)
      | false =>
        simp only [Bool.not_false, cond_true, if_true, List.length_cons]
        refine (ih (i + 1) f (c + 1) (by omega) (by omega) (by omega)).trans ?_
        congr 2
        omega
  unfold impl_RingsOf_l0
  exact key Ls.length 0 k n (by omega) (by omega) (by omega)

theorem rings_true {a : List Int} (hl : a.length = 102) (ha : LawnR a) : ∃ k, laws_FnExactRingsOf k a = some true := by
  refine ⟨200, ?_⟩
  have hT : ∀ b : Int × Int, (cond (b.1 != b.1) (some false) (cond (b.2 != b.2) (some false) (some true)) : Option Bool) = some true := by
    intro b
    simp [bne]
  suffices h : ∃ r, spec_RingsOf 200 a = some r ∧ impl_RingsOf 200 a = some r by
    obtain ⟨r, h1, h2⟩ := h
    unfold laws_FnExactRingsOf
    rw [toLawn_id 189 a hl]
    simp only [Option.bind_some]
    rw [h1]
    simp only [Option.bind_some]
    rw [h2]
    simp only [Option.bind_some]
    exact hT r
  unfold spec_RingsOf impl_RingsOf
  rw [spec_valid 200 (by decide) ha, impl_valid 200 (by decide) ha]
  simp only [Option.bind_some]
  cases hv : lawnB a with
  | false => exact ⟨(0, 1), rfl, rfl⟩
  | true =>
    obtain ⟨w, h, v⟩ := lawnV_of ha hv
    simp only [Bool.not_true, cond_false]
    rw [spec_pieces 200 v (by decide), spec_holes 200 v (by decide), impl_pieces 200 v (by decide), impl_holes 200 v (by decide)]
    simp only [Option.bind_some, List.length_map]
    have hs := allC_small v
    have hp : (partsL (gB a) nb4 ((allC w h).filter (gB a))).length ≤ 100 := by
      have h1 := parts_len (gB a) nb4 101 ((allC w h).filter (gB a)) ([], [])
      have h2 := List.length_filter_le (gB a) (allC w h)
      simp only [List.length_nil] at h1
      show (((allC w h).filter (gB a)).foldl (stepO (gB a) nb4 101) ([], [])).2.length ≤ 100
      omega
    have hh : (holesL a w h).length ≤ 100 := by
      have h1 := parts_len (hB a) nb9 101 (allC w h) ([], [])
      simp only [List.length_nil] at h1
      show ((allC w h).foldl (stepO (hB a) nb9 101) ([], [])).2.length ≤ 100
      omega
    have hf := List.length_filter_le (inn a) (holesL a w h)
    have hgd : ∀ P ∈ holesL a w h, ∀ x ∈ P, x ∈ allC w h := fun P hP x hx => hB_all v (parts_gd (hB a) nb9 (fun x hx => hB_all v hx) (n := 101) (by omega) (allC w h) ([], []) (fun P hP => by cases hP) P hP x hx)
    refine ⟨_, rfl, ?_⟩
    have e1 : (holesL a w h).map (rowP w h) = ((holesL a w h).map fun P => (allC w h).filter fun c => decide (c ∈ P)).map fl := by rw [List.map_map]; rfl
    have e2 := rings_loop 200 (fun y8 => some (y8, (0 : Int))) a ((holesL a w h).map fun P => (allC w h).filter fun c => decide (c ∈ P)) (by rw [List.length_map]; exact hh) (fun L hL => by
      obtain ⟨P, _, rfl⟩ := List.mem_map.1 hL
      exact Nat.le_trans (List.length_filter_le _ _) hs) _ hp (by decide)
    rw [List.length_map] at e2
    rw [e1, e2]
    have e3 : (((holesL a w h).map fun P => (allC w h).filter fun c => decide (c ∈ P)).filter fun L => !(L.any (bdB a))).length = ((holesL a w h).filter (inn a)).length := by
      rw [List.filter_map, List.length_map]
      congr 1
      apply List.filter_congr
      intro P hP
      exact inn_row (hgd P hP)
    rw [e3, wrap64 (by omega)]
    rfl

end Go.Proofs.Ytkdpdmfkomnalaa.Tt
