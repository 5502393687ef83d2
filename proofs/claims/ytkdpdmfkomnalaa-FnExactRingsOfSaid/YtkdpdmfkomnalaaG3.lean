/- Plain laws: the program's parts, whole. -/
import Derived.Test.YtkdpdmfkomnalaaG2
set_option linter.unusedVariables false
set_option linter.unusedSimpArgs false
namespace Go.Proofs.Ytkdpdmfkomnalaa.Tt
open Go.Ev Go

theorem win_fl (L : List Cell) : win (fl L) 2 ((L.length - 1) * 2) = fl (L.drop 1) := by
  cases L with
  | nil => rfl
  | cons p L =>
    have : (fl L).length = L.length * 2 := fl_length L
    simp [win, fl, ← this]

/-- What a search needs of its lawn, its test and its neighbours. -/
structure Srch (a : List Int) (f1 : List Int → Option Bool) (f2 : List Int → Option (List Int)) (inB g : Cell → Bool) (nb : Cell → List Cell) (U : List Cell) : Prop where
  hg : ∀ c, g c = (hasB a c.1 c.2 && inB c)
  hin : ∀ c : Cell, hasB a c.1 c.2 = true → f1 [c.1, c.2] = some (inB c)
  hf2 : ∀ u : Cell, g u = true → f2 [u.1, u.2] = some (fl (nb u))
  hnb : ∀ u, (nb u).length ≤ 100
  hU : ∀ x, g x = true → x ∈ U
  hUl : U.length ≤ 100
  sym : ∀ u c, g u = true → g c = true → c ∈ nb u → u ∈ nb c

theorem Srch.big {a : List Int} {f1 : List Int → Option Bool} {f2 : List Int → Option (List Int)} {inB g : Cell → Bool} {nb : Cell → List Cell} {U : List Cell} (S : Srch a f1 f2 inB g nb U) {Q : List Cell} (h : Qok g Q) : Q.length ≤ 100 := by
  have := h.nd.length_le_of_subset fun x hx => S.hU x (h.all x hx)
  have := S.hUl
  omega

theorem parts_search {R : Type} (k : Nat) (K1 : (List Int → Option Bool) → (List Int → Option (List Int)) → Int → Int → (List Int) → (List (List Int)) → (List (List Int × Int)) → (List (List Int × Int)) → (List Int) → Option R)
    {a : List Int} {f1 : List Int → Option Bool} {f2 : List Int → Option (List Int)} {inB g : Cell → Bool} {nb : Cell → List Cell} {U : List Cell} (S : Srch a f1 f2 inB g nb U) (h3 h4 : Int) (h6 : List (List Int)) (o10 : List Int)
    (seen : List Cell) (hsn : Closed g nb seen) (hsg : ∀ x ∈ seen, g x = true) (hk : 101 < k) :
    ∀ (n i f : Nat) (es9 es10 : List (List Int × Int)) (Q : List Cell), U.length < n + i → n < f → MapOf es9 (fun c => decide (c ∈ seen ∨ c ∈ Q)) → MapOf es10 (fun c => decide (c ∈ Q)) → Qok g Q → (∀ x ∈ Q, x ∉ seen) → i ≤ Q.length →
      ∃ es9' es10', loopF (fun (rec : (List Int → Option Bool) × (List Int → Option (List Int)) × Int × Int × (List Int) × (List (List Int)) × (List (List Int × Int)) × (List (List Int × Int)) × (List Int) × (List Int) → Option R) (p : (List Int → Option Bool) × (List Int → Option (List Int)) × Int × Int × (List Int) × (List (List Int)) × (List (List Int × Int)) × (List (List Int × Int)) × (List Int) × (List Int)) => impl_Lawn_parts_s1 k K1 (fun h1 h2 h3 h4 h5 h6 h7 h8 h9 h10 => rec (h1, h2, h3, h4, h5, h6, h7, h8, h9, h10)) p.1 p.2.1 p.2.2.1 p.2.2.2.1 p.2.2.2.2.1 p.2.2.2.2.2.1 p.2.2.2.2.2.2.1 p.2.2.2.2.2.2.2.1 p.2.2.2.2.2.2.2.2.1 p.2.2.2.2.2.2.2.2.2) f
        (f1, f2, h3, h4, a, h6, es9, es10, fl (Q.drop i), o10) = K1 f1 f2 h3 h4 a h6 es9' es10' o10 ∧
        MapOf es9' (fun c => decide (c ∈ seen ∨ c ∈ bfs g nb n i Q)) ∧ MapOf es10' (fun c => decide (c ∈ bfs g nb n i Q)) := by
  intro n
  induction n with
  | zero =>
    intro i f es9 es10 Q hU hf h9 h10 hQ hd hi
    have := hQ.nd.length_le_of_subset fun x hx => S.hU x (hQ.all x hx)
    omega
  | succ n ih =>
    intro i f es9 es10 Q hU hf h9 h10 hQ hd hi
    obtain ⟨f, rfl⟩ : ∃ g, f = g + 1 := ⟨f - 1, by omega⟩
    rw [loopF]
    dsimp only
    unfold impl_Lawn_parts_s1 bfs
    have hcnt : cnt 2 (fl (Q.drop i)) = Q.length - i := by rw [cnt_fl, List.length_drop]
    simp only [hcnt]
    by_cases hlt : i < Q.length
    · rw [if_pos hlt, bT (p := ((Q.length - i : Nat) : Int) > 0) (by omega)]
      simp only [cond_true]
      have hx := fl_x (Q.drop i) 0
      have hy := fl_y (Q.drop i) 0
      have h0 : (Q.drop i).getD 0 (0, 0) = Q.getD i (0, 0) := by simp [List.getD_eq_getElem?_getD]
      rw [h0] at hx hy
      simp only [Nat.zero_mul, Nat.zero_add] at hx hy
      rw [hx, hy]
      have hm : Q.getD i (0, 0) ∈ Q := getD_mem Q (0, 0) hlt
      generalize hu : Q.getD i (0, 0) = u at hm
      have hgu := hQ.all u hm
      have hfr : ∀ c ∈ nb u, g c = true → c ∉ seen := fun c hc hgc hs => hd u hm (hsn c hs u (S.sym u c hgu hgc hc) hgu)
      rw [S.hf2 u hgu]
      simp only [Option.bind_some, cnt_fl]
      unfold impl_Lawn_parts_l0
      obtain ⟨es9', es10', e, q9, q10⟩ := parts_look k (fun y2 y3 y4 y5 y6 y7 y8 y9 y10 y11 => cond (decide (1 ≤ ((cnt 2 y10) : Int))) ((loopF (fun (rec : (List Int → Option Bool) × (List Int → Option (List Int)) × Int × Int × (List Int) × (List (List Int)) × (List (List Int × Int)) × (List (List Int × Int)) × (List Int) × (List Int) → Option R) (p : (List Int → Option Bool) × (List Int → Option (List Int)) × Int × Int × (List Int) × (List (List Int)) × (List (List Int × Int)) × (List (List Int × Int)) × (List Int) × (List Int)) => impl_Lawn_parts_s1 k K1 (fun h1 h2 h3 h4 h5 h6 h7 h8 h9 h10 => rec (h1, h2, h3, h4, h5, h6, h7, h8, h9, h10)) p.1 p.2.1 p.2.2.1 p.2.2.2.1 p.2.2.2.2.1 p.2.2.2.2.2.1 p.2.2.2.2.2.2.1 p.2.2.2.2.2.2.2.1 p.2.2.2.2.2.2.2.2.1 p.2.2.2.2.2.2.2.2.2) f) (y2, y3, y4, y5, y6, y7, y8, y9, (win y10 2 (((cnt 2 y10) - 1) * 2)), y11)) none)
        f1 f2 h3 h4 a h6 o10 g inB S.hg S.hin (nb u) (S.hnb u) seen hfr i (fun Q h => S.big h) (nb u).length 0 k es9 es10 Q (by omega) (by have := S.hnb u; omega) h9 h10 hQ hi
      simp only [List.drop_zero] at e q9 q10
      obtain ⟨h1, r, hr⟩ := visL_ok g (nb u) hQ
      have hr' : stepQ g nb Q u = Q ++ r := hr
      have hlen : i + 1 ≤ (stepQ g nb Q u).length := by rw [hr', List.length_append]; omega
      refine (?_ : _ → _) (ih (i + 1) f es9' es10' (stepQ g nb Q u) (by omega) (by omega) q9 q10 h1 (fun x hx => ?_) hlen)
      · rintro ⟨es9'', es10'', e2, r9, r10⟩
        refine ⟨es9'', es10'', ?_, r9, r10⟩
        refine (show _ = _ from e).trans ?_
        change cond (decide (1 ≤ ((cnt 2 (fl ((stepQ g nb Q u).drop i)) : Nat) : Int))) _ _ = _
        rw [bT (by rw [cnt_fl, List.length_drop]; omega)]
        simp only [cond_true]
        rw [cnt_fl, win_fl, List.drop_drop]
        exact e2
      · rcases (visL_mem g).1 (show x ∈ (nb u).foldl (visQ g) Q from hx) with h | ⟨h, hgx⟩
        · exact hd x h
        · exact hfr x h hgx
    · rw [if_neg hlt, bF (p := ((Q.length - i : Nat) : Int) > 0) (by omega)]
      exact ⟨es9, es10, rfl, h9, h10⟩

/-- A part as the program lists it. -/
def rowP (w h : Nat) (P : List Cell) : List Int := fl ((allC w h).filter fun c => decide (c ∈ P))

theorem stepO_gd {g : Cell → Bool} {nb : Cell → List Cell} {U : List Cell} (hU : ∀ x, g x = true → x ∈ U) {n : Nat} (hn : U.length < n) {s : List Cell × List (List Cell)} (hs : ∀ x ∈ s.1, g x = true) (c : Cell) : ∀ x ∈ (stepO g nb n s c).1, g x = true := by
  unfold stepO
  cases hg : g c with
  | false => exact hs
  | true =>
    by_cases hc : c ∈ s.1
    · simp only [hc, decide_true, Bool.not_true, Bool.and_false, cond_false]; exact hs
    · simp only [hc, decide_false, Bool.not_false, Bool.and_true, cond_true]
      intro x hx
      rcases List.mem_append.1 hx with hx | hx
      · exact hs x hx
      · exact (comp_spec g nb hU hn hg).1.all x hx

theorem parts_outer {R : Type} (k : Nat) (K1 : (List (List Int)) → Option R)
    {a : List Int} {w h : Nat} (v : LawnV a w h) {f1 : List Int → Option Bool} {f2 : List Int → Option (List Int)} {inB g : Cell → Bool} {nb : Cell → List Cell} {U : List Cell} (S : Srch a f1 f2 inB g nb U) (L : List Cell) (hL : L.length ≤ 100) (hLg : ∀ c ∈ L, g c = true) (hk : 102 < k) :
    ∀ (m i f : Nat) (es : List (List Int × Int)) (s : List Cell × List (List Cell)), i + m = L.length → m < f → MapOf es (fun c => decide (c ∈ s.1)) → Closed g nb s.1 → (∀ x ∈ s.1, g x = true) → s.2.length ≤ i →
      loopF (fun (rec : (List Int → Option Bool) × (List Int → Option (List Int)) × Int × Int × (List Int) × (List (List Int)) × (List (List Int × Int)) × (List Int) → Option R) (p : (List Int → Option Bool) × (List Int → Option (List Int)) × Int × Int × (List Int) × (List (List Int)) × (List (List Int × Int)) × (List Int)) => impl_Lawn_parts_s2 k K1 (fun h1 h2 h3 h4 h5 h6 h7 h8 => rec (h1, h2, h3, h4, h5, h6, h7, h8)) p.1 p.2.1 p.2.2.1 p.2.2.2.1 p.2.2.2.2.1 p.2.2.2.2.2.1 p.2.2.2.2.2.2.1 p.2.2.2.2.2.2.2) f
        (f1, f2, (L.length : Int), (i : Int), a, s.2.map (rowP w h), es, fl L) = K1 (((L.drop i).foldl (stepO g nb 101) s).2.map (rowP w h)) := by
  intro m
  induction m with
  | zero =>
    intro i f es s hi hf he hc hsg hl
    obtain ⟨f, rfl⟩ : ∃ g, f = g + 1 := ⟨f - 1, by omega⟩
    have hd0 : L.drop i = [] := List.drop_of_length_le (by omega)
    rw [hd0, loopF]
    dsimp only
    unfold impl_Lawn_parts_s2
    rw [bF (by omega)]
    rfl
  | succ m ih =>
    intro i f es s hi hf he hc hsg hl
    obtain ⟨f, rfl⟩ : ∃ g, f = g + 1 := ⟨f - 1, by omega⟩
    have hil : i < L.length := by omega
    have hUl := S.hUl
    rw [drop_getD L (0, 0) hil, List.foldl_cons]
    have hcm := getD_mem L (0, 0) hil
    rw [loopF]
    dsimp only
    unfold impl_Lawn_parts_s2
    simp only [cnt_fl, Int.toNat_natCast, fl_x, fl_y]
    rw [bT (p := (i : Int) < (L.length : Int)) (by omega), bT (p := (0 : Int) ≤ (i : Int)) (by omega)]
    simp only [cond_true, Bool.and_true]
    generalize L.getD i (0, 0) = c at hcm ⊢
    have hgc := hLg c hcm
    rw [show (lookK (0 : Int) es [c.1, c.2] != 0) = decide (c ∈ s.1) from he c]
    rw [wrap64 (x := (i : Int) + 1) (by omega), show (i : Int) + 1 = ((i + 1 : Nat) : Int) by omega]
    by_cases hcs : c ∈ s.1
    · have e : stepO g nb 101 s c = s := by unfold stepO; simp [hcs]
      rw [e, bT hcs]
      simp only [cond_true]
      exact ih (i + 1) f es s (by omega) (by omega) he hc hsg (by omega)
    · have e : stepO g nb 101 s c = (s.1 ++ comp g nb 101 c, s.2 ++ [comp g nb 101 c]) := by unfold stepO; simp [hcs, hgc]
      have hc' := stepO_ok g nb S.hU (n := 101) (by omega) hc c
      have hg' := stepO_gd (nb := nb) S.hU (n := 101) (by omega) hsg c
      rw [bF hcs]
      simp only [cond_false]
      unfold impl_Lawn_parts_l1
      obtain ⟨es9', es10', e1, q9, q10⟩ := parts_search k (fun y1 y2 y3 y4 y5 y6 y7 y8 y9 => Option.bind (impl_Lawn_those k y5 (fun z10 => (impl_Lawn_parts_1 k [(rd z10 0), (rd z10 1)] y8).bind fun b => some b)) fun x11 => cond (decide (y6.length + [x11].length ≤ bigLen)) ((loopF (fun (rec : (List Int → Option Bool) × (List Int → Option (List Int)) × Int × Int × (List Int) × (List (List Int)) × (List (List Int × Int)) × (List Int) → Option R) (p : (List Int → Option Bool) × (List Int → Option (List Int)) × Int × Int × (List Int) × (List (List Int)) × (List (List Int × Int)) × (List Int)) => impl_Lawn_parts_s2 k K1 (fun h1 h2 h3 h4 h5 h6 h7 h8 => rec (h1, h2, h3, h4, h5, h6, h7, h8)) p.1 p.2.1 p.2.2.1 p.2.2.2.1 p.2.2.2.2.1 p.2.2.2.2.2.1 p.2.2.2.2.2.2.1 p.2.2.2.2.2.2.2) f) (y1, y2, y3, (IntKind.wrap .i64 (y4 + 1)), y5, (y6 ++ [x11]), y7, y9)) none)
        S (L.length : Int) (i : Int) (s.2.map (rowP w h)) (fl L) s.1 hc hsg (by omega) 101 0 k (putK es [c.1, c.2] 1) (putK [] [c.1, c.2] 1) [c] (by omega) (by omega)
        (mapOf_congr (mapOf_put he c) fun x => by rw [← decide_or]; congr 1; simp only [List.mem_singleton, eq_iff_iff]; exact Or.comm)
        (mapOf_congr (mapOf_put mapOf_nil c) fun x => by simp)
        ⟨by simp, by simpa using hgc⟩ (by simpa using hcs) (by omega)
      refine (show _ = _ from e1).trans ?_
      rw [impl_those k v _ (fun p => decide (p ∈ comp g nb 101 c)) (fun p hp => congrArg some (q10 p)) (by omega)]
      simp only [Option.bind_some]
      rw [bT (by rw [bigLen_val]; simp only [List.length_map, List.length_singleton]; omega)]
      simp only [cond_true]
      rw [wrap64 (x := (i : Int) + 1) (by omega), show (i : Int) + 1 = ((i + 1 : Nat) : Int) by omega]
      rw [e] at hc' hg' ⊢
      have := ih (i + 1) f es9' (s.1 ++ comp g nb 101 c, s.2 ++ [comp g nb 101 c]) (by omega) (by omega) (mapOf_congr q9 fun x => by congr 1; simp only [List.mem_append, eq_iff_iff]; rfl) hc' hg' (by simp only [List.length_append, List.length_singleton]; omega)
      rw [← this]
      simp only [List.map_append, List.map_cons, List.map_nil]
      rfl

/-- All parts of the cells that pass. -/
def partsL (g : Cell → Bool) (nb : Cell → List Cell) (L : List Cell) : List (List Cell) := (L.foldl (stepO g nb 101) ([], [])).2

theorem impl_parts (k : Nat) {a : List Int} {w h : Nat} (v : LawnV a w h) {f1 : List Int → Option Bool} {f2 : List Int → Option (List Int)} {inB g : Cell → Bool} {nb : Cell → List Cell} {U : List Cell} (S : Srch a f1 f2 inB g nb U) (hk : 102 < k) :
    impl_Lawn_parts k a f1 f2 = some ((partsL g nb ((allC w h).filter g)).map (rowP w h)) := by
  unfold impl_Lawn_parts
  have hl : ((allC w h).filter g).length ≤ 100 := Nat.le_trans (List.length_filter_le _ _) (allC_small v)
  have e : (allC w h).filter inB = (allC w h).filter g := by
    apply List.filter_congr
    intro p hp
    rw [S.hg, hasB_all v hp]
    rfl
  rw [impl_those k v f1 inB (fun p hp => S.hin p (hasB_all v hp)) (by omega), e]
  simp only [Option.bind_some, cnt_fl]
  unfold impl_Lawn_parts_l2
  exact parts_outer k (fun y2 => some y2) v S ((allC w h).filter g) hl (fun c hc => (List.mem_filter.1 hc).2) hk ((allC w h).filter g).length 0 k [] ([], []) (by omega) (by omega) (mapOf_congr mapOf_nil fun x => by simp) (fun u hu => by cases hu) (fun x hx => by cases hx) (Nat.le_refl 0)

end Go.Proofs.Ytkdpdmfkomnalaa.Tt
