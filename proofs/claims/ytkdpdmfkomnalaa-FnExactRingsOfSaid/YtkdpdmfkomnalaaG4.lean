/- Plain laws: the specification's pieces. -/
import Derived.Test.YtkdpdmfkomnalaaG3
set_option linter.unusedVariables false
set_option linter.unusedSimpArgs false
namespace Go.Proofs.Ytkdpdmfkomnalaa.Tt
open Go.Ev Go

def In10 (c : Cell) : Prop := (0 ≤ c.1 ∧ c.1 < 10) ∧ (0 ≤ c.2 ∧ c.2 < 10)
def ixC (c : Cell) : Nat := c.2.toNat * 10 + c.1.toNat

theorem ixC_lt {c : Cell} (h : In10 c) : ixC c < 100 := by unfold In10 at h; unfold ixC; omega
theorem ixC_inj {c d : Cell} (hc : In10 c) (hd : In10 d) (h : ixC c = ixC d) : c = d := by
  unfold In10 at hc hd
  unfold ixC at h
  obtain ⟨c1, c2⟩ := c
  obtain ⟨d1, d2⟩ := d
  simp only at *
  have h1 : c1 = d1 := by omega
  have h2 : c2 = d2 := by omega
  rw [h1, h2]

theorem rd_setC (l : List Int) (i j : Nat) (v : Int) : rd (List.set l i v) j = if i = j ∧ i < l.length then v else rd l j := by
  unfold rd
  rw [List.getD_eq_getElem?_getD, List.getD_eq_getElem?_getD, List.getElem?_set]
  by_cases h : i = j
  · subst h
    by_cases h2 : i < l.length
    · simp [h2]
    · simp [h2]
  · simp [h]

/-- Marks on a lawn's cells. -/
structure MarkOf (M : List Int) (S : Cell → Prop) : Prop where
  len : M.length = 100
  at_ : ∀ c, In10 c → (rd M (ixC c) ≠ 0 ↔ S c)

theorem markOf_set {M : List Int} {S : Cell → Prop} (h : MarkOf M S) {c : Cell} (hc : In10 c) : MarkOf (List.set M (ixC c) 1) fun x => S x ∨ x = c := by
  refine ⟨by rw [List.length_set]; exact h.len, fun x hx => ?_⟩
  rw [rd_setC]
  by_cases e : ixC c = ixC x
  · have : c = x := ixC_inj hc hx e
    rw [if_pos ⟨e, by rw [h.len]; exact ixC_lt hc⟩]
    simp [this]
  · rw [if_neg (fun q => e q.1), h.at_ x hx]
    constructor
    · exact .inl
    · rintro (q | rfl)
      · exact q
      · exact absurd rfl e

theorem markOf_congr {M : List Int} {S S' : Cell → Prop} (h : MarkOf M S) (he : ∀ x, In10 x → (S x ↔ S' x)) : MarkOf M S' := ⟨h.len, fun c hc => (h.at_ c hc).trans (he c hc)⟩

theorem markOf_nil : MarkOf (List.replicate 100 0) fun _ => False := ⟨by simp, fun c hc => by
  have := ixC_lt hc
  unfold rd
  rw [List.getD_eq_getElem?_getD, List.getElem?_replicate]
  simp [this]⟩

/-- Counted steps on a lawn's cells. -/
structure Dist (S : List Int) (Q : List Cell) : Prop where
  len : S.length = 100
  le : ∀ j, rd S j ≤ Q.length
  at_ : ∀ c, In10 c → (rd S (ixC c) ≥ 0 ↔ c ∈ Q)

theorem dist_push {S : List Int} {Q : List Cell} (h : Dist S Q) {c : Cell} (hc : In10 c) {n : Int} (hn : 0 ≤ n ∧ n ≤ Q.length + 1) : Dist (List.set S (ixC c) n) (Q ++ [c]) := by
  refine ⟨by rw [List.length_set]; exact h.len, fun j => ?_, fun x hx => ?_⟩
  · rw [rd_setC, List.length_append, List.length_singleton]
    have := h.le j
    split <;> omega
  · rw [rd_setC]
    by_cases e : ixC c = ixC x
    · have : c = x := ixC_inj hc hx e
      rw [if_pos ⟨e, by rw [h.len]; exact ixC_lt hc⟩]
      simp only [this, List.mem_append, List.mem_singleton, or_true, iff_true]
      omega
    · rw [if_neg (fun q => e q.1), h.at_ x hx]
      simp only [List.mem_append, List.mem_singleton]
      constructor
      · exact .inl
      · rintro (q | rfl)
        · exact q
        · exact absurd rfl e

def gB (a : List Int) (c : Cell) : Bool := grassB a c.1 c.2
def nb4 (c : Cell) : List Cell := nbrs c.1 c.2

theorem gB_in {a : List Int} (ha : LawnS a) {c : Cell} (h : gB a c = true) : In10 c := by
  have := grass_range ha (show grassB a c.1 c.2 = true from h)
  have := ha.w10
  have := ha.h10
  unfold In10
  omega

theorem has_in {a : List Int} (ha : LawnS a) {c : Cell} (h : hasB a c.1 c.2 = true) : In10 c := by
  have := hasB_true h
  have := ha.w10
  have := ha.h10
  unfold In10
  omega

theorem gB_all {a : List Int} {w h : Nat} (v : LawnV a w h) {c : Cell} (hc : gB a c = true) : c ∈ allC w h := by
  have := grass_range v.toLawnS (show grassB a c.1 c.2 = true from hc)
  have := v.wv
  have := v.hv
  rw [allC_mem]
  omega

theorem visL_filter {g q : Cell → Bool} (hq : ∀ c, g c = true → q c = true) : ∀ (L Q : List Cell), (L.filter q).foldl (visQ g) Q = L.foldl (visQ g) Q := by
  intro L
  induction L with
  | nil => intro Q; rfl
  | cons c L ih =>
    intro Q
    rw [List.filter_cons, List.foldl_cons]
    cases h : q c with
    | true => rw [if_pos rfl, List.foldl_cons, ih]
    | false =>
      have : g c = false := by
        cases e : g c with
        | false => rfl
        | true => rw [hq c e] at h; cases h
      rw [if_neg (by simp), ih]
      congr 1
      unfold visQ
      rw [this]
      rfl

theorem reach_look {R : Type} (k : Nat) (K1 : (List Int) → Bool → Int → (List Int) → (List Int) → (List Int) → Option R) {a : List Int} {w h : Nat} (v : LawnV a w h) (z : List Int) (i : Nat) (u : Cell) (hu : In10 u) (X : List Cell) (hX : ∀ c ∈ X, hasB a c.1 c.2 = true) (hl : X.length ≤ 100) (hbig : ∀ Q, Qok (gB a) Q → Q.length ≤ 100) :
    ∀ (m j f : Nat) (S : List Int) (Q : List Cell), j + m = X.length → m < f → Dist S Q → Qok (gB a) Q → i < Q.length → Q.getD i (0, 0) = u →
      ∃ S', loopF (fun (rec : (List Int) × Bool × Int × Int × (List Int) × (List Int) × (List Int) × (List Int) → Option R) (p : (List Int) × Bool × Int × Int × (List Int) × (List Int) × (List Int) × (List Int)) => spec_l01Reach_s2 k K1 (fun h1 h2 h3 h4 h5 h6 h7 h8 => rec (h1, h2, h3, h4, h5, h6, h7, h8)) p.1 p.2.1 p.2.2.1 p.2.2.2.1 p.2.2.2.2.1 p.2.2.2.2.2.1 p.2.2.2.2.2.2.1 p.2.2.2.2.2.2.2) f
        (a, true, (i : Int), (j : Int), z, S, fl Q, fl X) = K1 a true (i : Int) z S' (fl ((X.drop j).foldl (visQ (gB a)) Q)) ∧ Dist S' ((X.drop j).foldl (visQ (gB a)) Q) := by
  intro m
  induction m with
  | zero =>
    intro j f S Q hj hf hd hQ hi hqu
    obtain ⟨f, rfl⟩ : ∃ g, f = g + 1 := ⟨f - 1, by omega⟩
    have hd0 : X.drop j = [] := List.drop_of_length_le (by omega)
    rw [hd0]
    refine ⟨S, ?_, hd⟩
    rw [loopF]
    dsimp only
    rw [spec_l01Reach_s2]
    simp (disch := omega) only [cnt_fl, bF, cond_false]
    rfl
  | succ m ih =>
    intro j f S Q hj hf hd hQ hi hqu
    obtain ⟨f, rfl⟩ : ∃ g, f = g + 1 := ⟨f - 1, by omega⟩
    have hjl : j < X.length := by omega
    have hh := hX _ (getD_mem X (0, 0) hjl)
    rw [drop_getD X (0, 0) hjl, List.foldl_cons, loopF]
    dsimp only
    rw [spec_l01Reach_s2]
    simp only [cnt_fl, Int.toNat_natCast, fl_x, fl_y, hqu]
    obtain ⟨hQ', r, hr⟩ := visQ_ok (gB a) hQ (X.getD j (0, 0))
    generalize X.getD j (0, 0) = c at hh hQ' hr ⊢
    have hc10 := has_in v.toLawnS hh
    have hlen := hbig Q hQ
    have hb : decide ((fl Q).length + 2 ≤ bigLen) = true := bT (by rw [bigLen_val, fl_length]; omega)
    have hat := spec_at k v.toLawnS hh
    rw [spec_l01Open]
    simp only [show rd [c.1, c.2] 0 = c.1 from rfl, show rd [c.1, c.2] 1 = c.2 from rfl]
    rw [hat, wrap64 (x := (j : Int) + 1) (by omega), show (j : Int) + 1 = ((j + 1 : Nat) : Int) by omega, bT (p := (j : Int) < (X.length : Int)) (by omega), bT (p := (0 : Int) ≤ (j : Int)) (by omega), bT (p := (0 : Int) ≤ (i : Int)) (by omega), bT (p := (i : Int) < (Q.length : Int)) (by omega), bT (p := 0 ≤ c.2) hc10.2.1, bT (p := c.2 < 10) hc10.2.2, bT (p := 0 ≤ c.1) hc10.1.1, bT (p := c.1 < 10) hc10.1.2, bT (p := 0 ≤ u.2) hu.2.1, bT (p := u.2 < 10) hu.2.2, bT (p := 0 ≤ u.1) hu.1.1, bT (p := u.1 < 10) hu.1.2]
    simp only [cond_true, cond_false, Bool.and_true, Option.bind_some, hb, Nat.zero_add, Nat.mul_one]
    rw [show c.2.toNat * 10 + c.1.toNat = ixC c from rfl, show u.2.toNat * 10 + u.1.toNat = ixC u from rfl]
    have hgc : gB a c = (kindV a c.1 c.2 == 0) := by unfold gB grassB; rw [hh]; rfl
    have hskip : visQ (gB a) Q c = Q → ∃ S', loopF (fun (rec : (List Int) × Bool × Int × Int × (List Int) × (List Int) × (List Int) × (List Int) → Option R) (p : (List Int) × Bool × Int × Int × (List Int) × (List Int) × (List Int) × (List Int)) => spec_l01Reach_s2 k K1 (fun h1 h2 h3 h4 h5 h6 h7 h8 => rec (h1, h2, h3, h4, h5, h6, h7, h8)) p.1 p.2.1 p.2.2.1 p.2.2.2.1 p.2.2.2.2.1 p.2.2.2.2.2.1 p.2.2.2.2.2.2.1 p.2.2.2.2.2.2.2) f
        (a, true, (i : Int), ((j + 1 : Nat) : Int), z, S, fl Q, fl X) = K1 a true (i : Int) z S' (fl ((X.drop (j + 1)).foldl (visQ (gB a)) (visQ (gB a) Q c))) ∧ Dist S' ((X.drop (j + 1)).foldl (visQ (gB a)) (visQ (gB a) Q c)) := fun e => by
      rw [e]
      exact ih (j + 1) f S Q (by omega) (by omega) hd hQ hi hqu
    cases hk0 : (kindV a c.1 c.2 == 0) with
    | false =>
      have e : visQ (gB a) Q c = Q := by unfold visQ; rw [hgc, hk0]; rfl
      simp only [cond_false, Option.bind_some, Bool.not_false, cond_true]
      cases (kindV a c.1 c.2 == 3) with
      | false => exact hskip e
      | true =>
        simp only [Bool.not_true, cond_false]
        rw [show (kindV a c.1 c.2 != 0) = true by unfold bne; rw [hk0]; rfl]
        exact hskip e
    | true =>
      simp only [cond_true, Option.bind_some, Bool.not_true, cond_false]
      rw [show (kindV a c.1 c.2 != 0) = false by unfold bne; rw [hk0]; rfl]
      simp only [cond_false]
      by_cases hcq : c ∈ Q
      · rw [bT ((hd.at_ c hc10).2 hcq)]
        exact hskip (by unfold visQ; simp [hcq])
      · rw [bF (fun q => hcq ((hd.at_ c hc10).1 q))]
        simp only [cond_false]
        have e : visQ (gB a) Q c = Q ++ [c] := by unfold visQ; simp [hcq, hgc, hk0]
        have huq : u ∈ Q := by rw [← hqu]; exact getD_mem Q (0, 0) hi
        have h1 := (hd.at_ u hu).2 huq
        have h2 := hd.le (ixC u)
        rw [wrap64 (x := rd S (ixC u) + 1) (by omega)]
        rw [e] at hQ' ⊢
        have := ih (j + 1) f (List.set S (ixC c) (rd S (ixC u) + 1)) (Q ++ [c]) (by omega) (by omega) (dist_push hd hc10 (by omega)) hQ' (by rw [List.length_append]; omega) (by rw [getD_app' hi]; exact hqu)
        rw [fl_append] at this
        exact this

theorem gB_big {a : List Int} {w h : Nat} (v : LawnV a w h) (Q : List Cell) (hQ : Qok (gB a) Q) : Q.length ≤ 100 := by
  have := hQ.nd.length_le_of_subset fun x hx => gB_all v (hQ.all x hx)
  have := allC_small v
  omega

theorem reach_loop {R : Type} (k : Nat) (K1 : (List Int) → (List Int) → Option R) {a : List Int} {w h : Nat} (v : LawnV a w h) (z : List Int) (hk : 101 < k) :
    ∀ (n i f : Nat) (S : List Int) (Q : List Cell), (allC w h).length < n + i → n < f → Dist S Q → Qok (gB a) Q → i ≤ Q.length →
      ∃ S', loopF (fun (rec : (List Int) × Bool × Int × (List Int) × (List Int) × (List Int) → Option R) (p : (List Int) × Bool × Int × (List Int) × (List Int) × (List Int)) => spec_l01Reach_s3 k K1 (fun h1 h2 h3 h4 h5 h6 => rec (h1, h2, h3, h4, h5, h6)) p.1 p.2.1 p.2.2.1 p.2.2.2.1 p.2.2.2.2.1 p.2.2.2.2.2) f
        (a, true, (i : Int), z, S, fl Q) = K1 z S' ∧ Dist S' (bfs (gB a) nb4 n i Q) := by
  intro n
  induction n with
  | zero =>
    intro i f S Q hU hf hd hQ hi
    have := hQ.nd.length_le_of_subset fun x hx => gB_all v (hQ.all x hx)
    omega
  | succ n ih =>
    intro i f S Q hU hf hd hQ hi
    obtain ⟨f, rfl⟩ : ∃ g, f = g + 1 := ⟨f - 1, by omega⟩
    have hlen := gB_big v Q hQ
    rw [loopF]
    dsimp only
    rw [spec_l01Reach_s3, bfs]
    simp only [cnt_fl, Int.toNat_natCast, fl_x, fl_y]
    by_cases hlt : i < Q.length
    · rw [if_pos hlt, bT (p := (i : Int) < (Q.length : Int)) (by omega), bT (p := (0 : Int) ≤ (i : Int)) (by omega)]
      simp only [cond_true, Bool.and_true]
      have hm : Q.getD i (0, 0) ∈ Q := getD_mem Q (0, 0) hlt
      generalize hu : Q.getD i (0, 0) = u at hm
      have hu10 := gB_in v.toLawnS (hQ.all u hm)
      obtain ⟨q1, q2⟩ := hu10
      rw [spec_beside_cells k v (x := u.1) (y := u.2) (by omega) (by omega) (by omega)]
      simp only [Option.bind_some]
      unfold spec_l01Reach_l2
      have hl4 : ((nbrs u.1 u.2).filter fun p => hasB a p.1 p.2).length ≤ 4 := List.length_filter_le _ _
      obtain ⟨S', e, hd'⟩ := reach_look k (fun y2 y3 y4 y5 y6 y7 => (loopF (fun (rec : (List Int) × Bool × Int × (List Int) × (List Int) × (List Int) → Option R) (p : (List Int) × Bool × Int × (List Int) × (List Int) × (List Int)) => spec_l01Reach_s3 k K1 (fun h1 h2 h3 h4 h5 h6 => rec (h1, h2, h3, h4, h5, h6)) p.1 p.2.1 p.2.2.1 p.2.2.2.1 p.2.2.2.2.1 p.2.2.2.2.2) f) (y2, y3, (IntKind.wrap .i64 (y4 + 1)), y5, y6, y7))
        v z i u ⟨q1, q2⟩ ((nbrs u.1 u.2).filter fun p => hasB a p.1 p.2) (fun c hc => (List.mem_filter.1 hc).2) (Nat.le_trans hl4 (by decide)) (gB_big v) _ 0 k S Q (Nat.zero_add _) (Nat.lt_of_le_of_lt hl4 (by omega)) hd hQ hlt hu
      rw [List.drop_zero] at e hd'
      have hst : ((nbrs u.1 u.2).filter fun p => hasB a p.1 p.2).foldl (visQ (gB a)) Q = stepQ (gB a) nb4 Q u := visL_filter (fun c hc => by
        unfold gB grassB at hc
        cases hh : hasB a c.1 c.2 with
        | true => rfl
        | false => rw [hh] at hc; cases hc) _ _
      rw [hst] at e hd'
      obtain ⟨h1, r, hr⟩ := visL_ok (gB a) (nb4 u) hQ
      have hr' : stepQ (gB a) nb4 Q u = Q ++ r := hr
      obtain ⟨S'', e2, hd''⟩ := ih (i + 1) f S' (stepQ (gB a) nb4 Q u) (by omega) (by omega) hd' h1 (by rw [hr', List.length_append]; omega)
      refine ⟨S'', ?_, hd''⟩
      refine (show _ = _ from e).trans ?_
      rw [wrap64 (x := (i : Int) + 1) (by omega), show (i : Int) + 1 = ((i + 1 : Nat) : Int) by omega]
      exact e2
    · rw [if_neg hlt, bF (p := (i : Int) < (Q.length : Int)) (by omega)]
      exact ⟨S, rfl, hd⟩

theorem reach_fill' {R : Type} (n : Nat) (K1 : (List Int) → Bool → (List Int) → (List Int) → (List Int) → Option R) (a : List Int) (b : Bool) (q z : List Int) :
    spec_l01Reach_l1 (n + 11) K1 a b 0 q z (List.replicate 100 0) = K1 a b q z (List.replicate 100 (-1)) := by kernel_rfl

theorem dist_one {c : Cell} (hc : In10 c) : Dist (List.set (List.replicate 100 (-1)) (ixC c) 0) [c] := by
  refine ⟨by simp, fun j => ?_, fun x hx => ?_⟩
  · rw [rd_setC]
    split
    · simp
    · unfold rd
      rw [List.getD_eq_getElem?_getD, List.getElem?_replicate]
      split <;> simp
  · rw [rd_setC]
    by_cases e : ixC c = ixC x
    · rw [if_pos ⟨e, by simpa using ixC_lt hc⟩]
      simp [ixC_inj hc hx e]
    · rw [if_neg (fun q => e q.1)]
      have := ixC_lt hx
      unfold rd
      rw [List.getD_eq_getElem?_getD, List.getElem?_replicate, if_pos this]
      simp only [Option.getD_some, List.mem_singleton]
      constructor
      · intro q; omega
      · rintro rfl; exact absurd rfl e

theorem spec_reach (k : Nat) {a : List Int} {w h : Nat} (v : LawnV a w h) {c : Cell} (hc : gB a c = true) (hk : 101 < k) : ∃ S, spec_l01Reach k a [c.1, c.2] true = some S ∧ Dist S (comp (gB a) nb4 101 c) := by
  obtain ⟨k, rfl⟩ : ∃ n, k = n + 11 := ⟨k - 11, by omega⟩
  have h10 := gB_in v.toLawnS hc
  have hs := allC_small v
  unfold spec_l01Reach
  rw [reach_fill']
  simp only [show rd [c.1, c.2] 0 = c.1 from rfl, show rd [c.1, c.2] 1 = c.2 from rfl]
  rw [bT (p := 0 ≤ c.2) h10.2.1, bT (p := c.2 < 10) h10.2.2, bT (p := 0 ≤ c.1) h10.1.1, bT (p := c.1 < 10) h10.1.2]
  simp only [cond_true, Bool.and_true, Nat.zero_add, Nat.mul_one]
  unfold spec_l01Reach_l3
  obtain ⟨S', e, hd⟩ := reach_loop (k + 11) (fun y6 y7 => some y7) v (List.replicate 100 0) hk 101 0 (k + 11) _ [c] (by omega) (by omega) (dist_one h10) ⟨by simp, by simpa using hc⟩ (by omega)
  exact ⟨S', e, hd⟩

end Go.Proofs.Ytkdpdmfkomnalaa.Tt
