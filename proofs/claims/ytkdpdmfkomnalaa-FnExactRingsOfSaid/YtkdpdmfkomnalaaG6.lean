/- Plain laws: the specification's holes. -/
import Derived.Test.YtkdpdmfkomnalaaG5
set_option linter.unusedVariables false
set_option linter.unusedSimpArgs false
namespace Go.Proofs.Ytkdpdmfkomnalaa.Tt
open Go.Ev Go

def cN (u : Cell) (i j : Nat) : Cell := (IntKind.wrap .i8 (u.1 + ((j : Int) - 1)), IntKind.wrap .i8 (u.2 + ((i : Int) - 1)))
def nb9 (u : Cell) : List Cell := [cN u 0 0, cN u 0 1, cN u 0 2, cN u 1 0, cN u 1 1, cN u 1 2, cN u 2 0, cN u 2 1, cN u 2 2]
def nb8 (u : Cell) : List Cell := [cN u 0 0, cN u 0 1, cN u 0 2, cN u 1 0, cN u 1 2, cN u 2 0, cN u 2 1, cN u 2 2]
def hB (a : List Int) (c : Cell) : Bool := hasB a c.1 c.2 && !(grassB a c.1 c.2)
def bdB (a : List Int) (c : Cell) : Bool := (c.1 == 0) || ((c.2 == 0) || ((c.1 == IntKind.wrap .i8 (rd a 0 - 1)) || (c.2 == IntKind.wrap .i8 (rd a 1 - 1))))

theorem cN_mem (u : Cell) {i j : Nat} (hi : i < 3) (hj : j < 3) : cN u i j ∈ nb9 u := by
  have h1 : i = 0 ∨ i = 1 ∨ i = 2 := by omega
  have h2 : j = 0 ∨ j = 1 ∨ j = 2 := by omega
  unfold nb9
  rcases h1 with rfl | rfl | rfl <;> rcases h2 with rfl | rfl | rfl <;> simp

def rowQ (g : Cell → Bool) (u : Cell) (i : Nat) : Nat → Nat → List Cell → List Cell
  | 0, _, Q => Q
  | m + 1, j, Q => rowQ g u i m (j + 1) (visQ g Q (cN u i j))
def rowsQ (g : Cell → Bool) (u : Cell) : Nat → Nat → List Cell → List Cell
  | 0, _, Q => Q
  | m + 1, i, Q => rowsQ g u m (i + 1) (rowQ g u i 3 0 Q)

theorem rowsQ_step (g : Cell → Bool) (u : Cell) (Q : List Cell) : rowsQ g u 3 0 Q = stepQ g nb9 Q u := rfl

theorem hB_in {a : List Int} (ha : LawnS a) {c : Cell} (h : hB a c = true) : In10 c := by
  unfold hB at h
  rw [Bool.and_eq_true] at h
  exact has_in ha h.1

theorem hB_all {a : List Int} {w h : Nat} (v : LawnV a w h) {c : Cell} (hc : hB a c = true) : c ∈ allC w h := by
  unfold hB at hc
  rw [Bool.and_eq_true] at hc
  have := hasB_true hc.1
  have := v.wv
  have := v.hv
  rw [allC_mem]
  omega

theorem hB_big {a : List Int} {w h : Nat} (v : LawnV a w h) (Q : List Cell) (hQ : Qok (hB a) Q) : Q.length ≤ 100 := by
  have := hQ.nd.length_le_of_subset fun x hx => hB_all v (hQ.all x hx)
  have := allC_small v
  omega

theorem hole_row {R : Type} (k : Nat) (K1 : (List Int) → Int → Int → Bool → Int → Int → (List Int) → (List Int) → (List Int) → (List Int) → Option R) {a : List Int} {w h : Nat} (v : LawnV a w h) (h2 h3 : Int) (h4 : Bool) (h5 : Int) (h9 : List Int) (u : Cell) (i : Nat) (hi : i < 3) (e : Int) (he : e = (i : Int) - 1) (T : Cell → Prop) (hT : ∀ c ∈ nb9 u, hB a c = true → ¬ T c) :
    ∀ (m j f : Nat) (d : Int) (M : List Int) (Q : List Cell), j + m = 3 → m < f → d = (j : Int) - 1 → MarkOf M (fun c => T c ∨ c ∈ Q) → Qok (hB a) Q →
      ∃ M', loopF (fun (rec : (List Int) × Int × Int × Bool × Int × Int × Int × (List Int) × (List Int) × (List Int) × (List Int) → Option R) (p : (List Int) × Int × Int × Bool × Int × Int × Int × (List Int) × (List Int) × (List Int) × (List Int)) => spec_l05Holes_s0 k K1 (fun h1 h2 h3 h4 h5 h6 h7 h8 h9 h10 h11 => rec (h1, h2, h3, h4, h5, h6, h7, h8, h9, h10, h11)) p.1 p.2.1 p.2.2.1 p.2.2.2.1 p.2.2.2.2.1 p.2.2.2.2.2.1 p.2.2.2.2.2.2.1 p.2.2.2.2.2.2.2.1 p.2.2.2.2.2.2.2.2.1 p.2.2.2.2.2.2.2.2.2.1 p.2.2.2.2.2.2.2.2.2.2) f
        (a, h2, h3, h4, h5, e, d, M, h9, fl Q, [u.1, u.2]) = K1 a h2 h3 h4 h5 e M' h9 (fl (rowQ (hB a) u i m j Q)) [u.1, u.2] ∧ MarkOf M' (fun c => T c ∨ c ∈ rowQ (hB a) u i m j Q) ∧ Qok (hB a) (rowQ (hB a) u i m j Q) := by
  intro m
  induction m with
  | zero =>
    intro j f d M Q hj hf hd hM hQ
    obtain ⟨f, rfl⟩ : ∃ g, f = g + 1 := ⟨f - 1, by omega⟩
    refine ⟨M, ?_, hM, hQ⟩
    rw [loopF]
    dsimp only
    rw [spec_l05Holes_s0, bF (by omega)]
    rfl
  | succ m ih =>
    intro j f d M Q hj hf hd hM hQ
    obtain ⟨f, rfl⟩ : ∃ g, f = g + 1 := ⟨f - 1, by omega⟩
    rw [loopF]
    dsimp only
    rw [spec_l05Holes_s0]
    simp only [show rd [u.1, u.2] 0 = u.1 from rfl, show rd [u.1, u.2] 1 = u.2 from rfl]
    rw [bT (p := d ≤ 1) (by omega), wrap8 (x := d + 1) (by omega)]
    have ec1 : IntKind.wrap .i8 (u.1 + d) = (cN u i j).1 := by rw [hd]; rfl
    have ec2 : IntKind.wrap .i8 (u.2 + e) = (cN u i j).2 := by rw [he]; rfl
    simp only [cond_true, ec1, ec2]
    rw [show rowQ (hB a) u i (m + 1) j Q = rowQ (hB a) u i m (j + 1) (visQ (hB a) Q (cN u i j)) from rfl]
    have hTc := hT _ (cN_mem u hi (show j < 3 by omega))
    have r1 : (-128 ≤ (cN u i j).1 ∧ (cN u i j).1 < 128) := wrap8_range _
    have r2 : (-128 ≤ (cN u i j).2 ∧ (cN u i j).2 < 128) := wrap8_range _
    obtain ⟨hQ', r, hr⟩ := visQ_ok (hB a) hQ (cN u i j)
    generalize cN u i j = c at hTc r1 r2 hQ' hr ⊢
    have hlen := hB_big v Q hQ
    have hb : decide ((fl Q).length + 2 ≤ bigLen) = true := bT (by rw [bigLen_val, fl_length]; omega)
    have hstep : ∀ M', MarkOf M' (fun x => T x ∨ x ∈ visQ (hB a) Q c) → _ := fun M' hM' => ih (j + 1) f (d + 1) M' (visQ (hB a) Q c) (by omega) (by omega) (by omega) hM' hQ'
    rw [show spec_l01Is k a [c.1, c.2] = some (hasB a c.1 c.2) from spec_is k v.toLawnR r1 r2]
    simp only [Option.bind_some]
    cases hh : hasB a c.1 c.2 with
    | false =>
      have e0 : visQ (hB a) Q c = Q := by unfold visQ hB; rw [hh]; rfl
      rw [e0] at hstep ⊢
      simp only [Bool.not_false, cond_true]
      exact hstep M hM
    | true =>
      have hc10 := has_in v.toLawnS hh
      simp only [Bool.not_true, cond_false]
      rw [spec_at k v.toLawnS hh]
      simp only [Option.bind_some]
      have hgc : hB a c = !(kindV a c.1 c.2 == 0) := by unfold hB grassB; rw [hh]; rfl
      cases hk0 : (kindV a c.1 c.2 == 0) with
      | true =>
        have e0 : visQ (hB a) Q c = Q := by unfold visQ; rw [hgc, hk0]; rfl
        rw [e0] at hstep ⊢
        simp only [cond_true]
        exact hstep M hM
      | false =>
        have hg1 : hB a c = true := by rw [hgc, hk0]; rfl
        simp only [cond_false]
        rw [bT (p := 0 ≤ c.2) hc10.2.1, bT (p := c.2 < 10) hc10.2.2, bT (p := 0 ≤ c.1) hc10.1.1, bT (p := c.1 < 10) hc10.1.2]
        simp only [cond_true, Bool.and_true, Nat.zero_add, Nat.mul_one, hb]
        rw [show c.2.toNat * 10 + c.1.toNat = ixC c from rfl]
        by_cases hcq : c ∈ Q
        · have e0 : visQ (hB a) Q c = Q := by unfold visQ; simp [hcq]
          rw [e0] at hstep ⊢
          rw [neT ((hM.at_ c hc10).2 (.inr hcq))]
          simp only [cond_true]
          exact hstep M hM
        · have e0 : visQ (hB a) Q c = Q ++ [c] := by unfold visQ; simp [hcq, hg1]
          rw [e0] at hstep ⊢
          have hz : rd M (ixC c) = 0 := by
            by_cases q : rd M (ixC c) = 0
            · exact q
            · rcases (hM.at_ c hc10).1 q with q | q
              · exact absurd q (hTc hg1)
              · exact absurd q hcq
          rw [neF hz]
          simp only [cond_false]
          rw [fl_append] at hstep
          exact hstep (List.set M (ixC c) 1) (markOf_congr (markOf_set hM hc10) fun x _ => by
            simp only [List.mem_append, List.mem_singleton]
            exact or_assoc)

theorem hole_rows {R : Type} (k : Nat) (K1 : (List Int) → Int → Int → Bool → Int → (List Int) → (List Int) → (List Int) → Option R) {a : List Int} {w h : Nat} (v : LawnV a w h) (h2 h3 : Int) (h4 : Bool) (h5 : Int) (h9 : List Int) (u : Cell) (T : Cell → Prop) (hT : ∀ c ∈ nb9 u, hB a c = true → ¬ T c) (hk : 3 < k) :
    ∀ (m i f : Nat) (e : Int) (M : List Int) (Q : List Cell), i + m = 3 → m < f → e = (i : Int) - 1 → MarkOf M (fun c => T c ∨ c ∈ Q) → Qok (hB a) Q →
      ∃ M', loopF (fun (rec : (List Int) × Int × Int × Bool × Int × Int × (List Int) × (List Int) × (List Int) × (List Int) → Option R) (p : (List Int) × Int × Int × Bool × Int × Int × (List Int) × (List Int) × (List Int) × (List Int)) => spec_l05Holes_s1 k K1 (fun h1 h2 h3 h4 h5 h6 h7 h8 h9 h10 => rec (h1, h2, h3, h4, h5, h6, h7, h8, h9, h10)) p.1 p.2.1 p.2.2.1 p.2.2.2.1 p.2.2.2.2.1 p.2.2.2.2.2.1 p.2.2.2.2.2.2.1 p.2.2.2.2.2.2.2.1 p.2.2.2.2.2.2.2.2.1 p.2.2.2.2.2.2.2.2.2) f
        (a, h2, h3, h4, h5, e, M, h9, fl Q, [u.1, u.2]) = K1 a h2 h3 h4 h5 M' h9 (fl (rowsQ (hB a) u m i Q)) ∧ MarkOf M' (fun c => T c ∨ c ∈ rowsQ (hB a) u m i Q) ∧ Qok (hB a) (rowsQ (hB a) u m i Q) := by
  intro m
  induction m with
  | zero =>
    intro i f e M Q hi hf he hM hQ
    obtain ⟨f, rfl⟩ : ∃ g, f = g + 1 := ⟨f - 1, by omega⟩
    refine ⟨M, ?_, hM, hQ⟩
    rw [loopF]
    dsimp only
    rw [spec_l05Holes_s1, bF (by omega)]
    rfl
  | succ m ih =>
    intro i f e M Q hi hf he hM hQ
    obtain ⟨f, rfl⟩ : ∃ g, f = g + 1 := ⟨f - 1, by omega⟩
    rw [loopF]
    dsimp only
    rw [spec_l05Holes_s1, bT (p := e ≤ 1) (by omega)]
    simp only [cond_true]
    unfold spec_l05Holes_l0
    obtain ⟨M', e1, hM', hQ'⟩ := hole_row k (fun y1 y2 y3 y4 y5 y6 y7 y8 y9 y10 => (loopF (fun (rec : (List Int) × Int × Int × Bool × Int × Int × (List Int) × (List Int) × (List Int) × (List Int) → Option R) (p : (List Int) × Int × Int × Bool × Int × Int × (List Int) × (List Int) × (List Int) × (List Int)) => spec_l05Holes_s1 k K1 (fun h1 h2 h3 h4 h5 h6 h7 h8 h9 h10 => rec (h1, h2, h3, h4, h5, h6, h7, h8, h9, h10)) p.1 p.2.1 p.2.2.1 p.2.2.2.1 p.2.2.2.2.1 p.2.2.2.2.2.1 p.2.2.2.2.2.2.1 p.2.2.2.2.2.2.2.1 p.2.2.2.2.2.2.2.2.1 p.2.2.2.2.2.2.2.2.2) f) (y1, y2, y3, y4, y5, (IntKind.wrap .i8 (y6 + 1)), y7, y8, y9, y10))
      v h2 h3 h4 h5 h9 u i (by omega) e he T hT 3 0 k (-1) M Q rfl hk rfl hM hQ
    obtain ⟨M'', e2, hM'', hQ''⟩ := ih (i + 1) f (e + 1) M' (rowQ (hB a) u i 3 0 Q) (by omega) (by omega) (by omega) hM' hQ'
    refine ⟨M'', ?_, hM'', hQ''⟩
    refine (show _ = _ from e1).trans ?_
    rw [wrap8 (x := e + 1) (by omega)]
    exact e2

theorem bfs_ext (g : Cell → Bool) (nb : Cell → List Cell) : ∀ (n i : Nat) (Q : List Cell), Qok g Q → Qok g (bfs g nb n i Q) ∧ ∃ r, bfs g nb n i Q = Q ++ r := by
  intro n
  induction n with
  | zero => intro i Q h; exact ⟨h, [], by simp [bfs]⟩
  | succ n ih =>
    intro i Q h
    rw [bfs]
    by_cases hlt : i < Q.length
    · rw [if_pos hlt]
      obtain ⟨h1, r1, e1⟩ := visL_ok g (nb (Q.getD i (0, 0))) h
      obtain ⟨h2, r2, e2⟩ := ih (i + 1) _ h1
      exact ⟨h2, r1 ++ r2, by rw [← List.append_assoc, ← e1]; exact e2⟩
    · rw [if_neg hlt]
      exact ⟨h, [], by simp⟩

theorem nb9_of {u c : Cell} (h : c ∈ nb9 u) : ∃ i j : Nat, i < 3 ∧ j < 3 ∧ c = cN u i j := by
  unfold nb9 at h
  simp only [List.mem_cons, List.not_mem_nil, or_false] at h
  rcases h with h | h | h | h | h | h | h | h | h
  · exact ⟨0, 0, by decide, by decide, h⟩
  · exact ⟨0, 1, by decide, by decide, h⟩
  · exact ⟨0, 2, by decide, by decide, h⟩
  · exact ⟨1, 0, by decide, by decide, h⟩
  · exact ⟨1, 1, by decide, by decide, h⟩
  · exact ⟨1, 2, by decide, by decide, h⟩
  · exact ⟨2, 0, by decide, by decide, h⟩
  · exact ⟨2, 1, by decide, by decide, h⟩
  · exact ⟨2, 2, by decide, by decide, h⟩

theorem cN_val {u : Cell} (hu : In10 u) {i j : Nat} (hi : i < 3) (hj : j < 3) : cN u i j = (u.1 + ((j : Int) - 1), u.2 + ((i : Int) - 1)) := by
  obtain ⟨h1, h2⟩ := hu
  unfold cN
  rw [wrap8 (x := u.1 + ((j : Int) - 1)) (by omega), wrap8 (x := u.2 + ((i : Int) - 1)) (by omega)]

theorem nb9_in {a : List Int} (ha : LawnS a) (u c : Cell) (hu : hB a u = true) (hc : hB a c = true) (h : c ∈ nb9 u) : u ∈ nb9 c := by
  obtain ⟨i, j, hi, hj, e⟩ := nb9_of h
  have e2 := cN_val (hB_in ha hu) hi hj
  have e3 := cN_val (hB_in ha hc) (show 2 - i < 3 by omega) (show 2 - j < 3 by omega)
  have : u = cN c (2 - i) (2 - j) := by
    rw [e3, e, e2]
    apply Prod.ext
    · simp only; omega
    · simp only; omega
  rw [this]
  exact cN_mem c (by omega) (by omega)

theorem hole_search {R : Type} (k : Nat) (K1 : (List Int) → Int → Int → Bool → (List Int) → (List Int) → Option R) {a : List Int} {w h : Nat} (v : LawnV a w h) (h2 h3 : Int) (h9 : List Int) (T : Cell → Prop) (hT : ∀ u, T u → ∀ c ∈ nb9 u, hB a c = true → T c) (hk : 3 < k) :
    ∀ (n i f : Nat) (M : List Int) (Q : List Cell) (b : Bool), (allC w h).length < n + i → n < f → MarkOf M (fun c => T c ∨ c ∈ Q) → Qok (hB a) Q → (∀ x ∈ Q, ¬ T x) → i ≤ Q.length →
      ∃ M', loopF (fun (rec : (List Int) × Int × Int × Bool × Int × (List Int) × (List Int) × (List Int) → Option R) (p : (List Int) × Int × Int × Bool × Int × (List Int) × (List Int) × (List Int)) => spec_l05Holes_s2 k K1 (fun h1 h2 h3 h4 h5 h6 h7 h8 => rec (h1, h2, h3, h4, h5, h6, h7, h8)) p.1 p.2.1 p.2.2.1 p.2.2.2.1 p.2.2.2.2.1 p.2.2.2.2.2.1 p.2.2.2.2.2.2.1 p.2.2.2.2.2.2.2) f
        (a, h2, h3, b, (i : Int), M, h9, fl Q) = K1 a h2 h3 (b && ((bfs (hB a) nb9 n i Q).drop i).all fun c => !(bdB a c)) M' h9 ∧ MarkOf M' (fun c => T c ∨ c ∈ bfs (hB a) nb9 n i Q) := by
  intro n
  induction n with
  | zero =>
    intro i f M Q b hU hf hM hQ hd hi
    have := hQ.nd.length_le_of_subset fun x hx => hB_all v (hQ.all x hx)
    omega
  | succ n ih =>
    intro i f M Q b hU hf hM hQ hd hi
    obtain ⟨f, rfl⟩ : ∃ g, f = g + 1 := ⟨f - 1, by omega⟩
    have hlen := hB_big v Q hQ
    rw [loopF]
    dsimp only
    rw [spec_l05Holes_s2, bfs]
    simp only [cnt_fl, Int.toNat_natCast, fl_x, fl_y]
    by_cases hlt : i < Q.length
    · rw [if_pos hlt, bT (p := (i : Int) < (Q.length : Int)) (by omega), bT (p := (0 : Int) ≤ (i : Int)) (by omega)]
      simp only [cond_true, Bool.and_true]
      have hm : Q.getD i (0, 0) ∈ Q := getD_mem Q (0, 0) hlt
      have hgi : ∀ r : List Cell, (Q ++ r).getD i (0, 0) = Q.getD i (0, 0) := fun r => getD_app' hlt
      generalize hu : Q.getD i (0, 0) = u at hm hgi
      have hgu := hQ.all u hm
      have hfr : ∀ c ∈ nb9 u, hB a c = true → ¬ T c := fun c hc hgc hs => hd u hm (hT c hs u (nb9_in v.toLawnS u c hgu hgc hc) hgu)
      obtain ⟨h1, r, hr⟩ := visL_ok (hB a) (nb9 u) hQ
      have hr' : stepQ (hB a) nb9 Q u = Q ++ r := hr
      have hl' : i + 1 ≤ (stepQ (hB a) nb9 Q u).length := by rw [hr', List.length_append]; omega
      obtain ⟨M', e1, hM', hQ'⟩ := hole_rows k (fun y1 y2 y3 y4 y5 y6 y7 y8 => (loopF (fun (rec : (List Int) × Int × Int × Bool × Int × (List Int) × (List Int) × (List Int) → Option R) (p : (List Int) × Int × Int × Bool × Int × (List Int) × (List Int) × (List Int)) => spec_l05Holes_s2 k K1 (fun h1 h2 h3 h4 h5 h6 h7 h8 => rec (h1, h2, h3, h4, h5, h6, h7, h8)) p.1 p.2.1 p.2.2.1 p.2.2.2.1 p.2.2.2.2.1 p.2.2.2.2.2.1 p.2.2.2.2.2.2.1 p.2.2.2.2.2.2.2) f) (y1, y2, y3, y4, (IntKind.wrap .i64 (y5 + 1)), y6, y7, y8))
        v h2 h3 (b && !(bdB a u)) (i : Int) h9 u T hfr hk 3 0 k (-1) M Q rfl hk rfl hM hQ
      rw [rowsQ_step] at e1 hM'
      obtain ⟨M'', e2, hM''⟩ := ih (i + 1) f M' (stepQ (hB a) nb9 Q u) (b && !(bdB a u)) (by omega) (by omega) hM' h1 (fun x hx => by
        rcases (visL_mem (hB a)).1 (show x ∈ (nb9 u).foldl (visQ (hB a)) Q from hx) with q | ⟨q, hgx⟩
        · exact hd x q
        · exact hfr x q hgx) hl'
      refine ⟨M'', ?_, hM''⟩
      obtain ⟨_, r2, hr2⟩ := bfs_ext (hB a) nb9 n (i + 1) _ h1
      have hr2' : bfs (hB a) nb9 n (i + 1) (stepQ (hB a) nb9 Q u) = Q ++ (r ++ r2) := by rw [← List.append_assoc, ← hr']; exact hr2
      have hdr : (bfs (hB a) nb9 n (i + 1) (stepQ (hB a) nb9 Q u)).drop i = u :: (bfs (hB a) nb9 n (i + 1) (stepQ (hB a) nb9 Q u)).drop (i + 1) := by
        rw [drop_getD _ (0, 0) (show i < (bfs (hB a) nb9 n (i + 1) (stepQ (hB a) nb9 Q u)).length by rw [hr2', List.length_append]; omega)]
        congr 1
        rw [hr2']
        exact hgi _
      rw [hdr, List.all_cons, ← Bool.and_assoc]
      have key := e1
      rw [wrap64 (x := (i : Int) + 1) (by omega), show (i : Int) + 1 = ((i + 1 : Nat) : Int) by omega] at key
      refine Eq.trans ?_ (key.trans e2)
      clear key e2 hdr hr2' hr2 hM'' e1 hM'
      unfold bdB spec_l05Holes_l1
      cases (u.1 == 0) <;> cases (u.2 == 0) <;> cases (u.1 == IntKind.wrap .i8 (rd a 0 - 1)) <;> cases (u.2 == IntKind.wrap .i8 (rd a 1 - 1)) <;> simp only [cond_true, cond_false, Bool.or_true, Bool.or_false, Bool.true_or, Bool.false_or, Bool.not_true, Bool.not_false, Bool.and_true, Bool.and_false]
    · rw [if_neg hlt, bF (p := (i : Int) < (Q.length : Int)) (by omega)]
      have hd0 : Q.drop i = [] := List.drop_of_length_le (by omega)
      rw [hd0]
      exact ⟨M, by simp, hM⟩

end Go.Proofs.Ytkdpdmfkomnalaa.Tt
