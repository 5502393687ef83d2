/- Plain laws: a state of the search for whole ways is looked at, by both sides. -/
import Derived.Test.YtkdpdmfkomnalaaS2
set_option linter.unusedVariables false
set_option linter.unusedSimpArgs false
namespace Go.Proofs.Ytkdpdmfkomnalaa.Tt
open Go.Ev Go

theorem visN_QI {a : List Int} {w h : Nat} (v : LawnV a w h) {G : List (Int × Int)} (hG : G.length ≤ 9) {u : Sg} (hu : RngS u) {way : ByteArray} : ∀ (m j : Nat) (Q : Qu), j + m = 4 → QI Q → way.size ≤ Q.length → QI (visN a G u way m j Q) := by
  intro m
  induction m with
  | zero => intro j Q _ hq _; exact hq
  | succ m ih =>
    intro j Q hj hq hw
    obtain ⟨h1, h2⟩ := visW_QI v hG hu hq hw (j := j) (by omega)
    exact ih (j + 1) _ (by omega) h1 h2

theorem visN_grow (a : List Int) (G : List (Int × Int)) (u : Sg) (way : ByteArray) : ∀ (m j : Nat) (Q : Qu), ∃ r, visN a G u way m j Q = Q ++ r := by
  intro m
  induction m with
  | zero => intro j Q; exact ⟨[], by simp [visN]⟩
  | succ m ih =>
    intro j Q
    obtain ⟨r, hr⟩ := visW_grow a G u way Q j
    obtain ⟨q, hq⟩ := ih (j + 1) (visW a G u way Q j)
    exact ⟨r ++ q, by rw [visN, hq, hr, List.append_assoc]⟩

theorem spec_inner {R : Type} (k : Nat) (K1 : Int → Int → (List Int) → (List Int) → (List Int) → (List (List Int × ByteArray)) → Option R)
    {a : List Int} {w h : Nat} (v : LawnV a w h) {G : List (Int × Int)} (hG : G.length ≤ 9) {u : Sg} (hu : RngS u) {way : ByteArray} (all i : Int) (hk : 10 < k) : ∀ (m j f : Nat) (Q : Qu) (S : List Int), j + m = 4 → m < f → QI Q → way.size ≤ Q.length → Seen S Q →
    ∃ S', loopF (fun (rec : Int × Int × Int × (List Int) × (List Int) × (List Int) × (List (List Int × ByteArray)) × Int × Int × Int × ByteArray → Option R) (p : Int × Int × Int × (List Int) × (List Int) × (List Int) × (List (List Int × ByteArray)) × Int × Int × Int × ByteArray) => spec_ShortestWhole_s0 k K1 (fun h1 h2 h3 h4 h5 h6 h7 h8 h9 h10 h11 => rec (h1, h2, h3, h4, h5, h6, h7, h8, h9, h10, h11)) p.1 p.2.1 p.2.2.1 p.2.2.2.1 p.2.2.2.2.1 p.2.2.2.2.2.1 p.2.2.2.2.2.2.1 p.2.2.2.2.2.2.2.1 p.2.2.2.2.2.2.2.2.1 p.2.2.2.2.2.2.2.2.2.1 p.2.2.2.2.2.2.2.2.2.2) f (all, i, (j : Int), a, fl G, S, specQ Q, u.1.1, u.1.2, u.2, way) = K1 all i a (fl G) S' (specQ (visN a G u way m j Q)) ∧ Seen S' (visN a G u way m j Q) := by
  intro m
  induction m with
  | zero =>
    intro j f Q S hj hf hq hw hS
    obtain ⟨f, rfl⟩ : ∃ g, f = g + 1 := ⟨f - 1, by omega⟩
    refine ⟨S, ?_, hS⟩
    rw [loopF]
    dsimp only
    rw [spec_ShortestWhole_s0, bF (by omega)]
    rfl
  | succ m ih =>
    intro j f Q S hj hf hq hw hS
    obtain ⟨f, rfl⟩ : ∃ g, f = g + 1 := ⟨f - 1, by omega⟩
    rw [loopF]
    dsimp only
    obtain ⟨S1, e1, s1⟩ := spec_step k K1 (fun h1 h2 h3 h4 h5 h6 h7 h8 h9 h10 h11 => loopF (fun (rec : Int × Int × Int × (List Int) × (List Int) × (List Int) × (List (List Int × ByteArray)) × Int × Int × Int × ByteArray → Option R) (p : Int × Int × Int × (List Int) × (List Int) × (List Int) × (List (List Int × ByteArray)) × Int × Int × Int × ByteArray) => spec_ShortestWhole_s0 k K1 (fun h1 h2 h3 h4 h5 h6 h7 h8 h9 h10 h11 => rec (h1, h2, h3, h4, h5, h6, h7, h8, h9, h10, h11)) p.1 p.2.1 p.2.2.1 p.2.2.2.1 p.2.2.2.2.1 p.2.2.2.2.2.1 p.2.2.2.2.2.2.1 p.2.2.2.2.2.2.2.1 p.2.2.2.2.2.2.2.2.1 p.2.2.2.2.2.2.2.2.2.1 p.2.2.2.2.2.2.2.2.2.2) f (h1, h2, h3, h4, h5, h6, h7, h8, h9, h10, h11)) v hG hu hq hw hS all i (j := j) (by omega) hk
    rw [e1]
    obtain ⟨h1, h2⟩ := visW_QI v hG hu hq hw (j := j) (by omega)
    exact ih (j + 1) f _ S1 (by omega) (by omega) h1 h2 s1

/-! ## The program -/

def letC (j : Nat) : Int := (((ByteArray.mk #[78, 87, 69, 83]).data.toList.getD j 0).toNat : Int)

theorem letC_ok : ∀ j, j < 4 → (0 ≤ letC j ∧ letC j < 256) ∧ letterV (letC j) = (j : Int) := by decide

theorem impl_nextW (k : Nat) {a : List Int} {w h : Nat} (v : LawnV a w h) {G : List (Int × Int)} (hG : G.length ≤ 9) {u : Sg} (hu : RngS u) {j : Nat} (hj : j < 4) :
    impl_Lawn_next k a [u.1.1, u.1.2, 0, u.2] (letC j) (ents G 0) = some (cond (openP a (nbr u.1 j)) ([(newS G u j).1.1, (newS G u j).1.2, letC j, (newS G u j).2], true) ([0, 0, 0, 0], false)) := by
  obtain ⟨c1, c2⟩ := letC_ok j hj
  have e1 : impl_go1 k [rd [u.1.1, u.1.2, 0, u.2] 0, rd [u.1.1, u.1.2, 0, u.2] 1] (letC j) = some [(nbr u.1 j).1, (nbr u.1 j).2] := by
    have h1 := impl_go k u.1 c1 (by rw [c2]; omega)
    have h2 : nextV u.1 (letC j) = nbr u.1 j := by unfold nextV nbr; rw [c2, Int.toNat_natCast]
    rw [h2] at h1
    exact h1
  have e2 : impl_Lawn_open k a [rd [(nbr u.1 j).1, (nbr u.1 j).2] 0, rd [(nbr u.1 j).1, (nbr u.1 j).2] 1] = some (openP a (nbr u.1 j)) := impl_openP k v.toLawnS _
  have e3 : hasK (ents G 0) [rd [(nbr u.1 j).1, (nbr u.1 j).2] 0, rd [(nbr u.1 j).1, (nbr u.1 j).2] 1] = (G.any fun q => q == nbr u.1 j) := ents_has G 0 _
  unfold impl_Lawn_next
  rw [e1, Option.bind_some, e2, Option.bind_some, e3]
  cases ho : openP a (nbr u.1 j) with
  | false => rfl
  | true =>
    simp only [Bool.not_true, cond_false, cond_true]
    cases hg : (G.any fun q => q == nbr u.1 j) with
    | false =>
      have hb : (newS G u j).2 = u.2 := by
        show orV u.2 (bitV G 0 (nbr u.1 j)) = u.2
        rw [bitV_none G 0 _ hg, orV_zero hu.2]
      rw [hb]
      rfl
    | true =>
      obtain ⟨t, _, t2, t3, t4⟩ := ents_look G 0 (nbr u.1 j) hg
      have t3 : lookK (0 : Int) (ents G 0) [rd [(nbr u.1 j).1, (nbr u.1 j).2] 0, rd [(nbr u.1 j).1, (nbr u.1 j).2] 1] = (t : Int) := t3
      rw [t3, bT (p := (0 : Int) ≤ (t : Int)) (by omega), Int.toNat_natCast, (pow_small t (by omega)).1, ← t4]
      rfl

theorem eqL4 (s t : Sg) : eqL [s.1.1, s.1.2, 0, s.2] [t.1.1, t.1.2, 0, t.2] = (t == s) := by
  rw [Bool.eq_iff_iff, beq_iff_eq]
  obtain ⟨⟨x, y⟩, m⟩ := s
  obtain ⟨⟨x', y'⟩, m'⟩ := t
  simp only [eqL, Bool.and_eq_true, beq_iff_eq, Bool.and_true, Prod.mk.injEq]
  constructor
  · rintro ⟨h1, h2, _, h3⟩; exact ⟨⟨h1.symm, h2.symm⟩, h3.symm⟩
  · rintro ⟨⟨h1, h2⟩, h3⟩; exact ⟨h1.symm, h2.symm, trivial, h3.symm⟩

theorem waysQ_has (Q : Qu) (s : Sg) : hasK (waysQ Q) [s.1.1, s.1.2, 0, s.2] = hasS Q s := by
  induction Q with
  | nil => rfl
  | cons e r ih =>
    show (eqL [s.1.1, s.1.2, 0, s.2] [e.1.1.1, e.1.1.2, 0, e.1.2] || hasK (waysQ r) [s.1.1, s.1.2, 0, s.2]) = ((e.1 == s) || hasS r s)
    rw [eqL4, ih]

theorem waysQ_look {Q : Qu} (hn : (Q.map fun e => e.1).Nodup) {s : Sg} {way : ByteArray} (hm : (s, way) ∈ Q) : lookK ByteArray.empty (waysQ Q) [s.1.1, s.1.2, 0, s.2] = way := by
  induction Q with
  | nil => cases hm
  | cons e r ih =>
    show cond (eqL [s.1.1, s.1.2, 0, s.2] [e.1.1.1, e.1.1.2, 0, e.1.2]) e.2 (lookK ByteArray.empty (waysQ r) [s.1.1, s.1.2, 0, s.2]) = way
    rw [List.map_cons, List.nodup_cons] at hn
    rw [eqL4]
    rcases List.mem_cons.1 hm with h | h
    · subst h
      simp
    · have : (e.1 == s) = false := by
        rw [beq_eq_false_iff_ne]
        intro q
        exact hn.1 (List.mem_map.2 ⟨(s, way), h, q.symm⟩)
      rw [this]
      exact ih hn.2 h

theorem waitQ_append (Q R : Qu) : waitQ (Q ++ R) = waitQ Q ++ waitQ R := by
  induction Q with
  | nil => rfl
  | cons e r ih => rw [List.cons_append, waitQ, waitQ, ih]; rfl

theorem waitQ_length (Q : Qu) : (waitQ Q).length = Q.length * 4 := by
  induction Q with
  | nil => rfl
  | cons e r ih => rw [waitQ, List.length_cons, List.length_cons, List.length_cons, List.length_cons, ih, List.length_cons]; omega

theorem impl_step {R : Type} (k : Nat) (K1 : Int → (List Int) → (List (List Int × Int)) → (List (List Int × ByteArray)) → (List Int) → Option R) (rec : Int → Int → (List Int) → (List (List Int × Int)) → (List (List Int × ByteArray)) → (List Int) → (List Int) → Option R)
    {a : List Int} {w h : Nat} (v : LawnV a w h) {G : List (Int × Int)} (hG : G.length ≤ 9) {u : Sg} (hu : RngS u) {way : ByteArray} {Q : Qu} (hq : QI Q) (hm : (u, way) ∈ Q) (all : Int) {i : Nat} (hi : i ≤ Q.length) {j : Nat} (hj : j < 4) :
    impl_ShortestWhole_s0 k K1 rec all (j : Int) a (ents G 0) (waysQ Q) (waitQ (Q.drop i)) [u.1.1, u.1.2, 0, u.2] = rec all ((j + 1 : Nat) : Int) a (ents G 0) (waysQ (visW a G u way Q j)) (waitQ ((visW a G u way Q j).drop i)) [u.1.1, u.1.2, 0, u.2] := by
  have hlen := hq.len
  have hw := hq.sz _ hm
  simp only at hw
  have e1 : impl_Lawn_next k a [rd [u.1.1, u.1.2, 0, u.2] 0, rd [u.1.1, u.1.2, 0, u.2] 1, rd [u.1.1, u.1.2, 0, u.2] 2, rd [u.1.1, u.1.2, 0, u.2] 3] (((ByteArray.mk #[78, 87, 69, 83]).data.toList.getD ((j : Int)).toNat 0).toNat : Int) (ents G 0) = some (cond (openP a (nbr u.1 j)) ([(newS G u j).1.1, (newS G u j).1.2, letC j, (newS G u j).2], true) ([0, 0, 0, 0], false)) := impl_nextW k v hG hu hj
  unfold impl_ShortestWhole_s0
  rw [bT (p := (j : Int) < 4) (by omega), bT (p := (0 : Int) ≤ (j : Int)) (by omega), show (ByteArray.mk #[78, 87, 69, 83]).size = 4 from rfl, bT (p := (j : Int) < ((4 : Nat) : Int)) (by omega), e1, wrap64 (x := (j : Int) + 1) (by omega), show (j : Int) + 1 = ((j + 1 : Nat) : Int) by omega]
  simp only [cond_true, Bool.and_true, Option.bind_some]
  unfold visW
  cases ho : openP a (nbr u.1 j) with
  | false => rfl
  | true =>
    simp only [cond_true, Bool.true_and]
    have f1 : hasK (waysQ Q) [rd (List.set [(newS G u j).1.1, (newS G u j).1.2, letC j, (newS G u j).2] 2 0) 0, rd (List.set [(newS G u j).1.1, (newS G u j).1.2, letC j, (newS G u j).2] 2 0) 1, rd (List.set [(newS G u j).1.1, (newS G u j).1.2, letC j, (newS G u j).2] 2 0) 2, rd (List.set [(newS G u j).1.1, (newS G u j).1.2, letC j, (newS G u j).2] 2 0) 3] = hasS Q (newS G u j) := waysQ_has Q _
    rw [f1]
    cases hh : hasS Q (newS G u j) with
    | true => rfl
    | false =>
      simp only [Bool.not_false, cond_true]
      have f2 : lookK ByteArray.empty (waysQ Q) [rd [u.1.1, u.1.2, 0, u.2] 0, rd [u.1.1, u.1.2, 0, u.2] 1, rd [u.1.1, u.1.2, 0, u.2] 2, rd [u.1.1, u.1.2, 0, u.2] 3] = way := waysQ_look hq.nd hm
      have f3 : (ByteArray.mk #[78, 87, 69, 83]).extract ((j : Int)).toNat (((j + 1 : Nat) : Int)).toNat = letB j := rfl
      have f4 : ((((j + 1 : Nat) : Int).toNat : Nat) : Int) = ((j + 1 : Nat) : Int) := rfl
      have f5 : [rd (List.set [(newS G u j).1.1, (newS G u j).1.2, letC j, (newS G u j).2] 2 0) 0, rd (List.set [(newS G u j).1.1, (newS G u j).1.2, letC j, (newS G u j).2] 2 0) 1, rd (List.set [(newS G u j).1.1, (newS G u j).1.2, letC j, (newS G u j).2] 2 0) 2, rd (List.set [(newS G u j).1.1, (newS G u j).1.2, letC j, (newS G u j).2] 2 0) 3] = [(newS G u j).1.1, (newS G u j).1.2, 0, (newS G u j).2] := rfl
      have hnew : hasK (waysQ Q) [(newS G u j).1.1, (newS G u j).1.2, 0, (newS G u j).2] = false := (waysQ_has Q _).trans hh
      have hdl : (Q.drop i).length ≤ 51200 := by rw [List.length_drop]; omega
      rw [f2, f3, f4, f5, putK_new hnew, letB_size j hj, bT (p := (0 : Int) ≤ ((j + 1 : Nat) : Int)) (by omega), bT (p := ((j + 1 : Nat) : Int) ≤ ((4 : Nat) : Int)) (by omega), bT (p := (j : Int) ≤ ((j + 1 : Nat) : Int)) (by omega), bT (p := way.size + 1 ≤ bigLen) (by rw [bigLen_val]; omega), bT (p := (waitQ (Q.drop i)).length + 4 ≤ bigLen) (by rw [waitQ_length, bigLen_val]; omega)]
      simp only [Bool.and_true, cond_true]
      rw [List.drop_append_of_le_length hi, waitQ_append]
      have f7 : waysQ (Q ++ [(newS G u j, way ++ letB j)]) = waysQ Q ++ [([(newS G u j).1.1, (newS G u j).1.2, 0, (newS G u j).2], way ++ letB j)] := by simp [waysQ]
      rw [f7]
      rfl

theorem impl_inner {R : Type} (k : Nat) (K1 : Int → (List Int) → (List (List Int × Int)) → (List (List Int × ByteArray)) → (List Int) → Option R)
    {a : List Int} {w h : Nat} (v : LawnV a w h) {G : List (Int × Int)} (hG : G.length ≤ 9) {u : Sg} (hu : RngS u) {way : ByteArray} (all : Int) {i : Nat} : ∀ (m j f : Nat) (Q : Qu), j + m = 4 → m < f → QI Q → (u, way) ∈ Q → i ≤ Q.length →
    loopF (fun (rec : Int × Int × (List Int) × (List (List Int × Int)) × (List (List Int × ByteArray)) × (List Int) × (List Int) → Option R) (p : Int × Int × (List Int) × (List (List Int × Int)) × (List (List Int × ByteArray)) × (List Int) × (List Int)) => impl_ShortestWhole_s0 k K1 (fun h1 h2 h3 h4 h5 h6 h7 => rec (h1, h2, h3, h4, h5, h6, h7)) p.1 p.2.1 p.2.2.1 p.2.2.2.1 p.2.2.2.2.1 p.2.2.2.2.2.1 p.2.2.2.2.2.2) f (all, (j : Int), a, ents G 0, waysQ Q, waitQ (Q.drop i), [u.1.1, u.1.2, 0, u.2]) = K1 all a (ents G 0) (waysQ (visN a G u way m j Q)) (waitQ ((visN a G u way m j Q).drop i)) := by
  intro m
  induction m with
  | zero =>
    intro j f Q hj hf hq hm hi
    obtain ⟨f, rfl⟩ : ∃ g, f = g + 1 := ⟨f - 1, by omega⟩
    rw [loopF]
    dsimp only
    rw [impl_ShortestWhole_s0, bF (by omega)]
    rfl
  | succ m ih =>
    intro j f Q hj hf hq hm hi
    obtain ⟨f, rfl⟩ : ∃ g, f = g + 1 := ⟨f - 1, by omega⟩
    rw [loopF]
    dsimp only
    rw [impl_step k K1 _ v hG hu hq hm all hi (j := j) (by omega)]
    have hw := hq.sz _ hm
    obtain ⟨h1, h2⟩ := visW_QI v hG hu hq hw (j := j) (by omega)
    obtain ⟨r, hr⟩ := visW_grow a G u way Q j
    exact ih (j + 1) f _ (by omega) (by omega) h1 (by rw [hr]; exact List.mem_append_left _ hm) (by rw [hr, List.length_append]; omega)

end Go.Proofs.Ytkdpdmfkomnalaa.Tt
