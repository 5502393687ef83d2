/- Plain laws: the queue of the search for whole ways. -/
import Derived.Test.YtkdpdmfkomnalaaS1
set_option linter.unusedVariables false
set_option linter.unusedSimpArgs false
namespace Go.Proofs.Ytkdpdmfkomnalaa.Tt
open Go.Ev Go

/-- Where a mower is, and what it has mown. -/
abbrev Sg := (Int × Int) × Int
abbrev Qu := List (Sg × ByteArray)

def specQ (Q : Qu) : List (List Int × ByteArray) := Q.map fun e => ([e.1.1.1, e.1.1.2, e.1.2, 0], e.2)
def waysQ (Q : Qu) : List (List Int × ByteArray) := Q.map fun e => ([e.1.1.1, e.1.1.2, 0, e.1.2], e.2)
def waitQ : Qu → List Int
  | [] => []
  | e :: r => e.1.1.1 :: e.1.1.2 :: 0 :: e.1.2 :: waitQ r
def hasS (Q : Qu) (s : Sg) : Bool := Q.any fun e => e.1 == s
def nbr (p : Int × Int) (j : Nat) : Int × Int := (nbrs p.1 p.2).getD j (0, 0)
def newS (G : List (Int × Int)) (u : Sg) (j : Nat) : Sg := (nbr u.1 j, orV u.2 (bitV G 0 (nbr u.1 j)))
def visW (a : List Int) (G : List (Int × Int)) (u : Sg) (way : ByteArray) (Q : Qu) (j : Nat) : Qu :=
  cond (openP a (nbr u.1 j) && !(hasS Q (newS G u j))) (Q ++ [(newS G u j, way ++ letB j)]) Q
def visN (a : List Int) (G : List (Int × Int)) (u : Sg) (way : ByteArray) : Nat → Nat → Qu → Qu
  | 0, _, Q => Q
  | m + 1, j, Q => visN a G u way m (j + 1) (visW a G u way Q j)

def RngS (s : Sg) : Prop := ((0 ≤ s.1.1 ∧ s.1.1 < 10) ∧ (0 ≤ s.1.2 ∧ s.1.2 < 10)) ∧ (0 ≤ s.2 ∧ s.2 < 512)
def ixS (s : Sg) : Nat := s.1.2.toNat * 5120 + s.1.1.toNat * 512 + s.2.toNat

theorem ixS_lt {s : Sg} (h : RngS s) : ixS s < 51200 := by
  obtain ⟨⟨h1, h2⟩, h3⟩ := h
  unfold ixS
  omega

theorem ixS_inj {s t : Sg} (h : RngS s) (g : RngS t) (e : ixS s = ixS t) : s = t := by
  obtain ⟨⟨x, y⟩, m⟩ := s
  obtain ⟨⟨x', y'⟩, m'⟩ := t
  obtain ⟨⟨h1, h2⟩, h3⟩ := h
  obtain ⟨⟨g1, g2⟩, g3⟩ := g
  simp only [ixS] at *
  have e1 : y = y' := by omega
  have e2 : x = x' := by omega
  have e3 : m = m' := by omega
  subst e1 e2 e3
  rfl

structure QI (Q : Qu) : Prop where
  rng : ∀ e ∈ Q, RngS e.1
  nd : (Q.map fun e => e.1).Nodup
  sz : ∀ e ∈ Q, e.2.size ≤ Q.length

theorem nodup_lt : ∀ (n : Nat) (l : List Nat), l.Nodup → (∀ x ∈ l, x < n) → l.length ≤ n := by
  intro n
  induction n with
  | zero =>
    intro l _ h
    cases l with
    | nil => exact Nat.le_refl _
    | cons x r => exact absurd (h x (List.mem_cons_self ..)) (by omega)
  | succ n ih =>
    intro l hl h
    by_cases hm : n ∈ l
    · have h1 := ih (l.erase n) (hl.erase n) (fun x hx => by
        obtain ⟨h2, h3⟩ := (List.Nodup.mem_erase_iff hl).1 hx
        have := h x h3
        omega)
      rw [List.length_erase_of_mem hm] at h1
      omega
    · have := ih l hl (fun x hx => by
        have := h x hx
        have : x ≠ n := fun e => hm (e ▸ hx)
        omega)
      omega

theorem nodup_map {α β : Type} (f : α → β) : ∀ (l : List α), l.Nodup → (∀ x ∈ l, ∀ y ∈ l, f x = f y → x = y) → (l.map f).Nodup := by
  intro l
  induction l with
  | nil => intro _ _; simp
  | cons a r ih =>
    intro h hf
    rw [List.nodup_cons] at h
    rw [List.map_cons, List.nodup_cons]
    refine ⟨fun hm => ?_, ih h.2 fun x hx y hy => hf x (List.mem_cons_of_mem _ hx) y (List.mem_cons_of_mem _ hy)⟩
    obtain ⟨b, hb, e⟩ := List.mem_map.1 hm
    exact h.1 (hf b (List.mem_cons_of_mem _ hb) a (List.mem_cons_self ..) e ▸ hb)

theorem QI.len {Q : Qu} (h : QI Q) : Q.length ≤ 51200 := by
  have h1 := nodup_lt 51200 ((Q.map fun e => e.1).map ixS) (nodup_map ixS _ h.nd (fun x hx y hy e => by
    obtain ⟨p, hp, rfl⟩ := List.mem_map.1 hx
    obtain ⟨q, hq, rfl⟩ := List.mem_map.1 hy
    exact ixS_inj (h.rng p hp) (h.rng q hq) e)) (fun x hx => by
    obtain ⟨s, hs, rfl⟩ := List.mem_map.1 hx
    obtain ⟨p, hp, rfl⟩ := List.mem_map.1 hs
    exact ixS_lt (h.rng p hp))
  simpa using h1

structure Seen (S : List Int) (Q : Qu) : Prop where
  len : S.length = 51200
  at' : ∀ s, RngS s → (rd S (ixS s) != 0) = hasS Q s

theorem hasS_snoc (Q : Qu) (s t : Sg) (w : ByteArray) : hasS (Q ++ [(t, w)]) s = (hasS Q s || (t == s)) := by
  unfold hasS
  rw [List.any_append, List.any_cons, List.any_nil, Bool.or_false]

theorem Seen.add {S : List Int} {Q : Qu} (h : Seen S Q) {t : Sg} (ht : RngS t) (w : ByteArray) : Seen (List.set S (ixS t) 1) (Q ++ [(t, w)]) := by
  refine ⟨by rw [List.length_set]; exact h.len, fun s hs => ?_⟩
  rw [hasS_snoc, rd_set4]
  by_cases e : ixS t = ixS s
  · have e2 := ixS_inj ht hs e
    subst e2
    rw [if_pos ⟨rfl, by rw [h.len]; exact ixS_lt ht⟩]
    simp
  · rw [if_neg (fun q => e q.1), h.at' s hs]
    have : (t == s) = false := by
      rw [beq_eq_false_iff_ne]
      intro q
      exact e (q ▸ rfl)
    rw [this, Bool.or_false]

theorem QI.add {Q : Qu} (h : QI Q) {t : Sg} (ht : RngS t) {w : ByteArray} (hw : w.size ≤ Q.length + 1) (hn : hasS Q t = false) : QI (Q ++ [(t, w)]) := by
  refine ⟨fun e he => ?_, ?_, fun e he => ?_⟩
  · rcases List.mem_append.1 he with he | he
    · exact h.rng e he
    · simp only [List.mem_singleton] at he
      subst he
      exact ht
  · rw [List.map_append, List.nodup_append]
    refine ⟨h.nd, by simp, fun x hx y hy e => ?_⟩
    simp only [List.map_cons, List.map_nil, List.mem_singleton] at hy
    obtain ⟨p, hp, rfl⟩ := List.mem_map.1 hx
    have := List.any_eq_false.1 hn p hp
    exact this (by rw [beq_iff_eq]; exact e.trans hy)
  · rw [List.length_append]
    rcases List.mem_append.1 he with he | he
    · have := h.sz e he
      simp only [List.length_cons, List.length_nil]
      omega
    · simp only [List.mem_singleton] at he
      subst he
      exact hw

theorem nbr_range {p : Int × Int} (h : (0 ≤ p.1 ∧ p.1 < 10) ∧ (0 ≤ p.2 ∧ p.2 < 10)) {j : Nat} (hj : j < 4) : (-128 ≤ (nbr p j).1 ∧ (nbr p j).1 < 128) ∧ (-128 ≤ (nbr p j).2 ∧ (nbr p j).2 < 128) :=
  nbrs_range (by omega) (by omega) _ (getD_mem _ (0, 0) hj)

theorem newS_rng {a : List Int} {w h : Nat} (v : LawnV a w h) {G : List (Int × Int)} (hG : G.length ≤ 9) {u : Sg} (hu : RngS u) {j : Nat} (ho : openP a (nbr u.1 j) = true) : RngS (newS G u j) :=
  ⟨(open_in v ho).2, orV_range hu.2 (bitV_range G 0 _ (by omega))⟩

theorem visW_QI {a : List Int} {w h : Nat} (v : LawnV a w h) {G : List (Int × Int)} (hG : G.length ≤ 9) {u : Sg} (hu : RngS u) {way : ByteArray} {Q : Qu} (hq : QI Q) (hw : way.size ≤ Q.length) {j : Nat} (hj : j < 4) : QI (visW a G u way Q j) ∧ way.size ≤ (visW a G u way Q j).length := by
  unfold visW
  cases ho : openP a (nbr u.1 j) with
  | false => exact ⟨hq, hw⟩
  | true =>
    cases hs : hasS Q (newS G u j) with
    | true => exact ⟨hq, hw⟩
    | false =>
      refine ⟨hq.add (newS_rng v hG hu ho) ?_ hs, ?_⟩
      · rw [ByteArray.size_append, letB_size j hj]
        omega
      · simp only [Bool.not_false, Bool.and_true, cond_true, List.length_append, List.length_cons, List.length_nil]
        omega

theorem visW_grow (a : List Int) (G : List (Int × Int)) (u : Sg) (way : ByteArray) (Q : Qu) (j : Nat) : ∃ r, visW a G u way Q j = Q ++ r := by
  unfold visW
  cases (openP a (nbr u.1 j) && !(hasS Q (newS G u j))) with
  | false => exact ⟨[], by simp⟩
  | true => exact ⟨_, rfl⟩

/-! ## The reference -/

theorem specQ_len (Q : Qu) : (specQ Q).length = Q.length := by simp [specQ]

theorem spec_step {R : Type} (k : Nat) (K1 : Int → Int → (List Int) → (List Int) → (List Int) → (List (List Int × ByteArray)) → Option R) (rec : Int → Int → Int → (List Int) → (List Int) → (List Int) → (List (List Int × ByteArray)) → Int → Int → Int → ByteArray → Option R)
    {a : List Int} {w h : Nat} (v : LawnV a w h) {G : List (Int × Int)} (hG : G.length ≤ 9) {u : Sg} (hu : RngS u) {way : ByteArray} {Q : Qu} (hq : QI Q) (hw : way.size ≤ Q.length) {S : List Int} (hS : Seen S Q) (all i : Int) {j : Nat} (hj : j < 4) (hk : 10 < k) :
    ∃ S', spec_ShortestWhole_s0 k K1 rec all i (j : Int) a (fl G) S (specQ Q) u.1.1 u.1.2 u.2 way = rec all i ((j + 1 : Nat) : Int) a (fl G) S' (specQ (visW a G u way Q j)) u.1.1 u.1.2 u.2 way ∧ Seen S' (visW a G u way Q j) := by
  have hn := nbr_range hu.1 hj
  have hlen := hq.len
  have e1 : spec_l02Next k [u.1.1, u.1.2] (j : Int) = some [(nbr u.1 j).1, (nbr u.1 j).2] := next_at k u.1 j hj
  have e2 : spec_l02Free k a [rd [(nbr u.1 j).1, (nbr u.1 j).2] 0, rd [(nbr u.1 j).1, (nbr u.1 j).2] 1] = some (openP a (nbr u.1 j)) := spec_freeH k v.toLawnS hn.1 hn.2
  have e3 : spec_l02Bit k (fl G) [rd [(nbr u.1 j).1, (nbr u.1 j).2] 0, rd [(nbr u.1 j).1, (nbr u.1 j).2] 1] = some (bitV G 0 (nbr u.1 j)) := spec_bit k hG _ hk
  unfold spec_ShortestWhole_s0
  rw [bT (p := (j : Int) < 4) (by omega), cond_true, e1, Option.bind_some, e2, Option.bind_some, wrap64 (x := (j : Int) + 1) (by omega), show (j : Int) + 1 = ((j + 1 : Nat) : Int) by omega, e3]
  unfold visW
  cases ho : openP a (nbr u.1 j) with
  | false =>
    simp only [Bool.not_false, cond_true, Bool.false_and, cond_false]
    exact ⟨S, rfl, hS⟩
  | true =>
    have hr := newS_rng v hG hu ho
    simp only [Bool.not_true, cond_false, Option.bind_some]
    have f0 : rd [(nbr u.1 j).1, (nbr u.1 j).2] 0 = (nbr u.1 j).1 := rfl
    have f1 : rd [(nbr u.1 j).1, (nbr u.1 j).2] 1 = (nbr u.1 j).2 := rfl
    have f2 : IntKind.wrap .i64 ((BitVec.ofInt (IntKind.bits .i64) u.2 ||| BitVec.ofInt (IntKind.bits .i64) (bitV G 0 (nbr u.1 j))).toNat : Int) = (newS G u j).2 := rfl
    have f3 : (nbr u.1 j) = (newS G u j).1 := rfl
    rw [f0, f1, f2, f3]
    generalize hs : newS G u j = s at hr
    obtain ⟨⟨r1, r2⟩, r3⟩ := hr
    have f4 : 0 + s.1.2.toNat * 5120 + s.1.1.toNat * 512 + s.2.toNat * 1 = ixS s := by unfold ixS; omega
    rw [f4, bT (p := 0 ≤ s.1.2) r2.1, bT (p := s.1.2 < 10) r2.2, bT (p := 0 ≤ s.1.1) r1.1, bT (p := s.1.1 < 10) r1.2, bT (p := 0 ≤ s.2) r3.1, bT (p := s.2 < 512) r3.2, hS.at' s ⟨⟨r1, r2⟩, r3⟩]
    simp only [Bool.and_true, cond_true, Bool.true_and]
    cases hh : hasS Q s with
    | true =>
      simp only [cond_true, Bool.not_true, cond_false]
      exact ⟨S, rfl, hS⟩
    | false =>
      simp only [cond_false, Bool.not_false, cond_true]
      have f5 : (ByteArray.mk #[78, 87, 69, 83]).extract ((j : Int)).toNat (((j + 1 : Nat) : Int)).toNat = letB j := rfl
      have f8 : ((((j + 1 : Nat) : Int).toNat : Nat) : Int) = ((j + 1 : Nat) : Int) := rfl
      have f6 : (ByteArray.mk #[78, 87, 69, 83]).size = 4 := rfl
      rw [f5, f6, f8, letB_size j hj, specQ_len, bT (p := (0 : Int) ≤ ((j + 1 : Nat) : Int)) (by omega), bT (p := ((j + 1 : Nat) : Int) ≤ ((4 : Nat) : Int)) (by omega), bT (p := (0 : Int) ≤ (j : Int)) (by omega), bT (p := (j : Int) ≤ ((j + 1 : Nat) : Int)) (by omega), bT (p := way.size + 1 ≤ bigLen) (by rw [bigLen_val]; omega), bT (p := Q.length * 4 + _ ≤ bigLen) (by rw [bigLen_val]; simp only [List.length_cons, List.length_nil]; omega)]
      simp only [Bool.and_true, cond_true]
      refine ⟨List.set S (ixS s) 1, ?_, hS.add ⟨⟨r1, r2⟩, r3⟩ _⟩
      have f7 : specQ (Q ++ [(s, way ++ letB j)]) = specQ Q ++ [([s.1.1, s.1.2, s.2, 0], way ++ letB j)] := by simp [specQ]
      rw [f7]

end Go.Proofs.Ytkdpdmfkomnalaa.Tt
