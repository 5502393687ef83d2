/- Plain laws: parts of a lawn, by search. -/
import Derived.Test.YtkdpdmfkomnalaaG0
set_option linter.unusedVariables false
set_option linter.unusedSimpArgs false
namespace Go.Proofs.Ytkdpdmfkomnalaa.Tt
open Go.Ev Go

abbrev Cell := Int × Int

section
variable (g : Cell → Bool) (nb : Cell → List Cell)

def visQ (Q : List Cell) (c : Cell) : List Cell := cond (g c && !(decide (c ∈ Q))) (Q ++ [c]) Q
def stepQ (Q : List Cell) (u : Cell) : List Cell := (nb u).foldl (visQ g) Q
def bfs : Nat → Nat → List Cell → List Cell
  | 0, _, Q => Q
  | n + 1, i, Q => if i < Q.length then bfs n (i + 1) (stepQ g nb Q (Q.getD i (0, 0))) else Q

theorem visQ_mem {Q : List Cell} {c x : Cell} : x ∈ visQ g Q c ↔ x ∈ Q ∨ (x = c ∧ g c = true) := by
  unfold visQ
  cases hg : g c with
  | false => simp
  | true =>
    by_cases h : c ∈ Q
    · simp only [h, decide_true, Bool.not_true, Bool.and_false, cond_false]
      constructor
      · exact .inl
      · rintro (h' | ⟨rfl, _⟩)
        · exact h'
        · exact h
    · simp [h]

theorem visL_mem {L : List Cell} : ∀ {Q : List Cell} {x : Cell}, x ∈ L.foldl (visQ g) Q ↔ x ∈ Q ∨ (x ∈ L ∧ g x = true) := by
  induction L with
  | nil => intro Q x; simp
  | cons c L ih =>
    intro Q x
    rw [List.foldl_cons, ih, visQ_mem]
    constructor
    · rintro ((h | ⟨rfl, h⟩) | ⟨h1, h2⟩)
      · exact .inl h
      · exact .inr ⟨by simp, h⟩
      · exact .inr ⟨by simp [h1], h2⟩
    · rintro (h | ⟨h1, h2⟩)
      · exact .inl (.inl h)
      · rcases List.mem_cons.1 h1 with rfl | h1
        · exact .inl (.inr ⟨rfl, h2⟩)
        · exact .inr ⟨h1, h2⟩

/-- A queue in order. -/
structure Qok (Q : List Cell) : Prop where
  nd : Q.Nodup
  all : ∀ x ∈ Q, g x = true

theorem visQ_ok {Q : List Cell} (h : Qok g Q) (c : Cell) : Qok g (visQ g Q c) ∧ ∃ r, visQ g Q c = Q ++ r := by
  unfold visQ
  cases hg : g c with
  | false => exact ⟨h, [], by simp⟩
  | true =>
    by_cases hc : c ∈ Q
    · simp only [hc, decide_true, Bool.not_true, Bool.and_false, cond_false]
      exact ⟨h, [], by simp⟩
    · simp only [hc, decide_false, Bool.not_false, Bool.and_true, cond_true]
      refine ⟨⟨List.nodup_append.2 ⟨h.nd, by simp, fun a ha b hb => ?_⟩, fun x hx => ?_⟩, [c], rfl⟩
      · rw [List.mem_singleton] at hb
        subst hb
        intro e
        subst e
        exact hc ha
      · rcases List.mem_append.1 hx with hx | hx
        · exact h.all x hx
        · rw [List.mem_singleton] at hx; rw [hx]; exact hg

theorem visL_ok : ∀ (L : List Cell) {Q : List Cell}, Qok g Q → Qok g (L.foldl (visQ g) Q) ∧ ∃ r, L.foldl (visQ g) Q = Q ++ r := by
  intro L
  induction L with
  | nil => intro Q h; exact ⟨h, [], by simp⟩
  | cons c L ih =>
    intro Q h
    obtain ⟨h1, r1, e1⟩ := visQ_ok g h c
    obtain ⟨h2, r2, e2⟩ := ih h1
    exact ⟨h2, r1 ++ r2, by rw [List.foldl_cons, e2, e1, List.append_assoc]⟩

theorem getD_app' {Q r : List Cell} {i : Nat} (h : i < Q.length) : (Q ++ r).getD i (0, 0) = Q.getD i (0, 0) := by
  simp [List.getD_eq_getElem?_getD, List.getElem?_append_left h]

/-- The search's end: nothing is left to be visited. -/
theorem bfs_spec {U : List Cell} (hU : ∀ x, g x = true → x ∈ U) : ∀ (n i : Nat) (Q : List Cell), Qok g Q → i ≤ Q.length → (∀ j, j < i → ∀ c ∈ nb (Q.getD j (0, 0)), g c = true → c ∈ Q) → U.length < n + i →
    Qok g (bfs g nb n i Q) ∧ (∃ r, bfs g nb n i Q = Q ++ r) ∧ ∀ u ∈ bfs g nb n i Q, ∀ c ∈ nb u, g c = true → c ∈ bfs g nb n i Q := by
  intro n
  have small : ∀ {Q : List Cell}, Qok g Q → Q.length ≤ U.length := fun h => h.nd.length_le_of_subset fun x hx => hU x (h.all x hx)
  induction n with
  | zero =>
    intro i Q h hi hc hn
    have := small h
    omega
  | succ n ih =>
    intro i Q h hi hc hn
    unfold bfs
    by_cases hlt : i < Q.length
    · rw [if_pos hlt]
      obtain ⟨h1, r1, e1⟩ := visL_ok g (nb (Q.getD i (0, 0))) h
      have e1' : stepQ g nb Q (Q.getD i (0, 0)) = Q ++ r1 := e1
      have hlen : i + 1 ≤ (stepQ g nb Q (Q.getD i (0, 0))).length := by rw [e1', List.length_append]; omega
      obtain ⟨q1, ⟨r2, e2⟩, q3⟩ := ih (i + 1) (stepQ g nb Q (Q.getD i (0, 0))) h1 hlen (by
        intro j hj c hcm hg
        rw [e1', getD_app' (by omega)] at hcm
        show c ∈ (nb (Q.getD i (0, 0))).foldl (visQ g) Q
        rw [visL_mem]
        by_cases ej : j = i
        · subst ej; exact .inr ⟨hcm, hg⟩
        · exact .inl (hc j (by omega) c hcm hg)) (by omega)
      exact ⟨q1, ⟨r1 ++ r2, by rw [e2, e1', List.append_assoc]⟩, q3⟩
    · rw [if_neg hlt]
      refine ⟨h, ⟨[], by simp⟩, fun u hu c hcm hg => ?_⟩
      obtain ⟨j, hj, rfl⟩ := List.mem_iff_getElem.1 hu
      refine hc j (by omega) c ?_ hg
      rw [List.getD_eq_getElem?_getD, List.getElem?_eq_getElem hj]
      exact hcm

/-! ## All parts -/

def Closed (S : List Cell) : Prop := ∀ u ∈ S, ∀ c ∈ nb u, g c = true → c ∈ S

def comp (n : Nat) (c : Cell) : List Cell := bfs g nb n 0 [c]

def stepO (n : Nat) (s : List Cell × List (List Cell)) (c : Cell) : List Cell × List (List Cell) := cond (g c && !(decide (c ∈ s.1))) (s.1 ++ comp g nb n c, s.2 ++ [comp g nb n c]) s

theorem comp_spec {U : List Cell} (hU : ∀ x, g x = true → x ∈ U) {n : Nat} (hn : U.length < n) {c : Cell} (hg : g c = true) : Qok g (comp g nb n c) ∧ c ∈ comp g nb n c ∧ Closed g nb (comp g nb n c) := by
  obtain ⟨h1, ⟨r, e⟩, h3⟩ := bfs_spec g nb hU n 0 [c] ⟨by simp, by simpa using hg⟩ (by simp) (fun j hj => by omega) (by omega)
  exact ⟨h1, by unfold comp; rw [e]; simp, h3⟩

theorem stepO_ok {U : List Cell} (hU : ∀ x, g x = true → x ∈ U) {n : Nat} (hn : U.length < n) {s : List Cell × List (List Cell)} (hs : Closed g nb s.1) (c : Cell) : Closed g nb (stepO g nb n s c).1 := by
  unfold stepO
  cases hg : g c with
  | false => exact hs
  | true =>
    by_cases hc : c ∈ s.1
    · simp only [hc, decide_true, Bool.not_true, Bool.and_false, cond_false]; exact hs
    · simp only [hc, decide_false, Bool.not_false, Bool.and_true, cond_true]
      obtain ⟨_, _, h3⟩ := comp_spec g nb hU hn hg
      intro u hu x hx hgx
      rcases List.mem_append.1 hu with hu | hu
      · exact List.mem_append_left _ (hs u hu x hx hgx)
      · exact List.mem_append_right _ (h3 u hu x hx hgx)

end

/-! ## Maps of cells -/

def MapOf (es : List (List Int × Int)) (S : Cell → Bool) : Prop := ∀ c : Cell, (lookK (0 : Int) es [c.1, c.2] != 0) = S c

theorem eqL_pair (a b c d : Int) : eqL [a, b] [c, d] = decide ((a, b) = (c, d)) := by
  simp only [eqL, Bool.and_true]
  by_cases h1 : a = c <;> by_cases h2 : b = d <;> simp [h1, h2]

theorem lookK_putK {q q' : List Int} (v d : Int) : ∀ es : List (List Int × Int), lookK d (putK es q v) q' = cond (eqL q' q) v (lookK d es q') := by
  have hrefl : ∀ l : List Int, eqL l l = true := by
    intro l
    induction l with
    | nil => rfl
    | cons x l ih => simp [eqL, ih]
  have heq : ∀ {x y : List Int}, eqL x y = true → x = y := by
    intro x
    induction x with
    | nil => intro y h; cases y with
      | nil => rfl
      | cons _ _ => cases h
    | cons a x ih => intro y h; cases y with
      | nil => cases h
      | cons b y => simp only [eqL, Bool.and_eq_true, beq_iff_eq] at h; rw [h.1, ih h.2]
  intro es
  induction es with
  | nil => simp only [putK, lookK]
  | cons e r ih =>
    obtain ⟨k, x⟩ := e
    simp only [putK]
    cases hk : eqL q k with
    | true =>
      have := heq hk
      subst this
      simp only [cond_true, lookK]
      cases eqL q' q <;> rfl
    | false =>
      simp only [cond_false, lookK]
      cases hq : eqL q' k with
      | true =>
        have := heq hq
        subst this
        have : eqL q' q = false := by
          cases h : eqL q' q with
          | false => rfl
          | true => have := heq h; subst this; rw [hrefl] at hk; cases hk
        rw [this]
        rfl
      | false => simp only [cond_false]; exact ih

theorem mapOf_nil : MapOf [] fun _ => false := fun _ => rfl

theorem mapOf_put {es : List (List Int × Int)} {S : Cell → Bool} (h : MapOf es S) (c : Cell) : MapOf (putK es [c.1, c.2] 1) fun x => decide (x = c) || S x := by
  intro x
  have hd : decide ((x.1, x.2) = (c.1, c.2)) = decide (x = c) := rfl
  show (lookK (0 : Int) (putK es [c.1, c.2] 1) [x.1, x.2] != 0) = (decide (x = c) || S x)
  rw [lookK_putK, eqL_pair, hd]
  cases decide (x = c) with
  | true => rfl
  | false => exact h x

theorem mapOf_congr {es : List (List Int × Int)} {S S' : Cell → Bool} (h : MapOf es S) (he : ∀ x, S x = S' x) : MapOf es S' := fun x => (h x).trans (he x)

end Go.Proofs.Ytkdpdmfkomnalaa.Tt
