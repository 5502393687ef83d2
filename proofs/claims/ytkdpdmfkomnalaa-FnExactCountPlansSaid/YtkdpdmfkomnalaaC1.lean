/- Plain laws: plans counted. -/
import Derived.Test.YtkdpdmfkomnalaaC0
set_option linter.unusedVariables false
set_option linter.unusedSimpArgs false
namespace Go.Proofs.Ytkdpdmfkomnalaa.Tt
open Go.Ev Go

def lowH (cut h : Int) : Int := if h < cut then h else cut

/-- How many plans there are for the growths that are left, from a height, with so many mows left. -/
def cntP (cut most : Int) : List Int → Int → Nat → Nat
  | [], _, m => if m = 0 then 1 else 0
  | g :: gs, h, m => (if h + g ≤ most then cntP cut most gs (h + g) m else 0) + (if lowH cut h + g ≤ most ∧ 0 < m then cntP cut most gs (lowH cut h + g) (m - 1) else 0)

theorem cntP_le (cut most : Int) : ∀ (gs : List Int) (h : Int) (m : Nat), cntP cut most gs h m ≤ 2 ^ gs.length := by
  intro gs
  induction gs with
  | nil => intro h m; unfold cntP; split <;> simp
  | cons g gs ih =>
    intro h m
    have h1 := ih (h + g) m
    have h2 := ih (lowH cut h + g) (m - 1)
    have h3 : 2 ^ (g :: gs).length = 2 ^ gs.length + 2 ^ gs.length := by rw [List.length_cons, Nat.pow_succ]; omega
    unfold cntP
    split <;> split <;> omega

/-! ## Sums over tables -/

def dot (f : Nat → Int) : List Int → Nat → Int
  | [], _ => 0
  | x :: r, j => x * f j + dot f r (j + 1)

def dotR (f : Nat → Nat → Int) : List (List Int) → Nat → Int
  | [], _ => 0
  | x :: r, k => dot (f k) x 0 + dotR f r (k + 1)

theorem dot_set (f : Nat → Int) : ∀ (l : List Int) (j i : Nat) (v : Int), i < l.length → dot f (l.set i v) j = dot f l j + (v - rd l i) * f (j + i) := by
  intro l
  induction l with
  | nil => intro j i v h; cases h
  | cons x r ih =>
    intro j i v h
    cases i with
    | zero =>
      have : rd (x :: r) 0 = x := rfl
      simp only [List.set_cons_zero, dot, this, Nat.add_zero, Int.sub_mul]
      omega
    | succ i =>
      have e : rd (x :: r) (i + 1) = rd r i := rfl
      simp only [List.set_cons_succ, dot, e]
      rw [ih (j + 1) i v (by simpa using h), show j + 1 + i = j + (i + 1) by omega]
      omega

theorem dotR_set (f : Nat → Nat → Int) : ∀ (W : List (List Int)) (k i : Nat) (r : List Int), i < W.length → dotR f (W.set i r) k = dotR f W k + (dot (f (k + i)) r 0 - dot (f (k + i)) (rdr W i) 0) := by
  intro W
  induction W with
  | nil => intro k i r h; cases h
  | cons x t ih =>
    intro k i r h
    cases i with
    | zero =>
      have : rdr (x :: t) 0 = x := rfl
      simp only [List.set_cons_zero, dotR, this, Nat.add_zero]
      omega
    | succ i =>
      have e : rdr (x :: t) (i + 1) = rdr t i := rfl
      simp only [List.set_cons_succ, dotR, e]
      rw [ih (k + 1) i r (by simpa using h), show k + 1 + i = k + (i + 1) by omega]
      omega

end Go.Proofs.Ytkdpdmfkomnalaa.Tt
