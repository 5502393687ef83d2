/- Plain laws: the program counts plans. -/
import Derived.Test.YtkdpdmfkomnalaaC1
set_option linter.unusedVariables false
set_option linter.unusedSimpArgs false
namespace Go.Proofs.Ytkdpdmfkomnalaa.Tt
open Go.Ev Go

def growV (p : Int × Int) : Int := (p.1 / 10 + 1) * (p.2 / 10)
def DayOK (p : Int × Int) : Prop := (0 ≤ p.1 ∧ p.1 ≤ 50) ∧ (0 ≤ p.2 ∧ p.2 ≤ 40)

theorem growV_range {p : Int × Int} (h : DayOK p) : 0 ≤ growV p ∧ growV p ≤ 24 := by
  obtain ⟨⟨h1, h2⟩, h3, h4⟩ := h
  have a1 : 0 ≤ p.1 / 10 + 1 ∧ p.1 / 10 + 1 ≤ 6 := by omega
  have a2 : 0 ≤ p.2 / 10 ∧ p.2 / 10 ≤ 4 := by omega
  unfold growV
  refine ⟨Int.mul_nonneg a1.1 a2.1, ?_⟩
  have := Int.mul_le_mul a1.2 a2.2 a2.1 (by omega)
  omega

theorem impl_grow (k : Nat) {p : Int × Int} (h : DayOK p) : impl_Weather_grows k [p.1, p.2] = some (growV p) := by
  have hr := growV_range h
  obtain ⟨⟨h1, h2⟩, h3, h4⟩ := h
  unfold impl_Weather_grows
  simp only [show rd [p.1, p.2] 0 = p.1 from rfl, show rd [p.1, p.2] 1 = p.2 from rfl]
  rw [wrap64 (x := p.1) (by omega), wrap64 (x := p.2) (by omega), Int.tdiv_eq_ediv_of_nonneg h1, Int.tdiv_eq_ediv_of_nonneg h3, wrap64 (x := p.1 / 10) (by omega), wrap64 (x := p.1 / 10 + 1) (by omega), wrap64 (x := p.2 / 10) (by omega)]
  show some (IntKind.wrap .i64 (growV p)) = _
  rw [wrap64 (by omega)]

theorem spec_grow (k : Nat) {p : Int × Int} (h : DayOK p) : spec_l03Growth k [p.1, p.2] = some (growV p) := impl_grow k h

theorem eqL_refl : ∀ l : List Int, eqL l l = true := by
  intro l
  induction l with
  | nil => rfl
  | cons x l ih => simp [eqL, ih]

theorem eqL_eq : ∀ {x y : List Int}, eqL x y = true → x = y := by
  intro x
  induction x with
  | nil => intro y h; cases y with
    | nil => rfl
    | cons _ _ => cases h
  | cons a x ih => intro y h; cases y with
    | nil => cases h
    | cons b y => simp only [eqL, Bool.and_eq_true, beq_iff_eq] at h; rw [h.1, ih h.2]

theorem lookK_put {q q' : List Int} (v d : Int) : ∀ es : List (List Int × Int), lookK d (putK es q v) q' = cond (eqL q' q) v (lookK d es q') := by
  intro es
  induction es with
  | nil => simp only [putK, lookK]
  | cons e r ih =>
    obtain ⟨k, x⟩ := e
    simp only [putK]
    cases hk : eqL q k with
    | true =>
      have := eqL_eq hk
      subst this
      simp only [cond_true, lookK]
      cases eqL q' q <;> rfl
    | false =>
      simp only [cond_false, lookK]
      cases hq : eqL q' k with
      | true =>
        have := eqL_eq hq
        subst this
        have : eqL q' q = false := by
          cases h : eqL q' q with
          | false => rfl
          | true => have := eqL_eq h; subst this; rw [eqL_refl] at hk; cases hk
        rw [this]
        rfl
      | false => simp only [cond_false]; exact ih

theorem hasK_put {q q' : List Int} (v : Int) : ∀ es : List (List Int × Int), hasK (putK es q v) q' = true → q' = q ∨ hasK es q' = true := by
  intro es
  induction es with
  | nil =>
    intro h
    simp only [putK, hasK, Bool.or_false] at h
    exact .inl (eqL_eq h)
  | cons e r ih =>
    obtain ⟨k, x⟩ := e
    intro h
    simp only [putK] at h
    cases hk : eqL q k with
    | true =>
      rw [hk] at h
      simp only [cond_true, hasK] at h
      exact .inr (by simpa [hasK] using h)
    | false =>
      rw [hk] at h
      simp only [cond_false, hasK, Bool.or_eq_true] at h
      rcases h with h | h
      · exact .inr (by simp [hasK, h])
      · rcases ih h with h | h
        · exact .inl h
        · exact .inr (by simp [hasK, h])

def Memo (cut most : Int) (gs : List Int) (es : List (List Int × Int)) : Prop := ∀ (d : Nat) (h : Int) (m : Nat), hasK es [(d : Int), h, (m : Int)] = true → lookK (0 : Int) es [(d : Int), h, (m : Int)] = (cntP cut most (gs.drop d) h m : Int)

theorem memo_put {cut most : Int} {gs : List Int} {es : List (List Int × Int)} (he : Memo cut most gs es) (d : Nat) (h : Int) (m : Nat) {v : Int} (hv : v = (cntP cut most (gs.drop d) h m : Int)) : Memo cut most gs (putK es [(d : Int), h, (m : Int)] v) := by
  intro d' h' m' hh
  rw [lookK_put]
  cases hq : eqL [(d' : Int), h', (m' : Int)] [(d : Int), h, (m : Int)] with
  | true =>
    have e := eqL_eq hq
    simp only [List.cons.injEq] at e
    obtain ⟨e1, e2, e3, _⟩ := e
    have e1 : d' = d := by omega
    have e3 : m' = m := by omega
    subst e1 e2 e3
    exact hv
  | false =>
    rcases hasK_put v es hh with h1 | h1
    · rw [h1, eqL_refl] at hq; cases hq
    · exact he d' h' m' h1

theorem minI_low (cut h : Int) : minI h cut = lowH cut h := by
  unfold minI lowH
  split <;> split <;> omega

end Go.Proofs.Ytkdpdmfkomnalaa.Tt
