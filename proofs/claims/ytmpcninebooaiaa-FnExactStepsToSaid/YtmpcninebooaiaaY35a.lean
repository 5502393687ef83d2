/- Plain laws: how long filtered lists are. -/
import Derived.Test.YtmpcninebooaiaaY1
set_option linter.unusedVariables false
set_option linter.unusedSimpArgs false
namespace Go.Proofs.Ytmpcninebooaiaa.Tt
open Go.Ev Go

theorem filter_le {α : Type} (q q' : α → Bool) : ∀ (L : List α), (∀ x ∈ L, q' x = true → q x = true) → (L.filter q').length ≤ (L.filter q).length := by
  intro L
  induction L with
  | nil => intro _; simp
  | cons y r ih =>
    intro h1
    have := ih fun x hx => h1 x (by simp [hx])
    have hy := h1 y (by simp)
    simp only [List.filter_cons]
    cases e1 : q' y with
    | true => rw [hy e1]; simpa using this
    | false => cases q y <;> simp <;> omega

theorem filter_lt {α : Type} (q q' : α → Bool) : ∀ (L : List α), (∀ x ∈ L, q' x = true → q x = true) → (∃ x ∈ L, q x = true ∧ q' x = false) → (L.filter q').length < (L.filter q).length := by
  intro L
  induction L with
  | nil => intro _ h; obtain ⟨x, hx, _⟩ := h; simp at hx
  | cons p r ih =>
    intro h1 h2
    have hle := filter_le q q' r fun x hx => h1 x (by simp [hx])
    simp only [List.filter_cons]
    obtain ⟨x, hx, g1, g2⟩ := h2
    rcases List.mem_cons.1 hx with rfl | hx
    · rw [g1, g2]
      simp
      omega
    · have := ih (fun x hx => h1 x (by simp [hx])) ⟨x, hx, g1, g2⟩
      have hp := h1 p (by simp)
      cases e1 : q' p with
      | true => rw [hp e1]; simpa using this
      | false => cases q p <;> simp <;> omega

end Go.Proofs.Ytmpcninebooaiaa.Tt
