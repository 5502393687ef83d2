/- Plain laws: slices of rows of cells in their kinds. -/
import Derived.Test.YtkdpdmfkomnalaaY44
import Derived.Test.YtkdpdmfkomnalaaZ1
set_option linter.unusedVariables false
set_option linter.unusedSimpArgs false
namespace Go.Proofs.Ytkdpdmfkomnalaa.Tt
open Go.Ev Go

theorem rowsR_of {T : Tab} {e : TypeId} {xss : List (List Int)} {ns : Nat → Nat} (hc : xss.length ≤ 1048576) (hr : ∀ i, i < xss.length → ns i ≤ 1048576 ∧ (rdr xss i).length = ns i * (T.at e).size ∧ ∀ j, j < (rdr xss i).length → inKind (kindAt (T.at e).ks j) (rd (rdr xss i) j))
    (hs : (T.at e).size = 2) (hk : (T.at e).ks = [.int .i8, .int .i8]) : ∃ Ls : List Cs, xss = Ls.map fl ∧ RowsR Ls := by
  rw [hs, hk] at hr
  have each : ∀ i : Nat, ∃ L : Cs, i < xss.length → rdr xss i = fl L ∧ L.length ≤ 1048576 ∧ ∀ p ∈ L, (-128 ≤ p.1 ∧ p.1 < 128) ∧ (-128 ≤ p.2 ∧ p.2 < 128) := by
    intro i
    by_cases hi : i < xss.length
    · obtain ⟨h1, h2, h3⟩ := hr i hi
      obtain ⟨L, e1, e2⟩ := fl_of _ _ h2
      refine ⟨L, fun _ => ⟨e1, by omega, fun p hp => ?_⟩⟩
      obtain ⟨j, j1, j2, j3⟩ := rd_mem_fl L p hp
      rw [e1] at h3
      have q1 := in8 (by have := h3 j (by omega); rw [kind_two] at this; exact this)
      have q2 := in8 (by have := h3 (j + 1) j1; rw [kind_two] at this; exact this)
      rw [j2] at q1
      rw [j3] at q2
      exact ⟨q1, q2⟩
    · exact ⟨[], fun h => absurd h hi⟩
  obtain ⟨f, hf⟩ := Classical.axiomOfChoice each
  refine ⟨(List.range xss.length).map f, ?_, ⟨by simpa using hc, fun L hL => ?_, fun L hL => ?_⟩⟩
  · apply List.ext_getElem?
    intro i
    by_cases hi : i < xss.length
    · have := (hf i hi).1
      unfold rdr at this
      rw [List.getD_eq_getElem?_getD, List.getElem?_eq_getElem hi] at this
      simp only [Option.getD_some] at this
      simp [hi, this]
    · rw [List.getElem?_eq_none (by omega), List.getElem?_eq_none (by simp; omega)]
  · simp only [List.mem_map, List.mem_range] at hL
    obtain ⟨i, hi, rfl⟩ := hL
    exact (hf i hi).2.1
  · simp only [List.mem_map, List.mem_range] at hL
    obtain ⟨i, hi, rfl⟩ := hL
    exact (hf i hi).2.2

end Go.Proofs.Ytkdpdmfkomnalaa.Tt
