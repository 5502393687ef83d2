/- Plain laws: the arguments of the law ShortestWhole. -/
import Derived.Test.YtkdpdmfkomnalaaS4
set_option linter.unusedVariables false
set_option linter.unusedSimpArgs false
namespace Go.Proofs.Ytkdpdmfkomnalaa.Tt
open Go.Ev Go

theorem lawnR_ofS {T : Tab} {t : TypeId} {a : List Int} (ha : InR T t a) (hs : (T.at t).size = 102) (hk : (T.at t).ks = [.int .i8, .int .i8] ++ List.replicate 100 (.int .u8)) : LawnR a := by
  obtain ⟨h1, h2⟩ := ha
  rw [hs] at h1 h2
  rw [hk] at h2
  refine ⟨h1, i8S (h2 0 (by omega)), i8S (h2 1 (by omega)), fun j hj => ?_⟩
  have h := h2 (2 + j) (by omega)
  have hk : kindAt ([SK.int .i8, SK.int .i8] ++ List.replicate 100 (SK.int .u8)) (2 + j) = .int .u8 := by
    rw [kindAt_lt (by rw [List.length_append, List.length_replicate]; show 2 + j < 2 + 100; omega), List.getD_eq_getElem?_getD, List.getElem?_append_right (by show 2 ≤ 2 + j; omega)]
    show ((List.replicate 100 (SK.int .u8))[2 + j - 2]?).getD .bool = _
    rw [List.getElem?_replicate, if_pos (by omega)]
    rfl
  rw [hk] at h
  exact u8S h

theorem whole_plain {T : Tab} {t u : TypeId} {a c : List Int} (ha : InR T t a) (hs : (T.at t).size = 102) (hk : (T.at t).ks = [.int .i8, .int .i8] ++ List.replicate 100 (.int .u8)) (hc : InR T u c) (hs2 : (T.at u).size = 2) (hk2 : (T.at u).ks = [.int .i8, .int .i8]) : ∃ k, laws_FnExactShortestWhole k a c = some true := by
  obtain ⟨h1, h2⟩ := hc
  rw [hs2] at h1 h2
  rw [hk2] at h2
  have hx := i8S (h2 0 (by omega))
  have hy := i8S (h2 1 (by omega))
  obtain ⟨x, y, rfl⟩ : ∃ x y, c = [x, y] := by
    match c, h1 with
    | [x, y], _ => exact ⟨x, y, rfl⟩
  exact whole_true (lawnR_ofS ha hs hk) (x, y) ⟨hx, hy⟩

end Go.Proofs.Ytkdpdmfkomnalaa.Tt
