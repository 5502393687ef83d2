/- Plain laws: wear in its kinds. -/
import Derived.Test.YtmpcninebooaiaaY17
import Derived.Test.YtmpcninebooaiaaE6
set_option linter.unusedVariables false
set_option linter.unusedSimpArgs false
namespace Go.Proofs.Ytmpcninebooaiaa.Tt
open Go.Ev Go

theorem wearR_of {T : Tab} {t : TypeId} {s : List Int} (hs : InR T t s) (h5 : (T.at t).size = 5) (hk : (T.at t).ks = [.int .i8, .int .i8, .int .i8, .int .i8, .int .i8]) : WearR s := by
  obtain ⟨h1, h2⟩ := hs
  rw [h5] at h1 h2
  rw [hk] at h2
  refine ⟨h1, fun j hj => ?_⟩
  have h := h2 j hj
  have hkind : kindAt [SK.int .i8, SK.int .i8, SK.int .i8, SK.int .i8, SK.int .i8] j = .int .i8 := by
    match j, hj with
    | 0, _ => rfl
    | 1, _ => rfl
    | 2, _ => rfl
    | 3, _ => rfl
    | 4, _ => rfl
  rw [hkind] at h
  simp [inKind, Lit.wf, IntKind.min, IntKind.max, IntKind.signed, IntKind.bits] at h
  omega

end Go.Proofs.Ytmpcninebooaiaa.Tt
