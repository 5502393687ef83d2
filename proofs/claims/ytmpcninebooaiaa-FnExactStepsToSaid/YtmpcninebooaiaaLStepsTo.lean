/- StepsTo: the law FnExactStepsTo's code returns true for all arguments that the given statement '..Said' lets in: proved over a verified evaluator of the code (E1 to E6, Tab, Sh, Pr) and a plain proof of what the code computes (Y texts). No condition but the given statement's own. -/
import Derived.Test.YtmpcninebooaiaaPr
import Derived.Test.YtmpcninebooaiaaE6
import Derived.Test.YtmpcninebooaiaaY37
import Derived.Test.YtmpcninebooaiaaZ1
import Derived.Test.YtmpcninebooaiaaRows
import Derived.WalkKit
import Derived.ProofKit
import Derived.JoinedCond
import Derived.JoinedOf
import Derived.Handed
set_option linter.unusedVariables false
set_option linter.unusedSimpArgs false
namespace Go.Proofs.Ytmpcninebooaiaa.stepsTo
open Go.Ev Go.ChangeShapes Go.WideShapes Go.ChangeAt Go.RowKit Go.Proofs.Ytmpcninebooaiaa.Tt
set_option linter.unusedVariables false

theorem own : ownKnob Try.prog.godebug = none := by kernel_rfl
theorem laid : laidOutB Try.prog = true := by kernel_rfl
theorem rec26 : Try.prog.readableRec 26 = true := by kernel_rfl
theorem row26 : (26 : TypeId) < Try.prog.types.size := of_decide_eq_true (by kernel_rfl)
theorem rec52 : Try.prog.readableRec 52 = true := by kernel_rfl
theorem row52 : (52 : TypeId) < Try.prog.types.size := of_decide_eq_true (by kernel_rfl)
theorem ks26 : (tab.at 26).ks = [(.int .i8), (.int .i8)] ++ List.replicate 100 (.int .u8) := by kernel_rfl
theorem size26 : (tab.at 26).size = 102 := by kernel_rfl
theorem ks52 : (tab.at 52).ks = [(.int .i8), (.int .i8)] := by kernel_rfl
theorem size52 : (tab.at 52).size = 2 := by kernel_rfl

theorem plain (a0 : List Int) (h0 : InR tab 26 a0) (a1 : List Int) (h1 : InR tab 52 a1) (a2 : List Int) (h2 : InR tab 52 a2) : ∃ k, laws_FnExactStepsTo k a0 a1 a2 = some true := by
  obtain ⟨x, y, rfl, hx, hy⟩ := cell_of h1 size52 ks52
  obtain ⟨z, u, rfl, hz, hu⟩ := cell_of h2 size52 ks52
  exact stepsTo_true (lawnR_of h0 size26 ks26) hx hy hz hu

set_option maxRecDepth 100000 in
theorem contract (H : Type) (enc : TypeId × Value → H) (W : World) (base : Nat) (args : Array Value) (ds gs : List (DataW H)) (before : List MemPlace)
    (hval : ∀ (j : Nat) t v, Try.f12.params[j]? = some t → args[j]? = some v → Value.okWide Try.prog W .any base t v)
    (hW : DataW.Whole enc Try.prog Try.f12.params.toList Rows.fnExactStepsToSpec.vars false W args.toList ds gs before) :
    Calls Try.prog 12 args W fun e W' => ∃ v, e = .returned v ∧ Rows.fnExactStepsToSpec.post enc Try.prog Try.f12 false true false false W args v W' := by
  have hW' := hW
  obtain ⟨p, q, hA0, hV, rfl, hfz, hnd⟩ := hW
  have hA : DataW.TrodAll enc Try.prog W 0 (fun _ => true) true Try.f12.params.toList args.toList ds p := hA0
  rw [Try.params12] at hA hval
  obtain ⟨v0, vs0, d0, ds0, p0, q0, hargs, rfl, rfl, g0, r0⟩ := trodAll_cons hA
  obtain ⟨v1, vs1, d1, ds1, p1, q1, rfl, rfl, rfl, g1, r1⟩ := trodAll_cons r0
  obtain ⟨v2, vs2, d2, ds2, p2, q2, rfl, rfl, rfl, g2, r2⟩ := trodAll_cons r1
  obtain ⟨rfl, rfl, rfl⟩ := trodAll_nil r2
  obtain rfl : args = #[v0, v1, v2] := by cases args; simp_all
  obtain ⟨rfl, rfl⟩ := trodVars_none hV
  obtain ⟨a0, ha0, hr0⟩ := in_agg (T := tab) tabOK eqTabOK (t := 26) (Fr := fun b => b < W.heap.size) (by kernel_rfl) (by kernel_rfl) (hval 0 26 v0 rfl rfl) g0
  obtain ⟨a1, ha1, hr1⟩ := in_agg (T := tab) tabOK eqTabOK (t := 52) (Fr := fun b => b < W.heap.size) (by kernel_rfl) (by kernel_rfl) (hval 1 52 v1 rfl rfl) g1
  obtain ⟨a2, ha2, hr2⟩ := in_agg (T := tab) tabOK eqTabOK (t := 52) (Fr := fun b => b < W.heap.size) (by kernel_rfl) (by kernel_rfl) (hval 2 52 v2 rfl rfl) g2
  obtain ⟨k, hplain⟩ := plain a0 hr0 a1 hr1 a2 hr2
  have hs : SoundRs Try.prog tab 12 false [.agg 26 a0, .agg 52 a1, .agg 52 a2] (.bool true, none) := by
    refine (laws_FnExactStepsTo_ok k).sound [.agg 26 a0, .agg 52 a1, .agg 52 a2] (.bool true, none) ?_
    show ((laws_FnExactStepsTo k a0 a1 a2).bind fun (b : Bool) => some ((fV .bool (enc_b b)).1, (none : Option (List Int)))) = _
    rw [hplain]
    rfl
  have hc := hs W (fun b => b < W.heap.size) #[v0, v1, v2] (fun b hb => hb) (.cons ha0 (.cons ha1 (.cons ha2 .nil)))
  refine hc.mono ?_
  rintro e W' ⟨u, rfl, hB, hR, _⟩
  cases hR with
  | flat _ _ hf =>
    simp only [FV] at hf
    subst hf
    refine ⟨_, rfl, post_true laid hW' rfl (by kernel_rfl) Try.underlying4 ?_ rfl rfl rfl hB⟩
    intro t ht
    rw [Try.params12] at ht
    simp only [List.mem_cons, List.not_mem_nil, or_false] at ht
    rcases ht with rfl | rfl | rfl
    · exact ⟨rec26, row26⟩
    · exact ⟨rec52, row52⟩
    · exact ⟨rec52, row52⟩

set_option maxRecDepth 100000 in
theorem lifted (os : Os) (started : os.Started) (H : Type) (enc : TypeId × Value → H) :
    ReturnsInHanded {} Try.checked os 12 .any (Rows.fnExactStepsToSpec.pre6 enc Try.prog Try.f12 Rows.fnExactStepsToRow.domain false) (Rows.fnExactStepsToSpec.post enc Try.prog Try.f12 false true false false) := by
  refine returnsInHanded_of_change (C := Try.checked) own started (by kernel_rfl) Try.func12
    (ChangeSpec.witness6 (enc := enc) (C := Try.checked) false ⟨#[], #[.agg ((zipV (tab.at 26).ks (zeros (tab.at 26))).toArray), .agg ((zipV (tab.at 52).ks (zeros (tab.at 52))).toArray), .agg ((zipV (tab.at 52).ks (zeros (tab.at 52))).toArray)], []⟩ 8 (by kernel_rfl) (by kernel_rfl) (by kernel_rfl) (by kernel_rfl)) ?_
  intro W base args ds gs before hval hW _ _
  exact contract H enc W base args ds gs before hval hW

theorem over : Rows.fnExactStepsToRow.holds Try.pinned (OpenSpec.ofChange Rows.fnExactStepsToSpec) :=
  OpenClaim.holds_of_wide 12 Try.f12 rfl rfl rfl rfl rfl rfl rfl ⟨rfl, rfl, rfl, rfl, rfl⟩ rfl rfl rfl rfl rfl (by kernel_rfl) Try.func12 (by kernel_rfl)
    (of_decide_eq_true (by kernel_rfl)) (by unfold Func.isWrapper; first | (rw [if_pos (by decide +kernel)]; kernel_rfl) | (rw [if_neg (by decide +kernel)]; exact ⟨rfl, rfl⟩))
    (fun os started H enc _ => lifted os started H enc)

theorem proved : Rows.FnExactStepsToSaid :=
  over
end Go.Proofs.Ytmpcninebooaiaa.stepsTo
