/- MoveSoil: the law FnExactMoveSoil's code returns true for all arguments that the given statement '..Said' lets in: proved over a verified evaluator of the code (E1 to E6, Tab, Sh, Pr) and a plain proof of what the code computes (Y texts). No condition but the given statement's own. -/
import Derived.Test.YtmpcninebooaiaaPr
import Derived.Test.YtmpcninebooaiaaE6
import Derived.Test.YtmpcninebooaiaaY42
import Derived.Test.YtmpcninebooaiaaZ1
import Derived.Test.YtmpcninebooaiaaZ3
import Derived.Test.YtmpcninebooaiaaZ6
import Derived.Test.YtmpcninebooaiaaRows
import Derived.WalkKit
import Derived.ProofKit
import Derived.JoinedCond
import Derived.JoinedOf
import Derived.Handed
set_option linter.unusedVariables false
set_option linter.unusedSimpArgs false
namespace Go.Proofs.Ytmpcninebooaiaa.moveSoil
open Go.Ev Go.ChangeShapes Go.WideShapes Go.ChangeAt Go.RowKit Go.Proofs.Ytmpcninebooaiaa.Tt
set_option linter.unusedVariables false

theorem own : ownKnob Try.prog.godebug = none := by kernel_rfl
theorem laid : laidOutB Try.prog = true := by kernel_rfl
theorem rec26 : Try.prog.readableRec 26 = true := by kernel_rfl
theorem row26 : (26 : TypeId) < Try.prog.types.size := of_decide_eq_true (by kernel_rfl)
theorem rec58 : Try.prog.readableRec 58 = true := by kernel_rfl
theorem row58 : (58 : TypeId) < Try.prog.types.size := of_decide_eq_true (by kernel_rfl)
theorem rec60 : Try.prog.readableRec 60 = true := by kernel_rfl
theorem row60 : (60 : TypeId) < Try.prog.types.size := of_decide_eq_true (by kernel_rfl)
theorem ks26 : (tab.at 26).ks = [(.int .i8), (.int .i8)] ++ List.replicate 100 (.int .u8) := by kernel_rfl
theorem size26 : (tab.at 26).size = 102 := by kernel_rfl
theorem ks58 : (tab.at 58).ks = List.replicate 100 (.int .i8) := by kernel_rfl
theorem size58 : (tab.at 58).size = 100 := by kernel_rfl
theorem ks60 : (tab.at 60).ks = [(.int .i8), (.int .i8), (.int .i8), (.int .i8), (.int .i8)] := by kernel_rfl
theorem size60 : (tab.at 60).size = 5 := by kernel_rfl

theorem plain (a0 : List Int) (h0 : InR tab 26 a0) (a1 : List Int) (h1 : InR tab 58 a1) (a2 : List Int) (h2 : InR tab 60 a2) : ∃ k, laws_FnExactMoveSoil k a0 a1 a2 = some true := by
  obtain ⟨x, y, z, u, n, rfl, hx, hy, hz, hu, hn⟩ := haul_of h2 size60 ks60
  exact moveSoil_true (lawnR_of h0 size26 ks26) (levR_of h1 size58 ks58) hx hy hz hu hn

set_option maxRecDepth 100000 in
theorem contract (H : Type) (enc : TypeId × Value → H) (W : World) (base : Nat) (args : Array Value) (ds gs : List (DataW H)) (before : List MemPlace)
    (hval : ∀ (j : Nat) t v, Try.f9.params[j]? = some t → args[j]? = some v → Value.okWide Try.prog W .any base t v)
    (hW : DataW.Whole enc Try.prog Try.f9.params.toList Rows.fnExactMoveSoilSpec.vars false W args.toList ds gs before) :
    Calls Try.prog 9 args W fun e W' => ∃ v, e = .returned v ∧ Rows.fnExactMoveSoilSpec.post enc Try.prog Try.f9 false true false false W args v W' := by
  have hW' := hW
  obtain ⟨p, q, hA0, hV, rfl, hfz, hnd⟩ := hW
  have hA : DataW.TrodAll enc Try.prog W 0 (fun _ => true) true Try.f9.params.toList args.toList ds p := hA0
  rw [Try.params9] at hA hval
  obtain ⟨v0, vs0, d0, ds0, p0, q0, hargs, rfl, rfl, g0, r0⟩ := trodAll_cons hA
  obtain ⟨v1, vs1, d1, ds1, p1, q1, rfl, rfl, rfl, g1, r1⟩ := trodAll_cons r0
  obtain ⟨v2, vs2, d2, ds2, p2, q2, rfl, rfl, rfl, g2, r2⟩ := trodAll_cons r1
  obtain ⟨rfl, rfl, rfl⟩ := trodAll_nil r2
  obtain rfl : args = #[v0, v1, v2] := by cases args; simp_all
  obtain ⟨rfl, rfl⟩ := trodVars_none hV
  obtain ⟨a0, ha0, hr0⟩ := in_agg (T := tab) tabOK eqTabOK (t := 26) (Fr := fun b => b < W.heap.size) (by kernel_rfl) (by kernel_rfl) (hval 0 26 v0 rfl rfl) g0
  obtain ⟨a1, ha1, hr1⟩ := in_agg (T := tab) tabOK eqTabOK (t := 58) (Fr := fun b => b < W.heap.size) (by kernel_rfl) (by kernel_rfl) (hval 1 58 v1 rfl rfl) g1
  obtain ⟨a2, ha2, hr2⟩ := in_agg (T := tab) tabOK eqTabOK (t := 60) (Fr := fun b => b < W.heap.size) (by kernel_rfl) (by kernel_rfl) (hval 2 60 v2 rfl rfl) g2
  obtain ⟨k, hplain⟩ := plain a0 hr0 a1 hr1 a2 hr2
  have hs : SoundRs Try.prog tab 9 false [.agg 26 a0, .agg 58 a1, .agg 60 a2] (.bool true, none) := by
    refine (laws_FnExactMoveSoil_ok k).sound [.agg 26 a0, .agg 58 a1, .agg 60 a2] (.bool true, none) ?_
    show ((laws_FnExactMoveSoil k a0 a1 a2).bind fun (b : Bool) => some ((fV .bool (enc_b b)).1, (none : Option (List Int)))) = _
    rw [hplain]
    rfl
  have hc := hs W (fun b => b < W.heap.size) #[v0, v1, v2] (fun b hb => hb) (.cons ha0 (.cons ha1 (.cons ha2 .nil)))
  refine hc.mono ?_
  rintro e W' ⟨u, rfl, hB, hR, _⟩
  cases hR with
  | flat _ _ hf =>
    simp only [FV] at hf
    subst hf
    refine ⟨_, rfl, post_true laid hW' rfl (by kernel_rfl) Try.underlying4 ?_ rfl rfl rfl hB⟩
    intro t ht
    rw [Try.params9] at ht
    simp only [List.mem_cons, List.not_mem_nil, or_false] at ht
    rcases ht with rfl | rfl | rfl
    · exact ⟨rec26, row26⟩
    · exact ⟨rec58, row58⟩
    · exact ⟨rec60, row60⟩

set_option maxRecDepth 100000 in
theorem lifted (os : Os) (started : os.Started) (H : Type) (enc : TypeId × Value → H) :
    ReturnsInHanded {} Try.checked os 9 .any (Rows.fnExactMoveSoilSpec.pre6 enc Try.prog Try.f9 Rows.fnExactMoveSoilRow.domain false) (Rows.fnExactMoveSoilSpec.post enc Try.prog Try.f9 false true false false) := by
  refine returnsInHanded_of_change (C := Try.checked) own started (by kernel_rfl) Try.func9
    (ChangeSpec.witness6 (enc := enc) (C := Try.checked) false ⟨#[], #[.agg ((zipV (tab.at 26).ks (zeros (tab.at 26))).toArray), .agg ((zipV (tab.at 58).ks (zeros (tab.at 58))).toArray), .agg ((zipV (tab.at 60).ks (zeros (tab.at 60))).toArray)], []⟩ 8 (by kernel_rfl) (by kernel_rfl) (by kernel_rfl) (by kernel_rfl)) ?_
  intro W base args ds gs before hval hW _ _
  exact contract H enc W base args ds gs before hval hW

theorem over : Rows.fnExactMoveSoilRow.holds Try.pinned (OpenSpec.ofChange Rows.fnExactMoveSoilSpec) :=
  OpenClaim.holds_of_wide 9 Try.f9 rfl rfl rfl rfl rfl rfl rfl ⟨rfl, rfl, rfl, rfl, rfl⟩ rfl rfl rfl rfl rfl (by kernel_rfl) Try.func9 (by kernel_rfl)
    (of_decide_eq_true (by kernel_rfl)) (by unfold Func.isWrapper; first | (rw [if_pos (by decide +kernel)]; kernel_rfl) | (rw [if_neg (by decide +kernel)]; exact ⟨rfl, rfl⟩))
    (fun os started H enc _ => lifted os started H enc)

theorem proved : Rows.FnExactMoveSoilSaid :=
  over
end Go.Proofs.Ytmpcninebooaiaa.moveSoil
