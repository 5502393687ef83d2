/- CoveredTwice: the law FnExactCoveredTwice's code returns true for all arguments that the given statement '..Said' lets in: proved over a verified evaluator of the code (E1 to E6, Tab, Sh, Pr) and a plain proof of what the code computes (Y texts). No condition but the given statement's own. -/
import Derived.Test.YtkblhnedillknaaPr
import Derived.Test.YtkblhnedillknaaE6
import Derived.Test.YtkblhnedillknaaY30
import Derived.Test.YtkblhnedillknaaZ1
import Derived.Test.YtkblhnedillknaaZ4
import Derived.Test.YtkblhnedillknaaRows
import Derived.WalkKit
import Derived.ProofKit
import Derived.JoinedCond
import Derived.JoinedOf
import Derived.Handed
set_option linter.unusedVariables false
set_option linter.unusedSimpArgs false
namespace Go.Proofs.Ytkblhnedillknaa.coveredTwice
open Go.Ev Go.ChangeShapes Go.WideShapes Go.ChangeAt Go.RowKit Go.Proofs.Ytkblhnedillknaa.Tt
set_option linter.unusedVariables false

theorem own : ownKnob Try.prog.godebug = none := by kernel_rfl
theorem laid : laidOutB Try.prog = true := by kernel_rfl
theorem rec26 : Try.prog.readableRec 26 = true := by kernel_rfl
theorem row26 : (26 : TypeId) < Try.prog.types.size := of_decide_eq_true (by kernel_rfl)
theorem rec77 : Try.prog.readableRec 77 = true := by kernel_rfl
theorem row77 : (77 : TypeId) < Try.prog.types.size := of_decide_eq_true (by kernel_rfl)
theorem ks26 : (tab.at 26).ks = [(.int .i8), (.int .i8)] ++ List.replicate 100 (.int .u8) := by kernel_rfl
theorem size26 : (tab.at 26).size = 102 := by kernel_rfl
theorem ks28 : (tab.at 28).ks = [(.int .i8), (.int .i8)] := by kernel_rfl
theorem size28 : (tab.at 28).size = 2 := by kernel_rfl

theorem slice_bound {P : Program} {H : Type} {enc : TypeId × Value → H} {w : World} {base : Nat} {spare : Nat → Bool} {held : Bool} {t e : TypeId} {v : Value} {d : DataW H} {ps : List MemPlace} (hd : P.underlying t = some (.slice e)) (h : DataW.Trod enc P w base spare held t v d ps) {es rest : List (DataW H)} (he : d = .slice es rest) : es.length ≤ 9223372036854775807 := by
  subst he
  obtain ⟨fuel, hfu⟩ := h
  rcases DataW.trod_slice hd hfu with ⟨_, h2⟩ | ⟨ad, len, cap, elems, rest', n, _, _, h2, _, h4, h5, h6, _, _, _⟩
  · injection h2 with h2 _
    cases h2
  · injection h2 with h2 _
    injection h2 with h2 _
    subst h2
    simp only [maxLen] at h5
    rw [List.length_map, h6]
    omega

theorem plainS (a0 : List Int) (h0 : InR tab 26 a0) (l1 : List Int) (n1 : Nat) (hl1 : l1.length = n1 * (tab.at 28).size) (hn1 : n1 ≤ 1048576) (hr1 : ∀ j, j < l1.length → inKind (kindAt (tab.at 28).ks j) (rd l1 j)) : ∃ k, laws_FnExactCoveredTwice k a0 l1 = some true := coveredTwice_true (lawnR_of h0 size26 ks26) (cellsR_of hl1 hn1 hr1 size28 ks28)

theorem big (a0 : List Int) (h0 : InR tab 26 a0) (l1 : List Int) (n1 : Nat) (hl1 : l1.length = n1 * (tab.at 28).size) (hn1 : n1 ≤ 9223372036854775807) (hr1 : ∀ j, j < l1.length → inKind (kindAt (tab.at 28).ks j) (rd l1 j)) (hb : ¬ n1 ≤ 1048576) : laws_FnExactCoveredTwice 0 a0 l1 = some true := by
  unfold laws_FnExactCoveredTwice laws_szCellS
  have hc : cnt 2 l1 = n1 := by rw [size28] at hl1; unfold cnt; rw [hl1]; exact Nat.mul_div_cancel _ (by decide)
  have hw : IntKind.wrap .i64 (1048576 - (n1 : Int)) = 1048576 - (n1 : Int) := by
    simp only [IntKind.wrap, IntKind.bits, IntKind.signed]
    simp
    omega
  have hd : decide (1048576 - (n1 : Int) < 0) = true := decide_eq_true (by omega)
  rw [hc, hw, hd]
  rfl

theorem plain (a0 : List Int) (h0 : InR tab 26 a0) (l1 : List Int) (n1 : Nat) (hl1 : l1.length = n1 * (tab.at 28).size) (hn1 : n1 ≤ 9223372036854775807) (hr1 : ∀ j, j < l1.length → inKind (kindAt (tab.at 28).ks j) (rd l1 j)) : ∃ k, laws_FnExactCoveredTwice k a0 l1 = some true := by
  by_cases hb : n1 ≤ 1048576
  · exact plainS a0 h0 l1 n1 hl1 hb hr1
  · exact ⟨0, big a0 h0 l1 n1 hl1 hn1 hr1 hb⟩

set_option maxRecDepth 100000 in
theorem contract (H : Type) (enc : TypeId × Value → H) (W : World) (base : Nat) (args : Array Value) (ds gs : List (DataW H)) (before : List MemPlace)
    (hval : ∀ (j : Nat) t v, Try.f13.params[j]? = some t → args[j]? = some v → Value.okWide Try.prog W .any base t v)
    (hW : DataW.Whole enc Try.prog Try.f13.params.toList Rows.fnExactCoveredTwiceSpec.vars false W args.toList ds gs before) :
    Calls Try.prog 13 args W fun e W' => ∃ v, e = .returned v ∧ Rows.fnExactCoveredTwiceSpec.post enc Try.prog Try.f13 false true false false W args v W' := by
  have hW' := hW
  obtain ⟨p, q, hA0, hV, rfl, hfz, hnd⟩ := hW
  have hA : DataW.TrodAll enc Try.prog W 0 (fun _ => true) true Try.f13.params.toList args.toList ds p := hA0
  rw [Try.params13] at hA hval
  obtain ⟨v0, vs0, d0, ds0, p0, q0, hargs, rfl, rfl, g0, r0⟩ := trodAll_cons hA
  obtain ⟨v1, vs1, d1, ds1, p1, q1, rfl, rfl, rfl, g1, r1⟩ := trodAll_cons r0
  obtain ⟨rfl, rfl, rfl⟩ := trodAll_nil r1
  obtain rfl : args = #[v0, v1] := by cases args; simp_all
  obtain ⟨rfl, rfl⟩ := trodVars_none hV
  obtain ⟨a0, ha0, hr0⟩ := in_agg (T := tab) tabOK eqTabOK (t := 26) (Fr := fun b => b < W.heap.size) (by kernel_rfl) (by kernel_rfl) (hval 0 26 v0 rfl rfl) g0
  obtain ⟨l1, n1, ha1, hl1, hr1, hd1⟩ := in_slice (T := tab) tabOK eqTabOK (t := 77) (e := 28) (by kernel_rfl) (by kernel_rfl) (hval 1 77 v1 rfl rfl) g1
  have hn1 : n1 ≤ 9223372036854775807 := by
    rcases hd1 with ⟨e, _⟩ | ⟨es, rest, e1, e2⟩
    · omega
    · rw [← e2]
      exact slice_bound Try.underlying77 g1 e1
  obtain ⟨k, hplain⟩ := plain a0 hr0 l1 n1 hl1 hn1 hr1
  have hs : SoundRs Try.prog tab 13 false [.agg 26 a0, .slv 28 l1] (.bool true, none) := by
    refine (laws_FnExactCoveredTwice_ok k).sound [.agg 26 a0, .slv 28 l1] (.bool true, none) ?_
    show ((laws_FnExactCoveredTwice k a0 l1).bind fun (b : Bool) => some ((fV .bool (enc_b b)).1, (none : Option (List Int)))) = _
    rw [hplain]
    rfl
  have hc := hs W (fun b => b < W.heap.size) #[v0, v1] (fun b hb => hb) (.cons ha0 (.cons ha1 .nil))
  refine hc.mono ?_
  rintro e W' ⟨u, rfl, hB, hR, _⟩
  cases hR with
  | flat _ _ hf =>
    simp only [FV] at hf
    subst hf
    refine ⟨_, rfl, post_true laid hW' rfl (by kernel_rfl) Try.underlying4 ?_ rfl rfl rfl hB⟩
    intro t ht
    rw [Try.params13] at ht
    simp only [List.mem_cons, List.not_mem_nil, or_false] at ht
    rcases ht with rfl | rfl
    · exact ⟨rec26, row26⟩
    · exact ⟨rec77, row77⟩

set_option maxRecDepth 100000 in
theorem lifted (os : Os) (started : os.Started) (H : Type) (enc : TypeId × Value → H) :
    ReturnsInHanded {} Try.checked os 13 .any (Rows.fnExactCoveredTwiceSpec.pre6 enc Try.prog Try.f13 Rows.fnExactCoveredTwiceRow.domain false) (Rows.fnExactCoveredTwiceSpec.post enc Try.prog Try.f13 false true false false) := by
  refine returnsInHanded_of_change (C := Try.checked) own started (by kernel_rfl) Try.func13
    (ChangeSpec.witness6 (enc := enc) (C := Try.checked) false ⟨#[], #[.agg ((zipV (tab.at 26).ks (zeros (tab.at 26))).toArray), .slice none 0 0], []⟩ 8 (by kernel_rfl) (by kernel_rfl) (by kernel_rfl) (by kernel_rfl)) ?_
  intro W base args ds gs before hval hW _ _
  exact contract H enc W base args ds gs before hval hW

theorem over : Rows.fnExactCoveredTwiceRow.holds Try.pinned (OpenSpec.ofChange Rows.fnExactCoveredTwiceSpec) :=
  OpenClaim.holds_of_wide 13 Try.f13 rfl rfl rfl rfl rfl rfl rfl ⟨rfl, rfl, rfl, rfl, rfl⟩ rfl rfl rfl rfl rfl (by kernel_rfl) Try.func13 (by kernel_rfl)
    (of_decide_eq_true (by kernel_rfl)) (by unfold Func.isWrapper; first | (rw [if_pos (by decide +kernel)]; kernel_rfl) | (rw [if_neg (by decide +kernel)]; exact ⟨rfl, rfl⟩))
    (fun os started H enc _ => lifted os started H enc)

theorem proved : Rows.FnExactCoveredTwiceSaid :=
  over
end Go.Proofs.Ytkblhnedillknaa.coveredTwice
