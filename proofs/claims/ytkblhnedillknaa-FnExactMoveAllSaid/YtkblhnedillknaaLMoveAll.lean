/- MoveAll: the law FnExactMoveAll's code returns true for all arguments that the given statement '..Said' lets in: proved over a verified evaluator of the code (E1 to E6, Tab, Sh, Pr) and a plain proof of what the code computes (Y texts). No condition but the given statement's own. -/
import Derived.Test.YtkblhnedillknaaPr
import Derived.Test.YtkblhnedillknaaE6
import Derived.Test.YtkblhnedillknaaY41
import Derived.Test.YtkblhnedillknaaZ1
import Derived.Test.YtkblhnedillknaaZ3
import Derived.Test.YtkblhnedillknaaZ5
import Derived.Test.YtkblhnedillknaaRows
import Derived.WalkKit
import Derived.ProofKit
import Derived.JoinedCond
import Derived.JoinedOf
import Derived.Handed
set_option linter.unusedVariables false
set_option linter.unusedSimpArgs false
namespace Go.Proofs.Ytkblhnedillknaa.moveAll
open Go.Ev Go.ChangeShapes Go.WideShapes Go.ChangeAt Go.RowKit Go.Proofs.Ytkblhnedillknaa.Tt
set_option linter.unusedVariables false

theorem own : ownKnob Try.prog.godebug = none := by kernel_rfl
theorem laid : laidOutB Try.prog = true := by kernel_rfl
theorem rec26 : Try.prog.readableRec 26 = true := by kernel_rfl
theorem row26 : (26 : TypeId) < Try.prog.types.size := of_decide_eq_true (by kernel_rfl)
theorem rec38 : Try.prog.readableRec 38 = true := by kernel_rfl
theorem row38 : (38 : TypeId) < Try.prog.types.size := of_decide_eq_true (by kernel_rfl)
theorem rec62 : Try.prog.readableRec 62 = true := by kernel_rfl
theorem row62 : (62 : TypeId) < Try.prog.types.size := of_decide_eq_true (by kernel_rfl)
theorem ks26 : (tab.at 26).ks = [(.int .i8), (.int .i8)] ++ List.replicate 100 (.int .u8) := by kernel_rfl
theorem size26 : (tab.at 26).size = 102 := by kernel_rfl
theorem ks38 : (tab.at 38).ks = List.replicate 100 (.int .i8) := by kernel_rfl
theorem size38 : (tab.at 38).size = 100 := by kernel_rfl
theorem ks134 : (tab.at 134).ks = [(.int .i8), (.int .i8), (.int .i8), (.int .i8), (.int .i8)] := by kernel_rfl
theorem size134 : (tab.at 134).size = 5 := by kernel_rfl

theorem slice_bound {P : Program} {H : Type} {enc : TypeId × Value → H} {w : World} {base : Nat} {spare : Nat → Bool} {held : Bool} {t e : TypeId} {v : Value} {d : DataW H} {ps : List MemPlace} (hd : P.underlying t = some (.slice e)) (h : DataW.Trod enc P w base spare held t v d ps) {es rest : List (DataW H)} (he : d = .slice es rest) : es.length ≤ 9223372036854775807 := by
  subst he
  obtain ⟨fuel, hfu⟩ := h
  rcases DataW.trod_slice hd hfu with ⟨_, h2⟩ | ⟨ad, len, cap, elems, rest', n, _, _, h2, _, h4, h5, h6, _, _, _⟩
  · injection h2 with h2 _
    cases h2
  · injection h2 with h2 _
    injection h2 with h2 _
    subst h2
    simp only [maxLen] at h5
    rw [List.length_map, h6]
    omega

theorem plainS (a0 : List Int) (h0 : InR tab 26 a0) (a1 : List Int) (h1 : InR tab 38 a1) (l2 : List Int) (n2 : Nat) (hl2 : l2.length = n2 * (tab.at 134).size) (hn2 : n2 ≤ 1048576) (hr2 : ∀ j, j < l2.length → inKind (kindAt (tab.at 134).ks j) (rd l2 j)) : ∃ k, laws_FnExactMoveAll k a0 a1 l2 = some true := by
  exact moveAll_true (lawnR_of h0 size26 ks26) (levR_of h1 size38 ks38) (haulsR_of hl2 hn2 hr2 size134 ks134)

theorem big (a0 : List Int) (h0 : InR tab 26 a0) (a1 : List Int) (h1 : InR tab 38 a1) (l2 : List Int) (n2 : Nat) (hl2 : l2.length = n2 * (tab.at 134).size) (hn2 : n2 ≤ 9223372036854775807) (hr2 : ∀ j, j < l2.length → inKind (kindAt (tab.at 134).ks j) (rd l2 j)) (hb : ¬ n2 ≤ 1048576) : laws_FnExactMoveAll 0 a0 a1 l2 = some true := by
  unfold laws_FnExactMoveAll laws_szHaulS
  have hc : cnt 5 l2 = n2 := by rw [size134] at hl2; unfold cnt; rw [hl2]; exact Nat.mul_div_cancel _ (by decide)
  have hw : IntKind.wrap .i64 (1048576 - (n2 : Int)) = 1048576 - (n2 : Int) := by
    simp only [IntKind.wrap, IntKind.bits, IntKind.signed]
    simp
    omega
  have hd : decide (1048576 - (n2 : Int) < 0) = true := decide_eq_true (by omega)
  rw [hc, hw, hd]
  rfl

theorem plain (a0 : List Int) (h0 : InR tab 26 a0) (a1 : List Int) (h1 : InR tab 38 a1) (l2 : List Int) (n2 : Nat) (hl2 : l2.length = n2 * (tab.at 134).size) (hn2 : n2 ≤ 9223372036854775807) (hr2 : ∀ j, j < l2.length → inKind (kindAt (tab.at 134).ks j) (rd l2 j)) : ∃ k, laws_FnExactMoveAll k a0 a1 l2 = some true := by
  by_cases hb : n2 ≤ 1048576
  · exact plainS a0 h0 a1 h1 l2 n2 hl2 hb hr2
  · exact ⟨0, big a0 h0 a1 h1 l2 n2 hl2 hn2 hr2 hb⟩

set_option maxRecDepth 100000 in
theorem contract (H : Type) (enc : TypeId × Value → H) (W : World) (base : Nat) (args : Array Value) (ds gs : List (DataW H)) (before : List MemPlace)
    (hval : ∀ (j : Nat) t v, Try.f9.params[j]? = some t → args[j]? = some v → Value.okWide Try.prog W .any base t v)
    (hW : DataW.Whole enc Try.prog Try.f9.params.toList Rows.fnExactMoveAllSpec.vars false W args.toList ds gs before) :
    Calls Try.prog 9 args W fun e W' => ∃ v, e = .returned v ∧ Rows.fnExactMoveAllSpec.post enc Try.prog Try.f9 false true false false W args v W' := by
  have hW' := hW
  obtain ⟨p, q, hA0, hV, rfl, hfz, hnd⟩ := hW
  have hA : DataW.TrodAll enc Try.prog W 0 (fun _ => true) true Try.f9.params.toList args.toList ds p := hA0
  rw [Try.params9] at hA hval
  obtain ⟨v0, vs0, d0, ds0, p0, q0, hargs, rfl, rfl, g0, r0⟩ := trodAll_cons hA
  obtain ⟨v1, vs1, d1, ds1, p1, q1, rfl, rfl, rfl, g1, r1⟩ := trodAll_cons r0
  obtain ⟨v2, vs2, d2, ds2, p2, q2, rfl, rfl, rfl, g2, r2⟩ := trodAll_cons r1
  obtain ⟨rfl, rfl, rfl⟩ := trodAll_nil r2
  obtain rfl : args = #[v0, v1, v2] := by cases args; simp_all
  obtain ⟨rfl, rfl⟩ := trodVars_none hV
  obtain ⟨a0, ha0, hr0⟩ := in_agg (T := tab) tabOK eqTabOK (t := 26) (Fr := fun b => b < W.heap.size) (by kernel_rfl) (by kernel_rfl) (hval 0 26 v0 rfl rfl) g0
  obtain ⟨a1, ha1, hr1⟩ := in_agg (T := tab) tabOK eqTabOK (t := 38) (Fr := fun b => b < W.heap.size) (by kernel_rfl) (by kernel_rfl) (hval 1 38 v1 rfl rfl) g1
  obtain ⟨l2, n2, ha2, hl2, hr2, hd2⟩ := in_slice (T := tab) tabOK eqTabOK (t := 62) (e := 134) (by kernel_rfl) (by kernel_rfl) (hval 2 62 v2 rfl rfl) g2
  have hn2 : n2 ≤ 9223372036854775807 := by
    rcases hd2 with ⟨e, _⟩ | ⟨es, rest, e1, e2⟩
    · omega
    · rw [← e2]
      exact slice_bound Try.underlying62 g2 e1
  obtain ⟨k, hplain⟩ := plain a0 hr0 a1 hr1 l2 n2 hl2 hn2 hr2
  have hs : SoundRs Try.prog tab 9 false [.agg 26 a0, .agg 38 a1, .slv 134 l2] (.bool true, none) := by
    refine (laws_FnExactMoveAll_ok k).sound [.agg 26 a0, .agg 38 a1, .slv 134 l2] (.bool true, none) ?_
    show ((laws_FnExactMoveAll k a0 a1 l2).bind fun (b : Bool) => some ((fV .bool (enc_b b)).1, (none : Option (List Int)))) = _
    rw [hplain]
    rfl
  have hc := hs W (fun b => b < W.heap.size) #[v0, v1, v2] (fun b hb => hb) (.cons ha0 (.cons ha1 (.cons ha2 .nil)))
  refine hc.mono ?_
  rintro e W' ⟨u, rfl, hB, hR, _⟩
  cases hR with
  | flat _ _ hf =>
    simp only [FV] at hf
    subst hf
    refine ⟨_, rfl, post_true laid hW' rfl (by kernel_rfl) Try.underlying4 ?_ rfl rfl rfl hB⟩
    intro t ht
    rw [Try.params9] at ht
    simp only [List.mem_cons, List.not_mem_nil, or_false] at ht
    rcases ht with rfl | rfl | rfl
    · exact ⟨rec26, row26⟩
    · exact ⟨rec38, row38⟩
    · exact ⟨rec62, row62⟩

set_option maxRecDepth 100000 in
theorem lifted (os : Os) (started : os.Started) (H : Type) (enc : TypeId × Value → H) :
    ReturnsInHanded {} Try.checked os 9 .any (Rows.fnExactMoveAllSpec.pre6 enc Try.prog Try.f9 Rows.fnExactMoveAllRow.domain false) (Rows.fnExactMoveAllSpec.post enc Try.prog Try.f9 false true false false) := by
  refine returnsInHanded_of_change (C := Try.checked) own started (by kernel_rfl) Try.func9
    (ChangeSpec.witness6 (enc := enc) (C := Try.checked) false ⟨#[], #[.agg ((zipV (tab.at 26).ks (zeros (tab.at 26))).toArray), .agg ((zipV (tab.at 38).ks (zeros (tab.at 38))).toArray), .slice none 0 0], []⟩ 8 (by kernel_rfl) (by kernel_rfl) (by kernel_rfl) (by kernel_rfl)) ?_
  intro W base args ds gs before hval hW _ _
  exact contract H enc W base args ds gs before hval hW

theorem over : Rows.fnExactMoveAllRow.holds Try.pinned (OpenSpec.ofChange Rows.fnExactMoveAllSpec) :=
  OpenClaim.holds_of_wide 9 Try.f9 rfl rfl rfl rfl rfl rfl rfl ⟨rfl, rfl, rfl, rfl, rfl⟩ rfl rfl rfl rfl rfl (by kernel_rfl) Try.func9 (by kernel_rfl)
    (of_decide_eq_true (by kernel_rfl)) (by unfold Func.isWrapper; first | (rw [if_pos (by decide +kernel)]; kernel_rfl) | (rw [if_neg (by decide +kernel)]; exact ⟨rfl, rfl⟩))
    (fun os started H enc _ => lifted os started H enc)

theorem proved : Rows.FnExactMoveAllSaid :=
  over
end Go.Proofs.Ytkblhnedillknaa.moveAll
