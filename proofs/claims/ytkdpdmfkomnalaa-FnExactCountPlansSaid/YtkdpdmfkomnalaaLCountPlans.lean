/- CountPlans: the law FnExactCountPlans's code returns true for all arguments that the given statement '..Said' lets in: proved over a verified evaluator of the code (E1 to E6, Tab, Sh, Pr) and a plain proof of what the code computes (Y texts). No condition but the given statement's own. -/
import Derived.Test.YtkdpdmfkomnalaaPr
import Derived.Test.YtkdpdmfkomnalaaE6
import Derived.Test.YtkdpdmfkomnalaaC7
import Derived.Test.YtkdpdmfkomnalaaRows
import Derived.WalkKit
import Derived.ProofKit
import Derived.JoinedCond
import Derived.JoinedOf
import Derived.Handed
set_option linter.unusedVariables false
set_option linter.unusedSimpArgs false
namespace Go.Proofs.Ytkdpdmfkomnalaa.countPlans
open Go.Ev Go.ChangeShapes Go.WideShapes Go.ChangeAt Go.RowKit Go.Proofs.Ytkdpdmfkomnalaa.Tt
set_option linter.unusedVariables false

theorem own : ownKnob Try.prog.godebug = none := by kernel_rfl
theorem laid : laidOutB Try.prog = true := by kernel_rfl
theorem rec2 : Try.prog.readableRec 2 = true := by kernel_rfl
theorem row2 : (2 : TypeId) < Try.prog.types.size := of_decide_eq_true (by kernel_rfl)
theorem rec22 : Try.prog.readableRec 22 = true := by kernel_rfl
theorem row22 : (22 : TypeId) < Try.prog.types.size := of_decide_eq_true (by kernel_rfl)
theorem ks87 : (tab.at 87).ks = [(.int .i8), (.int .i8)] := by kernel_rfl
theorem size87 : (tab.at 87).size = 2 := by kernel_rfl

theorem slice_bound {P : Program} {H : Type} {enc : TypeId × Value → H} {w : World} {base : Nat} {spare : Nat → Bool} {held : Bool} {t e : TypeId} {v : Value} {d : DataW H} {ps : List MemPlace} (hd : P.underlying t = some (.slice e)) (h : DataW.Trod enc P w base spare held t v d ps) {es rest : List (DataW H)} (he : d = .slice es rest) : es.length ≤ 9223372036854775807 := by
  subst he
  obtain ⟨fuel, hfu⟩ := h
  rcases DataW.trod_slice hd hfu with ⟨_, h2⟩ | ⟨ad, len, cap, elems, rest', n, _, _, h2, _, h4, h5, h6, _, _, _⟩
  · injection h2 with h2 _
    cases h2
  · injection h2 with h2 _
    injection h2 with h2 _
    subst h2
    simp only [maxLen] at h5
    rw [List.length_map, h6]
    omega

theorem plainS (n0 : Int) (h0 : (Lit.int .i64 n0).wf = true) (n1 : Int) (h1 : (Lit.int .i64 n1).wf = true) (n2 : Int) (h2 : (Lit.int .i64 n2).wf = true) (l3 : List Int) (n3 : Nat) (hl3 : l3.length = n3 * (tab.at 87).size) (hn3 : n3 ≤ 1048576) (hr3 : ∀ j, j < l3.length → inKind (kindAt (tab.at 87).ks j) (rd l3 j)) (n4 : Int) (h4 : (Lit.int .i64 n4).wf = true) : ∃ k, laws_FnExactCountPlans k n0 n1 n2 l3 n4 = some true := countPlans_true hl3 hn3 hr3 size87 ks87 n0 n1 n2 n4

theorem big (n0 : Int) (h0 : (Lit.int .i64 n0).wf = true) (n1 : Int) (h1 : (Lit.int .i64 n1).wf = true) (n2 : Int) (h2 : (Lit.int .i64 n2).wf = true) (l3 : List Int) (n3 : Nat) (hl3 : l3.length = n3 * (tab.at 87).size) (hn3 : n3 ≤ 9223372036854775807) (hr3 : ∀ j, j < l3.length → inKind (kindAt (tab.at 87).ks j) (rd l3 j)) (n4 : Int) (h4 : (Lit.int .i64 n4).wf = true) (hb : ¬ n3 ≤ 1048576) : laws_FnExactCountPlans 0 n0 n1 n2 l3 n4 = some true := by
  unfold laws_FnExactCountPlans laws_szWeatherS
  have hc : cnt 2 l3 = n3 := by rw [size87] at hl3; unfold cnt; rw [hl3]; exact Nat.mul_div_cancel _ (by decide)
  have hw : IntKind.wrap .i64 (1048576 - (n3 : Int)) = 1048576 - (n3 : Int) := by
    simp only [IntKind.wrap, IntKind.bits, IntKind.signed]
    simp
    omega
  have hd : decide (1048576 - (n3 : Int) < 0) = true := decide_eq_true (by omega)
  rw [hc, hw, hd]
  rfl

theorem plain (n0 : Int) (h0 : (Lit.int .i64 n0).wf = true) (n1 : Int) (h1 : (Lit.int .i64 n1).wf = true) (n2 : Int) (h2 : (Lit.int .i64 n2).wf = true) (l3 : List Int) (n3 : Nat) (hl3 : l3.length = n3 * (tab.at 87).size) (hn3 : n3 ≤ 9223372036854775807) (hr3 : ∀ j, j < l3.length → inKind (kindAt (tab.at 87).ks j) (rd l3 j)) (n4 : Int) (h4 : (Lit.int .i64 n4).wf = true) : ∃ k, laws_FnExactCountPlans k n0 n1 n2 l3 n4 = some true := by
  by_cases hb : n3 ≤ 1048576
  · exact plainS n0 h0 n1 h1 n2 h2 l3 n3 hl3 hb hr3 n4 h4
  · exact ⟨0, big n0 h0 n1 h1 n2 h2 l3 n3 hl3 hn3 hr3 n4 h4 hb⟩

set_option maxRecDepth 100000 in
theorem contract (H : Type) (enc : TypeId × Value → H) (W : World) (base : Nat) (args : Array Value) (ds gs : List (DataW H)) (before : List MemPlace)
    (hval : ∀ (j : Nat) t v, Try.f3.params[j]? = some t → args[j]? = some v → Value.okWide Try.prog W .any base t v)
    (hW : DataW.Whole enc Try.prog Try.f3.params.toList Rows.fnExactCountPlansSpec.vars false W args.toList ds gs before) :
    Calls Try.prog 3 args W fun e W' => ∃ v, e = .returned v ∧ Rows.fnExactCountPlansSpec.post enc Try.prog Try.f3 false true false false W args v W' := by
  have hW' := hW
  obtain ⟨p, q, hA0, hV, rfl, hfz, hnd⟩ := hW
  have hA : DataW.TrodAll enc Try.prog W 0 (fun _ => true) true Try.f3.params.toList args.toList ds p := hA0
  rw [Try.params3] at hA hval
  obtain ⟨v0, vs0, d0, ds0, p0, q0, hargs, rfl, rfl, g0, r0⟩ := trodAll_cons hA
  obtain ⟨v1, vs1, d1, ds1, p1, q1, rfl, rfl, rfl, g1, r1⟩ := trodAll_cons r0
  obtain ⟨v2, vs2, d2, ds2, p2, q2, rfl, rfl, rfl, g2, r2⟩ := trodAll_cons r1
  obtain ⟨v3, vs3, d3, ds3, p3, q3, rfl, rfl, rfl, g3, r3⟩ := trodAll_cons r2
  obtain ⟨v4, vs4, d4, ds4, p4, q4, rfl, rfl, rfl, g4, r4⟩ := trodAll_cons r3
  obtain ⟨rfl, rfl, rfl⟩ := trodAll_nil r4
  obtain rfl : args = #[v0, v1, v2, v3, v4] := by cases args; simp_all
  obtain ⟨rfl, rfl⟩ := trodVars_none hV
  obtain ⟨n0, rfl, rfl, rfl, hw0⟩ := open_int Try.underlying2 (hval 0 2 v0 rfl rfl) g0
  obtain ⟨n1, rfl, rfl, rfl, hw1⟩ := open_int Try.underlying2 (hval 1 2 v1 rfl rfl) g1
  obtain ⟨n2, rfl, rfl, rfl, hw2⟩ := open_int Try.underlying2 (hval 2 2 v2 rfl rfl) g2
  obtain ⟨l3, n3, ha3, hl3, hr3, hd3⟩ := in_slice (T := tab) tabOK eqTabOK (t := 22) (e := 87) (by kernel_rfl) (by kernel_rfl) (hval 3 22 v3 rfl rfl) g3
  have hn3 : n3 ≤ 9223372036854775807 := by
    rcases hd3 with ⟨e, _⟩ | ⟨es, rest, e1, e2⟩
    · omega
    · rw [← e2]
      exact slice_bound Try.underlying22 g3 e1
  obtain ⟨n4, rfl, rfl, rfl, hw4⟩ := open_int Try.underlying2 (hval 4 2 v4 rfl rfl) g4
  obtain ⟨k, hplain⟩ := plain n0 hw0 n1 hw1 n2 hw2 l3 n3 hl3 hn3 hr3 n4 hw4
  have hs : SoundRs Try.prog tab 3 false [.int .i64 n0, .int .i64 n1, .int .i64 n2, .slv 87 l3, .int .i64 n4] (.bool true, none) := by
    refine (laws_FnExactCountPlans_ok k).sound [.int .i64 n0, .int .i64 n1, .int .i64 n2, .slv 87 l3, .int .i64 n4] (.bool true, none) ?_
    show ((laws_FnExactCountPlans k n0 n1 n2 l3 n4).bind fun (b : Bool) => some ((fV .bool (enc_b b)).1, (none : Option (List D)))) = _
    rw [hplain]
    rfl
  have hc := hs W (fun b => b < W.heap.size) #[.int .i64 n0, .int .i64 n1, .int .i64 n2, v3, .int .i64 n4] (fun b hb => hb) (.cons (.flat _ _ rfl) (.cons (.flat _ _ rfl) (.cons (.flat _ _ rfl) (.cons ha3 (.cons (.flat _ _ rfl) .nil)))))
  refine hc.mono ?_
  rintro e W' ⟨u, Fr2, rfl, hB, _, hR, _⟩
  cases hR with
  | flat _ _ hf =>
    simp only [FV] at hf
    subst hf
    refine ⟨_, rfl, post_true laid hW' rfl (by kernel_rfl) Try.underlying4 ?_ rfl rfl rfl hB⟩
    intro t ht
    rw [Try.params3] at ht
    simp only [List.mem_cons, List.not_mem_nil, or_false] at ht
    rcases ht with rfl | rfl | rfl | rfl | rfl
    · exact ⟨rec2, row2⟩
    · exact ⟨rec2, row2⟩
    · exact ⟨rec2, row2⟩
    · exact ⟨rec22, row22⟩
    · exact ⟨rec2, row2⟩
  | own _ _ _ _ h0 => cases h0

set_option maxRecDepth 100000 in
theorem lifted (os : Os) (started : os.Started) (H : Type) (enc : TypeId × Value → H) :
    ReturnsInHanded {} Try.checked os 3 .any (Rows.fnExactCountPlansSpec.pre6 enc Try.prog Try.f3 Rows.fnExactCountPlansRow.domain false) (Rows.fnExactCountPlansSpec.post enc Try.prog Try.f3 false true false false) := by
  refine returnsInHanded_of_change (C := Try.checked) own started (by kernel_rfl) Try.func3
    (ChangeSpec.witness6 (enc := enc) (C := Try.checked) false ⟨#[], #[.int .i64 0, .int .i64 0, .int .i64 0, .slice none 0 0, .int .i64 0], []⟩ 8 (by kernel_rfl) (by kernel_rfl) (by kernel_rfl) (by kernel_rfl)) ?_
  intro W base args ds gs before hval hW _ _
  exact contract H enc W base args ds gs before hval hW

theorem over : Rows.fnExactCountPlansRow.holds Try.pinned (OpenSpec.ofChange Rows.fnExactCountPlansSpec) :=
  OpenClaim.holds_of_wide 3 Try.f3 rfl rfl rfl rfl rfl rfl rfl ⟨rfl, rfl, rfl, rfl, rfl⟩ rfl rfl rfl rfl rfl (by kernel_rfl) Try.func3 (by kernel_rfl)
    (of_decide_eq_true (by kernel_rfl)) (by unfold Func.isWrapper; first | (rw [if_pos (by decide +kernel)]; kernel_rfl) | (rw [if_neg (by decide +kernel)]; exact ⟨rfl, rfl⟩))
    (fun os started H enc _ => lifted os started H enc)

theorem proved : Rows.FnExactCountPlansSaid :=
  over
end Go.Proofs.Ytkdpdmfkomnalaa.countPlans
