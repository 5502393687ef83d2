/- FnRuns: the law FnRuns's code returns true for all arguments that the given statement '..Said' lets in: proved over a verified evaluator of the code (E1 to E6, Tab, Sh, Pr) and a plain proof of what the code computes (Y texts). No condition but the given statement's own. -/
import Derived.Test.YtkdpdmfkomnalaaPr
import Derived.Test.YtkdpdmfkomnalaaE6
import Derived.Test.YtkdpdmfkomnalaaF5
import Derived.Test.YtkdpdmfkomnalaaRows
import Derived.WalkKit
import Derived.ProofKit
import Derived.JoinedCond
import Derived.JoinedOf
import Derived.Handed
set_option linter.unusedVariables false
set_option linter.unusedSimpArgs false
namespace Go.Proofs.Ytkdpdmfkomnalaa.fnRuns
open Go.Ev Go.ChangeShapes Go.WideShapes Go.ChangeAt Go.RowKit Go.Proofs.Ytkdpdmfkomnalaa.Tt
set_option linter.unusedVariables false

theorem own : ownKnob Try.prog.godebug = none := by kernel_rfl
theorem laid : laidOutB Try.prog = true := by kernel_rfl
theorem rec30 : Try.prog.readableRec 30 = true := by kernel_rfl
theorem row30 : (30 : TypeId) < Try.prog.types.size := of_decide_eq_true (by kernel_rfl)
theorem ks5 : (tab.at 5).ks = [(.int .u8)] := by kernel_rfl
theorem size5 : (tab.at 5).size = 1 := by kernel_rfl

theorem slice_bound {P : Program} {H : Type} {enc : TypeId × Value → H} {w : World} {base : Nat} {spare : Nat → Bool} {held : Bool} {t e : TypeId} {v : Value} {d : DataW H} {ps : List MemPlace} (hd : P.underlying t = some (.slice e)) (h : DataW.Trod enc P w base spare held t v d ps) {es rest : List (DataW H)} (he : d = .slice es rest) : es.length ≤ 9223372036854775807 := by
  subst he
  obtain ⟨fuel, hfu⟩ := h
  rcases DataW.trod_slice hd hfu with ⟨_, h2⟩ | ⟨ad, len, cap, elems, rest', n, _, _, h2, _, h4, h5, h6, _, _, _⟩
  · injection h2 with h2 _
    cases h2
  · injection h2 with h2 _
    injection h2 with h2 _
    subst h2
    simp only [maxLen] at h5
    rw [List.length_map, h6]
    omega

theorem plain (l0 : List Int) (n0 : Nat) (hl0 : l0.length = n0 * (tab.at 5).size) (hn0 : n0 ≤ 9223372036854775807) (hr0 : ∀ j, j < l0.length → inKind (kindAt (tab.at 5).ks j) (rd l0 j)) (l1 : List Int) (n1 : Nat) (hl1 : l1.length = n1 * (tab.at 5).size) (hn1 : n1 ≤ 9223372036854775807) (hr1 : ∀ j, j < l1.length → inKind (kindAt (tab.at 5).ks j) (rd l1 j)) : ∃ k, laws_FnRuns k l0 l1 = some true := by
  refine ⟨130, fnRuns_true 130 (fun i hi => ?_) (by decide)⟩
  have h := hr0 i hi
  have hk : kindAt (tab.at 5).ks i = .int .u8 := by rw [ks5]; unfold kindAt; simp [Nat.mod_one]
  rw [hk] at h
  simp [inKind, Lit.wf, IntKind.min, IntKind.max, IntKind.signed, IntKind.bits] at h
  omega

set_option maxRecDepth 100000 in
theorem contract (H : Type) (enc : TypeId × Value → H) (W : World) (base : Nat) (args : Array Value) (ds gs : List (DataW H)) (before : List MemPlace)
    (hval : ∀ (j : Nat) t v, Try.f4.params[j]? = some t → args[j]? = some v → Value.okWide Try.prog W .any base t v)
    (hW : DataW.Whole enc Try.prog Try.f4.params.toList Rows.fnRunsSpec.vars false W args.toList ds gs before) :
    Calls Try.prog 4 args W fun e W' => ∃ v, e = .returned v ∧ Rows.fnRunsSpec.post enc Try.prog Try.f4 false true false false W args v W' := by
  have hW' := hW
  obtain ⟨p, q, hA0, hV, rfl, hfz, hnd⟩ := hW
  have hA : DataW.TrodAll enc Try.prog W 0 (fun _ => true) true Try.f4.params.toList args.toList ds p := hA0
  rw [Try.params4] at hA hval
  obtain ⟨v0, vs0, d0, ds0, p0, q0, hargs, rfl, rfl, g0, r0⟩ := trodAll_cons hA
  obtain ⟨v1, vs1, d1, ds1, p1, q1, rfl, rfl, rfl, g1, r1⟩ := trodAll_cons r0
  obtain ⟨rfl, rfl, rfl⟩ := trodAll_nil r1
  obtain rfl : args = #[v0, v1] := by cases args; simp_all
  obtain ⟨rfl, rfl⟩ := trodVars_none hV
  obtain ⟨l0, n0, ha0, hl0, hr0, hd0⟩ := in_slice (T := tab) tabOK eqTabOK (t := 30) (e := 5) (by kernel_rfl) (by kernel_rfl) (hval 0 30 v0 rfl rfl) g0
  have hn0 : n0 ≤ 9223372036854775807 := by
    rcases hd0 with ⟨e, _⟩ | ⟨es, rest, e1, e2⟩
    · omega
    · rw [← e2]
      exact slice_bound Try.underlying30 g0 e1
  obtain ⟨l1, n1, ha1, hl1, hr1, hd1⟩ := in_slice (T := tab) tabOK eqTabOK (t := 30) (e := 5) (by kernel_rfl) (by kernel_rfl) (hval 1 30 v1 rfl rfl) g1
  have hn1 : n1 ≤ 9223372036854775807 := by
    rcases hd1 with ⟨e, _⟩ | ⟨es, rest, e1, e2⟩
    · omega
    · rw [← e2]
      exact slice_bound Try.underlying30 g1 e1
  obtain ⟨k, hplain⟩ := plain l0 n0 hl0 hn0 hr0 l1 n1 hl1 hn1 hr1
  have hs : SoundRs Try.prog tab 4 false [.slv 5 l0, .slv 5 l1] (.bool true, none) := by
    refine (laws_FnRuns_ok k).sound [.slv 5 l0, .slv 5 l1] (.bool true, none) ?_
    show ((laws_FnRuns k l0 l1).bind fun (b : Bool) => some ((fV .bool (enc_b b)).1, (none : Option (List D)))) = _
    rw [hplain]
    rfl
  have hc := hs W (fun b => b < W.heap.size) #[v0, v1] (fun b hb => hb) (.cons ha0 (.cons ha1 .nil))
  refine hc.mono ?_
  rintro e W' ⟨u, Fr2, rfl, hB, _, hR, _⟩
  cases hR with
  | flat _ _ hf =>
    simp only [FV] at hf
    subst hf
    refine ⟨_, rfl, post_true laid hW' rfl (by kernel_rfl) Try.underlying4 ?_ rfl rfl rfl hB⟩
    intro t ht
    rw [Try.params4] at ht
    simp only [List.mem_cons, List.not_mem_nil, or_false] at ht
    rcases ht with rfl | rfl
    · exact ⟨rec30, row30⟩
    · exact ⟨rec30, row30⟩
  | own _ _ _ _ h0 => cases h0

set_option maxRecDepth 100000 in
theorem lifted (os : Os) (started : os.Started) (H : Type) (enc : TypeId × Value → H) :
    ReturnsInHanded {} Try.checked os 4 .any (Rows.fnRunsSpec.pre6 enc Try.prog Try.f4 Rows.fnRunsRow.domain false) (Rows.fnRunsSpec.post enc Try.prog Try.f4 false true false false) := by
  refine returnsInHanded_of_change (C := Try.checked) own started (by kernel_rfl) Try.func4
    (ChangeSpec.witness6 (enc := enc) (C := Try.checked) false ⟨#[], #[.slice none 0 0, .slice none 0 0], []⟩ 8 (by kernel_rfl) (by kernel_rfl) (by kernel_rfl) (by kernel_rfl)) ?_
  intro W base args ds gs before hval hW _ _
  exact contract H enc W base args ds gs before hval hW

theorem over : Rows.fnRunsRow.holds Try.pinned (OpenSpec.ofChange Rows.fnRunsSpec) :=
  OpenClaim.holds_of_wide 4 Try.f4 rfl rfl rfl rfl rfl rfl rfl ⟨rfl, rfl, rfl, rfl, rfl⟩ rfl rfl rfl rfl rfl (by kernel_rfl) Try.func4 (by kernel_rfl)
    (of_decide_eq_true (by kernel_rfl)) (by unfold Func.isWrapper; first | (rw [if_pos (by decide +kernel)]; kernel_rfl) | (rw [if_neg (by decide +kernel)]; exact ⟨rfl, rfl⟩))
    (fun os started H enc _ => lifted os started H enc)

theorem proved : Rows.FnRunsSaid :=
  over
end Go.Proofs.Ytkdpdmfkomnalaa.fnRuns
