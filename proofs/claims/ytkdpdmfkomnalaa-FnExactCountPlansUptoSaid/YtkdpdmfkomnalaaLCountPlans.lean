/- CountPlans: the law FnExactCountPlans's code returns true for all arguments that the given statement '..UptoSaid' lets in: proved over a verified evaluator of the code (E1 to E6, Tab, Sh, Pr) and a plain proof of what the code computes (Y texts). No condition but the given statement's own. -/
import Derived.Test.YtkdpdmfkomnalaaPr
import Derived.Test.YtkdpdmfkomnalaaE6
import Derived.Test.YtkdpdmfkomnalaaC7
import Derived.Test.YtkdpdmfkomnalaaRows
import Derived.WalkKit
import Derived.ProofKit
import Derived.JoinedCond
set_option linter.unusedVariables false
set_option linter.unusedSimpArgs false
namespace Go.Proofs.Ytkdpdmfkomnalaa.countPlans
open Go.Ev Go.ChangeShapes Go.WideShapes Go.ChangeAt Go.RowKit Go.Proofs.Ytkdpdmfkomnalaa.Tt
set_option linter.unusedVariables false

theorem own : ownKnob Try.prog.godebug = none := by kernel_rfl
theorem laid : laidOutB Try.prog = true := by kernel_rfl
theorem rec2 : Try.prog.readableRec 2 = true := by kernel_rfl
theorem row2 : (2 : TypeId) < Try.prog.types.size := of_decide_eq_true (by kernel_rfl)
theorem rec22 : Try.prog.readableRec 22 = true := by kernel_rfl
theorem row22 : (22 : TypeId) < Try.prog.types.size := of_decide_eq_true (by kernel_rfl)
theorem ks87 : (tab.at 87).ks = [(.int .i8), (.int .i8)] := by kernel_rfl
theorem size87 : (tab.at 87).size = 2 := by kernel_rfl

theorem plain (n0 : Int) (h0 : (Lit.int .i64 n0).wf = true) (n1 : Int) (h1 : (Lit.int .i64 n1).wf = true) (n2 : Int) (h2 : (Lit.int .i64 n2).wf = true) (l3 : List Int) (n3 : Nat) (hl3 : l3.length = n3 * (tab.at 87).size) (hn3 : n3 ≤ 1048576) (hr3 : ∀ j, j < l3.length → inKind (kindAt (tab.at 87).ks j) (rd l3 j)) (n4 : Int) (h4 : (Lit.int .i64 n4).wf = true) : ∃ k, laws_FnExactCountPlans k n0 n1 n2 l3 n4 = some true := countPlans_true hl3 hn3 hr3 size87 ks87 n0 n1 n2 n4

set_option maxRecDepth 100000 in
theorem contract (H : Type) (enc : TypeId × Value → H) (W : World) (base : Nat) (args : Array Value) (ds gs : List (DataW H)) (before : List MemPlace)
    (hval : ∀ (j : Nat) t v, Try.f3.params[j]? = some t → args[j]? = some v → Value.okWide Try.prog W .any base t v)
    (hW : DataW.Whole enc Try.prog Try.f3.params.toList Rows.fnExactCountPlansSpec.vars false W args.toList ds gs before) (hk : Rows.uptoSmall H (ds ++ gs) = true) :
    Calls Try.prog 3 args W fun e W' => ∃ v, e = .returned v ∧ Rows.fnExactCountPlansSpec.post enc Try.prog Try.f3 false true false false W args v W' := by
  have hW' := hW
  obtain ⟨p, q, hA0, hV, rfl, hfz, hnd⟩ := hW
  have hA : DataW.TrodAll enc Try.prog W 0 (fun _ => true) true Try.f3.params.toList args.toList ds p := hA0
  rw [Try.params3] at hA hval
  obtain ⟨v0, vs0, d0, ds0, p0, q0, hargs, rfl, rfl, g0, r0⟩ := trodAll_cons hA
  obtain ⟨v1, vs1, d1, ds1, p1, q1, rfl, rfl, rfl, g1, r1⟩ := trodAll_cons r0
  obtain ⟨v2, vs2, d2, ds2, p2, q2, rfl, rfl, rfl, g2, r2⟩ := trodAll_cons r1
  obtain ⟨v3, vs3, d3, ds3, p3, q3, rfl, rfl, rfl, g3, r3⟩ := trodAll_cons r2
  obtain ⟨v4, vs4, d4, ds4, p4, q4, rfl, rfl, rfl, g4, r4⟩ := trodAll_cons r3
  obtain ⟨rfl, rfl, rfl⟩ := trodAll_nil r4
  obtain rfl : args = #[v0, v1, v2, v3, v4] := by cases args; simp_all
  obtain ⟨rfl, rfl⟩ := trodVars_none hV
  have hone : ∀ (d : DataW H), 1 ≤ Rows.uptoBulk d := by
    intro d
    cases d with
    | lit l => cases l <;> simp [Rows.uptoBulk]
    | _ => simp [Rows.uptoBulk]
  have hlen : ∀ (l : List (DataW H)), l.length ≤ Rows.uptoBulkAll l := by
    intro l
    induction l with
    | nil => simp [Rows.uptoBulkAll]
    | cons x r ih => have := hone x; simp only [Rows.uptoBulkAll, List.length_cons]; omega
  have hb : Rows.uptoBulkAll ([d0, d1, d2, d3, d4] ++ []) ≤ 1048576 := by simpa [Rows.uptoSmall] using hk
  simp only [Rows.uptoBulkAll, List.cons_append, List.nil_append] at hb
  obtain ⟨n0, rfl, rfl, rfl, hw0⟩ := open_int Try.underlying2 (hval 0 2 v0 rfl rfl) g0
  obtain ⟨n1, rfl, rfl, rfl, hw1⟩ := open_int Try.underlying2 (hval 1 2 v1 rfl rfl) g1
  obtain ⟨n2, rfl, rfl, rfl, hw2⟩ := open_int Try.underlying2 (hval 2 2 v2 rfl rfl) g2
  obtain ⟨l3, n3, ha3, hl3, hr3, hd3⟩ := in_slice (T := tab) tabOK eqTabOK (t := 22) (e := 87) (by kernel_rfl) (by kernel_rfl) (hval 3 22 v3 rfl rfl) g3
  have hn3 : n3 ≤ 1048576 := by
    rcases hd3 with ⟨e, _⟩ | ⟨es, rest, e1, e2⟩
    · omega
    · rw [e1] at hb
      have hs : es.length ≤ Rows.uptoBulk (.slice es rest : DataW H) := by
        have := hlen es
        simp only [Rows.uptoBulk]
        omega
      omega
  obtain ⟨n4, rfl, rfl, rfl, hw4⟩ := open_int Try.underlying2 (hval 4 2 v4 rfl rfl) g4
  obtain ⟨k, hplain⟩ := plain n0 hw0 n1 hw1 n2 hw2 l3 n3 hl3 hn3 hr3 n4 hw4
  have hs : SoundRs Try.prog tab 3 false [.int .i64 n0, .int .i64 n1, .int .i64 n2, .slv 87 l3, .int .i64 n4] (.bool true, none) := by
    refine (laws_FnExactCountPlans_ok k).sound [.int .i64 n0, .int .i64 n1, .int .i64 n2, .slv 87 l3, .int .i64 n4] (.bool true, none) ?_
    show ((laws_FnExactCountPlans k n0 n1 n2 l3 n4).bind fun (b : Bool) => some ((fV .bool (enc_b b)).1, (none : Option (List D)))) = _
    rw [hplain]
    rfl
  have hc := hs W (fun b => b < W.heap.size) #[.int .i64 n0, .int .i64 n1, .int .i64 n2, v3, .int .i64 n4] (fun b hb => hb) (.cons (.flat _ _ rfl) (.cons (.flat _ _ rfl) (.cons (.flat _ _ rfl) (.cons ha3 (.cons (.flat _ _ rfl) .nil)))))
  refine hc.mono ?_
  rintro e W' ⟨u, Fr2, rfl, hB, _, hR, _⟩
  cases hR with
  | flat _ _ hf =>
    simp only [FV] at hf
    subst hf
    refine ⟨_, rfl, post_true laid hW' rfl (by kernel_rfl) Try.underlying4 ?_ rfl rfl rfl hB⟩
    intro t ht
    rw [Try.params3] at ht
    simp only [List.mem_cons, List.not_mem_nil, or_false] at ht
    rcases ht with rfl | rfl | rfl | rfl | rfl
    · exact ⟨rec2, row2⟩
    · exact ⟨rec2, row2⟩
    · exact ⟨rec2, row2⟩
    · exact ⟨rec22, row22⟩
    · exact ⟨rec2, row2⟩
  | own _ _ _ _ h0 => cases h0

set_option maxRecDepth 100000 in
theorem lifted (os : Os) (started : os.Started) (H : Type) (enc : TypeId × Value → H) (F : Stop.Interp) :
    ReturnsInHanded {} Try.checked os 3 .any ((Rows.OpenSpec.upto Rows.fnExactCountPlansSpec).pre6 enc Try.prog Try.f3 Rows.fnExactCountPlansUptoRow.domain false) (((Rows.OpenSpec.upto Rows.fnExactCountPlansSpec).at F).post enc Try.prog Try.f3 false true false false) := by
  refine returnsInHanded_of_cond (C := Try.checked) (s := Rows.OpenSpec.upto Rows.fnExactCountPlansSpec) (k := Rows.uptoSmall) rfl own started (by kernel_rfl) Try.func3
    (OpenSpec.witness (enc := enc) (C := Try.checked) (s := Rows.OpenSpec.upto Rows.fnExactCountPlansSpec) (k := Rows.uptoSmall) rfl false ⟨#[], #[.int .i64 0, .int .i64 0, .int .i64 0, .slice none 0 0, .int .i64 0], []⟩ 8 (by kernel_rfl) (by kernel_rfl) (by kernel_rfl)
      (x := ([.lit (.int .i64 0), .lit (.int .i64 0), .lit (.int .i64 0), .nil, .lit (.int .i64 0)], [], [])) (by kernel_rfl) rfl (by kernel_rfl)) ?_
  intro W base args ds gs before hval hW _ hk _
  exact contract H enc W base args ds gs before hval hW hk

theorem over : Rows.fnExactCountPlansUptoRow.holds Try.pinned (Rows.OpenSpec.upto Rows.fnExactCountPlansSpec) :=
  OpenClaim.holds_of_cond 3 Try.f3 rfl rfl rfl rfl rfl rfl rfl ⟨rfl, rfl, rfl, rfl, rfl⟩ rfl rfl rfl rfl rfl (by kernel_rfl) Try.func3 (by kernel_rfl)
    (of_decide_eq_true (by kernel_rfl)) (by unfold Func.isWrapper; first | (rw [if_pos (by decide +kernel)]; kernel_rfl) | (rw [if_neg (by decide +kernel)]; exact ⟨rfl, rfl⟩))
    (fun os started H enc _ F => lifted os started H enc F)

theorem proved : Rows.FnExactCountPlansUptoSaid :=
  over
end Go.Proofs.Ytkdpdmfkomnalaa.countPlans
