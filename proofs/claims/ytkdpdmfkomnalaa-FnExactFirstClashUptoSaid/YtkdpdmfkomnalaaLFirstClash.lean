/- FirstClash: the law FnExactFirstClash's code returns true for all arguments that the given statement '..UptoSaid' lets in: proved over a verified evaluator of the code (E1 to E6, Tab, Sh, Pr) and a plain proof of what the code computes (Y texts). No condition but the given statement's own. -/
import Derived.Test.YtkdpdmfkomnalaaPr
import Derived.Test.YtkdpdmfkomnalaaE6
import Derived.Test.YtkdpdmfkomnalaaY46
import Derived.Test.YtkdpdmfkomnalaaZ1
import Derived.Test.YtkdpdmfkomnalaaZ7
import Derived.Test.YtkdpdmfkomnalaaRows
import Derived.WalkKit
import Derived.ProofKit
import Derived.JoinedCond
set_option linter.unusedVariables false
set_option linter.unusedSimpArgs false
namespace Go.Proofs.Ytkdpdmfkomnalaa.firstClash
open Go.Ev Go.ChangeShapes Go.WideShapes Go.ChangeAt Go.RowKit Go.Proofs.Ytkdpdmfkomnalaa.Tt
set_option linter.unusedVariables false

theorem own : ownKnob Try.prog.godebug = none := by kernel_rfl
theorem laid : laidOutB Try.prog = true := by kernel_rfl
theorem rec58 : Try.prog.readableRec 58 = true := by kernel_rfl
theorem row58 : (58 : TypeId) < Try.prog.types.size := of_decide_eq_true (by kernel_rfl)
theorem rec62 : Try.prog.readableRec 62 = true := by kernel_rfl
theorem row62 : (62 : TypeId) < Try.prog.types.size := of_decide_eq_true (by kernel_rfl)
theorem ks58 : (tab.at 58).ks = [(.int .i8), (.int .i8)] ++ List.replicate 100 (.int .u8) := by kernel_rfl
theorem size58 : (tab.at 58).size = 102 := by kernel_rfl
theorem ks70 : (tab.at 70).ks = [(.int .i8), (.int .i8)] := by kernel_rfl
theorem size70 : (tab.at 70).size = 2 := by kernel_rfl

theorem plain (a0 : List Int) (h0 : InR tab 58 a0) (l1 : List (List Int)) (ns1 : Nat → Nat) (hc1 : l1.length ≤ 1048576) (hr1 : ∀ i, i < l1.length → ns1 i ≤ 1048576 ∧ (rdr l1 i).length = ns1 i * (tab.at 70).size ∧ ∀ j, j < (rdr l1 i).length → inKind (kindAt (tab.at 70).ks j) (rd (rdr l1 i) j)) : ∃ k, laws_FnExactFirstClash k a0 l1 = some true := by
  obtain ⟨Ls, rfl, hR⟩ := rowsR_of hc1 hr1 size70 ks70
  exact ⟨_, firstClash_true 1048590 (Nat.le_refl _) (lawnR_of h0 size58 ks58) hR⟩

set_option maxRecDepth 100000 in
theorem contract (H : Type) (enc : TypeId × Value → H) (W : World) (base : Nat) (args : Array Value) (ds gs : List (DataW H)) (before : List MemPlace)
    (hval : ∀ (j : Nat) t v, Try.f6.params[j]? = some t → args[j]? = some v → Value.okWide Try.prog W .any base t v)
    (hW : DataW.Whole enc Try.prog Try.f6.params.toList Rows.fnExactFirstClashSpec.vars false W args.toList ds gs before) (hk : Rows.uptoSmall H (ds ++ gs) = true) :
    Calls Try.prog 6 args W fun e W' => ∃ v, e = .returned v ∧ Rows.fnExactFirstClashSpec.post enc Try.prog Try.f6 false true false false W args v W' := by
  have hW' := hW
  obtain ⟨p, q, hA0, hV, rfl, hfz, hnd⟩ := hW
  have hA : DataW.TrodAll enc Try.prog W 0 (fun _ => true) true Try.f6.params.toList args.toList ds p := hA0
  rw [Try.params6] at hA hval
  obtain ⟨v0, vs0, d0, ds0, p0, q0, hargs, rfl, rfl, g0, r0⟩ := trodAll_cons hA
  obtain ⟨v1, vs1, d1, ds1, p1, q1, rfl, rfl, rfl, g1, r1⟩ := trodAll_cons r0
  obtain ⟨rfl, rfl, rfl⟩ := trodAll_nil r1
  obtain rfl : args = #[v0, v1] := by cases args; simp_all
  obtain ⟨rfl, rfl⟩ := trodVars_none hV
  have hone : ∀ (d : DataW H), 1 ≤ Rows.uptoBulk d := by
    intro d
    cases d with
    | lit l => cases l <;> simp [Rows.uptoBulk]
    | _ => simp [Rows.uptoBulk]
  have hlen : ∀ (l : List (DataW H)), l.length ≤ Rows.uptoBulkAll l := by
    intro l
    induction l with
    | nil => simp [Rows.uptoBulkAll]
    | cons x r ih => have := hone x; simp only [Rows.uptoBulkAll, List.length_cons]; omega
  have hb : Rows.uptoBulkAll ([d0, d1] ++ []) ≤ 1048576 := by simpa [Rows.uptoSmall] using hk
  simp only [Rows.uptoBulkAll, List.cons_append, List.nil_append] at hb
  obtain ⟨a0, ha0, hr0⟩ := in_agg (T := tab) tabOK eqTabOK (t := 58) (Fr := fun b => b < W.heap.size) (by kernel_rfl) (by kernel_rfl) (hval 0 58 v0 rfl rfl) g0
  obtain ⟨l1, ha1, ns1, hq1, hd1⟩ := in_rows (T := tab) tabOK eqTabOK (t := 62) (e := 116) (e' := 70) (by kernel_rfl) (by kernel_rfl) (by kernel_rfl) (by kernel_rfl) (by kernel_rfl) (hval 1 62 v1 rfl rfl) g1
  have hmem : ∀ (l : List (DataW H)) (i : Nat) (x : DataW H), l[i]? = some x → Rows.uptoBulk x ≤ Rows.uptoBulkAll l := by
    intro l
    induction l with
    | nil => intro i x h; simp at h
    | cons y r ih =>
      intro i x h
      simp only [Rows.uptoBulkAll]
      cases i with
      | zero =>
        simp only [List.getElem?_cons_zero, Option.some.injEq] at h
        subst h
        omega
      | succ i =>
        rw [List.getElem?_cons_succ] at h
        have := ih i x h
        omega
  have hreads : ∀ (x : DataW H) (m : Nat), Reads x m → m ≤ Rows.uptoBulk x := by
    rintro x m (⟨e, _⟩ | ⟨es, rest, rfl, e⟩)
    · omega
    · have := hlen es
      simp only [Rows.uptoBulk]
      omega
  have hc1 : l1.length ≤ 1048576 := by
    rcases hd1 with ⟨e, _⟩ | ⟨es, rest, e1, e2, _⟩
    · subst e; exact Nat.zero_le _
    · rw [e1] at hb
      simp only [Rows.uptoBulk] at hb
      have := hlen es
      omega
  have hr1 : ∀ i, i < l1.length → ns1 i ≤ 1048576 ∧ (rdr l1 i).length = ns1 i * (tab.at 70).size ∧ ∀ j, j < (rdr l1 i).length → inKind (kindAt (tab.at 70).ks j) (rd (rdr l1 i) j) := by
    intro i hi
    refine ⟨?_, hq1 i hi⟩
    rcases hd1 with ⟨e, _⟩ | ⟨es, rest, e1, e2, e3⟩
    · subst e; simp at hi
    · rw [e1] at hb
      simp only [Rows.uptoBulk] at hb
      obtain ⟨x, x1, x2⟩ := e3 i hi
      have := hmem es i x x1
      have := hreads x _ x2
      omega
  obtain ⟨k, hplain⟩ := plain a0 hr0 l1 ns1 hc1 hr1
  have hs : SoundRs Try.prog tab 6 false [.agg 58 a0, .slr 116 l1] (.bool true, none) := by
    refine (laws_FnExactFirstClash_ok k).sound [.agg 58 a0, .slr 116 l1] (.bool true, none) ?_
    show ((laws_FnExactFirstClash k a0 l1).bind fun (b : Bool) => some ((fV .bool (enc_b b)).1, (none : Option (List Int)))) = _
    rw [hplain]
    rfl
  have hc := hs W (fun b => b < W.heap.size) #[v0, v1] (fun b hb => hb) (.cons ha0 (.cons ha1 .nil))
  refine hc.mono ?_
  rintro e W' ⟨u, rfl, hB, hR, _⟩
  cases hR with
  | flat _ _ hf =>
    simp only [FV] at hf
    subst hf
    refine ⟨_, rfl, post_true laid hW' rfl (by kernel_rfl) Try.underlying4 ?_ rfl rfl rfl hB⟩
    intro t ht
    rw [Try.params6] at ht
    simp only [List.mem_cons, List.not_mem_nil, or_false] at ht
    rcases ht with rfl | rfl
    · exact ⟨rec58, row58⟩
    · exact ⟨rec62, row62⟩

set_option maxRecDepth 100000 in
theorem lifted (os : Os) (started : os.Started) (H : Type) (enc : TypeId × Value → H) (F : Stop.Interp) :
    ReturnsInHanded {} Try.checked os 6 .any ((Rows.OpenSpec.upto Rows.fnExactFirstClashSpec).pre6 enc Try.prog Try.f6 Rows.fnExactFirstClashUptoRow.domain false) (((Rows.OpenSpec.upto Rows.fnExactFirstClashSpec).at F).post enc Try.prog Try.f6 false true false false) := by
  refine returnsInHanded_of_cond (C := Try.checked) (s := Rows.OpenSpec.upto Rows.fnExactFirstClashSpec) (k := Rows.uptoSmall) rfl own started (by kernel_rfl) Try.func6
    (OpenSpec.witness (enc := enc) (C := Try.checked) (s := Rows.OpenSpec.upto Rows.fnExactFirstClashSpec) (k := Rows.uptoSmall) rfl false ⟨#[], #[.agg ((zipV (tab.at 58).ks (zeros (tab.at 58))).toArray), .slice none 0 0], []⟩ 8 (by kernel_rfl) (by kernel_rfl) (by kernel_rfl)
      (x := ([.agg [.lit (.int .i8 0), .lit (.int .i8 0), .agg (List.replicate 10 (.agg (List.replicate 10 (.lit (.int .u8 0)))))], .nil], [], [])) (by kernel_rfl) rfl (by kernel_rfl)) ?_
  intro W base args ds gs before hval hW _ hk _
  exact contract H enc W base args ds gs before hval hW hk

theorem over : Rows.fnExactFirstClashUptoRow.holds Try.pinned (Rows.OpenSpec.upto Rows.fnExactFirstClashSpec) :=
  OpenClaim.holds_of_cond 6 Try.f6 rfl rfl rfl rfl rfl rfl rfl ⟨rfl, rfl, rfl, rfl, rfl⟩ rfl rfl rfl rfl rfl (by kernel_rfl) Try.func6 (by kernel_rfl)
    (of_decide_eq_true (by kernel_rfl)) (by unfold Func.isWrapper; first | (rw [if_pos (by decide +kernel)]; kernel_rfl) | (rw [if_neg (by decide +kernel)]; exact ⟨rfl, rfl⟩))
    (fun os started H enc _ F => lifted os started H enc F)

theorem proved : Rows.FnExactFirstClashUptoSaid :=
  over
end Go.Proofs.Ytkdpdmfkomnalaa.firstClash
