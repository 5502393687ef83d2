/- FirstClash: the law FnExactFirstClash's code returns true for all arguments that the given statement '..Said' lets in: proved over a verified evaluator of the code (E1 to E6, Tab, Sh, Pr) and a plain proof of what the code computes (Y texts). No condition but the given statement's own. -/
import Derived.Test.YtkdpdmfkomnalaaPr
import Derived.Test.YtkdpdmfkomnalaaE6
import Derived.Test.YtkdpdmfkomnalaaY46
import Derived.Test.YtkdpdmfkomnalaaZ1
import Derived.Test.YtkdpdmfkomnalaaZ7
import Derived.Test.YtkdpdmfkomnalaaRows
import Derived.WalkKit
import Derived.ProofKit
import Derived.JoinedCond
import Derived.JoinedOf
import Derived.Handed
set_option linter.unusedVariables false
set_option linter.unusedSimpArgs false
namespace Go.Proofs.Ytkdpdmfkomnalaa.firstClash
open Go.Ev Go.ChangeShapes Go.WideShapes Go.ChangeAt Go.RowKit Go.Proofs.Ytkdpdmfkomnalaa.Tt
set_option linter.unusedVariables false

theorem own : ownKnob Try.prog.godebug = none := by kernel_rfl
theorem laid : laidOutB Try.prog = true := by kernel_rfl
theorem rec58 : Try.prog.readableRec 58 = true := by kernel_rfl
theorem row58 : (58 : TypeId) < Try.prog.types.size := of_decide_eq_true (by kernel_rfl)
theorem rec62 : Try.prog.readableRec 62 = true := by kernel_rfl
theorem row62 : (62 : TypeId) < Try.prog.types.size := of_decide_eq_true (by kernel_rfl)
theorem ks58 : (tab.at 58).ks = [(.int .i8), (.int .i8)] ++ List.replicate 100 (.int .u8) := by kernel_rfl
theorem size58 : (tab.at 58).size = 102 := by kernel_rfl
theorem ks70 : (tab.at 70).ks = [(.int .i8), (.int .i8)] := by kernel_rfl
theorem size70 : (tab.at 70).size = 2 := by kernel_rfl

theorem slice_bound {P : Program} {H : Type} {enc : TypeId × Value → H} {w : World} {base : Nat} {spare : Nat → Bool} {held : Bool} {t e : TypeId} {v : Value} {d : DataW H} {ps : List MemPlace} (hd : P.underlying t = some (.slice e)) (h : DataW.Trod enc P w base spare held t v d ps) {es rest : List (DataW H)} (he : d = .slice es rest) : es.length ≤ 9223372036854775807 := by
  subst he
  obtain ⟨fuel, hfu⟩ := h
  rcases DataW.trod_slice hd hfu with ⟨_, h2⟩ | ⟨ad, len, cap, elems, rest', n, _, _, h2, _, h4, h5, h6, _, _, _⟩
  · injection h2 with h2 _
    cases h2
  · injection h2 with h2 _
    injection h2 with h2 _
    subst h2
    simp only [maxLen] at h5
    rw [List.length_map, h6]
    omega

theorem rows_bound {P : Program} {H : Type} {enc : TypeId × Value → H} {w : World} {base : Nat} {spare : Nat → Bool} {held : Bool} {t e e' : TypeId} {v : Value} {d : DataW H} {ps : List MemPlace} (hd : P.underlying t = some (.slice e)) (hde : P.underlying e = some (.slice e')) (h : DataW.Trod enc P w base spare held t v d ps) {es rest : List (DataW H)} (he : d = .slice es rest)
    (i : Nat) (x : DataW H) (hx : es[i]? = some x) {es' rest' : List (DataW H)} (hx' : x = .slice es' rest') : es'.length ≤ 9223372036854775807 := by
  subst he hx'
  obtain ⟨fuel, hfu⟩ := h
  rcases DataW.trod_slice hd hfu with ⟨_, h2⟩ | ⟨ad, len, cap, elems, rest'', n, _, _, h2, _, h4, h5, h6, h7, _, _⟩
  · injection h2 with h2 _
    cases h2
  · injection h2 with h2 _
    injection h2 with h2 _
    subst h2
    rw [List.getElem?_map, Option.map_eq_some_iff] at hx
    obtain ⟨q, hq, hq2⟩ := hx
    have hi : i < len := by
      rcases Nat.lt_or_ge i len with c | c
      · exact c
      · rw [List.getElem?_eq_none (by omega)] at hq; cases hq
    have hb := h7 i hi
    rw [hq, Option.bind_eq_some_iff] at hb
    obtain ⟨cs, _, g2⟩ := hb
    rcases DataW.trod_slice hde g2 with ⟨_, k2⟩ | ⟨_, len2, cap2, elems2, rest2, n2, _, _, k2, _, k4, k5, k6, _, _, _⟩
    · rw [k2] at hq2
      cases hq2
    · rw [k2] at hq2
      injection hq2 with hq2 _
      simp only [maxLen] at k5
      rw [← hq2, List.length_map, k6]
      omega

theorem sz_loop (k : Nat) {l1 : List (List Int)} {ns1 : Nat → Nat} (hr : ∀ i, i < l1.length → ns1 i ≤ 9223372036854775807 ∧ (rdr l1 i).length = ns1 i * 2) (hc : l1.length ≤ 1048576) : ∀ (m i f : Nat) (left : Int), i + m = l1.length → m < f → 0 ≤ left ∧ left ≤ 1048576 → (∃ j, i ≤ j ∧ j < l1.length ∧ 1048576 < ns1 j) →
    loopF (fun (rec : (List (List Int)) × Int × Int → Option Int) (p : (List (List Int)) × Int × Int) => laws_szCellSS_s0 k (fun y1 => some y1) (fun y2 => some y2) (fun h1 h2 h3 => rec (h1, h2, h3)) p.1 p.2.1 p.2.2) f (l1, left, (i : Int)) = some (-1) := by
  intro m
  induction m with
  | zero => rintro i f left hi hf hl ⟨j, h1, h2, _⟩; omega
  | succ m ih =>
    rintro i f left hi hf hl ⟨j, h1, h2, h3⟩
    obtain ⟨f, rfl⟩ : ∃ g, f = g + 1 := ⟨f - 1, by omega⟩
    obtain ⟨r1, r2⟩ := hr i (by omega)
    have hcnt : cnt 2 (rdr l1 i) = ns1 i := by unfold cnt; rw [r2]; exact Nat.mul_div_cancel _ (by decide)
    rw [loopF]
    dsimp only
    rw [laws_szCellSS_s0, Int.toNat_natCast, bT (p := (i : Int) < (l1.length : Int)) (by omega), bT (p := (0 : Int) ≤ (i : Int)) (by omega), laws_szCellS, hcnt, wrap64 (x := left - (ns1 i : Int)) (by omega), wrap64 (x := (i : Int) + 1) (by omega), show (i : Int) + 1 = ((i + 1 : Nat) : Int) by omega]
    by_cases hq : left - (ns1 i : Int) < 0
    · rw [bT hq]
      rfl
    · rw [bF hq]
      simp only [cond_true, cond_false, Bool.and_true, Option.bind_some]
      rw [bF hq]
      have hne : i ≠ j := by intro e; subst e; omega
      exact ih (i + 1) f _ (by omega) (by omega) (by omega) ⟨j, by omega, h2, h3⟩

theorem sz_big (k : Nat) {l1 : List (List Int)} {ns1 : Nat → Nat} (hr : ∀ i, i < l1.length → ns1 i ≤ 9223372036854775807 ∧ (rdr l1 i).length = ns1 i * 2) (hc : l1.length ≤ 1048576) (hj : ∃ j, j < l1.length ∧ 1048576 < ns1 j) (hk : l1.length < k) : laws_szCellSS k l1 1048576 = some (-1) := by
  obtain ⟨j, h2, h3⟩ := hj
  unfold laws_szCellSS
  rw [wrap64 (x := 1048576 - (l1.length : Int)) (by omega), bF (p := 1048576 - (l1.length : Int) < 0) (by omega)]
  exact sz_loop k hr hc l1.length 0 k _ (by omega) hk (by omega) ⟨j, Nat.zero_le _, h2, h3⟩

theorem plainS (a0 : List Int) (h0 : InR tab 58 a0) (l1 : List (List Int)) (ns1 : Nat → Nat) (hc1 : l1.length ≤ 1048576) (hr1 : ∀ i, i < l1.length → ns1 i ≤ 1048576 ∧ (rdr l1 i).length = ns1 i * (tab.at 70).size ∧ ∀ j, j < (rdr l1 i).length → inKind (kindAt (tab.at 70).ks j) (rd (rdr l1 i) j)) : ∃ k, laws_FnExactFirstClash k a0 l1 = some true := by
  obtain ⟨Ls, rfl, hR⟩ := rowsR_of hc1 hr1 size70 ks70
  exact ⟨_, firstClash_true 1048590 (Nat.le_refl _) (lawnR_of h0 size58 ks58) hR⟩

theorem plain (a0 : List Int) (h0 : InR tab 58 a0) (l1 : List (List Int)) (ns1 : Nat → Nat) (hc1 : l1.length ≤ 9223372036854775807) (hr1 : ∀ i, i < l1.length → ns1 i ≤ 9223372036854775807 ∧ (rdr l1 i).length = ns1 i * (tab.at 70).size ∧ ∀ j, j < (rdr l1 i).length → inKind (kindAt (tab.at 70).ks j) (rd (rdr l1 i) j)) : ∃ k, laws_FnExactFirstClash k a0 l1 = some true := by
  by_cases h1 : l1.length ≤ 1048576
  · by_cases h2 : ∃ j, j < l1.length ∧ 1048576 < ns1 j
    · refine ⟨l1.length + 1, ?_⟩
      unfold laws_FnExactFirstClash
      rw [sz_big (l1.length + 1) (fun i hi => ⟨(hr1 i hi).1, by have := (hr1 i hi).2.1; rw [size70] at this; exact this⟩) h1 h2 (Nat.lt_succ_self _)]
      rfl
    · refine plainS a0 h0 l1 ns1 h1 fun i hi => ⟨?_, (hr1 i hi).2⟩
      rcases Nat.lt_or_ge 1048576 (ns1 i) with q | q
      · exact absurd ⟨i, hi, q⟩ h2
      · exact q
  · refine ⟨0, ?_⟩
    unfold laws_FnExactFirstClash laws_szCellSS
    rw [wrap64 (x := 1048576 - (l1.length : Int)) (by omega), bT (p := 1048576 - (l1.length : Int) < 0) (by omega)]
    rfl

set_option maxRecDepth 100000 in
theorem contract (H : Type) (enc : TypeId × Value → H) (W : World) (base : Nat) (args : Array Value) (ds gs : List (DataW H)) (before : List MemPlace)
    (hval : ∀ (j : Nat) t v, Try.f6.params[j]? = some t → args[j]? = some v → Value.okWide Try.prog W .any base t v)
    (hW : DataW.Whole enc Try.prog Try.f6.params.toList Rows.fnExactFirstClashSpec.vars false W args.toList ds gs before) :
    Calls Try.prog 6 args W fun e W' => ∃ v, e = .returned v ∧ Rows.fnExactFirstClashSpec.post enc Try.prog Try.f6 false true false false W args v W' := by
  have hW' := hW
  obtain ⟨p, q, hA0, hV, rfl, hfz, hnd⟩ := hW
  have hA : DataW.TrodAll enc Try.prog W 0 (fun _ => true) true Try.f6.params.toList args.toList ds p := hA0
  rw [Try.params6] at hA hval
  obtain ⟨v0, vs0, d0, ds0, p0, q0, hargs, rfl, rfl, g0, r0⟩ := trodAll_cons hA
  obtain ⟨v1, vs1, d1, ds1, p1, q1, rfl, rfl, rfl, g1, r1⟩ := trodAll_cons r0
  obtain ⟨rfl, rfl, rfl⟩ := trodAll_nil r1
  obtain rfl : args = #[v0, v1] := by cases args; simp_all
  obtain ⟨rfl, rfl⟩ := trodVars_none hV
  obtain ⟨a0, ha0, hr0⟩ := in_agg (T := tab) tabOK eqTabOK (t := 58) (Fr := fun b => b < W.heap.size) (by kernel_rfl) (by kernel_rfl) (hval 0 58 v0 rfl rfl) g0
  obtain ⟨l1, ha1, ns1, hq1, hd1⟩ := in_rows (T := tab) tabOK eqTabOK (t := 62) (e := 116) (e' := 70) (by kernel_rfl) (by kernel_rfl) (by kernel_rfl) (by kernel_rfl) (by kernel_rfl) (hval 1 62 v1 rfl rfl) g1
  have hc1 : l1.length ≤ 9223372036854775807 := by
    rcases hd1 with ⟨e, _⟩ | ⟨es, rest, e1, e2, _⟩
    · subst e; exact Nat.zero_le _
    · rw [← e2]
      exact slice_bound Try.underlying62 g1 e1
  have hr1 : ∀ i, i < l1.length → ns1 i ≤ 9223372036854775807 ∧ (rdr l1 i).length = ns1 i * (tab.at 70).size ∧ ∀ j, j < (rdr l1 i).length → inKind (kindAt (tab.at 70).ks j) (rd (rdr l1 i) j) := by
    intro i hi
    refine ⟨?_, hq1 i hi⟩
    rcases hd1 with ⟨e, _⟩ | ⟨es, rest, e1, e2, e3⟩
    · subst e; simp at hi
    · obtain ⟨x, x1, x2⟩ := e3 i hi
      rcases x2 with ⟨q, _⟩ | ⟨es', rest', q1, q2⟩
      · omega
      · rw [← q2]
        exact rows_bound Try.underlying62 Try.underlying116 g1 e1 i x x1 q1
  obtain ⟨k, hplain⟩ := plain a0 hr0 l1 ns1 hc1 hr1
  have hs : SoundRs Try.prog tab 6 false [.agg 58 a0, .slr 116 l1] (.bool true, none) := by
    refine (laws_FnExactFirstClash_ok k).sound [.agg 58 a0, .slr 116 l1] (.bool true, none) ?_
    show ((laws_FnExactFirstClash k a0 l1).bind fun (b : Bool) => some ((fV .bool (enc_b b)).1, (none : Option (List Int)))) = _
    rw [hplain]
    rfl
  have hc := hs W (fun b => b < W.heap.size) #[v0, v1] (fun b hb => hb) (.cons ha0 (.cons ha1 .nil))
  refine hc.mono ?_
  rintro e W' ⟨u, rfl, hB, hR, _⟩
  cases hR with
  | flat _ _ hf =>
    simp only [FV] at hf
    subst hf
    refine ⟨_, rfl, post_true laid hW' rfl (by kernel_rfl) Try.underlying4 ?_ rfl rfl rfl hB⟩
    intro t ht
    rw [Try.params6] at ht
    simp only [List.mem_cons, List.not_mem_nil, or_false] at ht
    rcases ht with rfl | rfl
    · exact ⟨rec58, row58⟩
    · exact ⟨rec62, row62⟩

set_option maxRecDepth 100000 in
theorem lifted (os : Os) (started : os.Started) (H : Type) (enc : TypeId × Value → H) :
    ReturnsInHanded {} Try.checked os 6 .any (Rows.fnExactFirstClashSpec.pre6 enc Try.prog Try.f6 Rows.fnExactFirstClashRow.domain false) (Rows.fnExactFirstClashSpec.post enc Try.prog Try.f6 false true false false) := by
  refine returnsInHanded_of_change (C := Try.checked) own started (by kernel_rfl) Try.func6
    (ChangeSpec.witness6 (enc := enc) (C := Try.checked) false ⟨#[], #[.agg ((zipV (tab.at 58).ks (zeros (tab.at 58))).toArray), .slice none 0 0], []⟩ 8 (by kernel_rfl) (by kernel_rfl) (by kernel_rfl) (by kernel_rfl)) ?_
  intro W base args ds gs before hval hW _ _
  exact contract H enc W base args ds gs before hval hW

theorem over : Rows.fnExactFirstClashRow.holds Try.pinned (OpenSpec.ofChange Rows.fnExactFirstClashSpec) :=
  OpenClaim.holds_of_wide 6 Try.f6 rfl rfl rfl rfl rfl rfl rfl ⟨rfl, rfl, rfl, rfl, rfl⟩ rfl rfl rfl rfl rfl (by kernel_rfl) Try.func6 (by kernel_rfl)
    (of_decide_eq_true (by kernel_rfl)) (by unfold Func.isWrapper; first | (rw [if_pos (by decide +kernel)]; kernel_rfl) | (rw [if_neg (by decide +kernel)]; exact ⟨rfl, rfl⟩))
    (fun os started H enc _ => lifted os started H enc)

theorem proved : Rows.FnExactFirstClashSaid :=
  over
end Go.Proofs.Ytkdpdmfkomnalaa.firstClash
