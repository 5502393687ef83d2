/- CheckWalk: the law FnExactCheckWalk's code returns true for every lawn and every row of cells that the given statement '..Said' lets in: proved over a verified evaluator of the code (E1 to E6) and a plain proof (Y1 to Y8). No condition but the given statement's own. -/
import Derived.Test.YtbibnmaoagcfgaaPr
import Derived.Test.YtbibnmaoagcfgaaE6
import Derived.Test.YtbibnmaoagcfgaaY8
import Derived.Test.YtbibnmaoagcfgaaRows
import Derived.WalkKit
import Derived.ProofKit
import Derived.JoinedCond
import Derived.JoinedOf
import Derived.Handed
set_option linter.unusedVariables false
set_option linter.unusedSimpArgs false
namespace Go.Proofs.Ytbibnmaoagcfgaa.checkWalk
open Go.Ev Go.ChangeShapes Go.WideShapes Go.ChangeAt Go.RowKit Go.Proofs.Ytbibnmaoagcfgaa.Tt
set_option linter.unusedVariables false

theorem own : ownKnob Try.prog.godebug = none := by kernel_rfl
theorem laid : laidOutB Try.prog = true := by kernel_rfl
theorem rec26 : Try.prog.readableRec 26 = true := by kernel_rfl
theorem rec43 : Try.prog.readableRec 43 = true := by kernel_rfl
theorem row26 : (26 : TypeId) < Try.prog.types.size := of_decide_eq_true (by kernel_rfl)
theorem row43 : (43 : TypeId) < Try.prog.types.size := of_decide_eq_true (by kernel_rfl)

theorem ks26 : (tab.at 26).ks = [.int .i8, .int .i8] ++ List.replicate 100 (.int .u8) := by kernel_rfl
theorem size26 : (tab.at 26).size = 102 := by kernel_rfl
theorem ks89 : (tab.at 89).ks = [.int .i8, .int .i8] := by kernel_rfl
theorem size89 : (tab.at 89).size = 2 := by kernel_rfl

theorem bd8 {n : Int} (h : inKind (.int .i8) n) : -128 ≤ n ∧ n < 128 := by
  simp [inKind, Lit.wf, IntKind.min, IntKind.max, IntKind.signed, IntKind.bits] at h
  omega
theorem bdu8 {n : Int} (h : inKind (.int .u8) n) : 0 ≤ n ∧ n < 256 := by
  simp [inKind, Lit.wf, IntKind.min, IntKind.max, IntKind.signed, IntKind.bits] at h
  omega

theorem lawnR {a : List Int} (ha : InR tab 26 a) : LawnR a := by
  obtain ⟨h1, h2⟩ := ha
  rw [size26] at h1 h2
  rw [ks26] at h2
  refine ⟨h1, bd8 (h2 0 (by omega)), bd8 (h2 1 (by omega)), fun j hj => ?_⟩
  have h := h2 (2 + j) (by omega)
  have hk : kindAt ([SK.int .i8, SK.int .i8] ++ List.replicate 100 (SK.int .u8)) (2 + j) = .int .u8 := by
    rw [kindAt_lt (by rw [List.length_append, List.length_replicate]; show 2 + j < 2 + 100; omega), List.getD_eq_getElem?_getD, List.getElem?_append_right (by show 2 ≤ 2 + j; omega)]
    show ((List.replicate 100 (SK.int .u8))[2 + j - 2]?).getD .bool = _
    rw [List.getElem?_replicate, if_pos (by omega)]
    rfl
  rw [hk] at h
  exact bdu8 h

theorem kind89 (j : Nat) : kindAt [SK.int .i8, SK.int .i8] j = .int .i8 := by
  unfold kindAt
  have h : j % 2 = 0 ∨ j % 2 = 1 := by omega
  show List.getD _ (j % 2) _ = _
  rcases h with h | h <;> rw [h] <;> rfl

theorem slice_bound {P : Program} {H : Type} {enc : TypeId × Value → H} {w : World} {base : Nat} {spare : Nat → Bool} {held : Bool} {t e : TypeId} {v : Value} {d : DataW H} {ps : List MemPlace} (hd : P.underlying t = some (.slice e)) (h : DataW.Trod enc P w base spare held t v d ps) {es rest : List (DataW H)} (he : d = .slice es rest) : es.length ≤ 9223372036854775807 := by
  subst he
  obtain ⟨fuel, hfu⟩ := h
  rcases DataW.trod_slice hd hfu with ⟨_, h2⟩ | ⟨ad, len, cap, elems, rest', n, _, _, h2, _, h4, h5, h6, _, _, _⟩
  · injection h2 with h2 _
    cases h2
  · injection h2 with h2 _
    injection h2 with h2 _
    subst h2
    simp only [maxLen] at h5
    rw [List.length_map, h6]
    omega

theorem plainS (a l : List Int) (n : Nat) (ha : InR tab 26 a) (hl : l.length = n * (tab.at 89).size) (hn : n ≤ 1048576) (hr : ∀ j, j < l.length → inKind (kindAt (tab.at 89).ks j) (rd l j)) : ∃ k, laws_FnExactCheckWalk k a l = some true := by
  rw [size89] at hl
  rw [ks89] at hr
  exact ⟨_, checkWalk_true (lawnR ha) ⟨hl, hn, fun j hj => bd8 (by have := hr j hj; rw [kind89] at this; exact this)⟩⟩

theorem big (a l : List Int) (n : Nat) (ha : InR tab 26 a) (hl : l.length = n * (tab.at 89).size) (hn : n ≤ 9223372036854775807) (hr : ∀ j, j < l.length → inKind (kindAt (tab.at 89).ks j) (rd l j)) (hb : ¬ n ≤ 1048576) : laws_FnExactCheckWalk 0 a l = some true := by
  unfold laws_FnExactCheckWalk laws_szCellS
  have hc : cnt 2 l = n := by rw [size89] at hl; unfold cnt; rw [hl]; exact Nat.mul_div_cancel _ (by decide)
  have hw : IntKind.wrap .i64 (1048576 - (n : Int)) = 1048576 - (n : Int) := by
    simp only [IntKind.wrap, IntKind.bits, IntKind.signed]
    simp
    omega
  have hd : decide (1048576 - (n : Int) < 0) = true := decide_eq_true (by omega)
  rw [hc, hw, hd]
  rfl

theorem plain (a l : List Int) (n : Nat) (ha : InR tab 26 a) (hl : l.length = n * (tab.at 89).size) (hn : n ≤ 9223372036854775807) (hr : ∀ j, j < l.length → inKind (kindAt (tab.at 89).ks j) (rd l j)) : ∃ k, laws_FnExactCheckWalk k a l = some true := by
  by_cases hb : n ≤ 1048576
  · exact plainS a l n ha hl hb hr
  · exact ⟨0, big a l n ha hl hn hr hb⟩

set_option maxRecDepth 100000 in
theorem contract (H : Type) (enc : TypeId × Value → H) (W : World) (base : Nat) (args : Array Value) (ds gs : List (DataW H)) (before : List MemPlace)
    (hval : ∀ (j : Nat) t v, Try.f5.params[j]? = some t → args[j]? = some v → Value.okWide Try.prog W .any base t v)
    (hW : DataW.Whole enc Try.prog Try.f5.params.toList Rows.fnExactCheckWalkSpec.vars false W args.toList ds gs before) :
    Calls Try.prog 5 args W fun e W' => ∃ v, e = .returned v ∧ Rows.fnExactCheckWalkSpec.post enc Try.prog Try.f5 false true false false W args v W' := by
  have hW' := hW
  obtain ⟨p, q, hA0, hV, rfl, hfz, hnd⟩ := hW
  have hA : DataW.TrodAll enc Try.prog W 0 (fun _ => true) true Try.f5.params.toList args.toList ds p := hA0
  rw [Try.params5] at hA hval
  obtain ⟨v0, vs0, d0, ds0, p0, q0, hargs, rfl, rfl, h0, r0⟩ := trodAll_cons hA
  obtain ⟨v1, vs1, d1, ds1, p1, q1, rfl, rfl, rfl, h1, r1⟩ := trodAll_cons r0
  obtain ⟨rfl, rfl, rfl⟩ := trodAll_nil r1
  obtain rfl : args = #[v0, v1] := by cases args; simp_all
  obtain ⟨rfl, rfl⟩ := trodVars_none hV
  obtain ⟨a, ha, hra⟩ := in_agg (T := tab) tabOK eqTabOK (t := 26) (Fr := fun b => b < W.heap.size) (by kernel_rfl) (by kernel_rfl) (hval 0 26 v0 rfl rfl) h0
  obtain ⟨l, n, hl, hln, hrl, hd⟩ := in_slice (T := tab) tabOK eqTabOK (t := 43) (e := 89) (by kernel_rfl) (by kernel_rfl) (hval 1 43 v1 rfl rfl) h1
  have hn : n ≤ 9223372036854775807 := by
    rcases hd with ⟨e, _⟩ | ⟨es, rest, e1, e2⟩
    · omega
    · rw [← e2]
      exact slice_bound Try.underlying43 h1 e1
  obtain ⟨k, hplain⟩ := plain a l n hra hln hn hrl
  have hs : SoundRs Try.prog tab 5 false [.agg 26 a, .slv 89 l] (.bool true, none) := by
    refine (laws_FnExactCheckWalk_ok k).sound [.agg 26 a, .slv 89 l] (.bool true, none) ?_
    show ((laws_FnExactCheckWalk k a l).bind fun (b : Bool) => some ((fV .bool (enc_b b)).1, (none : Option (List Int)))) = _
    rw [hplain]
    rfl
  have hc := hs W (fun b => b < W.heap.size) #[v0, v1] (fun b hb => hb) (.cons ha (.cons hl .nil))
  refine hc.mono ?_
  rintro e W' ⟨u, rfl, hB, hR, _⟩
  cases hR with
  | flat _ _ hf =>
    simp only [FV] at hf
    subst hf
    refine ⟨_, rfl, post_true laid hW' rfl (by kernel_rfl) Try.underlying4 ?_ rfl rfl rfl hB⟩
    intro t ht
    rw [Try.params5] at ht
    simp only [List.mem_cons, List.not_mem_nil, or_false] at ht
    rcases ht with rfl | rfl
    · exact ⟨rec26, row26⟩
    · exact ⟨rec43, row43⟩

def zeroLawn : Value := .agg ((zipV (tab.at 26).ks (zeros (tab.at 26))).toArray)

set_option maxRecDepth 100000 in
theorem lifted (os : Os) (started : os.Started) (H : Type) (enc : TypeId × Value → H) :
    ReturnsInHanded {} Try.checked os 5 .any (Rows.fnExactCheckWalkSpec.pre6 enc Try.prog Try.f5 Rows.fnExactCheckWalkRow.domain false) (Rows.fnExactCheckWalkSpec.post enc Try.prog Try.f5 false true false false) := by
  refine returnsInHanded_of_change (C := Try.checked) own started (by kernel_rfl) Try.func5
    (ChangeSpec.witness6 (enc := enc) (C := Try.checked) false ⟨#[], #[zeroLawn, .slice none 0 0], []⟩ 8 (by kernel_rfl) (by kernel_rfl) (by kernel_rfl) (by kernel_rfl)) ?_
  intro W base args ds gs before hval hW _ _
  exact contract H enc W base args ds gs before hval hW

theorem over : Rows.fnExactCheckWalkRow.holds Try.pinned (OpenSpec.ofChange Rows.fnExactCheckWalkSpec) :=
  OpenClaim.holds_of_wide 5 Try.f5 rfl rfl rfl rfl rfl rfl rfl ⟨rfl, rfl, rfl, rfl, rfl⟩ rfl rfl rfl rfl rfl (by kernel_rfl) Try.func5 (by kernel_rfl)
    (of_decide_eq_true (by kernel_rfl)) (by unfold Func.isWrapper; first | (rw [if_pos (by decide +kernel)]; kernel_rfl) | (rw [if_neg (by decide +kernel)]; exact ⟨rfl, rfl⟩))
    (fun os started H enc _ => lifted os started H enc)

theorem proved : Rows.FnExactCheckWalkSaid :=
  over
end Go.Proofs.Ytbibnmaoagcfgaa.checkWalk
