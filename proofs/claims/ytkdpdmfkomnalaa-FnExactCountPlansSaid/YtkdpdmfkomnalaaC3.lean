/- Plain laws: the program's count is the number of plans. -/
import Derived.Test.YtkdpdmfkomnalaaC2
set_option linter.unusedVariables false
set_option linter.unusedSimpArgs false
namespace Go.Proofs.Ytkdpdmfkomnalaa.Tt
open Go.Ev Go

theorem impl_count {cut most : Int} {L : List (Int × Int)} (hL : L.length ≤ 30) (hday : ∀ p ∈ L, DayOK p) (hcut : 0 ≤ cut ∧ cut ≤ 200) (hmost : 0 ≤ most ∧ most ≤ 200) (fw : List (List Int × Int)) :
    ∀ (n d : Nat) (h : Int) (m k : Nat) (es : List (List Int × Int)), d + n = L.length → n < k → 0 ≤ h ∧ h ≤ 200 → m ≤ 30 → Memo cut most (L.map growV) es →
      ∃ es', impl_planner_count k cut most (fl L) fw es (d : Int) h (m : Int) = some ((cntP cut most ((L.map growV).drop d) h m : Int), (cut, most, fl L, fw, es')) ∧ Memo cut most (L.map growV) es' := by
  intro n
  induction n with
  | zero =>
    intro d h m k es hd hk hh hm he
    obtain ⟨k, rfl⟩ : ∃ g, k = g + 1 := ⟨k - 1, by omega⟩
    refine ⟨es, ?_, he⟩
    have hdr : (L.map growV).drop d = [] := List.drop_of_length_le (by rw [List.length_map]; omega)
    rw [impl_planner_count, cnt_fl, eqT (show (d : Int) = (L.length : Int) by omega), hdr]
    simp only [cond_true]
    unfold cntP
    by_cases q : m = 0
    · subst q; rfl
    · rw [eqF (show (m : Int) ≠ 0 by omega), if_neg q]
      rfl
  | succ n ih =>
    intro d h m k es hd hk hh hm he
    obtain ⟨k, rfl⟩ : ∃ g, k = g + 1 := ⟨k - 1, by omega⟩
    have hdl : d < L.length := by omega
    have hdr : (L.map growV).drop d = growV (L.getD d (0, 0)) :: (L.map growV).drop (d + 1) := by
      rw [drop_getD (L.map growV) 0 (by rw [List.length_map]; exact hdl)]
      congr 1
      simp [List.getD_eq_getElem?_getD, List.getElem?_map, List.getElem?_eq_getElem hdl]
    rw [impl_planner_count, cnt_fl, eqF (show (d : Int) ≠ (L.length : Int) by omega)]
    simp only [cond_false]
    cases hq : hasK es [(d : Int), h, (m : Int)] with
    | true =>
      simp only [cond_true]
      exact ⟨es, by rw [he d h m hq], he⟩
    | false =>
      simp only [cond_false, Int.toNat_natCast, fl_x, fl_y]
      have hp := hday _ (getD_mem L (0, 0) hdl)
      generalize L.getD d (0, 0) = p at hp hdr
      have hg := growV_range hp
      rw [bT (p := (0 : Int) ≤ (d : Int)) (by omega), bT (p := (d : Int) < (L.length : Int)) (by omega), impl_grow k hp]
      simp only [Bool.and_true, cond_true, Option.bind_some, minI_low]
      generalize growV p = g at hg hdr
      have hlow : 0 ≤ lowH cut h ∧ lowH cut h ≤ 200 := by unfold lowH; split <;> omega
      rw [wrap64 (x := h + g) (by omega), wrap64 (x := (d : Int) + 1) (by omega), wrap64 (x := lowH cut h + g) (by omega), show (d : Int) + 1 = ((d + 1 : Nat) : Int) by omega]
      have hv : (cntP cut most ((L.map growV).drop d) h m : Int) = ((if h + g ≤ most then cntP cut most ((L.map growV).drop (d + 1)) (h + g) m else 0 : Nat) : Int) + ((if lowH cut h + g ≤ most ∧ 0 < m then cntP cut most ((L.map growV).drop (d + 1)) (lowH cut h + g) (m - 1) else 0 : Nat) : Int) := by
        rw [hdr]; simp only [cntP]; omega
      have hle : ∀ (h : Int) (m : Nat), (cntP cut most ((L.map growV).drop (d + 1)) h m : Int) ≤ 1073741824 := by
        intro h m
        have h1 := cntP_le cut most ((L.map growV).drop (d + 1)) h m
        have h2 : 2 ^ ((L.map growV).drop (d + 1)).length ≤ 2 ^ 30 := Nat.pow_le_pow_right (by decide) (by rw [List.length_drop, List.length_map]; omega)
        have : (2 : Nat) ^ 30 = 1073741824 := by decide
        omega
      by_cases c1 : h + g ≤ most
      · rw [bT c1]
        simp only [cond_true]
        obtain ⟨es1, e1, he1⟩ := ih (d + 1) (h + g) m k es (by omega) (by omega) (by omega) hm he
        rw [e1]
        simp only [Option.bind_some]
        have b1 := hle (h + g) m
        rw [wrap64 (x := 0 + _) (by omega), Int.zero_add, wrap64 (x := lowH cut h + g) (by omega)]
        by_cases c2 : lowH cut h + g ≤ most
        · rw [bT c2]
          simp only [cond_true]
          by_cases c3 : 0 < m
          · rw [bT (p := (m : Int) > 0) (by omega), wrap64 (x := (m : Int) - 1) (by omega), show (m : Int) - 1 = ((m - 1 : Nat) : Int) by omega]
            simp only [cond_true]
            obtain ⟨es2, e2, he2⟩ := ih (d + 1) (lowH cut h + g) (m - 1) k es1 (by omega) (by omega) (by omega) (by omega) he1
            rw [e2]
            simp only [Option.bind_some]
            have b2 := hle (lowH cut h + g) (m - 1)
            rw [wrap64 (x := _ + _) (by omega)]
            rw [if_pos c1, if_pos ⟨c2, c3⟩] at hv
            rw [hv]
            exact ⟨_, rfl, memo_put he2 d h m hv.symm⟩
          · rw [bF (p := (m : Int) > 0) (by omega)]
            simp only [cond_false]
            rw [if_pos c1, if_neg (fun q => c3 q.2)] at hv
            have hv : (cntP cut most ((L.map growV).drop d) h m : Int) = (cntP cut most ((L.map growV).drop (d + 1)) (h + g) m : Int) := by omega
            rw [hv]
            exact ⟨_, rfl, memo_put he1 d h m hv.symm⟩
        · rw [bF c2]
          simp only [cond_false]
          rw [if_pos c1, if_neg (fun q => c2 q.1)] at hv
          have hv : (cntP cut most ((L.map growV).drop d) h m : Int) = (cntP cut most ((L.map growV).drop (d + 1)) (h + g) m : Int) := by omega
          rw [hv]
          exact ⟨_, rfl, memo_put he1 d h m hv.symm⟩
      · rw [bF c1]
        simp only [cond_false]
        by_cases c2 : lowH cut h + g ≤ most
        · rw [bT c2]
          simp only [cond_true]
          by_cases c3 : 0 < m
          · rw [bT (p := (m : Int) > 0) (by omega), wrap64 (x := (m : Int) - 1) (by omega), show (m : Int) - 1 = ((m - 1 : Nat) : Int) by omega]
            simp only [cond_true]
            obtain ⟨es2, e2, he2⟩ := ih (d + 1) (lowH cut h + g) (m - 1) k es (by omega) (by omega) (by omega) (by omega) he
            rw [e2]
            simp only [Option.bind_some]
            have b2 := hle (lowH cut h + g) (m - 1)
            rw [wrap64 (x := 0 + _) (by omega), Int.zero_add]
            rw [if_neg c1, if_pos ⟨c2, c3⟩] at hv
            have hv : (cntP cut most ((L.map growV).drop d) h m : Int) = (cntP cut most ((L.map growV).drop (d + 1)) (lowH cut h + g) (m - 1) : Int) := by omega
            rw [hv]
            exact ⟨_, rfl, memo_put he2 d h m hv.symm⟩
          · rw [bF (p := (m : Int) > 0) (by omega)]
            simp only [cond_false]
            rw [if_neg c1, if_neg (fun q => c3 q.2)] at hv
            have hv : (cntP cut most ((L.map growV).drop d) h m : Int) = 0 := by omega
            rw [hv]
            exact ⟨_, rfl, memo_put he d h m hv.symm⟩
        · rw [bF c2]
          simp only [cond_false]
          rw [if_neg c1, if_neg (fun q => c2 q.1)] at hv
          have hv : (cntP cut most ((L.map growV).drop d) h m : Int) = 0 := by omega
          rw [hv]
          exact ⟨_, rfl, memo_put he d h m hv.symm⟩

end Go.Proofs.Ytkdpdmfkomnalaa.Tt
