/- Plain laws: steps from a cell, in the reference and in the program. -/
import Derived.Test.YtmpcninebooaiaaY35
import Derived.Test.YtmpcninebooaiaaY10b
set_option linter.unusedVariables false
set_option linter.unusedSimpArgs false
namespace Go.Proofs.Ytmpcninebooaiaa.Tt
open Go.Ev Go

theorem impl_openC (k : Nat) {a : List Int} (ha : LawnR a) (L : List (Int × Int)) (hL : L.length ≤ 1000) (hk : 10 < k) (hk2 : L.length < k) :
    impl_openCode k a (fl L) = some (cond (lawnB a) (cond (L.any fun p => !(hasB a p.1 p.2)) 2 (cond (L.any fun p => !(openP a p)) 4 0)) 1) := by
  unfold impl_openCode
  rw [impl_cells k ha L hL hk hk2]
  simp only [Option.bind_some]
  cases hv : lawnB a with
  | false => rfl
  | true =>
    cases (L.any fun p => !(hasB a p.1 p.2)) with
    | true => rfl
    | false =>
      simp only [cond_true, cond_false, beq_self_eq_true]
      rw [containsFunc_cells k L _ (fun p => !(openP a p)) (fun p _ => by
        show (impl_openCode_1 k [p.1, p.2] a).bind _ = _
        unfold impl_openCode_1
        rw [show impl_Lawn_open k a [rd [p.1, p.2] 0, rd [p.1, p.2] 1] = some (openP a p) from impl_openP k (lawnS_of' ha hv) p]
        rfl) (by omega) hk2]
      simp only [Option.bind_some]
      cases (L.any fun p => !(openP a p)) <;> rfl

theorem reach_fill {R : Type} (n : Nat) (K1 : (List Int) → Bool → (List Int) → (List Int) → (List Int) → Option R) (a : List Int) (b : Bool) (q z : List Int) :
    spec_l01Reach_l1 (n + 11) K1 a b 0 q z (List.replicate 100 0) = K1 a b q z (List.replicate 100 (-1)) := by kernel_rfl

theorem rd_rep (n : Nat) (v : Int) (j : Nat) : rd (List.replicate n v) j = v ∨ rd (List.replicate n v) j = 0 := by
  unfold rd
  rw [List.getD_eq_getElem?_getD, List.getElem?_replicate]
  split
  · exact .inl rfl
  · exact .inr rfl

/-- Where the search begins. -/
def begS (p : Int × Int) : List Int := List.set (List.replicate 100 (-1)) (ix p) 0

theorem begS_BI {a : List Int} {w h : Nat} (v : LawnV a w h) {p : Int × Int} (ho : openP a p = true) : BI a w h (begS p) [p] := by
  obtain ⟨hin, hx, hy⟩ := open_in v ho
  have hix : ix p < 100 := by unfold ix; omega
  have hv : ∀ j, rd (begS p) j = -1 ∨ rd (begS p) j = 0 := by
    intro j
    unfold begS
    rw [rd_set4]
    split
    · exact .inr rfl
    · exact rd_rep 100 (-1) j
  refine ⟨by simp [begS], fun j => ?_, fun j => ?_, fun q hq => ?_, ?_⟩
  · rcases hv j with e | e <;> omega
  · rcases hv j with e | e <;> rw [e] <;> simp
  · rw [List.mem_singleton] at hq
    subst hq
    refine ⟨ho, ?_⟩
    unfold begS
    rw [rd_set4, if_pos ⟨rfl, by simpa using hix⟩]
    omega
  · have h1 : negs w h (begS p) ≤ (allC w h).length := List.length_filter_le _ _
    have h2 := allC_small v
    show negs w h (begS p) + 1 ≤ 101
    omega

theorem tabV_rep {w h : Nat} (hw : w ≤ 10) (hh : h ≤ 10) : tabV w h (List.replicate 100 (-1)) = List.replicate (h * w) (-1) := by
  apply List.ext_getElem?
  intro j
  unfold tabV
  rw [List.getElem?_map, List.getElem?_replicate]
  split
  · rename_i hj
    have hjl : j < (allC w h).length := by rw [allC_length]; exact hj
    rw [List.getElem?_eq_getElem hjl]
    have hm := allC_mem.1 (List.getElem_mem hjl)
    simp only [Option.map_some]
    have : ix (allC w h)[j] < 100 := by unfold ix; omega
    unfold rd
    rw [List.getD_eq_getElem?_getD, List.getElem?_replicate, if_pos this]
    rfl
  · rename_i hj
    rw [List.getElem?_eq_none (by rw [allC_length]; omega)]
    rfl

/-- Both searches end, and tell the same. -/
theorem steps_both (k : Nat) (hk : 110 < k) {a : List Int} {w h : Nat} (v : LawnV a w h) (f : List Int → Option Bool) (hf : ∀ p : Int × Int, f [p.1, p.2] = some (openP a p)) {p : Int × Int} (ho : openP a p = true) :
    ∃ S : List Int, S.length = 100 ∧ (∀ j, -1 ≤ rd S j ∧ rd S j ≤ 1000) ∧ spec_l01Reach k a [p.1, p.2] false = some S ∧ impl_Lawn_steps k a [p.1, p.2] f = some (tabV w h S) := by
  obtain ⟨hin, hx, hy⟩ := open_in v ho
  have hm := allC_mem.1 hin
  have hw := v.wle
  have hh := v.hle
  have hw1 := v.w1
  have hh1 := v.h1
  have b := begS_BI v ho
  have hfew := b.few
  obtain ⟨S, s1, s2, s3, s4⟩ := search_both k (by omega) (fun (y6 y7 : List Int) => some y7) (fun (y3 : List Int) => some y3) v f hf (List.replicate 100 0) 101 (begS p) [p] 0 (by simp) b (by omega)
  refine ⟨S, s1, s2, ?_, ?_⟩
  · unfold spec_l01Reach
    obtain ⟨n, rfl⟩ : ∃ n, k = n + 11 := ⟨k - 11, by omega⟩
    rw [reach_fill]
    have e0 : ([rd [p.1, p.2] 0, rd [p.1, p.2] 1] : List Int) = fl [p] := rfl
    have e1 : rd [p.1, p.2] 0 = p.1 := rfl
    have e2 : rd [p.1, p.2] 1 = p.2 := rfl
    rw [e0, e1, e2]
    simp (disch := omega) only [bT, cond_true, Bool.and_true, Nat.zero_add, Nat.mul_one]
    have := s3 (n + 11) (by omega)
    unfold spec_l01Reach_l3
    exact this
  · unfold impl_Lawn_steps
    have hb : w * h ≤ 100 := by
      have := Nat.mul_le_mul hw hh
      omega
    have hp : 1 ≤ w * h := Nat.mul_pos (by omega) (by omega)
    have e : (w : Int) * (h : Int) = ((w * h : Nat) : Int) := by rw [Int.natCast_mul]
    rw [v.wv, v.hv, wrap64 (x := (w : Int)) (by omega), wrap64 (x := (h : Int)) (by omega), e, wrap64 (by omega), repeat_one k (-1) ⟨hp, hb⟩ (by omega)]
    have e0 : ([rd [p.1, p.2] 0, rd [p.1, p.2] 1] : List Int) = [p.1, p.2] := rfl
    rw [e0]
    simp only [Option.bind_some]
    rw [impl_index k v hin]
    simp only [Option.bind_some, Int.toNat_natCast, Nat.mul_one]
    have hpos : p.2.toNat * w + p.1.toNat < h * w := by
      have := Nat.mul_le_mul_right w (show p.2.toNat + 1 ≤ h by omega)
      rw [Nat.succ_mul] at this
      omega
    rw [cnt1, List.length_replicate, Nat.mul_comm w h, bT (p := (0 : Int) ≤ ((p.2.toNat * w + p.1.toNat : Nat) : Int)) (by omega), bT (p := ((p.2.toNat * w + p.1.toNat : Nat) : Int) < ((h * w : Nat) : Int)) (by omega)]
    simp only [Bool.and_true, cond_true]
    rw [← tabV_rep hw hh, tabV_set hw hh _ (by simp) hin]
    unfold impl_Lawn_steps_l1
    exact s4 k (by omega)

theorem openF (k : Nat) {a : List Int} (ha : LawnS a) (p : Int × Int) : ((fun z2 => (impl_Lawn_open k a [(rd z2 0), (rd z2 1)]).bind fun b => some b) [p.1, p.2]) = some (openP a p) := by
  show (impl_Lawn_open k a [p.1, p.2]).bind _ = _
  rw [impl_openP k ha]
  rfl

end Go.Proofs.Ytmpcninebooaiaa.Tt
