/- Plain laws: DeleteFunc over cells; those; cells of a kind. -/
import Derived.Test.YtkblhnedillknaaY10
set_option linter.unusedVariables false
set_option linter.unusedSimpArgs false
namespace Go.Proofs.Ytkblhnedillknaa.Tt
open Go.Ev Go

theorem fl_set : ∀ (B : List (Int × Int)) (i : Nat) (x y : Int), i < B.length → setWin (fl B) (i * 2) 2 [x, y] = fl (B.set i (x, y)) := by
  intro B
  induction B with
  | nil => intro i x y h; simp at h
  | cons p r ih =>
    intro i x y h
    obtain ⟨px, py⟩ := p
    cases i with
    | zero => simp [setWin, fl]
    | succ i =>
      have := ih i x y (by simpa using h)
      unfold setWin at this ⊢
      have e1 : (i + 1) * 2 = i * 2 + 1 + 1 := by omega
      have e2 : (i + 1) * 2 + 2 = i * 2 + 2 + 1 + 1 := by omega
      rw [e1]
      simp only [fl, List.set_cons_succ, List.take_succ_cons, List.drop_succ_cons, List.cons_append]
      simpa using this

theorem fl_take : ∀ (B : List (Int × Int)) (i : Nat), (fl B).take (i * 2) = fl (B.take i) := by
  intro B
  induction B with
  | nil => intro i; simp [fl]
  | cons p r ih =>
    intro i
    obtain ⟨px, py⟩ := p
    cases i with
    | zero => rfl
    | succ i =>
      have e1 : (i + 1) * 2 = i * 2 + 1 + 1 := by omega
      rw [e1]
      simp only [fl, List.take_succ_cons, ih]

/-- DeleteFunc's list and how many it has kept, once it has looked at n. -/
def dB (g : Int × Int → Bool) (L : List (Int × Int)) : Nat → List (Int × Int) × Nat
  | 0 => (L, 0)
  | n + 1 => cond (g (L.getD n (0, 0))) (dB g L n) ((dB g L n).1.set (dB g L n).2 (L.getD n (0, 0)), (dB g L n).2 + 1)

theorem dB_inv (g : Int × Int → Bool) (L : List (Int × Int)) : ∀ n, n ≤ L.length → (dB g L n).1.length = L.length ∧ (dB g L n).2 ≤ n ∧ (dB g L n).1.take (dB g L n).2 = (L.take n).filter (fun p => !(g p)) ∧ (dB g L n).1.drop n = L.drop n := by
  intro n
  induction n with
  | zero => intro _; simp [dB]
  | succ n ih =>
    intro hn
    obtain ⟨h1, h2, h3, h4⟩ := ih (by omega)
    have hd : (dB g L n).1.drop (n + 1) = L.drop (n + 1) := by
      have := congrArg (List.drop 1) h4
      simpa [List.drop_drop, Nat.add_comm] using this
    rw [take_getD L (0, 0) (show n < L.length by omega), List.filter_append]
    simp only [dB]
    cases hg : g (L.getD n (0, 0)) with
    | true =>
      simp only [cond_true, List.filter_cons, hg, Bool.not_true, Bool.false_eq_true, if_false, List.filter_nil, List.append_nil]
      exact ⟨h1, by omega, h3, hd⟩
    | false =>
      simp only [cond_false, List.filter_cons, hg, Bool.not_false, if_true, List.filter_nil]
      refine ⟨by rw [List.length_set]; exact h1, by omega, ?_, ?_⟩
      · rw [List.take_add_one, List.take_set, h3, List.getElem?_set_self (by omega)]
        have : ((L.take n).filter fun p => !(g p)).length ≤ (dB g L n).2 := by rw [← h3, List.length_take]; omega
        rw [List.set_eq_of_length_le this]
        rfl
      · rw [List.drop_set_of_lt (by omega)]
        exact hd

theorem dB_start (g : Int × Int → Bool) (L : List (Int × Int)) : ∀ n, n ≤ L.length → (∀ i, i < n → g (L.getD i (0, 0)) = false) → dB g L n = (L, n) := by
  intro n
  induction n with
  | zero => intro _ _; rfl
  | succ n ih =>
    intro hn h
    simp only [dB]
    rw [ih (by omega) (fun i hi => h i (by omega)), h n (by omega)]
    simp only [cond_false]
    congr 1
    rw [List.getD_eq_getElem?_getD, List.getElem?_eq_getElem (show n < L.length by omega)]
    simp

theorem findI_spec {α : Type} (g : α → Bool) (d : α) : ∀ (L : List α) (i : Nat), (findI g L i = -1 ∧ ∀ p ∈ L, g p = false) ∨ ∃ j, j < L.length ∧ findI g L i = ((i + j : Nat) : Int) ∧ g (L.getD j d) = true ∧ ∀ t, t < j → g (L.getD t d) = false := by
  intro L
  induction L with
  | nil => intro i; exact .inl ⟨rfl, by simp⟩
  | cons p r ih =>
    intro i
    simp only [findI]
    cases hg : g p with
    | true => exact .inr ⟨0, by simp, rfl, hg, fun t ht => by omega⟩
    | false =>
      simp only [cond_false]
      rcases ih (i + 1) with ⟨h1, h2⟩ | ⟨j, h1, h2, h3, h4⟩
      · refine .inl ⟨h1, fun q hq => ?_⟩
        rcases List.mem_cons.1 hq with rfl | hq
        · exact hg
        · exact h2 q hq
      · refine .inr ⟨j + 1, by simp; omega, by rw [h2]; omega, by simpa using h3, fun t ht => ?_⟩
        cases t with
        | zero => simpa using hg
        | succ t => simpa using h4 t (by omega)

theorem win_setWin {l m : List Int} {off n : Nat} (h : off ≤ l.length) : win (setWin l off n m) 0 off = l.take off := by
  unfold win setWin
  rw [List.drop_zero, List.take_append_of_le_length (by rw [List.length_take]; omega), List.take_take, Nat.min_self]

theorem cnt_setWin {l : List Int} {i n : Nat} (h : l.length = n * 2) (hi : i ≤ n) : cnt 2 (setWin l (i * 2) ((n - i) * 2) (List.replicate ((n - i) * 2) 0)) = n := by
  apply cnt_two
  unfold setWin
  simp
  omega

theorem deleteFunc_cells (k : Nat) (L : List (Int × Int)) (f : List Int → Option Bool) (g : Int × Int → Bool) (hf : ∀ p ∈ L, f [p.1, p.2] = some (g p)) (hL : L.length ≤ 1048576) (hk : L.length < k) :
    slices_DeleteFunc_impl_Cell k (fl L) f = some (fl (L.filter fun p => !(g p))) := by
  unfold slices_DeleteFunc_impl_Cell
  rw [indexFunc_cells k L f g hf hL hk]
  simp only [Option.bind_some]
  rcases findI_spec g (0, 0) L 0 with ⟨h1, h2⟩ | ⟨j, h1, h2, h3, h4⟩
  · rw [h1]
    have : L.filter (fun p => !(g p)) = L := List.filter_eq_self.2 fun p hp => by rw [h2 p hp]; rfl
    rw [this]
    rfl
  · rw [h2]
    simp (disch := omega) only [eqF, cond_false, wrap64, Nat.zero_add]
    unfold slices_DeleteFunc_impl_Cell_l0
    have key := loopF_go (R := List Int) (step := fun (rec : (List Int → Option Bool) × Int × Int × (List Int) → Option (List Int)) (p : (List Int → Option Bool) × Int × Int × (List Int)) => slices_DeleteFunc_impl_Cell_s0 k (fun y2 y3 =>
          cond ((decide (0 ≤ y2)) && (decide (y2 ≤ ((cnt 2 y3) : Int))))
            (cond ((decide (0 ≤ y2)) && (decide (y2 ≤ ((cnt 2 (setWin y3 (y2.toNat * 2) (((cnt 2 y3) - y2.toNat) * 2) (List.replicate (((cnt 2 y3) - y2.toNat) * 2) 0))) : Int))))
              (some (win (setWin y3 (y2.toNat * 2) (((cnt 2 y3) - y2.toNat) * 2) (List.replicate (((cnt 2 y3) - y2.toNat) * 2) 0)) 0 (y2.toNat * 2)))
              none)
            none) (fun h1 h2 h3 h4 => rec (h1, h2, h3, h4)) p.1 p.2.1 p.2.2.1 p.2.2.2)
      (fun i => (f, ((dB g L i).2 : Int), (i : Int), fl (dB g L i).1)) (fun _ _ => some (fl (L.filter fun p => !(g p)))) L.length ?_ ?_ (L.length - (j + 1)) (j + 1) k (by omega) (by omega)
    · have e : dB g L (j + 1) = (L, j) := by
        simp only [dB]
        rw [h3, dB_start g L j (by omega) h4]
        rfl
      rw [e] at key
      have ej : ((j + 1 : Nat) : Int) = (j : Int) + 1 := by omega
      rw [ej] at key
      exact key
    · intro rec
      dsimp only
      unfold slices_DeleteFunc_impl_Cell_s0
      obtain ⟨i1, i2, i3, i4⟩ := dB_inv g L L.length (Nat.le_refl _)
      rw [List.take_length] at i3
      generalize dB g L L.length = s at i1 i2 i3 i4 ⊢
      simp (disch := omega) only [cnt_fl, i1, bF, cond_false, bT, Bool.and_true, cond_true, Int.toNat_natCast]
      rw [cnt_setWin (by rw [fl_length, i1]) i2]
      simp (disch := omega) only [bT, Bool.and_true, cond_true]
      rw [win_setWin (by rw [fl_length]; omega), fl_take, i3]
    · intro i m hi rec hrec
      dsimp only at hrec ⊢
      unfold slices_DeleteFunc_impl_Cell_s0
      have hil : i < L.length := by omega
      obtain ⟨i1, i2, i3, i4⟩ := dB_inv g L i (by omega)
      have hm := hf _ (getD_mem L (0, 0) hil)
      have hd : (dB g L i).1.getD i (0, 0) = L.getD i (0, 0) := by
        have := congrArg (fun q => q[0]?) i4
        simp only [List.getElem?_drop, Nat.add_zero] at this
        rw [List.getD_eq_getElem?_getD, List.getD_eq_getElem?_getD, this]
      simp only [dB] at hrec
      generalize dB g L i = s at i1 i2 i3 i4 hd hrec ⊢
      simp (disch := omega) only [cnt_fl, i1, bT, cond_true, Bool.and_true, Int.toNat_natCast, fl_x, fl_y, hd, hm, Option.bind_some, wrap64]
      cases hg : g (L.getD i (0, 0)) with
      | true =>
        rw [hg] at hrec
        simp only [Bool.not_true, cond_false]
        exact hrec
      | false =>
        rw [hg] at hrec
        simp only [Bool.not_false, cond_true]
        rw [fl_set _ _ _ _ (by omega)]
        exact hrec

theorem allC_small {a : List Int} {w h : Nat} (v : LawnV a w h) : (allC w h).length ≤ 100 := by
  rw [allC_length]
  have := Nat.mul_le_mul v.hle v.wle
  omega

theorem impl_those (k : Nat) {a : List Int} {w h : Nat} (v : LawnV a w h) (f : List Int → Option Bool) (g : Int × Int → Bool) (hf : ∀ p ∈ allC w h, f [p.1, p.2] = some (g p)) (hk : 101 < k) :
    impl_Lawn_those k a f = some (fl ((allC w h).filter g)) := by
  have hs := allC_small v
  unfold impl_Lawn_those
  rw [impl_all k v (by omega)]
  simp only [Option.bind_some]
  rw [deleteFunc_cells k (allC w h) _ (fun p => !(g p)) (fun p hp => by
    unfold impl_Lawn_those_1
    rw [show f [rd [rd [p.1, p.2] 0, rd [p.1, p.2] 1] 0, rd [rd [p.1, p.2] 0, rd [p.1, p.2] 1] 1] = some (g p) from hf p hp]
    rfl) (by omega) (by omega)]
  simp only [Option.bind_some, Bool.not_not]

theorem hasB_all {a : List Int} {w h : Nat} (v : LawnV a w h) {p : Int × Int} (hp : p ∈ allC w h) : hasB a p.1 p.2 = true := by
  have := allC_mem.1 hp
  have := v.wv
  have := v.hv
  unfold hasB
  simp (disch := omega) only [bT, Bool.and_true]

theorem spec_cells (k : Nat) {a : List Int} {w h : Nat} (v : LawnV a w h) (n : Int) (hk : 101 < k) : spec_l01Cells k a n = some (fl ((allC w h).filter fun p => kindV a p.1 p.2 == n)) := by
  have hs := allC_small v
  unfold spec_l01Cells
  rw [spec_all k v (by omega)]
  simp only [Option.bind_some]
  unfold spec_l01Cells_l0
  have := loopF_go (step := fun (rec : (List Int) × Int × Int × (List Int) × (List Int) → Option (List Int)) (p : (List Int) × Int × Int × (List Int) × (List Int)) => spec_l01Cells_s0 k (fun y2 => some y2) (fun h1 h2 h3 h4 h5 => rec (h1, h2, h3, h4, h5)) p.1 p.2.1 p.2.2.1 p.2.2.2.1 p.2.2.2.2)
    (fun i => (a, n, (i : Int), fl (((allC w h).take i).filter fun p => kindV a p.1 p.2 == n), fl (allC w h))) (fun _ _ => some (fl ((allC w h).filter fun p => kindV a p.1 p.2 == n))) (allC w h).length ?_ ?_ (allC w h).length 0 k (by omega) (by omega)
  · exact this
  · intro rec
    dsimp only
    unfold spec_l01Cells_s0
    simp (disch := omega) only [cnt_fl, bF, cond_false, List.take_length]
  · intro i m hi rec hrec
    dsimp only at hrec ⊢
    unfold spec_l01Cells_s0
    have hil : i < (allC w h).length := by omega
    have hm := hasB_all v (getD_mem (allC w h) (0, 0) hil)
    have hlen : (fl (((allC w h).take i).filter fun p => kindV a p.1 p.2 == n)).length ≤ 200 := by
      rw [fl_length]
      have h1 := List.length_filter_le (fun p => kindV a p.1 p.2 == n) ((allC w h).take i)
      rw [List.length_take] at h1
      omega
    rw [take_getD _ (0, 0) hil, List.filter_append, fl_append] at hrec
    simp only [cnt_fl, Int.toNat_natCast, fl_x, fl_y]
    generalize (allC w h).getD i (0, 0) = p at hm hrec ⊢
    generalize fl (((allC w h).take i).filter fun p => kindV a p.1 p.2 == n) = o at hlen hrec ⊢
    rw [spec_at k v.toLawnS hm]
    have hb : decide (o.length + 2 ≤ bigLen) = true := bT (by rw [bigLen_val]; omega)
    simp (disch := omega) only [bT, cond_true, Bool.and_true, Option.bind_some, wrap64, hb]
    cases hq : (kindV a p.1 p.2 == n) with
    | true =>
      simp only [List.filter_cons, hq, if_true, List.filter_nil] at hrec
      simp only [cond_true]
      exact hrec
    | false =>
      simp only [List.filter_cons, hq, Bool.false_eq_true, if_false, List.filter_nil] at hrec
      simp only [cond_false]
      rw [show fl ([] : List (Int × Int)) = [] from rfl, List.append_nil] at hrec
      exact hrec

theorem grass_filter {a : List Int} {w h : Nat} (v : LawnV a w h) : ((allC w h).filter fun p => kindV a p.1 p.2 == 0) = (allC w h).filter fun p => grassB a p.1 p.2 :=
  List.filter_congr fun p hp => by unfold grassB; rw [hasB_all v hp, Bool.true_and]

theorem impl_grassL (k : Nat) {a : List Int} (ha : LawnS a) (p : Int × Int) : ((fun z1 => (impl_Lawn_grass k a [rd z1 0, rd z1 1]).bind fun b => some b) [p.1, p.2]) = some (grassB a p.1 p.2) := by
  show (impl_Lawn_grass k a [p.1, p.2]).bind _ = _
  rw [impl_grass k ha]
  rfl

end Go.Proofs.Ytkblhnedillknaa.Tt
