/- Plain laws: LineFor. -/
import Derived.Test.YtmpcninebooaiaaY14
set_option linter.unusedVariables false
set_option linter.unusedSimpArgs false
namespace Go.Proofs.Ytmpcninebooaiaa.Tt
open Go.Ev Go

/-- Five numbers of the kind int8. -/
structure WearR (s : List Int) : Prop where
  len : s.length = 5
  rng : ∀ j, j < 5 → -128 ≤ rd s j ∧ rd s j < 128

def wearC (s : List Int) (j : Nat) : Bool := decide (0 ≤ rd s j) && decide (rd s j ≤ 100)
def wearN (s : List Int) : Nat → Nat → Bool
  | _, 0 => true
  | j, m + 1 => wearC s j && wearN s (j + 1) m
def wearB (s : List Int) : Bool := (rd s 0 == 0) && wearN s 0 5

theorem spec_wear (k : Nat) {s : List Int} (hs : WearR s) (hk : 5 < k) : spec_l05Wear k s = some (wearB s) := by
  unfold spec_l05Wear spec_l05Wear_l0
  have := loopF_go (step := fun (rec : (List Int) × Int → Option Bool) (p : (List Int) × Int) => spec_l05Wear_s0 k (fun y1 => some y1) (fun y2 => some ((rd y2 0) == 0)) (fun h1 h2 => rec (h1, h2)) p.1 p.2)
    (fun i => (s, (i : Int))) (fun i m => some (wearN s i m && (rd s 0 == 0))) 5 ?_ ?_ 5 0 k rfl hk
  · rw [Bool.and_comm] at this
    exact this
  · intro rec
    dsimp only
    unfold spec_l05Wear_s0
    simp (disch := omega) only [bF, cond_false, wearN, Bool.true_and]
  · intro i m hi rec hrec
    dsimp only at hrec ⊢
    unfold spec_l05Wear_s0
    have r := hs.rng i (by omega)
    simp (disch := omega) only [bT, cond_true, Bool.and_true, Int.toNat_natCast, Nat.zero_add, Nat.mul_one, wrap64, spec_in, Option.bind_some]
    rw [show (decide (0 ≤ rd s i) && decide (rd s i ≤ 100)) = wearC s i from rfl]
    simp only [wearN]
    cases wearC s i with
    | false => rfl
    | true => simp only [Bool.not_true, cond_false, Bool.true_and]; exact hrec

theorem cnt_one (l : List Int) : cnt 1 l = l.length := by unfold cnt; omega

theorem indexFunc_int8 (k : Nat) (l : List Int) (f : List Int → Option Bool) (g : Int → Bool) (hf : ∀ j, j < l.length → f [rd l j] = some (g (rd l j))) (hL : l.length ≤ 1048576) (hk : l.length < k) :
    ∃ r, slices_IndexFunc_int8 k l f = some r ∧ decide (r ≥ 0) = l.any g := by
  refine ⟨findI g l 0, ?_, findI_any g l 0⟩
  unfold slices_IndexFunc_int8 slices_IndexFunc_int8_l0
  rw [cnt_one]
  have := loopF_go (step := fun (rec : (List Int) × (List Int → Option Bool) × Int × Int → Option Int) (p : (List Int) × (List Int → Option Bool) × Int × Int) => slices_IndexFunc_int8_s0 k (fun y1 => some y1) (some (-1)) (fun h1 h2 h3 h4 => rec (h1, h2, h3, h4)) p.1 p.2.1 p.2.2.1 p.2.2.2)
    (fun i => (l, f, (l.length : Int), (i : Int))) (fun i _ => some (findI g (l.drop i) i)) l.length ?_ ?_ l.length 0 k (by omega) hk
  · exact this
  · intro rec
    dsimp only
    unfold slices_IndexFunc_int8_s0
    simp (disch := omega) only [bF, cond_false, List.drop_length, findI]
  · intro i m hi rec hrec
    dsimp only at hrec ⊢
    unfold slices_IndexFunc_int8_s0
    have hm := hf i (by omega)
    rw [drop_rd (show i < l.length by omega)]
    simp (disch := omega) only [bT, cond_true, cnt_one, Bool.and_true, Int.toNat_natCast, Nat.mul_one, hm, Option.bind_some, wrap64, findI]
    cases g (rd l i) with
    | true => rfl
    | false => simp only [cond_false]; exact hrec

theorem impl_wear (k : Nat) {s : List Int} (hs : WearR s) (hk : 5 < k) : impl_ValidWear k s = some (wearB s) := by
  unfold impl_ValidWear wearB
  have hw : win s 0 5 = s := by
    unfold win
    rw [List.drop_zero]
    exact List.take_of_length_le (by rw [hs.len]; omega)
  rw [hw]
  obtain ⟨r, h1, h2⟩ := indexFunc_int8 k s (fun z1 => (impl_ValidWear_1 k (rd z1 0)).bind fun b => some b) (fun x => !(decide (0 ≤ x) && decide (x ≤ 100))) (fun j hj => by
    show (impl_ValidWear_1 k (rd s j)).bind _ = _
    unfold impl_ValidWear_1
    have r := hs.rng j (by rw [hs.len] at hj; exact hj)
    rw [wrap64 (by omega), impl_in]
    rfl) (by rw [hs.len]; omega) (by rw [hs.len]; exact hk)
  have hc : slices_ContainsFunc_int8 k s (fun z1 => (impl_ValidWear_1 k (rd z1 0)).bind fun b => some b) = some (s.any fun x => !(decide (0 ≤ x) && decide (x ≤ 100))) := by
    unfold slices_ContainsFunc_int8
    rw [h1]
    simp only [Option.bind_some, h2]
  rw [hc]
  have ha : (!(s.any fun x => !(decide (0 ≤ x) && decide (x ≤ 100)))) = wearN s 0 5 := by
    obtain ⟨a, b, c, d, e, rfl⟩ : ∃ a b c d e, s = [a, b, c, d, e] := by
      match s, hs.len with
      | [a, b, c, d, e], _ => exact ⟨a, b, c, d, e, rfl⟩
    simp [wearN, wearC, rd, Bool.not_or]
  cases (rd s 0 == 0) with
  | false => rfl
  | true => simp only [cond_true, Option.bind_some, Bool.true_and, ha]

def lineN (s w : List Int) : Nat → Int
  | 0 => 0
  | i + 1 => IntKind.wrap .i64 (lineN s w i + IntKind.wrap .i64 (rd s i * IntKind.wrap .i64 (rd w i)))

theorem spec_line_loop (k : Nat) (s w : List Int) (hk : 5 < k) : spec_LineFor_l0 k (fun y4 => some (y4, (0 : Int))) 0 0 w s = some (lineN s w 5, 0) := by
  unfold spec_LineFor_l0
  refine loopF_go (R := Int × Int) (step := fun (rec : Int × Int × (List Int) × (List Int) → Option (Int × Int)) (p : Int × Int × (List Int) × (List Int)) => spec_LineFor_s0 k (fun y4 => some (y4, (0 : Int))) (fun h1 h2 h3 h4 => rec (h1, h2, h3, h4)) p.1 p.2.1 p.2.2.1 p.2.2.2)
    (fun i => (lineN s w i, (i : Int), w, s)) (fun _ _ => some (lineN s w 5, 0)) 5 ?_ ?_ 5 0 k rfl hk
  · intro rec
    dsimp only
    unfold spec_LineFor_s0
    simp (disch := omega) only [bF, cond_false]
  · intro i m hi rec hrec
    dsimp only at hrec ⊢
    unfold spec_LineFor_s0
    simp (disch := omega) only [bT, cond_true, Bool.and_true, Int.toNat_natCast, Nat.zero_add, Nat.mul_one, wrap64 (x := (i : Int) + 1)]
    exact hrec

theorem impl_line_loop (k : Nat) (s w : List Int) (hk : 5 < k) : impl_LineFor_l0 k (fun y4 => some (y4, (0 : Int))) 0 s 0 w = some (lineN s w 5, 0) := by
  unfold impl_LineFor_l0
  refine loopF_go (R := Int × Int) (step := fun (rec : Int × (List Int) × Int × (List Int) → Option (Int × Int)) (p : Int × (List Int) × Int × (List Int)) => impl_LineFor_s0 k (fun y4 => some (y4, (0 : Int))) (fun h1 h2 h3 h4 => rec (h1, h2, h3, h4)) p.1 p.2.1 p.2.2.1 p.2.2.2)
    (fun i => (lineN s w i, s, (i : Int), w)) (fun _ _ => some (lineN s w 5, 0)) 5 ?_ ?_ 5 0 k rfl hk
  · intro rec
    dsimp only
    unfold impl_LineFor_s0
    simp (disch := omega) only [bF, cond_false]
  · intro i m hi rec hrec
    dsimp only at hrec ⊢
    unfold impl_LineFor_s0
    simp (disch := omega) only [bT, cond_true, Bool.and_true, Int.toNat_natCast, Nat.zero_add, Nat.mul_one, wrap64 (x := (i : Int) + 1)]
    exact hrec

theorem toWear_id (n : Nat) {s : List Int} (hs : WearR s) : laws_toWear (n + 6) s = some s := by
  have e : laws_toWear (n + 6) s = some [rd s 0, rd s 1, rd s 2, rd s 3, rd s 4] := by kernel_rfl
  rw [e, five hs.len]

theorem lineFor_eq (k : Nat) {a s : List Int} (ha : LawnR a) (hs : WearR s) (hk : 101 < k) : spec_LineFor k a s = impl_LineFor k a s ∧ ∃ r, impl_LineFor k a s = some r := by
  unfold spec_LineFor impl_LineFor
  rw [spec_valid k (by omega) ha, impl_valid k (by omega) ha, five hs.len, spec_wear k hs (by omega), impl_wear k hs (by omega)]
  cases hv : lawnB a with
  | false => exact ⟨rfl, _, rfl⟩
  | true =>
    obtain ⟨w, h, v⟩ := lawnV_of ha hv
    have h3 := kind3_of ha hv
    have e1 := spec_sides k v h3 hk
    have e2 := impl_sides k v h3 hk
    simp only [Option.bind_some, Bool.not_true, cond_false, e1, e2]
    rw [spec_line_loop k _ _ (by omega), impl_line_loop k _ _ (by omega)]
    cases wearB s <;> exact ⟨rfl, _, rfl⟩

theorem lineFor_true {a s : List Int} (ha : LawnR a) (hs : WearR s) : ∃ k, laws_FnExactLineFor k a s = some true := by
  obtain ⟨k, hk⟩ : ∃ k, k = 189 := ⟨_, rfl⟩
  obtain ⟨e, r, hr⟩ := lineFor_eq (k + 11) ha hs (by omega)
  refine ⟨k + 11, ?_⟩
  unfold laws_FnExactLineFor
  rw [five hs.len]
  simp only [toLawn_id k a ha.len, toWear_id (k + 5) hs, Option.bind_some, e, hr]
  simp only [Option.bind_some, cond_false, bne_self_eq_false]

end Go.Proofs.Ytmpcninebooaiaa.Tt
