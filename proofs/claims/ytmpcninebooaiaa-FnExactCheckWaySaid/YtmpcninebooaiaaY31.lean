/- Plain laws: ways. -/
import Derived.Test.YtmpcninebooaiaaY13
import Derived.Test.YtmpcninebooaiaaY10b
import Derived.Test.YtmpcninebooaiaaY14n
set_option linter.unusedVariables false
set_option linter.unusedSimpArgs false
namespace Go.Proofs.Ytmpcninebooaiaa.Tt
open Go.Ev Go

def letterV (c : Int) : Int := if c = 78 then 0 else if c = 87 then 1 else if c = 69 then 2 else if c = 83 then 3 else -1

theorem letterV_lt (c : Int) : letterV c < 4 := by unfold letterV; repeat' split <;> omega

set_option maxRecDepth 100000 in
theorem index_letter : ∀ n : Nat, n < 256 → Lib.indexByte [78, 87, 69, 83] n.toUInt8 = letterV (n : Int) := by decide +kernel

/-- The bytes of a way. -/
def byteN (s : ByteArray) (i : Nat) : Int := ((s.data.toList.getD i 0).toNat : Int)

theorem byteN_range (s : ByteArray) (i : Nat) : 0 ≤ byteN s i ∧ byteN s i < 256 := by
  unfold byteN
  have := (s.data.toList.getD i 0).toNat_lt
  omega

theorem index_byte (k : Nat) {c : Int} (hc : 0 ≤ c ∧ c < 256) : strings_IndexByte k (ByteArray.mk #[78, 87, 69, 83]) c = some (letterV c) := by
  unfold strings_IndexByte
  obtain ⟨n, rfl⟩ : ∃ n : Nat, c = (n : Int) := ⟨c.toNat, by omega⟩
  rw [Int.toNat_natCast]
  have := index_letter n (by omega)
  show some (Lib.indexByte [78, 87, 69, 83] n.toUInt8) = _
  rw [this]

theorem spec_letter (k : Nat) (c : Int) : spec_l02Letter (k + 6) c = some (letterV c) := by
  have h : spec_l02Letter (k + 6) c = cond ((78 : Int) == c) (some 0) (cond ((87 : Int) == c) (some 1) (cond ((69 : Int) == c) (some 2) (cond ((83 : Int) == c) (some 3) (some (-1))))) := by kernel_rfl
  rw [h]
  unfold letterV
  by_cases c1 : c = 78
  · simp [c1]
  · by_cases c2 : c = 87
    · simp [c2]
    · by_cases c3 : c = 69
      · simp [c3]
      · by_cases c4 : c = 83
        · simp [c4]
        · simp (disch := omega) only [eqF, cond_false, if_neg c1, if_neg c2, if_neg c3, if_neg c4]

/-! ## The code of a way -/

def wayN (s : ByteArray) : Nat → Nat → Bool
  | _, 0 => true
  | i, m + 1 => !(decide (letterV (byteN s i) < 0)) && wayN s (i + 1) m
def wayV (s : ByteArray) : Int := cond (decide ((s.size : Int) > 200)) 3 (cond (wayN s 0 s.size) 0 5)

theorem spec_way (k : Nat) (s : ByteArray) (hk : 201 < k + 6) : spec_l02Way (k + 6) s = some (wayV s) := by
  unfold spec_l02Way wayV
  cases hq : decide ((s.size : Int) > 200) with
  | true => rfl
  | false =>
    have hs : s.size ≤ 200 := by have := of_decide_eq_false hq; omega
    simp only [cond_false]
    unfold spec_l02Way_l0
    have := loopF_go (R := Int) (step := fun (rec : ByteArray × Int → Option Int) (p : ByteArray × Int) => spec_l02Way_s0 (k + 6) (fun y1 => some y1) (some 0) (fun h1 h2 => rec (h1, h2)) p.1 p.2)
      (fun i => (s, (i : Int))) (fun i m => some (cond (wayN s i m) 0 5)) s.size ?_ ?_ s.size 0 (k + 6) (by omega) (by omega)
    · exact this
    · intro rec
      dsimp only
      unfold spec_l02Way_s0
      simp (disch := omega) only [bF, cond_false, wayN, cond_true]
    · intro i m hi rec hrec
      dsimp only at hrec ⊢
      unfold spec_l02Way_s0
      simp only [Int.toNat_natCast]
      rw [show ((s.data.toList.getD i 0).toNat : Int) = byteN s i from rfl, spec_letter, wrap64 (x := (i : Int) + 1) (by omega), bT (p := (i : Int) < (s.size : Int)) (by omega), bT (p := (0 : Int) ≤ (i : Int)) (by omega)]
      simp only [cond_true, Bool.and_true, Option.bind_some, wayN]
      cases decide (letterV (byteN s i) < 0) with
      | true => rfl
      | false => simp only [cond_false, Bool.not_false, Bool.true_and]; exact hrec

theorem impl_way (k : Nat) (s : ByteArray) (hk : 201 < k) : impl_wayCode k s = some (wayV s) := by
  unfold impl_wayCode wayV
  cases hq : decide ((s.size : Int) > 200) with
  | true => rfl
  | false =>
    have hs : s.size ≤ 200 := by have := of_decide_eq_false hq; omega
    simp only [cond_false]
    unfold impl_wayCode_l0
    have := loopF_go (R := Int) (step := fun (rec : ByteArray × Int × Int → Option Int) (p : ByteArray × Int × Int) => impl_wayCode_s0 k (fun y1 => some y1) (some 0) (fun h1 h2 h3 => rec (h1, h2, h3)) p.1 p.2.1 p.2.2)
      (fun i => (s, (s.size : Int), (i : Int))) (fun i m => some (cond (wayN s i m) 0 5)) s.size ?_ ?_ s.size 0 k (by omega) (by omega)
    · exact this
    · intro rec
      dsimp only
      unfold impl_wayCode_s0
      simp (disch := omega) only [bF, cond_false, wayN, cond_true]
    · intro i m hi rec hrec
      dsimp only at hrec ⊢
      unfold impl_wayCode_s0
      simp only [Int.toNat_natCast]
      rw [show ((s.data.toList.getD i 0).toNat : Int) = byteN s i from rfl, index_byte k (byteN_range s i), wrap64 (x := (i : Int) + 1) (by omega), bT (p := (i : Int) < (s.size : Int)) (by omega), bT (p := (0 : Int) ≤ (i : Int)) (by omega)]
      simp only [cond_true, Bool.and_true, Option.bind_some, wayN]
      cases decide (letterV (byteN s i) < 0) with
      | true => rfl
      | false => simp only [cond_false, Bool.not_false, Bool.true_and]; exact hrec

theorem wayN_all {s : ByteArray} : ∀ m i, wayN s i m = true → ∀ j, i ≤ j → j < i + m → 0 ≤ letterV (byteN s j) := by
  intro m
  induction m with
  | zero => intro i _ j h1 h2; omega
  | succ m ih =>
    intro i h j h1 h2
    simp only [wayN, Bool.and_eq_true, Bool.not_eq_true', decide_eq_false_iff_not] at h
    by_cases e : j = i
    · rw [e]; omega
    · exact ih (i + 1) h.2 j (by omega) (by omega)

/-! ## The cells of a way -/

def nextV (p : Int × Int) (c : Int) : Int × Int := (nbrs p.1 p.2).getD (letterV c).toNat (0, 0)
def posN (p : Int × Int) (s : ByteArray) : Nat → Int × Int
  | 0 => p
  | i + 1 => nextV (posN p s i) (byteN s i)
def posL (p : Int × Int) (s : ByteArray) (i : Nat) : List (Int × Int) := (List.range (i + 1)).map (posN p s)

theorem posL_succ (p : Int × Int) (s : ByteArray) (i : Nat) : posL p s (i + 1) = posL p s i ++ [posN p s (i + 1)] := by
  unfold posL
  rw [List.range_succ, List.map_append]
  rfl
theorem posL_len (p : Int × Int) (s : ByteArray) (i : Nat) : (posL p s i).length = i + 1 := by simp [posL]
theorem posL_get (p : Int × Int) (s : ByteArray) {i j : Nat} (h : j < i + 1) : (posL p s i).getD j (0, 0) = posN p s j := by
  unfold posL
  rw [List.getD_eq_getElem?_getD, List.getElem?_map, List.getElem?_range h]
  rfl

def In8 (p : Int × Int) : Prop := (-128 ≤ p.1 ∧ p.1 < 128) ∧ (-128 ≤ p.2 ∧ p.2 < 128)

theorem posN_in {p : Int × Int} (hp : In8 p) {s : ByteArray} {n : Nat} (hw : ∀ j, j < n → 0 ≤ letterV (byteN s j)) : ∀ i, i ≤ n → In8 (posN p s i) := by
  intro i
  induction i with
  | zero => intro _; exact hp
  | succ i ih =>
    intro hi
    obtain ⟨h1, h2⟩ := ih (by omega)
    have hl := hw i (by omega)
    have h4 := letterV_lt (byteN s i)
    have hm : nextV (posN p s i) (byteN s i) ∈ nbrs (posN p s i).1 (posN p s i).2 := getD_mem _ (0, 0) (by show (letterV (byteN s i)).toNat < 4; omega)
    exact nbrs_range h1 h2 _ hm

theorem spec_next (k : Nat) (p : Int × Int) (c : Int) (h : 0 ≤ letterV c) : spec_l02Next k [p.1, p.2] (letterV c) = some [(nextV p c).1, (nextV p c).2] := by
  have h4 := letterV_lt c
  unfold spec_l02Next nextV
  have e : letterV c = 0 ∨ letterV c = 1 ∨ letterV c = 2 ∨ letterV c = 3 := by omega
  rcases e with e | e | e | e <;> rw [e] <;> rfl

theorem impl_go (k : Nat) (p : Int × Int) {c : Int} (hc : 0 ≤ c ∧ c < 256) (h : 0 ≤ letterV c) : impl_go1 k [p.1, p.2] c = some [(nextV p c).1, (nextV p c).2] := by
  have h4 := letterV_lt c
  unfold impl_go1
  rw [show impl_beside k [rd [p.1, p.2] 0, rd [p.1, p.2] 1] = some (fl (nbrs p.1 p.2)) from rfl, index_byte k hc]
  simp only [Option.bind_some, cnt_fl, fl_x, fl_y]
  rw [bT (p := 0 ≤ letterV c) h, bT (p := letterV c < ((nbrs p.1 p.2).length : Int)) (by show letterV c < 4; omega)]
  rfl

def openP (a : List Int) (p : Int × Int) : Bool := openB a p.1 p.2

theorem spec_free (k : Nat) {a : List Int} (ha : LawnS a) {p : Int × Int} (hp : In8 p) : spec_l02Free k a [p.1, p.2] = some (openP a p) := by
  unfold spec_l02Free openP openB
  have e : spec_l01Is k a [rd [p.1, p.2] 0, rd [p.1, p.2] 1] = some (hasB a p.1 p.2) := spec_is k ha.toLawnR hp.1 hp.2
  rw [e]
  cases h : hasB a p.1 p.2 with
  | false => rfl
  | true =>
    simp only [Option.bind_some, cond_true, Bool.true_and]
    unfold spec_l01Open
    have e2 : spec_l01At k a [rd [rd [p.1, p.2] 0, rd [p.1, p.2] 1] 0, rd [rd [p.1, p.2] 0, rd [p.1, p.2] 1] 1] = some (kindV a p.1 p.2) := spec_at k ha h
    rw [e2]
    simp only [Option.bind_some]
    cases (kindV a p.1 p.2 == 0) <;> rfl

theorem impl_openP (k : Nat) {a : List Int} (ha : LawnS a) (p : Int × Int) : impl_Lawn_open k a [p.1, p.2] = some (openP a p) := by
  unfold impl_Lawn_open openP openB
  have e : ∀ v, impl_Lawn_is k a [rd [p.1, p.2] 0, rd [p.1, p.2] 1] v = some (hasB a p.1 p.2 && (kindV a p.1 p.2 == v)) := fun v => impl_is k ha p.1 p.2 v
  rw [e, e]
  cases hasB a p.1 p.2 <;> cases (kindV a p.1 p.2 == 0) <;> rfl

def comeS (a : List Int) (p : Int × Int) (s : ByteArray) : Nat → Nat → List Int × Bool
  | i, 0 => (fl (posL p s i), true)
  | i, m + 1 => cond (openP a (posN p s (i + 1))) (comeS a p s (i + 1) m) (fl (posL p s i), false)
def comeI (a : List Int) (p : Int × Int) (s : ByteArray) : Nat → Nat → List Int × Bool
  | i, 0 => (fl (posL p s i), openP a p)
  | i, m + 1 => cond (openP a (posN p s (i + 1))) (comeI a p s (i + 1) m) (fl (posL p s (i + 1)), false)

theorem come_same (a : List Int) (p : Int × Int) (s : ByteArray) (ho : openP a p = true) : ∀ m i, (comeS a p s i m).2 = (comeI a p s i m).2 ∧ ((comeS a p s i m).2 = true → (comeS a p s i m).1 = fl (posL p s (i + m)) ∧ (comeI a p s i m).1 = fl (posL p s (i + m))) := by
  intro m
  induction m with
  | zero => intro i; exact ⟨ho.symm, fun _ => ⟨rfl, rfl⟩⟩
  | succ m ih =>
    intro i
    simp only [comeS, comeI]
    cases openP a (posN p s (i + 1)) with
    | false => exact ⟨rfl, fun h => by cases h⟩
    | true =>
      have := ih (i + 1)
      rw [show i + 1 + m = i + (m + 1) by omega] at this
      exact this

theorem comeI_closed (a : List Int) (p : Int × Int) (s : ByteArray) (ho : openP a p = false) : ∀ m i, (comeI a p s i m).2 = false := by
  intro m
  induction m with
  | zero => intro i; exact ho
  | succ m ih =>
    intro i
    simp only [comeI]
    cases openP a (posN p s (i + 1)) with
    | false => rfl
    | true => exact ih (i + 1)

theorem spec_come (k : Nat) {a : List Int} (ha : LawnS a) {p : Int × Int} (hp : In8 p) {s : ByteArray} (hs : s.size ≤ 200) (hw : ∀ j, j < s.size → 0 ≤ letterV (byteN s j)) (hk : 201 < k + 6) :
    spec_l02Come (k + 6) a [p.1, p.2] s = some (cond (openP a p) (comeS a p s 0 s.size) ([p.1, p.2], false)) := by
  unfold spec_l02Come
  rw [show spec_l02Free (k + 6) a [rd [p.1, p.2] 0, rd [p.1, p.2] 1] = some (openP a p) from spec_free (k + 6) ha hp]
  cases openP a p with
  | false => rfl
  | true =>
    simp only [Option.bind_some, Bool.not_true, cond_false, cond_true]
    unfold spec_l02Come_l0
    refine loopF_go (R := List Int × Bool) (step := fun (rec : (List Int) × ByteArray × Int × (List Int) × (List Int) → Option (List Int × Bool)) (q : (List Int) × ByteArray × Int × (List Int) × (List Int)) => spec_l02Come_s0 (k + 6) (fun y2 y3 => some (y3, y2)) (fun y4 => some (y4, true)) (fun h1 h2 h3 h4 h5 => rec (h1, h2, h3, h4, h5)) q.1 q.2.1 q.2.2.1 q.2.2.2.1 q.2.2.2.2)
      (fun i => (a, s, (i : Int), [(posN p s i).1, (posN p s i).2], fl (posL p s i))) (fun i m => some (comeS a p s i m)) s.size ?_ ?_ s.size 0 (k + 6) (by omega) (by omega)
    · intro rec
      dsimp only
      unfold spec_l02Come_s0
      simp (disch := omega) only [bF, cond_false, comeS]
    · intro i m hi rec hrec
      dsimp only at hrec ⊢
      unfold spec_l02Come_s0
      simp only [Int.toNat_natCast]
      have hb : decide ((fl (posL p s i)).length + 2 ≤ bigLen) = true := bT (by rw [bigLen_val, fl_length, posL_len]; omega)
      have hin := posN_in hp hw (i + 1) (by omega)
      rw [show ((s.data.toList.getD i 0).toNat : Int) = byteN s i from rfl, spec_letter, wrap64 (x := (i : Int) + 1) (by omega), bT (p := (i : Int) < (s.size : Int)) (by omega), bT (p := (0 : Int) ≤ (i : Int)) (by omega)]
      simp only [cond_true, Bool.and_true, Option.bind_some]
      rw [show spec_l02Next (k + 6) [rd [(posN p s i).1, (posN p s i).2] 0, rd [(posN p s i).1, (posN p s i).2] 1] (letterV (byteN s i)) = some [(posN p s (i + 1)).1, (posN p s (i + 1)).2] from spec_next (k + 6) (posN p s i) (byteN s i) (hw i (by omega))]
      simp only [Option.bind_some]
      rw [show spec_l02Free (k + 6) a [rd [(posN p s (i + 1)).1, (posN p s (i + 1)).2] 0, rd [(posN p s (i + 1)).1, (posN p s (i + 1)).2] 1] = some (openP a (posN p s (i + 1))) from spec_free (k + 6) ha hin]
      simp only [Option.bind_some, comeS, hb, cond_true]
      cases openP a (posN p s (i + 1)) with
      | false => rfl
      | true =>
        simp only [Bool.not_true, cond_false, cond_true]
        rw [posL_succ, fl_append] at hrec
        exact hrec

theorem impl_come (k : Nat) {a : List Int} (ha : LawnS a) (p : Int × Int) {s : ByteArray} (hs : s.size ≤ 200) (hw : ∀ j, j < s.size → 0 ≤ letterV (byteN s j)) (hk : 201 < k) :
    impl_Lawn_cellsBy k a [p.1, p.2] s = some (comeI a p s 0 s.size) := by
  unfold impl_Lawn_cellsBy impl_Lawn_cellsBy_l0
  refine loopF_go (R := List Int × Bool) (step := fun (rec : ByteArray × Int × Int × (List Int) × (List Int) × (List Int) → Option (List Int × Bool)) (q : ByteArray × Int × Int × (List Int) × (List Int) × (List Int)) => impl_Lawn_cellsBy_s0 k (fun y1 y2 => some (y2, y1)) (fun y3 y4 y5 => Option.bind (impl_Lawn_open k y3 [(rd y4 0), (rd y4 1)]) fun x6 => some (y5, x6)) (fun h1 h2 h3 h4 h5 h6 => rec (h1, h2, h3, h4, h5, h6)) q.1 q.2.1 q.2.2.1 q.2.2.2.1 q.2.2.2.2.1 q.2.2.2.2.2)
    (fun i => (s, (s.size : Int), (i : Int), a, [p.1, p.2], fl (posL p s i))) (fun i m => some (comeI a p s i m)) s.size ?_ ?_ s.size 0 k (by omega) (by omega)
  · intro rec
    dsimp only
    unfold impl_Lawn_cellsBy_s0
    simp (disch := omega) only [bF, cond_false, comeI]
    rw [show impl_Lawn_open k a [rd [p.1, p.2] 0, rd [p.1, p.2] 1] = some (openP a p) from impl_openP k ha p]
    rfl
  · intro i m hi rec hrec
    dsimp only at hrec ⊢
    unfold impl_Lawn_cellsBy_s0
    have hlen := posL_len p s i
    have e0 : setAt [0, 0] 0 [(posN p s (i + 1)).1, (posN p s (i + 1)).2] = [(posN p s (i + 1)).1, (posN p s (i + 1)).2] := rfl
    have e1 : fl (posL p s i) ++ [(posN p s (i + 1)).1, (posN p s (i + 1)).2] = fl (posL p s (i + 1)) := by rw [posL_succ, fl_append]; rfl
    have hb : decide ((fl (posL p s i)).length + ([(posN p s (i + 1)).1, (posN p s (i + 1)).2] : List Int).length ≤ bigLen) = true := bT (by rw [bigLen_val, fl_length, hlen]; show (i + 1) * 2 + 2 ≤ _; omega)
    have hgo := impl_go k (posN p s i) (byteN_range s i) (hw i (by omega))
    rw [show nextV (posN p s i) (byteN s i) = posN p s (i + 1) from rfl] at hgo
    simp only [Int.toNat_natCast, cnt_fl, fl_x, fl_y, hlen]
    rw [posL_get p s (show i < i + 1 by omega), show ((s.data.toList.getD i 0).toNat : Int) = byteN s i from rfl, hgo, bT (p := (i : Int) < (s.size : Int)) (by omega), bT (p := (0 : Int) ≤ (i : Int)) (by omega), bT (p := (i : Int) < (((i + 1 : Nat)) : Int)) (by omega)]
    simp only [cond_true, Bool.and_true, Option.bind_some]
    rw [e0, hb, e1, cnt_fl, posL_len, wrap64 (x := (i : Int) + 1) (by omega), bT (p := (0 : Int) ≤ (i : Int) + 1) (by omega), bT (p := (i : Int) + 1 < ((i + 1 + 1 : Nat) : Int)) (by omega)]
    have e2 : ((i : Int) + 1).toNat = i + 1 := by omega
    simp only [cond_true, Bool.and_true]
    rw [e2, fl_x, fl_y, posL_get p s (show i + 1 < i + 1 + 1 by omega), impl_openP k ha]
    simp only [Option.bind_some, comeI]
    cases openP a (posN p s (i + 1)) with
    | false => rfl
    | true => simp only [Bool.not_true, cond_false, cond_true]; exact hrec

end Go.Proofs.Ytmpcninebooaiaa.Tt
