/- Plain laws: the bits of the cells of grass. -/
import Derived.Test.YtkdpdmfkomnalaaS0
set_option linter.unusedVariables false
set_option linter.unusedSimpArgs false
namespace Go.Proofs.Ytkdpdmfkomnalaa.Tt
open Go.Ev Go

/-- The bit of a cell among cells that are numbered from i on, or 0. -/
def bitV : List (Int × Int) → Nat → Int × Int → Int
  | [], _, _ => 0
  | q :: r, i, p => cond (q == p) (2 ^ i) (bitV r (i + 1) p)

theorem pow_small : ∀ i : Nat, i < 9 → IntKind.wrap .i64 (1 * 2 ^ (min i (IntKind.bits .i64))) = 2 ^ i ∧ (1 : Int) ≤ 2 ^ i ∧ (2 : Int) ^ i < 512 := by decide

theorem bitV_range : ∀ (G : List (Int × Int)) (i : Nat) (p : Int × Int), i + G.length ≤ 9 → 0 ≤ bitV G i p ∧ bitV G i p < 512 := by
  intro G
  induction G with
  | nil => intro i p _; simp [bitV]
  | cons q r ih =>
    intro i p h
    rw [List.length_cons] at h
    have h1 := pow_small i (by omega)
    unfold bitV
    cases (q == p) with
    | true => simp only [cond_true]; omega
    | false => simp only [cond_false]; exact ih (i + 1) p (by omega)

theorem spec_bit_loop {R : Type} (k : Nat) (K1 : Int → Option R) (K2 : Option R) {G : List (Int × Int)} (hG : G.length ≤ 9) (p : Int × Int) : ∀ (m i f : Nat), i + m = G.length → m < f →
    loopF (fun (rec : (List Int) × Int × (List Int) → Option R) (q : (List Int) × Int × (List Int)) => spec_l02Bit_s0 k K1 K2 (fun h1 h2 h3 => rec (h1, h2, h3)) q.1 q.2.1 q.2.2) f (fl G, (i : Int), [p.1, p.2]) =
      cond ((G.drop i).any fun q => q == p) (K1 (bitV (G.drop i) i p)) K2 := by
  intro m
  induction m with
  | zero =>
    intro i f hi hf
    obtain ⟨f, rfl⟩ : ∃ g, f = g + 1 := ⟨f - 1, by omega⟩
    have hd0 : G.drop i = [] := List.drop_of_length_le (by omega)
    rw [loopF]
    dsimp only
    rw [spec_l02Bit_s0, cnt_fl, bF (by omega), hd0]
    rfl
  | succ m ih =>
    intro i f hi hf
    obtain ⟨f, rfl⟩ : ∃ g, f = g + 1 := ⟨f - 1, by omega⟩
    have hil : i < G.length := by omega
    rw [loopF]
    dsimp only
    rw [spec_l02Bit_s0, cnt_fl, bT (p := (i : Int) < (G.length : Int)) (by omega), bT (p := (0 : Int) ≤ (i : Int)) (by omega), drop_getD G (0, 0) hil]
    simp only [cond_true, Bool.and_true, Int.toNat_natCast, fl_x, fl_y]
    have e2 : eqL [(G.getD i (0, 0)).1, (G.getD i (0, 0)).2] [rd [p.1, p.2] 0, rd [p.1, p.2] 1] = (G.getD i (0, 0) == p) := eqL2 _ p
    rw [e2, wrapu64 (x := (i : Int)) (by omega), wrap64 (x := (i : Int) + 1) (by omega), bT (p := (0 : Int) ≤ (i : Int)) (by omega), Int.toNat_natCast, show (i : Int) + 1 = ((i + 1 : Nat) : Int) by omega, (pow_small i (by omega)).1, List.any_cons]
    simp only [bitV]
    cases hq : (G.getD i (0, 0) == p) with
    | true => rfl
    | false =>
      simp only [cond_false, Bool.false_or]
      exact ih (i + 1) f (by omega) (by omega)

theorem bitV_none : ∀ (G : List (Int × Int)) (i : Nat) (p : Int × Int), (G.any fun q => q == p) = false → bitV G i p = 0 := by
  intro G
  induction G with
  | nil => intro i p _; rfl
  | cons q r ih =>
    intro i p h
    rw [List.any_cons, Bool.or_eq_false_iff] at h
    unfold bitV
    rw [h.1]
    exact ih (i + 1) p h.2

theorem spec_bit (k : Nat) {G : List (Int × Int)} (hG : G.length ≤ 9) (p : Int × Int) (hk : 10 < k) : spec_l02Bit k (fl G) [p.1, p.2] = some (bitV G 0 p) := by
  unfold spec_l02Bit
  rw [spec_l02Bit_l0]
  refine (spec_bit_loop k _ _ hG p G.length 0 k (by omega) (by omega)).trans ?_
  rw [List.drop_zero]
  cases h : (G.any fun q => q == p) with
  | true => rfl
  | false => rw [bitV_none G 0 p h]; rfl

/-! ## The program's map -/

def ents : List (Int × Int) → Nat → List (List Int × Int)
  | [], _ => []
  | p :: r, i => ([p.1, p.2], (i : Int)) :: ents r (i + 1)

theorem ents_snoc : ∀ (L : List (Int × Int)) (i : Nat) (p : Int × Int), ents (L ++ [p]) i = ents L i ++ [([p.1, p.2], ((i + L.length : Nat) : Int))] := by
  intro L
  induction L with
  | nil => intro i p; rfl
  | cons q r ih =>
    intro i p
    rw [List.cons_append, ents, ents, ih (i + 1) p, List.cons_append, List.length_cons, show i + 1 + r.length = i + (r.length + 1) by omega]

theorem ents_length : ∀ (L : List (Int × Int)) (i : Nat), (ents L i).length = L.length := by
  intro L
  induction L with
  | nil => intro i; rfl
  | cons q r ih => intro i; rw [ents, List.length_cons, List.length_cons, ih]

theorem ents_has : ∀ (L : List (Int × Int)) (i : Nat) (p : Int × Int), hasK (ents L i) [p.1, p.2] = L.any fun q => q == p := by
  intro L
  induction L with
  | nil => intro i p; rfl
  | cons q r ih =>
    intro i p
    rw [ents, hasK, ih (i + 1) p, List.any_cons, eqL2 p q]
    congr 1
    rw [Bool.eq_iff_iff, beq_iff_eq, beq_iff_eq]
    exact ⟨Eq.symm, Eq.symm⟩

theorem ents_look : ∀ (L : List (Int × Int)) (i : Nat) (p : Int × Int), (L.any fun q => q == p) = true → ∃ j : Nat, i ≤ j ∧ j < i + L.length ∧ lookK (0 : Int) (ents L i) [p.1, p.2] = (j : Int) ∧ bitV L i p = 2 ^ j := by
  intro L
  induction L with
  | nil => intro i p h; cases h
  | cons q r ih =>
    intro i p h
    rw [ents, lookK, bitV, eqL2 p q]
    have hs : (p == q) = (q == p) := by
      rw [Bool.eq_iff_iff, beq_iff_eq, beq_iff_eq]
      exact ⟨Eq.symm, Eq.symm⟩
    rw [hs]
    cases hq : (q == p) with
    | true => exact ⟨i, by omega, by rw [List.length_cons]; omega, rfl, rfl⟩
    | false =>
      rw [List.any_cons, hq, Bool.false_or] at h
      obtain ⟨j, h1, h2, h3, h4⟩ := ih (i + 1) p h
      exact ⟨j, by omega, by rw [List.length_cons]; omega, h3, h4⟩

theorem putK_new {α : Type} {q : List Int} {v : α} : ∀ {es : List (List Int × α)}, hasK es q = false → putK es q v = es ++ [(q, v)] := by
  intro es
  induction es with
  | nil => intro _; rfl
  | cons e r ih =>
    obtain ⟨k, x⟩ := e
    intro h
    simp only [hasK, Bool.or_eq_false_iff] at h
    rw [putK, h.1, cond_false, ih h.2]
    rfl

theorem impl_bits_loop {R : Type} (k : Nat) (K1 : (List (List Int × Int)) → Option R) {G : List (Int × Int)} (hG : G.length ≤ 1000) (hn : G.Nodup) : ∀ (m i f : Nat), i + m = G.length → m < f →
    loopF (fun (rec : Int × Int × (List (List Int × Int)) × (List Int) → Option R) (p : Int × Int × (List (List Int × Int)) × (List Int)) => impl_Lawn_bits_s0 k K1 (fun h1 h2 h3 h4 => rec (h1, h2, h3, h4)) p.1 p.2.1 p.2.2.1 p.2.2.2) f ((G.length : Int), (i : Int), ents (G.take i) 0, fl G) = K1 (ents G 0) := by
  intro m
  induction m with
  | zero =>
    intro i f hi hf
    obtain ⟨f, rfl⟩ : ∃ g, f = g + 1 := ⟨f - 1, by omega⟩
    rw [loopF]
    dsimp only
    rw [impl_Lawn_bits_s0, bF (by omega), List.take_of_length_le (by omega)]
    rfl
  | succ m ih =>
    intro i f hi hf
    obtain ⟨f, rfl⟩ : ∃ g, f = g + 1 := ⟨f - 1, by omega⟩
    have hil : i < G.length := by omega
    rw [loopF]
    dsimp only
    rw [impl_Lawn_bits_s0, cnt_fl, bT (p := (i : Int) < (G.length : Int)) (by omega), bT (p := (0 : Int) ≤ (i : Int)) (by omega)]
    simp only [cond_true, Bool.and_true, Int.toNat_natCast, fl_x, fl_y]
    rw [wrap64 (x := (i : Int) + 1) (by omega), show (i : Int) + 1 = ((i + 1 : Nat) : Int) by omega]
    have hnew : hasK (ents (G.take i) 0) [(G.getD i (0, 0)).1, (G.getD i (0, 0)).2] = false := by
      rw [ents_has]
      have e : G = G.take i ++ G.getD i (0, 0) :: G.drop (i + 1) := by rw [← drop_getD G (0, 0) hil, List.take_append_drop]
      rw [e] at hn
      have h2 := (List.nodup_append.1 hn).2.2
      rw [List.any_eq_false]
      intro q hq hb
      exact h2 q hq (G.getD i (0, 0)) (List.mem_cons_self ..) (by simpa using hb)
    rw [putK_new hnew]
    have := ih (i + 1) f (by omega) (by omega)
    rw [take_getD G (0, 0) hil, ents_snoc, List.length_take, show 0 + min i G.length = i by omega] at this
    exact this

def grassL (a : List Int) (w h : Nat) : List (Int × Int) := (allC w h).filter fun p => kindV a p.1 p.2 == 0

theorem allC_nodup (w : Nat) : ∀ h : Nat, (allC w h).Nodup := by
  have hr : ∀ (y : Nat) (n : Nat), (rowC y n).Nodup := by
    intro y n
    induction n with
    | zero => simp [rowC]
    | succ n ih =>
      rw [rowC_succ, List.nodup_append]
      refine ⟨ih, by simp, ?_⟩
      intro p hp q hq e
      simp only [List.mem_singleton] at hq
      simp only [rowC, List.mem_map, List.mem_range] at hp
      obtain ⟨x, hx, rfl⟩ := hp
      rw [hq] at e
      injection e with e1 e2
      omega
  intro h
  induction h with
  | zero => simp [allC]
  | succ h ih =>
    rw [allC_succ, List.nodup_append]
    refine ⟨ih, hr h w, ?_⟩
    intro p hp q hq e
    have := allC_mem.1 hp
    simp only [rowC, List.mem_map, List.mem_range] at hq
    obtain ⟨x, hx, rfl⟩ := hq
    rw [e] at this
    simp only at this
    omega

theorem impl_bits (k : Nat) {a : List Int} {w h : Nat} (v : LawnV a w h) (hk : 101 < k) : impl_Lawn_bits k a = some (ents (grassL a w h) 0) := by
  unfold impl_Lawn_bits
  rw [impl_those k v _ (fun p => grassB a p.1 p.2) (fun p _ => impl_grassL k v.toLawnS p) hk, ← grass_filter v]
  have hl : (grassL a w h).length ≤ 100 := Nat.le_trans (List.length_filter_le _ _) (allC_small v)
  simp only [Option.bind_some]
  rw [impl_Lawn_bits_l0, cnt_fl]
  exact impl_bits_loop k (fun y3 => some y3) (G := grassL a w h) (by omega) ((allC_nodup w h).filter _) (grassL a w h).length 0 k (by omega) (by omega)

/-! ## Bits put together -/

def orV (m b : Int) : Int := IntKind.wrap .i64 ((BitVec.ofInt (IntKind.bits .i64) m ||| BitVec.ofInt (IntKind.bits .i64) b).toNat : Int)

theorem orV_range {m b : Int} (hm : 0 ≤ m ∧ m < 512) (hb : 0 ≤ b ∧ b < 512) : 0 ≤ orV m b ∧ orV m b < 512 := by
  obtain ⟨x, rfl⟩ : ∃ x : Nat, m = (x : Int) := ⟨m.toNat, by omega⟩
  obtain ⟨y, rfl⟩ : ∃ y : Nat, b = (y : Int) := ⟨b.toNat, by omega⟩
  unfold orV
  have h1 : (BitVec.ofInt (IntKind.bits .i64) (x : Int) ||| BitVec.ofInt (IntKind.bits .i64) (y : Int)).toNat < 512 := by
    rw [BitVec.toNat_or, BitVec.ofInt_natCast, BitVec.ofInt_natCast, BitVec.toNat_ofNat, BitVec.toNat_ofNat]
    have e1 : x % 2 ^ IntKind.bits .i64 < 2 ^ 9 := Nat.lt_of_le_of_lt (Nat.mod_le _ _) (by omega)
    have e2 : y % 2 ^ IntKind.bits .i64 < 2 ^ 9 := Nat.lt_of_le_of_lt (Nat.mod_le _ _) (by omega)
    exact Nat.or_lt_two_pow e1 e2
  rw [wrap64 (by omega)]
  omega

theorem orV_zero {m : Int} (hm : 0 ≤ m ∧ m < 512) : orV m 0 = m := by
  obtain ⟨x, rfl⟩ : ∃ x : Nat, m = (x : Int) := ⟨m.toNat, by omega⟩
  unfold orV
  have h1 : (BitVec.ofInt (IntKind.bits .i64) (x : Int) ||| BitVec.ofInt (IntKind.bits .i64) 0).toNat = x := by
    rw [BitVec.toNat_or, BitVec.ofInt_natCast, BitVec.toNat_ofNat]
    have e1 : x % 2 ^ IntKind.bits .i64 = x := Nat.mod_eq_of_lt (Nat.lt_of_lt_of_le (show x < 2 ^ 9 by omega) (Nat.pow_le_pow_right (by decide) (by decide)))
    rw [e1]
    exact Nat.or_zero x
  rw [h1, wrap64 (by omega)]

end Go.Proofs.Ytkdpdmfkomnalaa.Tt
