/- Plain laws: a lawn that is drawn from bytes is right. -/
import Derived.Test.YtkdpdmfkomnalaaF1
set_option linter.unusedVariables false
set_option linter.unusedSimpArgs false
namespace Go.Proofs.Ytkdpdmfkomnalaa.Tt
open Go.Ev Go

theorem wrapU64 {x : Int} (h : 0 ≤ x ∧ x < 18446744073709551616) : IntKind.wrap .u64 x = x := by
  simp only [IntKind.wrap, IntKind.bits, IntKind.signed]
  simp
  omega

theorem wrapU8 {x : Int} (h : 0 ≤ x ∧ x < 256) : IntKind.wrap .u8 x = x := by
  simp only [IntKind.wrap, IntKind.bits, IntKind.signed]
  simp
  omega

theorem and255 (z : Int) : 0 ≤ (((BitVec.ofInt (IntKind.bits .u64) z &&& BitVec.ofInt (IntKind.bits .u64) 255).toNat : Nat) : Int) ∧ (((BitVec.ofInt (IntKind.bits .u64) z &&& BitVec.ofInt (IntKind.bits .u64) 255).toNat : Nat) : Int) ≤ 255 := by
  have h : (BitVec.ofInt (IntKind.bits .u64) z &&& BitVec.ofInt (IntKind.bits .u64) 255).toNat ≤ (BitVec.ofInt (IntKind.bits .u64) 255).toNat := by
    rw [BitVec.toNat_and]
    exact Nat.and_le_right
  have h2 : (BitVec.ofInt (IntKind.bits .u64) 255).toNat = 255 := by decide
  omega

theorem cnt_one (l : List Int) : cnt 1 l = l.length := by unfold cnt; exact Nat.div_one _

structure Bytes (B : List Int) : Prop where
  len : B.length ≤ 3000
  el : ∀ i, i < B.length → 0 ≤ rd B i ∧ rd B i < 256

theorem next_ok (k : Nat) {B : List Int} (hB : Bytes B) {p : Int} (s : Int) (hp : 0 ≤ p ∧ p ≤ 100000) : ∃ n s', spec_l00Src_next k B p s = some (n, (B, p + 1, s')) ∧ 0 ≤ n ∧ n ≤ 255 := by
  have hl := hB.len
  unfold spec_l00Src_next
  rw [cnt_one, wrap64 (x := p + 1) (by omega)]
  by_cases h : p < (B.length : Int)
  · rw [bT h, bT (p := (0 : Int) ≤ p) (by omega), bT (p := p + 1 ≤ (B.length : Int)) (by omega)]
    have he := hB.el (p.toNat * 1) (by omega)
    rw [wrap64 (x := rd B (p.toNat * 1)) (by omega)]
    exact ⟨_, _, rfl, by omega, by omega⟩
  · rw [bF h, bF (p := p + 1 ≤ (B.length : Int)) (by omega)]
    simp only [cond_false]
    refine ⟨_, _, rfl, ?_⟩
    generalize Int.fdiv _ _ = z
    have := and255 z
    rw [wrapU64 (by omega), wrap64 (by omega)]
    exact this

theorem pick_ok (k : Nat) {B : List Int} (hB : Bytes B) {p : Int} (s : Int) (hp : 0 ≤ p ∧ p ≤ 100000) {m : Int} (hm : 2 ≤ m ∧ m ≤ 200) : ∃ r s', spec_l00Src_pick k B p s m = some (r, (B, p + 1, s')) ∧ 0 ≤ r ∧ r < m := by
  obtain ⟨n, s', h1, h2, h3⟩ := next_ok k hB s hp
  unfold spec_l00Src_pick
  rw [bF (p := m ≤ 1) (by omega), h1]
  simp only [cond_false, Option.bind_some]
  rw [bF (p := m > 200) (by omega), neT (by omega)]
  refine ⟨_, _, rfl, ?_⟩
  show 0 ≤ Int.tmod n m ∧ Int.tmod n m < m
  rw [Int.tmod_eq_emod_of_nonneg h2]
  exact ⟨Int.emod_nonneg _ (by omega), Int.emod_lt_of_pos _ (by omega)⟩

/-- A lawn in the making. -/
structure Draft (A : List Int) (w h : Nat) : Prop where
  len : A.length = 102
  wv : rd A 0 = (w : Int)
  hv : rd A 1 = (h : Int)
  w1 : 1 ≤ w ∧ w ≤ 6
  h1 : 1 ≤ h ∧ h ≤ 6
  cell : ∀ y x : Nat, y < 10 → x < 10 → 0 ≤ rd A (2 + y * 10 + x) ∧ rd A (2 + y * 10 + x) ≤ 3 ∧ (rd A (2 + y * 10 + x) = 0 ∨ (x < w ∧ y < h))

theorem Draft.lawnR {A : List Int} {w h : Nat} (d : Draft A w h) : LawnR A := by
  refine ⟨d.len, ?_, ?_, fun j hj => ?_⟩
  · rw [d.wv]; have := d.w1; omega
  · rw [d.hv]; have := d.h1; omega
  · have := d.cell (j / 10) (j % 10) (by omega) (by omega)
    rw [show 2 + j / 10 * 10 + j % 10 = 2 + j by omega] at this
    omega

theorem Draft.cellB {A : List Int} {w h : Nat} (d : Draft A w h) {y x : Nat} (hy : y < 10) (hx : x < 10) : Go.Proofs.Ytkdpdmfkomnalaa.Tt.cellB A y x = true := by
  obtain ⟨c1, c2, c3⟩ := d.cell y x hy hx
  unfold Go.Proofs.Ytkdpdmfkomnalaa.Tt.cellB
  rw [d.wv, d.hv]
  rcases c3 with c3 | c3
  · simp [c3]
  · simp [c2]
    exact .inr c3

theorem Draft.rowB {A : List Int} {w h : Nat} (d : Draft A w h) {y : Nat} (hy : y < 10) : ∀ m x, x + m ≤ 10 → Go.Proofs.Ytkdpdmfkomnalaa.Tt.rowB A y x m = true := by
  intro m
  induction m with
  | zero => intro x _; rfl
  | succ m ih => intro x hx; simp only [Go.Proofs.Ytkdpdmfkomnalaa.Tt.rowB, d.cellB hy (show x < 10 by omega), ih (x + 1) (by omega), Bool.and_true]

theorem Draft.rowsB {A : List Int} {w h : Nat} (d : Draft A w h) : ∀ m y, y + m ≤ 10 → Go.Proofs.Ytkdpdmfkomnalaa.Tt.rowsB A y m = true := by
  intro m
  induction m with
  | zero => intro y _; rfl
  | succ m ih => intro y hy; simp only [Go.Proofs.Ytkdpdmfkomnalaa.Tt.rowsB, d.rowB (show y < 10 by omega) 10 0 (by omega), ih (y + 1) (by omega), Bool.and_true]

theorem Draft.lawnB {A : List Int} {w h : Nat} (d : Draft A w h) : Go.Proofs.Ytkdpdmfkomnalaa.Tt.lawnB A = true := by
  unfold Go.Proofs.Ytkdpdmfkomnalaa.Tt.lawnB sideB
  rw [d.wv, d.hv, d.rowsB 10 0 (by omega)]
  have := d.w1
  have := d.h1
  simp only [Bool.and_true, Bool.and_eq_true, decide_eq_true_eq]
  omega

theorem Draft.lawnV {A : List Int} {w h : Nat} (d : Draft A w h) : LawnV A w h := by
  obtain ⟨w', h', v⟩ := lawnV_of d.lawnR d.lawnB
  have e1 := v.wv
  have e2 := v.hv
  rw [d.wv] at e1
  rw [d.hv] at e2
  have : w' = w := by omega
  have : h' = h := by omega
  subst_vars
  exact v

theorem rd_setI (l : List Int) (i j : Nat) (x : Int) (h : i < l.length) : rd (l.set i x) j = if i = j then x else rd l j := by
  simp only [rd, List.getD_eq_getElem?_getD, List.getElem?_set]
  by_cases e : i = j
  · subst e; simp [h]
  · simp [e]

theorem draft_set {A : List Int} {w h : Nat} (d : Draft A w h) {x y : Nat} (hx : x < w) (hy : y < h) {n : Int} (hn : 0 ≤ n ∧ n ≤ 3) : Draft (A.set (2 + y * 10 + x) n) w h := by
  have hl := d.len
  have := d.w1
  have := d.h1
  refine ⟨by simp [hl], ?_, ?_, d.w1, d.h1, fun y' x' hy' hx' => ?_⟩
  · rw [rd_setI _ _ _ _ (by omega), if_neg (by omega)]; exact d.wv
  · rw [rd_setI _ _ _ _ (by omega), if_neg (by omega)]; exact d.hv
  · rw [rd_setI _ _ _ _ (by omega)]
    by_cases e : 2 + y * 10 + x = 2 + y' * 10 + x'
    · rw [if_pos e]
      have : x' = x ∧ y' = y := by omega
      exact ⟨hn.1, hn.2, .inr ⟨by omega, by omega⟩⟩
    · rw [if_neg e]; exact d.cell y' x' hy' hx'

theorem draft_blank {w h : Nat} (hw : 1 ≤ w ∧ w ≤ 6) (hh : 1 ≤ h ∧ h ≤ 6) : Draft (List.set (List.set (List.replicate 102 0) 0 (w : Int)) 1 (h : Int)) w h := by
  have hr : ∀ i, rd (List.replicate 102 (0 : Int)) i = 0 := by
    intro i
    simp only [rd, List.getD_eq_getElem?_getD, List.getElem?_replicate]
    split <;> rfl
  have key : ∀ i, rd (List.set (List.set (List.replicate 102 0) 0 (w : Int)) 1 (h : Int)) i = if 1 = i then (h : Int) else if 0 = i then (w : Int) else 0 := by
    intro i
    rw [rd_setI _ _ _ _ (by simp), rd_setI _ _ _ _ (by simp), hr]
  refine ⟨by simp, by rw [key]; simp, by rw [key]; simp, hw, hh, fun y x hy hx => ?_⟩
  rw [key, if_neg (by omega), if_neg (by omega)]
  exact ⟨by omega, by omega, .inl rfl⟩

theorem drawn_loop (k : Nat) {B : List Int} (hB : Bytes B) {few : Int} (hf : 2 ≤ few ∧ few ≤ 9) {w h : Nat} (q : List Int) : ∀ (m i f : Nat) (p s : Int) (A : List Int), i + m = (allC w h).length → m < f → 0 ≤ p → p + 2 * m ≤ 1000 → Draft A w h →
    ∃ p' s' A', loopF (fun (rec : Int × Int × (List Int) × Int × Int × (List Int) × (List Int) × (List Int) → Option ((List Int) × ((List Int) × Int × Int))) (p : Int × Int × (List Int) × Int × Int × (List Int) × (List Int) × (List Int)) =>
      spec_l01Drawn_s0 k (fun y5 y6 y7 y8 y9 => some (y9, (y5, y6, y7))) (fun h1 h2 h3 h4 h5 h6 h7 h8 => rec (h1, h2, h3, h4, h5, h6, h7, h8)) p.1 p.2.1 p.2.2.1 p.2.2.2.1 p.2.2.2.2.1 p.2.2.2.2.2.1 p.2.2.2.2.2.2.1 p.2.2.2.2.2.2.2) f
      (few, (i : Int), B, p, s, q, A, fl (allC w h)) = some (A', (B, p', s')) ∧ Draft A' w h := by
  intro m
  induction m with
  | zero =>
    intro i f p s A hi hf' hp hp2 d
    obtain ⟨f, rfl⟩ : ∃ g, f = g + 1 := ⟨f - 1, by omega⟩
    rw [loopF]
    dsimp only
    unfold spec_l01Drawn_s0
    rw [cnt_fl, bF (by omega)]
    exact ⟨_, _, _, rfl, d⟩
  | succ m ih =>
    intro i f p s A hi hf' hp hp2 d
    obtain ⟨f, rfl⟩ : ∃ g, f = g + 1 := ⟨f - 1, by omega⟩
    have hlen : (allC w h).length ≤ 36 := by
      rw [allC_length]
      have h1 := d.w1
      have h2 := d.h1
      calc h * w ≤ 6 * 6 := Nat.mul_le_mul h2.2 h1.2
        _ = 36 := rfl
    rw [loopF]
    dsimp only
    unfold spec_l01Drawn_s0 spec_l00Src_one
    obtain ⟨r, s1, e1, r1, r2⟩ := pick_ok k hB s (p := p) (by omega) (m := few) (by omega)
    rw [e1]
    simp only [Option.bind_some]
    rw [cnt_fl, bT (p := (i : Int) < ((allC w h).length : Int)) (by omega), bT (p := (0 : Int) ≤ (i : Int)) (by omega)]
    simp only [cond_true, Bool.and_true, wrap64 (x := (i : Int) + 1) (by omega)]
    have hii : (i : Int) + 1 = ((i + 1 : Nat) : Int) := by omega
    cases hr : r == 0 with
    | false =>
      simp only [cond_false]
      rw [hii]
      exact ih (i + 1) f (p + 1) s1 A (by omega) (by omega) (by omega) (by omega) d
    | true =>
      simp only [cond_true]
      obtain ⟨n, s2, e2, n1, n2⟩ := pick_ok k hB s1 (p := p + 1) (by omega) (m := 3) (by omega)
      rw [e2]
      simp only [Option.bind_some]
      rw [show (i : Int).toNat = i by omega, fl_x, fl_y]
      have hm := allC_mem.1 (getD_mem (allC w h) (0, 0) (show i < (allC w h).length by omega))
      generalize (allC w h).getD i (0, 0) = c at hm
      obtain ⟨x, y⟩ := c
      simp only at hm
      have hw := d.w1
      have hh := d.h1
      rw [bT (p := (0 : Int) ≤ y) (by omega), bT (p := y < 10) (by omega), bT (p := (0 : Int) ≤ x) (by omega), bT (p := x < 10) (by omega)]
      simp only [cond_true, Bool.and_true]
      rw [wrap64 (x := 1 + n) (by omega), wrapU8 (by omega), hii, Nat.mul_one]
      exact ih (i + 1) f (p + 1 + 1) s2 _ (by omega) (by omega) (by omega) (by omega) (draft_set d (x := x.toNat) (y := y.toNat) (by omega) (by omega) (by omega))

theorem lawn_drawn (k : Nat) {B : List Int} (hB : Bytes B) (hk : 101 < k) : ∃ A w h, spec_A2Lawn k B = some A ∧ LawnV A w h ∧ lawnB A = true ∧ w ≤ 6 ∧ h ≤ 6 := by
  unfold spec_A2Lawn spec_l00From spec_l01Drawn
  obtain ⟨a, s1, e1, a1, a2⟩ := pick_ok k hB 0 (p := 0) (by omega) (m := 6) (by omega)
  simp only [Option.bind_some, e1]
  obtain ⟨b, s2, e2, b1, b2⟩ := pick_ok k hB s1 (p := 0 + 1) (by omega) (m := 6) (by omega)
  simp only [Option.bind_some, e2]
  obtain ⟨c, s3, e3, c1, c2⟩ := pick_ok k hB s2 (p := 0 + 1 + 1) (by omega) (m := 8) (by omega)
  simp only [Option.bind_some, e3]
  rw [wrap64 (x := 1 + a) (by omega), wrap8 (x := 1 + a) (by omega), wrap64 (x := 1 + b) (by omega), wrap8 (x := 1 + b) (by omega), wrap64 (x := 2 + c) (by omega)]
  obtain ⟨w, hw⟩ : ∃ w : Nat, 1 + a = (w : Int) := ⟨(1 + a).toNat, by omega⟩
  obtain ⟨h, hh⟩ : ∃ h : Nat, 1 + b = (h : Int) := ⟨(1 + b).toNat, by omega⟩
  rw [hw, hh]
  have d := draft_blank (w := w) (h := h) (by omega) (by omega)
  rw [spec_all k d.lawnV (by omega)]
  simp only [Option.bind_some]
  unfold spec_l01Drawn_l0
  have hlen : (allC w h).length ≤ 36 := by
    rw [allC_length]
    calc h * w ≤ 6 * 6 := Nat.mul_le_mul (by omega) (by omega)
      _ = 36 := rfl
  obtain ⟨p', s', A', e4, d'⟩ := drawn_loop k hB (few := 2 + c) (by omega) (w := w) (h := h) (List.replicate 102 0) (allC w h).length 0 k (0 + 1 + 1 + 1) s3 _ (by omega) (by omega) (by omega) (by omega) d
  rw [show ((0 : Nat) : Int) = 0 from rfl] at e4
  rw [e4]
  exact ⟨A', w, h, rfl, d'.lawnV, d'.lawnB, d'.w1.2, d'.h1.2⟩

end Go.Proofs.Ytkdpdmfkomnalaa.Tt
