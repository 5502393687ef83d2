/- Plain laws: the checks of weather, and the whole law CountPlans. -/
import Derived.Test.YtkdpdmfkomnalaaC6
import Derived.Test.YtkdpdmfkomnalaaE6
set_option linter.unusedVariables false
set_option linter.unusedSimpArgs false
namespace Go.Proofs.Ytkdpdmfkomnalaa.Tt
open Go.Ev Go

def dayB (p : Int × Int) : Bool := (decide (0 ≤ p.1) && decide (p.1 ≤ 50)) && (decide (0 ≤ p.2) && decide (p.2 ≤ 40))
def okB (L : List (Int × Int)) : Bool := L.all dayB && decide (L.length ≤ 30)
def highB (n : Int) : Bool := decide (0 ≤ n) && decide (n ≤ 200)
def mowsB (n : Int) : Bool := decide (0 ≤ n) && decide (n ≤ 30)
def Small (L : List (Int × Int)) : Prop := ∀ p ∈ L, (-128 ≤ p.1 ∧ p.1 < 128) ∧ (-128 ≤ p.2 ∧ p.2 < 128)

theorem spec_day (k : Nat) {p : Int × Int} (h : (-128 ≤ p.1 ∧ p.1 < 128) ∧ (-128 ≤ p.2 ∧ p.2 < 128)) : spec_l03Day k [p.1, p.2] = some (dayB p) := by
  unfold spec_l03Day dayB
  simp only [show rd [p.1, p.2] 0 = p.1 from rfl, show rd [p.1, p.2] 1 = p.2 from rfl]
  rw [wrap64 (x := p.1) (by omega), wrap64 (x := p.2) (by omega), spec_in, spec_in]
  cases (decide (0 ≤ p.1) && decide (p.1 ≤ 50)) <;> rfl

theorem impl_day (k : Nat) {p : Int × Int} (h : (-128 ≤ p.1 ∧ p.1 < 128) ∧ (-128 ≤ p.2 ∧ p.2 < 128)) : impl_isDay k [p.1, p.2] = some (dayB p) := by
  unfold impl_isDay dayB
  simp only [show rd [p.1, p.2] 0 = p.1 from rfl, show rd [p.1, p.2] 1 = p.2 from rfl]
  rw [wrap64 (x := p.1) (by omega), wrap64 (x := p.2) (by omega), impl_in, impl_in]
  cases (decide (0 ≤ p.1) && decide (p.1 ≤ 50)) <;> rfl

theorem impl_okB (k : Nat) {L : List (Int × Int)} (hs : Small L) (hL : L.length ≤ 1048576) (hk : L.length < k) : impl_ValidWeather k (fl L) = some (okB L) := by
  unfold impl_ValidWeather okB
  rw [cnt_fl]
  by_cases q : L.length ≤ 30
  · rw [bT (p := (L.length : Int) ≤ 30) (by omega), bT q]
    simp only [cond_true, Bool.and_true]
    rw [containsFunc_cells k L _ (fun p => !(dayB p)) (fun p hp => ?_) hL hk]
    · simp only [Option.bind_some, List.not_any_eq_all_not, Bool.not_not]
    · show ((impl_ValidWeather_1 k [p.1, p.2]).bind fun b => some b) = _
      unfold impl_ValidWeather_1
      show (((impl_isDay k [p.1, p.2]).bind fun x1 => some (!x1)).bind fun b => some b) = _
      rw [impl_day k (hs p hp)]
      rfl
  · rw [bF (p := (L.length : Int) ≤ 30) (by omega), bF q, Bool.and_false]
    rfl

theorem spec_ok_loop {R : Type} (k : Nat) (K1 : Bool → Option R) (K2 : (List Int) → Option R) {L : List (Int × Int)} (hs : Small L) (hL : L.length ≤ 1048576) : ∀ (m i f : Nat), i + m = L.length → m < f →
    loopF (fun (rec : (List Int) × Int → Option R) (p : (List Int) × Int) => spec_l03Ok_s0 k K1 K2 (fun h1 h2 => rec (h1, h2)) p.1 p.2) f (fl L, (i : Int)) = cond ((L.drop i).all dayB) (K2 (fl L)) (K1 false) := by
  intro m
  induction m with
  | zero =>
    intro i f hi hf
    obtain ⟨f, rfl⟩ : ∃ g, f = g + 1 := ⟨f - 1, by omega⟩
    rw [loopF]
    dsimp only
    have hd0 : L.drop i = [] := List.drop_of_length_le (by omega)
    rw [spec_l03Ok_s0, cnt_fl, bF (by omega), hd0]
    rfl
  | succ m ih =>
    intro i f hi hf
    obtain ⟨f, rfl⟩ : ∃ g, f = g + 1 := ⟨f - 1, by omega⟩
    rw [loopF]
    dsimp only
    have hil : i < L.length := by omega
    rw [spec_l03Ok_s0, cnt_fl, bT (p := (i : Int) < (L.length : Int)) (by omega), bT (p := (0 : Int) ≤ (i : Int)) (by omega), drop_getD L (0, 0) hil]
    simp only [cond_true, Bool.and_true, Int.toNat_natCast, fl_x, fl_y]
    rw [spec_day k (hs _ (getD_mem L (0, 0) hil)), wrap64 (x := (i : Int) + 1) (by omega), show (i : Int) + 1 = ((i + 1 : Nat) : Int) by omega]
    rw [Option.bind_some, List.all_cons, ih (i + 1) f (by omega) (by omega)]
    cases dayB (L.getD i (0, 0)) <;> rfl

theorem spec_okB (k : Nat) {L : List (Int × Int)} (hs : Small L) (hL : L.length ≤ 1048576) (hk : L.length < k) : spec_l03Ok k (fl L) = some (okB L) := by
  unfold spec_l03Ok okB
  rw [spec_l03Ok_l0]
  refine (spec_ok_loop k _ _ hs hL L.length 0 k (by omega) hk).trans ?_
  rw [List.drop_zero, cnt_fl]
  have : decide ((L.length : Int) ≤ 30) = decide (L.length ≤ 30) := by
    by_cases q : L.length ≤ 30
    · rw [bT q, bT (by omega)]
    · rw [bF q, bF (by omega)]
  rw [this]
  cases L.all dayB <;> rfl

def askedV (L : List (Int × Int)) (fine : Bool) : Int := cond (okB L) (cond fine 0 2) 1

theorem spec_asked (k : Nat) {L : List (Int × Int)} (hs : Small L) (hL : L.length ≤ 1048576) (hk : L.length < k) (fine : Bool) : spec_l03Asked k (fl L) fine = some (askedV L fine) := by
  unfold spec_l03Asked askedV
  rw [spec_okB k hs hL hk]
  cases okB L <;> cases fine <;> rfl

theorem spec_high (k : Nat) (n : Int) : spec_l03High k n = some (highB n) := by
  unfold spec_l03High highB
  rw [spec_in]
  rfl

theorem spec_mows (k : Nat) (n : Int) : spec_l03Mows k n = some (mowsB n) := by
  unfold spec_l03Mows mowsB
  rw [spec_in]
  rfl

theorem index_three (k : Nat) (a b c : Int) (f : List Int → Option Bool) (g : Int → Bool) (hf : ∀ x, f [x] = some (g x)) : slices_ContainsFunc_int64 (k + 4) [a, b, c] f = some (g a || g b || g c) := by
  have c3 : cnt 1 [a, b, c] = 3 := cnt1 _
  unfold slices_ContainsFunc_int64 slices_IndexFunc_int64
  rw [slices_IndexFunc_int64_l0, c3]
  rw [loopF]
  dsimp only
  rw [slices_IndexFunc_int64_s0, c3, show (0 : Int).toNat * 1 = 0 from rfl, show rd [a, b, c] 0 = a from rfl, hf]
  cases ga : g a with
  | true => rfl
  | false =>
    show Option.bind (loopF _ _ ([a, b, c], f, ((3 : Nat) : Int), IntKind.wrap .i64 (0 + 1))) _ = _
    rw [show IntKind.wrap .i64 (0 + 1) = 1 by decide]
    rw [loopF]
    dsimp only
    rw [slices_IndexFunc_int64_s0, c3, show (1 : Int).toNat * 1 = 1 from rfl, show rd [a, b, c] 1 = b from rfl, hf]
    cases gb : g b with
    | true => rfl
    | false =>
      show Option.bind (loopF _ _ ([a, b, c], f, ((3 : Nat) : Int), IntKind.wrap .i64 (1 + 1))) _ = _
      rw [show IntKind.wrap .i64 (1 + 1) = 2 by decide]
      rw [loopF]
      dsimp only
      rw [slices_IndexFunc_int64_s0, c3, show (2 : Int).toNat * 1 = 2 from rfl, show rd [a, b, c] 2 = c from rfl, hf]
      cases gc : g c with
      | true => rfl
      | false =>
        show Option.bind (loopF _ _ ([a, b, c], f, ((3 : Nat) : Int), IntKind.wrap .i64 (2 + 1))) _ = _
        rw [show IntKind.wrap .i64 (2 + 1) = 3 by decide]
        rw [loopF]
        rfl

theorem impl_lengths (k : Nat) {L : List (Int × Int)} (hs : Small L) (hL : L.length ≤ 1048576) (hk : L.length < k) (a b c : Int) : impl_lengthsCode (k + 4) (fl L) [a, b, c] = some (askedV L (highB a && highB b && highB c)) := by
  unfold impl_lengthsCode askedV
  rw [impl_okB (k + 4) hs hL (by omega), index_three k a b c _ (fun x => !(highB x)) (fun x => ?_)]
  · cases okB L <;> cases highB a <;> cases highB b <;> cases highB c <;> rfl
  · show ((impl_lengthsCode_1 (k + 4) x).bind fun b => some b) = _
    unfold impl_lengthsCode_1 highB
    rw [impl_in]
    rfl

/-- What both sides give. -/
def plansV (L : List (Int × Int)) (a b c d : Int) : Int × Int :=
  cond (askedV L (highB a && highB b && highB c && mowsB d) == 0) ((cntP b c (L.map growV) a d.toNat : Int), 0) (0, askedV L (highB a && highB b && highB c && mowsB d))

theorem okB_true {L : List (Int × Int)} (h : okB L = true) : (∀ p ∈ L, DayOK p) ∧ L.length ≤ 30 := by
  simp only [okB, dayB, Bool.and_eq_true, List.all_eq_true, decide_eq_true_eq] at h
  exact ⟨fun p hp => h.1 p hp, h.2⟩

theorem highB_true {n : Int} (h : highB n = true) : 0 ≤ n ∧ n ≤ 200 := by simpa [highB] using h
theorem mowsB_true {n : Int} (h : mowsB n = true) : 0 ≤ n ∧ n ≤ 30 := by simpa [mowsB] using h

theorem spec_plans (k : Nat) {L : List (Int × Int)} (hs : Small L) (hL : L.length ≤ 1048576) (hk : L.length + 300 < k) (a b c d : Int) : spec_CountPlans k a b c (fl L) d = some (plansV L a b c d) := by
  unfold spec_CountPlans plansV
  simp only [spec_high, spec_mows, spec_asked k hs hL (by omega : L.length < k), Option.bind_some]
  cases ha : highB a with
  | false => unfold askedV; cases okB L <;> rfl
  | true =>
    cases hb : highB b with
    | false => unfold askedV; cases okB L <;> rfl
    | true =>
      cases hc : highB c with
      | false => unfold askedV; cases okB L <;> rfl
      | true =>
        cases hd : mowsB d with
        | false => unfold askedV; cases okB L <;> rfl
        | true =>
          cases ho : okB L with
          | false => unfold askedV; rw [ho]; rfl
          | true =>
            have e : askedV L true = 0 := by unfold askedV; rw [ho]; rfl
            simp only [cond_true, Bool.and_true, e]
            have hd' := mowsB_true hd
            obtain ⟨M, rfl⟩ : ∃ M : Nat, d = (M : Int) := ⟨d.toNat, by omega⟩
            rw [neF rfl, eqT rfl, wrap64 (x := (M : Int) + 1) (by omega), show (M : Int) + 1 = ((M + 1 : Nat) : Int) by omega, bT (p := (0 : Int) ≤ ((M + 1 : Nat) : Int)) (by omega), bT (p := ((M + 1 : Nat) : Int) ≤ 4294967296) (by omega), beq_self_eq_true, Int.toNat_natCast, Int.toNat_natCast]
            simp only [cond_true, cond_false, Bool.and_true]
            obtain ⟨h1, h2⟩ := okB_true ho
            exact spec_body k (highB_true ha) (highB_true hb) (highB_true hc) h2 h1 (by omega) (by omega)

theorem impl_plans (k : Nat) {L : List (Int × Int)} (hs : Small L) (hL : L.length ≤ 1048576) (hk : L.length < k) (a b c d : Int) : impl_CountPlans (k + 4) a b c (fl L) d = some (plansV L a b c d) := by
  unfold impl_CountPlans plansV
  rw [impl_lengths k hs hL hk, Option.bind_some]
  cases ho : okB L with
  | false =>
    unfold askedV
    rw [ho]
    rfl
  | true =>
    have e : ∀ q, askedV L q = cond q 0 2 := by intro q; unfold askedV; rw [ho]; rfl
    simp only [e, impl_in]
    cases hh : (highB a && highB b && highB c) with
    | false => rfl
    | true =>
      have hd0 : (decide (0 ≤ d) && decide (d ≤ 30)) = mowsB d := rfl
      rw [hd0]
      cases hd : mowsB d with
      | false => rfl
      | true =>
        obtain ⟨h1, h2⟩ := okB_true ho
        have hd' := mowsB_true hd
        simp only [Bool.and_eq_true] at hh
        obtain ⟨M, rfl⟩ : ∃ M : Nat, d = (M : Int) := ⟨d.toNat, by omega⟩
        obtain ⟨es, e1, _⟩ := impl_count (cut := b) (most := c) h2 h1 (highB_true hh.1.2) (highB_true hh.2) [] L.length 0 a M (k + 4) [] (by omega) (by omega) (highB_true hh.1.1) (by omega) (fun d h m hq => by simp [hasK] at hq)
        unfold impl_plannerOf
        simp only [cond_true, cond_false, Option.bind_some, Bool.and_true, Bool.not_true, eqT (rfl : (0 : Int) = 0), neF (rfl : (0 : Int) = 0), Int.toNat_natCast]
        rw [show ((0 : Nat) : Int) = 0 from rfl] at e1
        rw [e1]
        rfl

theorem countPlans_fl {L : List (Int × Int)} (hs : Small L) (hL : L.length ≤ 1048576) (a b c d : Int) : laws_FnExactCountPlans (L.length + 301 + 4) a b c (fl L) d = some true := by
  unfold laws_FnExactCountPlans laws_szWeatherS
  have t := toCellS_id (L.length + 301 + 4) (fl L) L.length (fl_length L) hL (by omega)
  rw [cnt_fl, wrap64 (x := 1048576 - (L.length : Int)) (by omega), bF (p := (1048576 - (L.length : Int)) < 0) (by omega)]
  simp only [cond_false, Option.bind_some]
  rw [bF (p := (1048576 - (L.length : Int)) < 0) (by omega)]
  simp only [cond_false, Option.bind_some, t]
  rw [spec_plans _ hs hL (by omega), impl_plans _ hs hL (by omega)]
  simp only [Option.bind_some, bne_self_eq_false, cond_false]
  rw [eqCellS_self _ (fl L) L.length (fl_length L) hL (by omega)]
  rfl

theorem i8C {n : Int} (h : inKind (.int .i8) n) : -128 ≤ n ∧ n < 128 := by
  simp [inKind, Lit.wf, IntKind.min, IntKind.max, IntKind.signed, IntKind.bits] at h
  omega

theorem countPlans_true {T : Tab} {e : TypeId} {l : List Int} {n : Nat} (hl : l.length = n * (T.at e).size) (hn : n ≤ 1048576) (hr : ∀ j, j < l.length → inKind (kindAt (T.at e).ks j) (rd l j)) (hs : (T.at e).size = 2) (hk : (T.at e).ks = [.int .i8, .int .i8]) (a b c d : Int) : ∃ k, laws_FnExactCountPlans k a b c l d = some true := by
  rw [hs] at hl
  obtain ⟨L, rfl, hLn⟩ := fl_of n l hl
  refine ⟨_, countPlans_fl (fun p hp => ?_) (by omega) a b c d⟩
  have hall : ∀ j, j < (fl L).length → -128 ≤ rd (fl L) j ∧ rd (fl L) j < 128 := by
    intro j hj
    have h := hr j hj
    rw [hk] at h
    have e8 : kindAt [SK.int .i8, SK.int .i8] j = .int .i8 := by
      unfold kindAt
      have h : j % 2 = 0 ∨ j % 2 = 1 := by omega
      show List.getD _ (j % 2) _ = _
      rcases h with h | h <;> rw [h] <;> rfl
    rw [e8] at h
    exact i8C h
  obtain ⟨j, hj, e1, e2⟩ := rd_mem_fl L p hp
  have h1 := hall j (by omega)
  have h2 := hall (j + 1) (by omega)
  rw [e1] at h1
  rw [e2] at h2
  exact ⟨h1, h2⟩

end Go.Proofs.Ytkdpdmfkomnalaa.Tt
