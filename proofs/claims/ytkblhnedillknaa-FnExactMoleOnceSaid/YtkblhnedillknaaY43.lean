/- Plain laws: MoleOnce. -/
import Derived.Test.YtkblhnedillknaaY40
import Derived.Test.YtkblhnedillknaaY11c
import Derived.Test.YtkblhnedillknaaY13
import Derived.Test.YtkblhnedillknaaY14n
import Derived.Test.YtkblhnedillknaaY35b
set_option linter.unusedVariables false
set_option linter.unusedSimpArgs false
namespace Go.Proofs.Ytkblhnedillknaa.Tt
open Go.Ev Go

theorem eqPair (p q : Int × Int) : eqL [p.1, p.2] [q.1, q.2] = (p == q) := by
  obtain ⟨x, y⟩ := p
  obtain ⟨z, u⟩ := q
  simp only [eqL, Bool.and_true]
  rfl

/-! ## Codes -/

theorem impl_soil (k : Nat) {a g : List Int} (ha : LawnR a) (hg : LevR g) (L : List (Int × Int)) (hL : L.length ≤ 1000) (hk : 10 < k) (hk2 : L.length < k) : impl_soilCode k a g (fl L) = some (cond (lawnB a && levB a g) (cond (L.any fun p => !(hasB a p.1 p.2)) 2 0) 1) := by
  unfold impl_soilCode
  rw [impl_lev k ha hg hk]
  simp only [Option.bind_some]
  cases hb : (lawnB a && levB a g) with
  | false => rfl
  | true =>
    rw [Bool.and_eq_true] at hb
    rw [impl_cells k ha L hL hk hk2, hb.1]
    rfl

theorem impl_grassC (k : Nat) {a : List Int} {w h : Nat} (v : LawnV a w h) (hv : lawnB a = true) (L : List (Int × Int)) (hL : L.length ≤ 1000) (hk : 10 < k) (hk2 : L.length < k) (hin : (L.any fun p => !(hasB a p.1 p.2)) = false) :
    impl_grassCode k a (fl L) = some (cond (L.any fun p => !(grassB a p.1 p.2)) 4 0) := by
  unfold impl_grassCode
  rw [impl_cells k v.toLawnR L hL hk hk2, hv, hin]
  simp only [Option.bind_some, cond_true, cond_false]
  rw [containsFunc_cells k L _ (fun p => !(grassB a p.1 p.2)) (fun p _ => by
    unfold impl_grassCode_1
    rw [show impl_Lawn_grass k a [rd [rd [p.1, p.2] 0, rd [p.1, p.2] 1] 0, rd [rd [p.1, p.2] 0, rd [p.1, p.2] 1] 1] = some (grassB a p.1 p.2) from impl_grass k v.toLawnS p.1 p.2]
    rfl) (by omega) hk2]
  simp only [Option.bind_some]
  cases (L.any fun p => !(grassB a p.1 p.2)) <;> rfl

theorem impl_mole (k : Nat) {a g : List Int} (ha : LawnR a) (hg : LevR g) (L : List (Int × Int)) (hL : L.length ≤ 1000) (hk : 10 < k) (hk2 : L.length < k) :
    impl_moleCode k a g 0 (fl L) = some (cond (lawnB a && levB a g) (cond (L.any fun p => !(hasB a p.1 p.2)) 2 (cond (L.any fun p => !(grassB a p.1 p.2)) 4 0)) 1) := by
  unfold impl_moleCode
  rw [impl_soil k ha hg L hL hk hk2, impl_in]
  simp only [Option.bind_some]
  cases hb : (lawnB a && levB a g) with
  | false => rfl
  | true =>
    rw [Bool.and_eq_true] at hb
    obtain ⟨w, h, v⟩ := lawnV_of ha hb.1
    cases hin : (L.any fun p => !(hasB a p.1 p.2)) with
    | true => rfl
    | false =>
      rw [impl_grassC k v hb.1 L hL hk hk2 hin]
      rfl

theorem spec_below (k : Nat) {a g : List Int} (ha : LawnR a) (hg : LevR g) (L : List (Int × Int)) (hL : L.length ≤ 1000) (hr : ∀ p ∈ L, (-128 ≤ p.1 ∧ p.1 < 128) ∧ (-128 ≤ p.2 ∧ p.2 < 128)) (hk : 10 < k) (hk2 : L.length < k) :
    spec_l06Below k a g (fl L) true = some (cond (lawnB a && levB a g) (cond (L.any fun p => !(hasB a p.1 p.2)) 2 (cond (L.any fun p => !(grassB a p.1 p.2)) 4 0)) 1) := by
  unfold spec_l06Below
  rw [spec_lev k ha hg hk]
  simp only [Option.bind_some]
  cases hb : (lawnB a && levB a g) with
  | false => rfl
  | true =>
    rw [Bool.and_eq_true] at hb
    obtain ⟨w, h, v⟩ := lawnV_of ha hb.1
    simp only [Bool.not_true, cond_false, cond_true]
    have l0 : ∀ (K1 : List Int → List Int → Bool → Option Int), spec_l06Below_l0 k K1 a (fl L) true 0 = K1 a (fl L) (L.all fun p => hasB a p.1 p.2) := by
      intro K1
      unfold spec_l06Below_l0
      have := loopF_go (R := Int) (step := fun (rec : (List Int) × (List Int) × Bool × Int → Option Int) (p : (List Int) × (List Int) × Bool × Int) => spec_l06Below_s0 k K1 (fun h1 h2 h3 h4 => rec (h1, h2, h3, h4)) p.1 p.2.1 p.2.2.1 p.2.2.2)
        (fun i => (a, fl L, (L.take i).all fun p => hasB a p.1 p.2, (i : Int))) (fun _ _ => K1 a (fl L) (L.all fun p => hasB a p.1 p.2)) L.length ?_ ?_ L.length 0 k (by omega) hk2
      · exact this
      · intro rec
        dsimp only
        unfold spec_l06Below_s0
        simp (disch := omega) only [cnt_fl, bF, cond_false, List.take_length]
      · intro i m hi rec hrec
        dsimp only at hrec ⊢
        unfold spec_l06Below_s0
        have hil : i < L.length := by omega
        have hp := hr _ (getD_mem L (0, 0) hil)
        rw [take_getD _ (0, 0) hil, List.all_append] at hrec
        simp only [cnt_fl, Int.toNat_natCast, fl_x, fl_y]
        generalize L.getD i (0, 0) = c at hp hrec ⊢
        rw [wrap64 (x := (i : Int) + 1) (by omega), bT (p := (i : Int) < (L.length : Int)) (by omega), bT (p := (0 : Int) ≤ (i : Int)) (by omega), show spec_l01Is k a [c.1, c.2] = some (hasB a c.1 c.2) from spec_is k ha hp.1 hp.2]
        simp only [cond_true, Bool.and_true, Option.bind_some]
        simp only [List.all_cons, List.all_nil, Bool.and_true] at hrec
        cases hh : (L.take i).all fun p => hasB a p.1 p.2 with
        | true => rw [hh, Bool.true_and] at hrec; exact hrec
        | false => rw [hh, Bool.false_and] at hrec; exact hrec
    rw [l0]
    have hany : ∀ (f : Int × Int → Bool), (L.any fun p => !(f p)) = !(L.all f) := by
      intro f
      rw [List.not_all_eq_any_not]
    rw [hany fun p => hasB a p.1 p.2]
    cases hin : (L.all fun p => hasB a p.1 p.2) with
    | false => rfl
    | true =>
      simp only [Bool.not_true, cond_false]
      unfold spec_l06Below_l1
      have := loopF_go (R := Int) (step := fun (rec : (List Int) × (List Int) × Int → Option Int) (p : (List Int) × (List Int) × Int) => spec_l06Below_s1 k (fun y5 => some y5) (some 0) (fun h1 h2 h3 => rec (h1, h2, h3)) p.1 p.2.1 p.2.2)
        (fun i => (a, fl L, (i : Int))) (fun i _ => some (cond ((L.drop i).any fun p => !(grassB a p.1 p.2)) 4 0)) L.length ?_ ?_ L.length 0 k (by omega) hk2
      · simpa using this
      · intro rec
        dsimp only
        unfold spec_l06Below_s1
        simp (disch := omega) only [cnt_fl, bF, cond_false, List.drop_length]
        rfl
      · intro i m hi rec hrec
        dsimp only at hrec ⊢
        unfold spec_l06Below_s1
        have hil : i < L.length := by omega
        have hp := hr _ (getD_mem L (0, 0) hil)
        rw [drop_getD L (0, 0) hil, List.any_cons]
        simp only [cnt_fl, Int.toNat_natCast, fl_x, fl_y]
        generalize L.getD i (0, 0) = c at hp ⊢
        rw [wrap64 (x := (i : Int) + 1) (by omega), bT (p := (i : Int) < (L.length : Int)) (by omega), bT (p := (0 : Int) ≤ (i : Int)) (by omega), spec_grass k v.toLawnS hp.1 hp.2]
        simp only [cond_true, Bool.and_true, Option.bind_some]
        cases grassB a c.1 c.2 with
        | false => rfl
        | true => simp only [Bool.not_true, cond_false, Bool.false_or]; exact hrec

/-! ## The lowest cell -/

/-- Of the cell chosen so far (p: none) and another one, which is chosen. -/
def amS (g : List Int) (p b c : Int × Int) : Int × Int := cond (b == p || decide (levP g c < levP g b)) c b
def amL (g : List Int) (p : Int × Int) (L : List (Int × Int)) : Int × Int := L.foldl (amS g p) p

theorem amS_or (g : List Int) (p b c : Int × Int) : amS g p b c = b ∨ amS g p b c = c := by
  unfold amS
  cases (b == p || decide (levP g c < levP g b)) with
  | true => exact .inr rfl
  | false => exact .inl rfl

theorem amF_mem (g : List Int) (p : Int × Int) : ∀ (L : List (Int × Int)) (b : Int × Int), L.foldl (amS g p) b = b ∨ L.foldl (amS g p) b ∈ L := by
  intro L
  induction L with
  | nil => intro b; exact .inl rfl
  | cons c r ih =>
    intro b
    rw [List.foldl_cons]
    rcases ih (amS g p b c) with h | h
    · rw [h]
      rcases amS_or g p b c with h2 | h2
      · exact .inl h2
      · rw [h2]; exact .inr (by simp)
    · exact .inr (List.mem_cons_of_mem _ h)

theorem amL_cons {g : List Int} {p c : Int × Int} {r : List (Int × Int)} (hne : ∀ d ∈ c :: r, d ≠ p) : amL g p (c :: r) ∈ c :: r ∧ amL g p (c :: r) ≠ p := by
  have h1 : amS g p p c = c := by unfold amS; rw [beq_self_eq_true]; rfl
  have h2 : amL g p (c :: r) ∈ c :: r := by
    unfold amL
    rw [List.foldl_cons, h1]
    rcases amF_mem g p r c with h | h
    · rw [h]; simp
    · exact List.mem_cons_of_mem _ h
  exact ⟨h2, hne _ h2⟩

theorem amL_nil (g : List Int) (p : Int × Int) : amL g p [] = p := rfl

theorem am_in10 {g : List Int} {p : Int × Int} (hp : in10 p) {L : List (Int × Int)} (hL : ∀ c ∈ L, in10 c) {b : Int × Int} (hb : in10 b) : in10 (L.foldl (amS g p) b) := by
  rcases amF_mem g p L b with h | h
  · rw [h]; exact hb
  · exact hL _ h

/-- Which cell is chosen in the reference, and which in the program. -/
theorem choose_same (g : List Int) (p q : Int × Int) (F : List (Int × Int)) (hne : ∀ d ∈ F, d ≠ p) (hd : F.Nodup) :
    (cond (amL g p (F.filter fun c => !(c == q)) == p) (amL g p F) (amL g p (F.filter fun c => !(c == q)))) = cond (decide ((F.length : Int) > 1)) (amL g p (F.filter fun c => !(c == q))) (amL g p F) := by
  have hne' : ∀ d ∈ F.filter (fun c => !(c == q)), d ≠ p := fun d hd => hne d (List.mem_filter.1 hd).1
  match F, hne, hd, hne' with
  | [], _, _, _ =>
    show cond (p == p) p p = cond (decide (((0 : Nat) : Int) > 1)) p p
    cases (p == p) <;> cases decide (((0 : Nat) : Int) > 1) <;> rfl
  | [c], hne, _, hne' =>
    rw [bF (by simp)]
    simp only [cond_false]
    cases hc : (c == q) with
    | true =>
      have : List.filter (fun c => !(c == q)) [c] = [] := by simp [hc]
      rw [this, amL_nil, beq_self_eq_true]
      rfl
    | false =>
      have : List.filter (fun c => !(c == q)) [c] = [c] := by simp [hc]
      rw [this]
      cases (amL g p [c] == p) <;> rfl
  | c :: d :: r, hne, hd, hne' =>
    rw [bT (by simp only [List.length_cons]; omega)]
    simp only [cond_true]
    have hcd : c ≠ d := by
      intro e
      rw [List.nodup_cons] at hd
      exact hd.1 (by rw [e]; simp)
    have hex : ∃ x y, (c :: d :: r).filter (fun c => !(c == q)) = x :: y := by
      cases hf : (c :: d :: r).filter (fun c => !(c == q)) with
      | nil =>
        exfalso
        rw [List.filter_eq_nil_iff] at hf
        have h1 := hf c (by simp)
        have h2 := hf d (by simp)
        simp at h1 h2
        exact hcd (h1.trans h2.symm)
      | cons x y => exact ⟨x, y, rfl⟩
    obtain ⟨x, y, hxy⟩ := hex
    rw [hxy] at hne' ⊢
    have := (amL_cons (g := g) hne').2
    rw [beq_eq_false_iff_ne.2 this]
    rfl

/-! ## A night -/

def selR (a : List Int) (q : Int × Int) (r : Int) (c : Int × Int) : Bool := grassB a c.1 c.2 && (!(r == 0) || !(c == q))

theorem spec_round {R : Type} (k : Nat) (hk : 20 < k) (K1 : (List Int) → Int → (List Int) → (List Int) → (List Int) → (List Int) → Option R) {a g : List Int} {w h : Nat} (v : LawnV a w h) (hg : LevR g) {p q : Int × Int} (hp : in10 p) (r : Int) (L : List (Int × Int)) (hL : ∀ c ∈ L, in10 c) (hl : L.length ≤ 10) :
    spec_l06Mole_night_l0 k K1 a r 0 [p.1, p.2, q.1, q.2] g (fl L) [p.1, p.2] = K1 a r [p.1, p.2, q.1, q.2] g (fl L) [(amL g p (L.filter (selR a q r))).1, (amL g p (L.filter (selR a q r))).2] := by
  unfold spec_l06Mole_night_l0
  have := loopF_go (R := R) (step := fun (rec : (List Int) × Int × Int × (List Int) × (List Int) × (List Int) × (List Int) → Option R) (s : (List Int) × Int × Int × (List Int) × (List Int) × (List Int) × (List Int)) => spec_l06Mole_night_s0 k K1 (fun h1 h2 h3 h4 h5 h6 h7 => rec (h1, h2, h3, h4, h5, h6, h7)) s.1 s.2.1 s.2.2.1 s.2.2.2.1 s.2.2.2.2.1 s.2.2.2.2.2.1 s.2.2.2.2.2.2)
    (fun i => (a, r, (i : Int), [p.1, p.2, q.1, q.2], g, fl L, [(amL g p ((L.take i).filter (selR a q r))).1, (amL g p ((L.take i).filter (selR a q r))).2]))
    (fun _ _ => K1 a r [p.1, p.2, q.1, q.2] g (fl L) [(amL g p (L.filter (selR a q r))).1, (amL g p (L.filter (selR a q r))).2]) L.length ?_ ?_ L.length 0 k (by omega) (by omega)
  · exact this
  · intro rec
    dsimp only
    unfold spec_l06Mole_night_s0
    simp (disch := omega) only [cnt_fl, bF, cond_false, List.take_length]
  · intro i m hi rec hrec
    dsimp only at hrec ⊢
    unfold spec_l06Mole_night_s0
    have hil : i < L.length := by omega
    have hc := hL _ (getD_mem L (0, 0) hil)
    have hb10 : in10 (amL g p ((L.take i).filter (selR a q r))) := am_in10 hp (fun c hc => hL c (List.mem_of_mem_take (List.mem_filter.1 hc).1)) hp
    rw [take_getD _ (0, 0) hil, List.filter_append] at hrec
    simp only [cnt_fl, Int.toNat_natCast, fl_x, fl_y]
    generalize L.getD i (0, 0) = c at hc hrec ⊢
    have hsn : ∀ F, amL g p (F ++ [c]) = amS g p (amL g p F) c := fun F => by simp [amL]
    generalize hF : (L.take i).filter (selR a q r) = F at hb10 hrec ⊢
    have e0 : rd [p.1, p.2, q.1, q.2] 0 = p.1 := rfl
    have e1 : rd [p.1, p.2, q.1, q.2] 1 = p.2 := rfl
    have e2 : rd [p.1, p.2, q.1, q.2] 2 = q.1 := rfl
    have e3 : rd [p.1, p.2, q.1, q.2] 3 = q.2 := rfl
    have f0 : ([rd [(amL g p F).1, (amL g p F).2] 0, rd [(amL g p F).1, (amL g p F).2] 1] : List Int) = [(amL g p F).1, (amL g p F).2] := rfl
    have hw1 : IntKind.wrap .i64 ((i : Int) + 1) = ((i + 1 : Nat) : Int) := by rw [wrap64 (by omega)]; omega
    obtain ⟨hcx, hcy⟩ := hc
    rw [e0, e1, e2, e3, f0, hw1, bT (p := (i : Int) < (L.length : Int)) (by omega), bT (p := (0 : Int) ≤ (i : Int)) (by omega), spec_grass k v.toLawnS (by omega) (by omega), eqPair c q, eqPair (amL g p F) p, spec_lat' k hg ⟨hcx, hcy⟩, spec_lat' k hg hb10]
    simp only [cond_true, Bool.and_true, Option.bind_some]
    cases hgr : grassB a c.1 c.2 with
    | false =>
      have : List.filter (selR a q r) [c] = [] := by simp [selR, hgr]
      rw [this, List.append_nil] at hrec
      exact hrec
    | true =>
      simp only [Bool.not_true, cond_false]
      have step : ∀ X : Option R, rec (a, r, ((i + 1 : Nat) : Int), [p.1, p.2, q.1, q.2], g, fl L, [(amS g p (amL g p F) c).1, (amS g p (amL g p F) c).2]) = X →
          (cond (amL g p F == p) (rec (a, r, ((i + 1 : Nat) : Int), [p.1, p.2, q.1, q.2], g, fl L, [c.1, c.2])) (cond (decide (levP g c < levP g (amL g p F))) (rec (a, r, ((i + 1 : Nat) : Int), [p.1, p.2, q.1, q.2], g, fl L, [c.1, c.2])) (rec (a, r, ((i + 1 : Nat) : Int), [p.1, p.2, q.1, q.2], g, fl L, [(amL g p F).1, (amL g p F).2])))) = X := by
        intro X hX
        unfold amS at hX
        cases h1 : (amL g p F == p) with
        | true => rw [h1] at hX; exact hX
        | false =>
          rw [h1, Bool.false_or] at hX
          cases h2 : decide (levP g c < levP g (amL g p F)) with
          | true => rw [h2] at hX; exact hX
          | false => rw [h2] at hX; exact hX
      cases hr0 : (r == 0) with
      | true =>
        simp only [cond_true]
        cases hcq : (c == q) with
        | true =>
          have : List.filter (selR a q r) [c] = [] := by simp [selR, hgr, hr0, hcq]
          rw [this, List.append_nil] at hrec
          exact hrec
        | false =>
          have : List.filter (selR a q r) [c] = [c] := by simp [selR, hgr, hr0, hcq]
          rw [this, hsn] at hrec
          exact step _ hrec
      | false =>
        have : List.filter (selR a q r) [c] = [c] := by simp [selR, hgr, hr0]
        rw [this, hsn] at hrec
        exact step _ hrec

/-- The cell to which a mole goes. -/
def toM (a g : List Int) (p q : Int × Int) : Int × Int :=
  cond (decide ((((nbrs p.1 p.2).filter fun c => grassB a c.1 c.2).length : Int) > 1)) (amL g p (((nbrs p.1 p.2).filter fun c => grassB a c.1 c.2).filter fun c => !(c == q))) (amL g p ((nbrs p.1 p.2).filter fun c => grassB a c.1 c.2))

def digM (g : List Int) (t : Int × Int) : List Int := cond (decide (levP g t < 9)) (List.set g (t.2.toNat * 10 + t.1.toNat) (IntKind.wrap .i8 (levP g t + 1))) g

theorem nbrs_nodup {p : Int × Int} (hp : in10 p) : (nbrs p.1 p.2).Nodup := by
  obtain ⟨x, y⟩ := p
  obtain ⟨⟨h1, h2⟩, h3, h4⟩ := hp
  simp only at h1 h2 h3 h4
  unfold nbrs
  simp (disch := omega) only [wrap8]
  refine List.nodup_cons.2 ⟨?_, List.nodup_cons.2 ⟨?_, List.nodup_cons.2 ⟨?_, List.nodup_cons.2 ⟨by simp, List.nodup_nil⟩⟩⟩⟩ <;>
  · simp only [List.mem_cons, Prod.mk.injEq, List.not_mem_nil, or_false]
    omega

theorem nbrs_ne {p : Int × Int} (hp : in10 p) : ∀ c ∈ nbrs p.1 p.2, c ≠ p := by
  obtain ⟨⟨h1, h2⟩, h3, h4⟩ := hp
  intro c hc e
  subst e
  unfold nbrs at hc
  simp (disch := omega) only [wrap8] at hc
  simp only [List.mem_cons, List.not_mem_nil, or_false] at hc
  obtain ⟨x, y⟩ := c
  simp only [Prod.mk.injEq] at hc
  omega

theorem grass_filter_in {a : List Int} (p : Int × Int) (f : Int × Int → Bool) (hf : ∀ c, f c = true → grassB a c.1 c.2 = true) : ((nbrs p.1 p.2).filter fun c => hasB a c.1 c.2).filter f = (nbrs p.1 p.2).filter f := by
  rw [List.filter_filter]
  apply List.filter_congr
  intro c _
  cases hfc : f c with
  | false => rfl
  | true =>
    have := hf c hfc
    unfold grassB at this
    rw [Bool.and_eq_true] at this
    rw [this.1]
    rfl

theorem spec_night (n : Nat) {a g : List Int} {w h : Nat} (v : LawnV a w h) (hg : LevR g) {p q : Int × Int} (hp : in10 p) :
    spec_l06Mole_night (n + 30) [p.1, p.2, q.1, q.2] a g = some ((), [(toM a g p q).1, (toM a g p q).2, p.1, p.2] ++ digM g (toM a g p q)) := by
  have hpx := hp.1
  have hpy := hp.2
  unfold spec_l06Mole_night
  have e0 : ([rd [p.1, p.2, q.1, q.2] 0, rd [p.1, p.2, q.1, q.2] 1] : List Int) = [p.1, p.2] := rfl
  rw [e0, spec_beside_cells (n + 30) v (by omega) (by omega) (by omega)]
  simp only [Option.bind_some]
  have hl4 : ((nbrs p.1 p.2).filter fun c => hasB a c.1 c.2).length ≤ 10 := Nat.le_trans (List.length_filter_le _ _) (by show 4 ≤ 10; omega)
  have hLin : ∀ c ∈ (nbrs p.1 p.2).filter (fun c => hasB a c.1 c.2), in10 c := by
    intro c hc
    have hh := hasB_true (List.mem_filter.1 hc).2
    rw [v.wv, v.hv] at hh
    have := v.wle
    have := v.hle
    exact ⟨by omega, by omega⟩
  have hFin : ∀ c ∈ (nbrs p.1 p.2).filter (fun c => grassB a c.1 c.2), in10 c := fun c hc => by
    have := grass_in10 v (List.mem_filter.1 hc).2
    exact this
  have hFne : ∀ c ∈ (nbrs p.1 p.2).filter (fun c => grassB a c.1 c.2), c ≠ p := fun c hc => nbrs_ne hp c (List.mem_filter.1 hc).1
  have r0 : ((nbrs p.1 p.2).filter fun c => hasB a c.1 c.2).filter (selR a q 0) = ((nbrs p.1 p.2).filter fun c => grassB a c.1 c.2).filter fun c => !(c == q) := by
    rw [grass_filter_in p _ (fun c hc => by unfold selR at hc; rw [Bool.and_eq_true] at hc; exact hc.1), List.filter_filter]
    apply List.filter_congr
    intro c _
    unfold selR
    rw [Bool.and_comm]
    rfl
  have r1 : ((nbrs p.1 p.2).filter fun c => hasB a c.1 c.2).filter (selR a q 1) = (nbrs p.1 p.2).filter fun c => grassB a c.1 c.2 := by
    rw [grass_filter_in p _ (fun c hc => by unfold selR at hc; rw [Bool.and_eq_true] at hc; exact hc.1)]
    apply List.filter_congr
    intro c _
    unfold selR
    rw [show ((1 : Int) == 0) = false from rfl]
    simp
  have q0 := fun (R : Type) K1 => spec_round (R := R) (n + 30) (by omega) K1 v hg (q := q) hp 0 _ hLin hl4
  have q1 := fun (R : Type) K1 => spec_round (R := R) (n + 30) (by omega) K1 v hg (q := q) hp 1 _ hLin hl4
  rw [r0] at q0
  rw [r1] at q1
  have hsame := choose_same g p q ((nbrs p.1 p.2).filter fun c => grassB a c.1 c.2) hFne ((nbrs_nodup hp).filter _)
  have htoM : toM a g p q = (cond (amL g p (((nbrs p.1 p.2).filter fun c => grassB a c.1 c.2).filter fun c => !(c == q)) == p) (amL g p ((nbrs p.1 p.2).filter fun c => grassB a c.1 c.2)) (amL g p (((nbrs p.1 p.2).filter fun c => grassB a c.1 c.2).filter fun c => !(c == q)))) := hsame.symm
  have hin1 : in10 (amL g p (((nbrs p.1 p.2).filter fun c => grassB a c.1 c.2).filter fun c => !(c == q))) := am_in10 hp (fun c hc => hFin c (List.mem_filter.1 hc).1) hp
  have hin2 : in10 (amL g p ((nbrs p.1 p.2).filter fun c => grassB a c.1 c.2)) := am_in10 hp hFin hp
  rw [htoM]
  generalize amL g p (((nbrs p.1 p.2).filter fun c => grassB a c.1 c.2).filter fun c => !(c == q)) = A0 at q0 hin1 ⊢
  generalize amL g p ((nbrs p.1 p.2).filter fun c => grassB a c.1 c.2) = A1 at q1 hin2 ⊢
  generalize fl ((nbrs p.1 p.2).filter fun c => hasB a c.1 c.2) = LL at q0 q1 ⊢
  -- what is done at the end
  have fin : ∀ (A : Int × Int), in10 A → ∀ (K : (List Int) → (List Int) → (List Int) → Option (Unit × List Int)), (∀ y2 y3 y4, K y2 y3 y4 = cond ((decide (0 ≤ (rd y4 1))) && (decide ((rd y4 1) < 10)))
          (cond ((decide (0 ≤ (rd y4 0))) && (decide ((rd y4 0) < 10)))
            (cond (decide ((rd y3 ((0 + (rd y4 1).toNat * 10) + (rd y4 0).toNat * 1)) < 9))
              (cond ((decide (0 ≤ (rd y4 1))) && (decide ((rd y4 1) < 10)))
                (cond ((decide (0 ≤ (rd y4 0))) && (decide ((rd y4 0) < 10)))
                  (cond ((decide (0 ≤ (rd y4 1))) && (decide ((rd y4 1) < 10)))
                    (cond ((decide (0 ≤ (rd y4 0))) && (decide ((rd y4 0) < 10)))
                      (some ((), ((setWin (setWin y2 2 2 [(rd y2 0), (rd y2 1)]) 0 2 [(rd y4 0), (rd y4 1)]) ++ (List.set y3 ((0 + (rd y4 1).toNat * 10) + (rd y4 0).toNat * 1) (IntKind.wrap .i8 ((rd y3 ((0 + (rd y4 1).toNat * 10) + (rd y4 0).toNat * 1)) + 1))))))
                      none)
                    none)
                  none)
                none)
              (some ((), ((setWin (setWin y2 2 2 [(rd y2 0), (rd y2 1)]) 0 2 [(rd y4 0), (rd y4 1)]) ++ y3))))
            none)
          none) → K [p.1, p.2, q.1, q.2] g [A.1, A.2] = some ((), [A.1, A.2, p.1, p.2] ++ digM g A) := by
    intro A hA K hK
    obtain ⟨⟨a1, a2⟩, a3, a4⟩ := hA
    rw [hK]
    have e1 : rd [A.1, A.2] 0 = A.1 := rfl
    have e2 : rd [A.1, A.2] 1 = A.2 := rfl
    have e3 : setWin (setWin [p.1, p.2, q.1, q.2] 2 2 [rd [p.1, p.2, q.1, q.2] 0, rd [p.1, p.2, q.1, q.2] 1]) 0 2 [A.1, A.2] = [A.1, A.2, p.1, p.2] := rfl
    rw [e1, e2, e3, bT (p := 0 ≤ A.2) a3, bT (p := A.2 < 10) a4, bT (p := 0 ≤ A.1) a1, bT (p := A.1 < 10) a2]
    simp only [cond_true, Bool.and_true, Nat.zero_add, Nat.mul_one]
    unfold digM levP
    cases decide (rd g (A.2.toNat * 10 + A.1.toNat) < 9) <;> rfl
  unfold spec_l06Mole_night_l1
  rw [loopF]
  try dsimp only
  unfold spec_l06Mole_night_s1
  rw [bT (p := (0 : Int) < 2) (by omega), show eqL [rd [p.1, p.2] 0, rd [p.1, p.2] 1] [rd [p.1, p.2, q.1, q.2] 0, rd [p.1, p.2, q.1, q.2] 1] = (p == p) from eqPair p p, beq_self_eq_true]
  simp only [cond_true]
  rw [q0]
  try dsimp only
  rw [loopF]
  try dsimp only
  rw [show IntKind.wrap .i64 ((0 : Int) + 1) = 1 from rfl, bT (p := (1 : Int) < 2) (by omega), show eqL [rd [A0.1, A0.2] 0, rd [A0.1, A0.2] 1] [rd [p.1, p.2, q.1, q.2] 0, rd [p.1, p.2, q.1, q.2] 1] = (A0 == p) from eqPair A0 p]
  simp only [cond_true]
  cases hA0 : (A0 == p) with
  | false =>
    simp only [cond_false]
    exact fin A0 hin1 _ (fun _ _ _ => rfl)
  | true =>
    have hA0 := eq_of_beq hA0
    subst hA0
    simp only [cond_true]
    rw [q1]
    try dsimp only
    rw [loopF]
    try dsimp only
    rw [show IntKind.wrap .i64 ((1 : Int) + 1) = 2 from rfl, bF (p := (2 : Int) < 2) (by omega)]
    simp only [cond_false]
    exact fin A1 hin2 _ (fun _ _ _ => rfl)

theorem impl_night_loop {R : Type} (k : Nat) (hk : 20 < k) (K1 : (List Int) → (List Int) → (List Int) → (List Int) → (List Int) → Option R) {g : List Int} (hg : LevR g) {p : Int × Int} (hp : in10 p) (m z1 z2 : List Int) (F : List (Int × Int)) (hF : ∀ c ∈ F, in10 c) (hne : ∀ c ∈ F, c ≠ p) (hl : F.length ≤ 10) :
    impl_Lawn_night_l0 k K1 ((cnt 2 (fl F)) : Int) 0 g m z1 z2 [p.1, p.2] (fl F) = K1 g m z1 z2 [(amL g p F).1, (amL g p F).2] := by
  unfold impl_Lawn_night_l0
  have := loopF_go (R := R) (step := fun (rec : Int × Int × (List Int) × (List Int) × (List Int) × (List Int) × (List Int) × (List Int) → Option R) (s : Int × Int × (List Int) × (List Int) × (List Int) × (List Int) × (List Int) × (List Int)) => impl_Lawn_night_s0 k K1 (fun h1 h2 h3 h4 h5 h6 h7 h8 => rec (h1, h2, h3, h4, h5, h6, h7, h8)) s.1 s.2.1 s.2.2.1 s.2.2.2.1 s.2.2.2.2.1 s.2.2.2.2.2.1 s.2.2.2.2.2.2.1 s.2.2.2.2.2.2.2)
    (fun i => ((F.length : Int), (i : Int), g, m, z1, z2, [(amL g p (F.take i)).1, (amL g p (F.take i)).2], fl F)) (fun _ _ => K1 g m z1 z2 [(amL g p F).1, (amL g p F).2]) F.length ?_ ?_ F.length 0 k (by omega) (by omega)
  · rw [cnt_fl]
    exact this
  · intro rec
    dsimp only
    unfold impl_Lawn_night_s0
    simp (disch := omega) only [bF, cond_false, List.take_length]
  · intro i m' hi rec hrec
    dsimp only at hrec ⊢
    unfold impl_Lawn_night_s0
    have hil : i < F.length := by omega
    have hc := hF _ (getD_mem F (0, 0) hil)
    have hb10 : in10 (amL g p (F.take i)) := am_in10 hp (fun c hc => hF c (List.mem_of_mem_take hc)) hp
    have hbne : i ≠ 0 → amL g p (F.take i) ≠ p := by
      intro h0
      cases hT : F.take i with
      | nil =>
        have := congrArg List.length hT
        rw [List.length_take, List.length_nil] at this
        omega
      | cons x y =>
        exact (amL_cons (g := g) (fun d hd => hne d (List.mem_of_mem_take (by rw [hT]; exact hd)))).2
    have hb0 : i = 0 → amL g p (F.take i) = p := fun h0 => by subst h0; rfl
    rw [take_getD _ (0, 0) hil] at hrec
    have hsn : ∀ c, amL g p (F.take i ++ [c]) = amS g p (amL g p (F.take i)) c := fun c => by simp [amL]
    rw [hsn] at hrec
    simp only [cnt_fl, Int.toNat_natCast, fl_x, fl_y]
    generalize F.getD i (0, 0) = c at hc hrec ⊢
    generalize amL g p (F.take i) = b at hrec hb10 hbne hb0 ⊢
    have hw1 : IntKind.wrap .i64 ((i : Int) + 1) = ((i + 1 : Nat) : Int) := by rw [wrap64 (by omega)]; omega
    have f0 : ([rd [b.1, b.2] 0, rd [b.1, b.2] 1] : List Int) = [b.1, b.2] := rfl
    rw [hw1, f0, bT (p := (i : Int) < (F.length : Int)) (by omega), bT (p := (0 : Int) ≤ (i : Int)) (by omega), impl_of' k hg hc, impl_of' k hg hb10]
    simp only [cond_true, Bool.and_true, Option.bind_some]
    unfold amS at hrec
    by_cases h0 : i = 0
    · rw [hb0 h0, beq_self_eq_true] at hrec
      rw [eqT (a := (i : Int)) (b := 0) (by omega)]
      exact hrec
    · rw [beq_eq_false_iff_ne.2 (hbne h0), Bool.false_or] at hrec
      rw [eqF (a := (i : Int)) (b := 0) (by omega)]
      cases h2 : decide (levP g c < levP g b) with
      | true => rw [h2] at hrec; exact hrec
      | false => rw [h2] at hrec; exact hrec

theorem impl_night (k : Nat) (hk : 30 < k) {a g : List Int} {w h : Nat} (v : LawnV a w h) (hg : LevR g) {p q : Int × Int} (hp : in10 p) :
    impl_Lawn_night k a g [p.1, p.2, q.1, q.2] = some (digM g (toM a g p q), [(toM a g p q).1, (toM a g p q).2, p.1, p.2]) := by
  unfold impl_Lawn_night
  have hlen : (nbrs p.1 p.2).length = 4 := rfl
  have e0 : ([rd [p.1, p.2, q.1, q.2] 0, rd [p.1, p.2, q.1, q.2] 1] : List Int) = [p.1, p.2] := rfl
  have e1 : impl_beside k [p.1, p.2] = some (fl (nbrs p.1 p.2)) := rfl
  rw [e0, e1]
  simp only [Option.bind_some]
  rw [deleteFunc_cells k (nbrs p.1 p.2) _ (fun c => !(grassB a c.1 c.2)) (fun c _ => by
    unfold impl_Lawn_night_1
    rw [show impl_Lawn_grass k a [rd [rd [c.1, c.2] 0, rd [c.1, c.2] 1] 0, rd [rd [c.1, c.2] 0, rd [c.1, c.2] 1] 1] = some (grassB a c.1 c.2) from impl_grass k v.toLawnS c.1 c.2]
    rfl) (by omega) (by omega)]
  simp only [Option.bind_some, Bool.not_not]
  have hFin : ∀ c ∈ (nbrs p.1 p.2).filter (fun c => grassB a c.1 c.2), in10 c := fun c hc => by
    have := grass_in10 v (List.mem_filter.1 hc).2
    exact this
  have hFne : ∀ c ∈ (nbrs p.1 p.2).filter (fun c => grassB a c.1 c.2), c ≠ p := fun c hc => nbrs_ne hp c (List.mem_filter.1 hc).1
  have hFl : ((nbrs p.1 p.2).filter fun c => grassB a c.1 c.2).length ≤ 10 := Nat.le_trans (List.length_filter_le _ _) (by omega)
  -- what is done at the end
  have fin : ∀ (A : Int × Int), in10 A → (Option.bind (impl_Levels_of k g [A.1, A.2]) fun x11 => cond (decide (x11 < 9)) (Option.bind (impl_Levels_more k g [A.1, A.2] 1) fun x12 => some (x12, [A.1, A.2, p.1, p.2])) (some (g, [A.1, A.2, p.1, p.2]))) = some (digM g A, [A.1, A.2, p.1, p.2]) := by
    intro A hA
    rw [impl_of' k hg hA, impl_more k hA 1]
    simp only [Option.bind_some]
    unfold digM
    rw [show IntKind.wrap .i8 1 = 1 from rfl]
    cases decide (levP g A < 9) <;> rfl
  unfold toM
  rw [cnt_fl]
  generalize (nbrs p.1 p.2).filter (fun c => grassB a c.1 c.2) = F at hFin hFne hFl ⊢
  cases hbig : decide ((F.length : Int) > 1) with
  | true =>
    simp only [cond_true]
    rw [deleteFunc_cells k F _ (fun c => c == q) (fun c _ => by
      unfold impl_Lawn_night_2
      show (some (eqL [c.1, c.2] [q.1, q.2])).bind _ = _
      rw [eqPair]
      rfl) (by omega) (by omega)]
    simp only [Option.bind_some]
    rw [impl_night_loop k (by omega) _ hg hp _ _ _ _ (fun c hc => hFin c (List.mem_filter.1 hc).1) (fun c hc => hFne c (List.mem_filter.1 hc).1) (Nat.le_trans (List.length_filter_le _ _) hFl)]
    exact fin _ (am_in10 hp (fun c hc => hFin c (List.mem_filter.1 hc).1) hp)
  | false =>
    simp only [cond_false]
    have hloop := impl_night_loop (R := List Int × List Int) k (by omega) (fun y13 y14 y15 y16 y17 =>
          Option.bind (impl_Levels_of k y13 [(rd y17 0), (rd y17 1)]) fun x18 =>
            cond (decide (x18 < 9))
              (Option.bind (impl_Levels_more k y13 [(rd y17 0), (rd y17 1)] 1) fun x19 =>
                some (x19, [(rd y17 0), (rd y17 1), (rd y14 0), (rd y14 1)]))
              (some (y13, [(rd y17 0), (rd y17 1), (rd y14 0), (rd y14 1)]))) hg hp [p.1, p.2, q.1, q.2] (List.replicate 100 0) [0, 0, 0, 0] F hFin hFne hFl
    rw [cnt_fl] at hloop
    rw [hloop]
    exact fin _ (am_in10 hp hFin hp)

theorem moleOnce_eq (k : Nat) (hk : 30 < k) {a g : List Int} (ha : LawnR a) (hg : LevR g) {p q : Int × Int} (hp : (-128 ≤ p.1 ∧ p.1 < 128) ∧ (-128 ≤ p.2 ∧ p.2 < 128)) (hq : (-128 ≤ q.1 ∧ q.1 < 128) ∧ (-128 ≤ q.2 ∧ q.2 < 128)) :
    ∃ r, spec_MoleOnce k a g [p.1, p.2] [q.1, q.2] = some r ∧ impl_MoleOnce k a g [p.1, p.2] [q.1, q.2] = some r := by
  unfold spec_MoleOnce impl_MoleOnce
  have e0 : ([rd [p.1, p.2] 0, rd [p.1, p.2] 1, rd [q.1, q.2] 0, rd [q.1, q.2] 1] : List Int) = fl [p, q] := rfl
  have hr : ∀ c ∈ [p, q], (-128 ≤ c.1 ∧ c.1 < 128) ∧ (-128 ≤ c.2 ∧ c.2 < 128) := by
    intro c hc
    rcases List.mem_cons.1 hc with rfl | hc
    · exact hp
    · rw [List.mem_singleton] at hc; subst hc; exact hq
  rw [e0, spec_below k ha hg [p, q] (by simp) hr (by omega) (by simp; omega), impl_mole k ha hg [p, q] (by simp) (by omega) (by simp; omega)]
  simp only [Option.bind_some]
  cases hb : (lawnB a && levB a g) with
  | false => exact ⟨_, rfl, rfl⟩
  | true =>
    rw [Bool.and_eq_true] at hb
    obtain ⟨w, h, v⟩ := lawnV_of ha hb.1
    simp only [cond_true]
    cases hin : ([p, q].any fun p => !(hasB a p.1 p.2)) with
    | true => exact ⟨_, rfl, rfl⟩
    | false =>
      cases hgr : ([p, q].any fun p => !(grassB a p.1 p.2)) with
      | true => exact ⟨_, rfl, rfl⟩
      | false =>
        simp only [List.any_cons, List.any_nil, Bool.or_false, Bool.or_eq_false_iff, Bool.not_eq_false'] at hgr
        have hp10 := grass_in10 v hgr.1
        obtain ⟨n, rfl⟩ : ∃ n, k = n + 30 := ⟨k - 30, by omega⟩
        have e1 : fl [p, q] = [p.1, p.2, q.1, q.2] := rfl
        rw [e1, spec_night n v hg (p := p) (q := q) hp10, impl_night (n + 30) (by omega) v hg (p := p) (q := q) hp10]
        exact ⟨_, rfl, rfl⟩

theorem moleOnce_true {a g : List Int} (ha : LawnR a) (hg : LevR g) {x y z u : Int} (hx : -128 ≤ x ∧ x < 128) (hy : -128 ≤ y ∧ y < 128) (hz : -128 ≤ z ∧ z < 128) (hu : -128 ≤ u ∧ u < 128) : ∃ k, laws_FnExactMoleOnce k a g [x, y] [z, u] = some true := by
  obtain ⟨k, hk⟩ : ∃ k, k = 2000 := ⟨_, rfl⟩
  obtain ⟨r, e1, e2⟩ := moleOnce_eq (k + 11) (by omega) ha hg (p := (x, y)) (q := (z, u)) ⟨hx, hy⟩ ⟨hz, hu⟩
  refine ⟨k + 11, ?_⟩
  unfold laws_FnExactMoleOnce
  have ec : laws_toCell (k + 11) [rd [x, y] 0, rd [x, y] 1] = some [x, y] := rfl
  have ed : laws_toCell (k + 11) [rd [z, u] 0, rd [z, u] 1] = some [z, u] := rfl
  have eq : ∀ q, laws_eqCell (k + 11) q q = some true := fun q => by unfold laws_eqCell; simp
  simp only [toLawn_id k a ha.len, toLevels_id k g hg.len, ec, ed, Option.bind_some, e1, e2, eqLevels_self (k + 11) r.1 (by omega), eq, Bool.not_true, cond_false, bne_self_eq_false]

end Go.Proofs.Ytkblhnedillknaa.Tt
