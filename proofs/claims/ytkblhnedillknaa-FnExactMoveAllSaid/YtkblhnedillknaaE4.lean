import Derived.Test.YtkblhnedillknaaE3
set_option linter.unusedVariables false
set_option linter.unusedSimpArgs false
section
/- Calls: what is handed over, by value. -/
namespace Go.Ev
open Go.RowKit (Below)

variable {P : Program} {T : Tab} {w0 w : World} {M : Nat → Prop} {ρ : Nat → Loc} {N : Nat → Loc × Blk} {s : St} {a : Act} {Fr : Nat → Prop} {blk : Nat → Option Blk}

/-- A slice whose cells are known lies among stable blocks, by value; v: the slice as it was in hand. -/
def Apart (ρ : Nat → Loc) (blk : Nat → Option Blk) (X : Nat → Prop) (v : V) : Prop := ∀ b, X b → ∃ k bk base lim, blk k = some bk ∧ ρ k = some (b, base, lim) ∧ V.has k v = false

def FrX (w : World) (X : Nat → Prop) (b : Nat) : Prop := b < w.heap.size ∧ ¬ X b

theorem frOf_X {X : Nat → Prop} {v : V} (hX : Apart ρ blk X v) {b : Nat} (hb : FrOf blk ρ w b) : FrX w X b :=
  ⟨hb.1, fun hx => let ⟨k, bk, base, lim, h1, h2, _⟩ := hX b hx; hb.2 k bk base lim h1 h2⟩

theorem own_X (h : RelAt P T w0 M N ρ s a w) {X : Nat → Prop} {v : V} (hX : Apart ρ s.blk X v) {k : Nat} {bk : Blk} {b base lim : Nat} (hk : s.blk k = some bk) (hρ : ρ k = some (b, base, lim)) (hv : V.has k v = true) : FrX w X b :=
  ⟨(h.loc k bk b base lim hk hρ).1, fun hx => by
    obtain ⟨j, bj, base', lim', h1, h2, h3⟩ := hX b hx
    have := h.inj k j bk bj b base base' lim lim' hk h1 hρ h2
    subst this
    rw [hv] at h3
    cases h3⟩

theorem blocks_X (h : RelAt P T w0 M N ρ s a w) {X : Nat → Prop} {v : V} (hX : Apart ρ s.blk X v) {b : Nat} (hb : FrOf s.blk ρ w b ∨ Blocks ρ s.blk v b) : FrX w X b := by
  rcases hb with hb | ⟨k, bk, base, lim, h1, h2, h3⟩
  · exact frOf_X hX hb
  · exact own_X h hX h2 h3 h1

theorem Apart.sub {X : Nat → Prop} {v v' : V} (h : Apart ρ blk X v) (hs : ∀ k, V.has k v' = true → V.has k v = true) : Apart ρ blk X v' := fun b hb => by
  obtain ⟨k, bk, base, lim, h1, h2, h3⟩ := h b hb
  refine ⟨k, bk, base, lim, h1, h2, ?_⟩
  cases hv : V.has k v' with
  | false => rfl
  | true => rw [hs k hv] at h3; cases h3

theorem BV.mono {Fr' : Nat → Prop} {v : V} {u : Value} (h : BV P T w Fr v u) (hF : ∀ b, Fr b → Fr' b) : BV P T w Fr' v u := h.later fun b hb => ⟨hF b hb, rfl⟩

theorem snap1_sound (h : RelAt P T w0 M N ρ s a w) {X : Nat → Prop} {v v' : V} {u : Value} (hX : Apart ρ s.blk X v) (hv : LV P T w (FrOf s.blk ρ w) s.blk ρ v u) (hs : snap1 T s v = some v') : BV P T w (FrX w X) v' u := by
  have hF : ∀ b, FrOf s.blk ρ w b → FrX w X b := fun b hb => frOf_X hX hb
  have triv : ∀ {x : V}, BV P T w (FrOf s.blk ρ w) x u → BV P T w (FrX w X) x u := fun hx => hx.mono hF
  cases v with
  | bool b => injection hs with hs; subst hs; exact .flat _ _ hv.bool_inv
  | int k n => injection hs with hs; subst hs; exact .flat _ _ hv.int_inv
  | str b => injection hs with hs; subst hs; exact .flat _ _ hv.str_inv
  | agg t l => injection hs with hs; subst hs; exact .flat _ _ hv.agg_inv
  | slv e l => injection hs with hs; subst hs; exact triv (.slv _ _ _ hv.slv_inv)
  | slr e l => injection hs with hs; subst hs; exact triv hv.slr_inv
  | cloB e g => injection hs with hs; subst hs; exact triv (.cloB _ _ _ hv.cloB_inv)
  | cloL e e' g => injection hs with hs; subst hs; exact triv (.cloL _ _ _ _ hv.cloL_inv)
  | pvi t0 l off t =>
    injection hs with hs; subst hs
    obtain ⟨b, o, h1, h2, h3, h4, h5, rfl⟩ := hv.pvi_inv
    exact triv (.pvi _ _ _ _ b o h1 h2 h3 h4 h5)
  | pvv vs off t =>
    injection hs with hs; subst hs
    obtain ⟨b, o, us, h1, h2, h3, rfl⟩ := hv.pvv_inv
    exact triv (.pvv _ _ _ b o us h1 h2 h3)
  | slw k e =>
    simp only [snap1] at hs
    split at hs
    · rename_i e1 l hc
      injection hs with hs; subst hs
      have he : e1 = e ∨ True := .inr trivial
      have hsv := (contents_SV h hv hc).mono (Fr' := FrX w X) fun b hb => blocks_X h hX hb
      have : e1 = e := by
        simp only [contents] at hc
        split at hc
        · injection hc with hc; injection hc with h1 _; exact h1.symm
        · cases hc
      subst this
      exact .slv _ _ _ hsv
    · rename_i e1 xss hc
      injection hs with hs; subst hs
      simp only [contents] at hc
      cases hv with
      | bv _ _ hb => cases hb with
        | flat _ _ hb => exact hb.elim
      | slw k e bk b base lim n cap h1 h2 h3 h4 h5 h6 h7 h8 =>
        simp only [h1, Option.some.injEq, Prod.mk.injEq] at hc
        obtain ⟨rfl, hd⟩ := hc
        have hO := h.ob k bk h1
        rw [h4] at hO
        obtain ⟨arr, g1, g2, g3⟩ := hO
        rw [hd] at g3 h5
        obtain ⟨g3, g4, e', g5, g6⟩ := g3
        rw [h2] at g3 g4 g5
        have hn : n = xss.length := by rw [g4, Nat.mul_one] at h5; exact h5.symm
        refine .slr e e' xss _ n cap (fun j => arr.getD (base + j) undef) b base g5 g3 g4 hn (.inr ⟨rfl, own_X h hX h1 h4 (by simp [V.has]), fun j hj => ?_, fun j hj => ?_⟩)
        · obtain ⟨x, hx, _⟩ := g6 j (hn ▸ hj)
          rw [rowCell g1, hx]
          simp [Array.getD_eq_getD_getElem?, hx]
        · obtain ⟨x, hx, hsv⟩ := g6 j (hn ▸ hj)
          have : arr.getD (base + j) undef = x := by simp [Array.getD_eq_getD_getElem?, hx]
          rw [this]
          exact hsv.mono hF
      | slwNil k e bk ad h1 h2 h3 h4 h5 =>
        simp only [h1, Option.some.injEq, Prod.mk.injEq] at hc
        obtain ⟨rfl, hd⟩ := hc
        have hO := h.ob k bk h1
        rw [h4] at hO
        obtain ⟨_, _, g3⟩ := hO
        rw [hd] at g3 h5
        obtain ⟨g3, g4, e', g5⟩ := g3
        rw [h2] at g3 g4 g5
        exact .slr e e' xss _ 0 0 (fun _ => undef) 0 0 g5 g3 g4 h5.symm (.inl rfl)
    · cases hs
  | sl k off n e =>
    simp only [snap1] at hs
    split at hs
    · rename_i e1 l hc
      injection hs with hs; subst hs
      have hsv := (contents_SV h hv hc).mono (Fr' := FrX w X) fun b hb => blocks_X h hX hb
      have : e1 = e := by
        simp only [contents] at hc
        split at hc
        · injection hc with hc; injection hc with h1 _; exact h1.symm
        · cases hc
      subst this
      exact .slv _ _ _ hsv
    · cases hs
  | ptr k off t =>
    obtain ⟨bk, b, base, lim, h1, h2, h3, rfl⟩ := hv.ptr_inv
    simp only [snap1, h1] at hs
    have hO := h.ob k bk h1
    rw [h2] at hO
    have hb : FrX w X b := own_X h hX h1 h2 (by simp [V.has])
    obtain ⟨e0, r, d⟩ := bk
    cases d with
    | ints l =>
      injection hs with hs; subst hs
      have hcells := ob_cells hO rfl h3
      simp only [TyAt] at h3
      obtain ⟨t1, t2, t3, t4, t5⟩ := h3
      refine .pvi _ l off t b (base + off) hb t1 t3 hcells ?_
      intro e _
      cases r with
      | false => simp [Blk.root] at e
      | true => simp only [Blk.root, cond_true, Option.some.injEq] at e; subst e; exact t5 rfl
    | rows xss => simp at hs
    | vals vs =>
      injection hs with hs; subst hs
      obtain ⟨arr, g1, g2, g3⟩ := hO
      refine .pvv vs off t b (base + off) (fun j => arr.getD (base + (off + j)) undef) hb (fun j v hj => ?_) (fun j v hj => ?_)
      · obtain ⟨x, hx, _⟩ := g3 (off + j) v hj
        rw [rowCell g1, Nat.add_assoc, hx]
        simp [Array.getD_eq_getD_getElem?, hx]
      · obtain ⟨x, hx, hbv⟩ := g3 (off + j) v hj
        have : arr.getD (base + (off + j)) undef = x := by simp [Array.getD_eq_getD_getElem?, hx]
        rw [this]
        exact hbv.mono hF
  | _ => simp [snap1] at hs

/-- Two lists, part by part. -/
inductive All2 {α β : Type} (R : α → β → Prop) : List α → List β → Prop
  | nil : All2 R [] []
  | cons {x : α} {y : β} {xs : List α} {ys : List β} : R x y → All2 R xs ys → All2 R (x :: xs) (y :: ys)

theorem All2.append {α β : Type} {R : α → β → Prop} {xs xs' : List α} {ys ys' : List β} (h : All2 R xs ys) (h' : All2 R xs' ys') : All2 R (xs ++ xs') (ys ++ ys') := by
  induction h with
  | nil => exact h'
  | cons h1 _ ih => exact .cons h1 ih

theorem All2.length {α β : Type} {R : α → β → Prop} {xs : List α} {ys : List β} (h : All2 R xs ys) : xs.length = ys.length := by
  induction h with
  | nil => rfl
  | cons _ _ ih => simp [ih]

theorem All2.mono {α β : Type} {R R' : α → β → Prop} {xs : List α} {ys : List β} (h : All2 R xs ys) (hr : ∀ x y, R x y → R' x y) : All2 R' xs ys := by
  induction h with
  | nil => exact .nil
  | cons h1 _ ih => exact .cons (hr _ _ h1) ih

theorem All2.of_get {α : Type} {R : α → Value → Prop} : ∀ (xs : List α) (ys : List Value), ys.length = xs.length → (∀ (i : Nat) (x : α), xs[i]? = some x → R x (ys.getD i undef)) → All2 R xs ys := by
  intro xs
  induction xs with
  | nil => intro ys h _; cases ys with
    | nil => exact .nil
    | cons y r => simp at h
  | cons x xs ih =>
    intro ys h hr
    cases ys with
    | nil => simp at h
    | cons y ys =>
      refine .cons (by simpa using hr 0 x rfl) (ih ys (by simpa using h) fun i x hx => ?_)
      simpa using hr (i + 1) x (by simpa using hx)

theorem All2.get {α : Type} {R : α → Value → Prop} {xs : List α} {ys : List Value} (h : All2 R xs ys) : ∀ (i : Nat) (x : α), xs[i]? = some x → R x (ys.getD i undef) := by
  induction h with
  | nil => intro i x hx; simp at hx
  | cons h1 _ ih =>
    intro i x hx
    cases i with
    | zero => simp at hx; subst hx; simpa using h1
    | succ i => simpa using ih i x (by simpa using hx)

theorem All2.map {α β γ : Type} {R : β → γ → Prop} (f : α → β) (g : α → γ) (xs : List α) (h : ∀ x, R (f x) (g x)) : All2 R (xs.map f) (xs.map g) := by
  induction xs with
  | nil => exact .nil
  | cons x xs ih => exact .cons (h x) ih

theorem snapL_sound (h : RelAt P T w0 M N ρ s a w) {X : Nat → Prop} {vs : List V} {us : List Value} (hv : All2 (LV P T w (FrOf s.blk ρ w) s.blk ρ) vs us) : ∀ (vs' : List V), (∀ v ∈ vs, Apart ρ s.blk X v) →
    snapL T s vs = some vs' → All2 (BV P T w (FrX w X)) vs' us := by
  induction hv with
  | nil => intro vs' _ hs; injection hs with hs; subst hs; exact .nil
  | cons h1 _ ih =>
    intro vs' hX hs
    simp only [snapL] at hs
    split at hs
    · rename_i a b ha hb
      injection hs with hs; subst hs
      exact .cons (snap1_sound h (hX _ (by simp)) h1 ha) (ih b (fun v hv => hX v (by simp [hv])) hb)
    · cases hs

end Go.Ev
end

section
/- Calls: what a call gives; closures. -/
namespace Go.Ev
open Go.RowKit (Below)

variable {P : Program} {T : Tab} {w0 w w' : World} {M : Nat → Prop} {ρ : Nat → Loc} {N : Nat → Loc × Blk} {s : St} {a : Act} {Fr : Nat → Prop} {blk : Nat → Option Blk}

/-- Results by value. -/
inductive RV (T : Tab) (w : World) (base : Nat) (M : Nat → Prop) : V → Value → Prop
  | flat (v : V) (u : Value) : FV T v u → RV T w base M v u
  | slv (e : TypeId) (l : List Int) (u : Value) : isFlatTy T e = true → OwnS T w base M e (.ints l) u (IntsIn (T.at e).ks l) → RV T w base M (.slv e l) u
  | slr (e : TypeId) (xss : List (List Int)) (u : Value) : RV T w base M (.slr e xss) u
  | tup (vs : List V) (arr : Array Value) : All2 (RV T w base M) vs arr.toList → RV T w base M (.tup vs) (.tuple arr)

/-- But for the blocks of M, what stood stands. -/
structure But (w w' : World) (M : Nat → Prop) : Prop where
  os : w'.os = w.os
  tape : w'.tape = w.tape
  output : w'.output = w.output
  size : w.heap.size ≤ w'.heap.size
  block : ∀ b, b < w.heap.size → ¬ M b → w'.heap[b]? = w.heap[b]?

def MOf (loc : Loc) (b : Nat) : Prop := ∃ base lim, loc = some (b, base, lim)

/-- The slice that is handed over to be written to. -/
structure HeadIn (P : Program) (T : Tab) (w : World) (e : TypeId) (l : List Int) (loc : Loc) (u : Value) : Prop where
  ob : OB P T w (fun _ => False) ⟨e, false, .ints l⟩ loc
  lt : ∀ b base lim, loc = some (b, base, lim) → b < w.heap.size
  lv : LV P T w (fun _ => False) (fun j => if j = 0 then some ⟨e, false, .ints l⟩ else none) (fun _ => loc) (.slw 0 e) u

/-- A pointer to a whole variable that is handed over to be written through. -/
def PtrIn (P : Program) (T : Tab) (w : World) (t : TypeId) (l : List Int) (loc : Loc) (u : Value) : Prop :=
  ∃ b base lim, loc = some (b, base, lim) ∧ u = .pointer (some ⟨b, base, none⟩) ∧ OB P T w (fun _ => False) ⟨t, true, .ints l⟩ loc ∧ b < w.heap.size ∧ isFlatTy T t = true ∧ l.length = (T.at t).size

def MIn (P : Program) (T : Tab) (w : World) (Fr : Nat → Prop) (loc : Nat → Loc) : Nat → List V → List Value → Prop
  | _, [], [] => True
  | i, v :: vs, u :: us => (match isM v with | some (t, l) => PtrIn P T w t l (loc i) u | none => BV P T w Fr v u) ∧ MIn P T w Fr loc (i + 1) vs us
  | _, _, _ => False

def MAny (loc : Nat → Loc) (ms : List (Nat × TypeId × List Int)) (b : Nat) : Prop := ∃ m ∈ ms, MOf (loc m.1) b

def DistM (loc : Nat → Loc) : List (Nat × TypeId × List Int) → Prop
  | [] => True
  | m :: r => (∀ m' ∈ r, ∀ b, MOf (loc m.1) b → ¬ MOf (loc m'.1) b) ∧ DistM loc r

def MOut (P : Program) (T : Tab) (w : World) (loc : Nat → Loc) : List (Nat × TypeId × List Int) → List Int → Prop
  | [], _ => True
  | m :: r, q => match r with
    | [] => q.length = m.2.2.length ∧ OB P T w (fun _ => False) ⟨m.2.1, true, .ints q⟩ (loc m.1)
    | _ => (q.take m.2.2.length).length = m.2.2.length ∧ OB P T w (fun _ => False) ⟨m.2.1, true, .ints (q.take m.2.2.length)⟩ (loc m.1) ∧ MOut P T w loc r (q.drop m.2.2.length)

def SoundRs (P : Program) (T : Tab) (f : FuncId) (mvd : Bool) (args : List V) (rs : Rs) : Prop := ∀ (w : World) (Fr : Nat → Prop) (us : Array Value), (∀ b, Fr b → b < w.heap.size) →
  match mvd with
  | false => All2 (BV P T w Fr) args us.toList → Calls P f us w fun en w' => ∃ u, en = .returned u ∧ Below w.heap.size w w' ∧ RV T w' w.heap.size (fun _ => False) rs.1 u ∧ rs.2 = none
  | true => match headSlv args with
    | some (e, l, vs) => ∀ loc u0 us', us.toList = u0 :: us' → (∀ b, Fr b → ¬ MOf loc b) → HeadIn P T w e l loc u0 → All2 (BV P T w Fr) vs us' →
      Calls P f us w fun en w' => ∃ u, en = .returned u ∧ But w w' (MOf loc) ∧ RV T w' w.heap.size (MOf loc) rs.1 u ∧ ∀ l', rs.2 = some l' → l'.length = l.length ∧ OB P T w' (fun _ => False) ⟨e, false, .ints l'⟩ loc
    | none => ∀ loc, MIn P T w Fr loc 0 args us.toList → DistM loc (marks 0 args) → (∀ b, Fr b → ¬ MAny loc (marks 0 args) b) →
      Calls P f us w fun en w' => ∃ u, en = .returned u ∧ But w w' (MAny loc (marks 0 args)) ∧ RV T w' w.heap.size (MAny loc (marks 0 args)) rs.1 u ∧ ∀ q, rs.2 = some q → MOut P T w' loc (marks 0 args) q

def OraOK (P : Program) (T : Tab) (mv : List Nat) (ora : Ora) : Prop := ∀ (f : FuncId) (args : List V) (R : Type) (K : Rs → Option R) (r : R), ora f args R K = some r →
  HasBody P f ∧ ∃ rs, K rs = some r ∧ SoundRs P T f (memN f mv) args rs

/-! ## Closures -/

theorem rds_all (l : List Int) : ∀ (n : Nat), l.length = n → rds l 0 0 n = l := by
  intro n hn
  apply List.ext_getElem?
  intro i
  rcases Nat.lt_or_ge i n with hi | hi
  · have := rd_rds l 0 n 0 i hi
    have h1 : i < (rds l 0 0 n).length := by rw [rds_length]; exact hi
    have h2 : i < l.length := by omega
    simp only [rd, List.getD_eq_getElem?_getD, Nat.zero_add] at this
    rw [List.getElem?_eq_getElem h1, List.getElem?_eq_getElem h2] at this ⊢
    simpa using this
  · rw [List.getElem?_eq_none (by rw [rds_length]; exact hi), List.getElem?_eq_none (by omega)]

theorem av_bv (_hT : TabOK P T) {t : TypeId} {l : List Int} {u : Value} (h : AV T w Fr t l u) : BV P T w Fr (unflat T t l) u := by
  unfold AV at h
  unfold unflat
  cases hd : (T.at t).d with
  | slice e => rw [hd] at h; exact .slv _ _ _ h
  | sc sk =>
    rw [hd] at h
    obtain ⟨_, n, rfl, rfl⟩ := h
    simp only [loadI, hd]
    exact .flat _ _ (mk_FV sk n)
  | _ =>
    rw [hd] at h
    have hl := h.2.2.1
    refine .flat _ _ ?_
    simp only [loadI, hd]
    have : (cond (Nat.ble (T.at t).size 8) (rds l 0 0 (T.at t).size) (cond (rootEq (some t) t 0) l (win l 0 (T.at t).size))) = l := by
      cases Nat.ble (T.at t).size 8 with
      | true => exact rds_all l _ hl
      | false => simp [rootEq]
    rw [this]
    exact h

theorem argOf_sound (h : RelAt P T w0 M N ρ s a w) {X : Nat → Prop} {t : TypeId} {v : V} {l : List Int} {u : Value} (hX : Apart ρ s.blk X v) (hv : LV P T w (FrOf s.blk ρ w) s.blk ρ v u) (hs : argOf T s t v = some l) : AV T w (FrX w X) t l u := by
  unfold argOf at hs
  unfold AV
  cases hd : (T.at t).d with
  | slice e =>
    simp only [hd] at hs
    split at hs
    · rename_i e' l' hc
      obtain ⟨h1, h2⟩ := cond_some hs
      have h1 := Nat.eq_of_beq_eq_true h1
      injection h2 with h2
      subst h1 h2
      exact (contents_SV h hv hc).mono fun b hb => blocks_X h hX hb
    · cases hs
  | sc sk =>
    simp only [hd] at hs
    obtain ⟨h1, h2⟩ := cond_some hs
    obtain ⟨h1, h3⟩ := and_true h1
    refine ⟨h3, ?_⟩
    have hfv := flat_FV hv h2
    cases v with
    | int k n =>
      simp only [fits, hd] at h1
      cases sk with
      | int j =>
        have := sameKind_eq h1
        subst this
        simp only [V.flat, Option.some.injEq] at h2
        exact ⟨n, h2.symm, hfv⟩
      | bool => cases h1
    | bool b =>
      simp only [fits, hd] at h1
      cases sk with
      | int j => cases h1
      | bool =>
        simp only [V.flat, Option.some.injEq] at h2
        refine ⟨cond b 1 0, h2.symm, ?_⟩
        simp only [FV] at hfv
        subst hfv
        cases b <;> rfl
    | agg t' l' =>
      simp only [fits] at h1
      have := Nat.eq_of_beq_eq_true h1
      subst this
      have := hfv.1
      rw [hd] at this
      cases this
    | _ => simp [V.flat] at h2
  | _ =>
    simp only [hd] at hs
    obtain ⟨h1, h2⟩ := cond_some hs
    obtain ⟨h1, h3⟩ := and_true h1
    have hfv := flat_FV hv h2
    cases v with
    | int k n => simp [fits, hd] at h1
    | bool b => simp [fits, hd] at h1
    | agg t' l' =>
      simp only [fits] at h1
      have := Nat.eq_of_beq_eq_true h1
      subst this
      simp only [V.flat, Option.some.injEq] at h2
      subst h2
      exact hfv
    | _ => simp [V.flat] at h2

theorem LV.fn_inv {f : FuncId} {first cap : List V} {u : Value} {Fr : Nat → Prop} (h : LV P T w Fr blk ρ (.fn f first cap) u) :
    ∃ x y : Array Value, u = .func (.func f) x y ∧ All2 (LV P T w Fr blk ρ) first x.toList ∧ All2 (LV P T w Fr blk ρ) cap y.toList := by
  cases h with
  | bv _ _ h => cases h with
    | flat _ _ h => exact h.elim
  | fn f first cap x y h1 h2 h3 h4 =>
    refine ⟨x, y, rfl, .of_get _ _ (by simpa using h1) fun i v hv => ?_, .of_get _ _ (by simpa using h2) fun i v hv => ?_⟩
    · have := h3 i v hv; simpa [Array.getD_eq_getD_getElem?, List.getD_eq_getElem?_getD] using this
    · have := h4 i v hv; simpa [Array.getD_eq_getD_getElem?, List.getD_eq_getElem?_getD] using this

theorem apart_fn {X : Nat → Prop} {f : FuncId} {first cap : List V} (h : Apart ρ blk X (.fn f first cap)) : (∀ v ∈ first, Apart ρ blk X v) ∧ (∀ v ∈ cap, Apart ρ blk X v) := by
  have key : ∀ (vs : List V) (v : V) (k : Nat), v ∈ vs → V.has k v = true → V.hasL k vs = true := by
    intro vs v k hv hh
    obtain ⟨i, hi⟩ := List.mem_iff_getElem?.1 hv
    exact hasL_of vs i v k hi hh
  exact ⟨fun v hv => h.sub fun k hk => by simp [V.has, key _ _ k hv hk], fun v hv => h.sub fun k hk => by simp [V.has, key _ _ k hv hk]⟩

theorem snap_sound {mv : List Nat} {lo : Lo} {ora : Ora} (hT : TabOK P T) (hO : OraOK P T mv ora) (h : RelAt P T w0 M N ρ s a w) {X : Nat → Prop} {t : TypeId} {v v' : V} {u : Value} (hX : Apart ρ s.blk X v)
    (hv : LV P T w (FrOf s.blk ρ w) s.blk ρ v u) (hs : snap ⟨T, mv, ora, lo⟩ s t v = some v') : BV P T w (FrX w X) v' u := by
  cases v with
  | nil =>
    simp only [snap] at hs
    have hu := hv.nil_inv
    subst hu
    split at hs
    · rename_i e hd
      obtain ⟨h1, h2⟩ := cond_some hs
      injection h2 with h2
      subst h2
      exact .slv _ _ _ ⟨h1, none, 0, 0, rfl, by simp, Nat.le_refl _, .inl rfl⟩
    · cases hs
  | fn f first cap =>
    simp only [snap] at hs
    have hmv : memN f mv = false := by
      cases hm : memN f mv with
      | false => rfl
      | true => rw [hm] at hs; cases hs
    rw [hmv] at hs
    simp only [cond_false] at hs
    obtain ⟨x, y, rfl, hx, hy⟩ := hv.fn_inv
    obtain ⟨a1, a2⟩ := apart_fn hX
    split at hs
    · rename_i vx vy ex ey
      have bx := snapL_sound h hx _ a1 ex
      have by' := snapL_sound h hy _ a2 ey
      split at hs
      · rename_i p hd
        injection hs with hs; subst hs
        refine .cloB _ _ _ ⟨f, x, y, rfl, ?_⟩
        intro w' Fr' l r arg hl hF hg harg
        obtain ⟨hbody, rs, hk, hsound⟩ := hO _ _ _ _ _ hg
        refine ⟨hbody, ?_⟩
        rw [hmv] at hsound
        have hb : All2 (BV P T w' Fr') (vx ++ (unflat T p l :: vy)) (x ++ #[arg] ++ y).toList := by
          simp only [Array.toList_append, List.append_assoc, List.cons_append, List.nil_append]
          exact (bx.mono fun v u hb => hb.later hl).append (.cons (av_bv hT harg) (by'.mono fun v u hb => hb.later hl))
        refine (hsound w' Fr' _ hF hb).mono ?_
        rintro e w'' ⟨u, rfl, hB, hR, _⟩
        refine ⟨?_, hB⟩
        obtain ⟨r1, r2⟩ := rs
        cases r1 <;> cases r2 <;> simp [kB] at hk
        subst hk
        cases hR with
        | flat _ _ hf => simp only [FV] at hf; rw [hf]
      · rename_i p q hd
        injection hs with hs; subst hs
        refine .cloL _ _ _ _ ⟨f, x, y, rfl, ?_⟩
        intro w' Fr' l r arg hl hF hg harg
        obtain ⟨hbody, rs, hk, hsound⟩ := hO _ _ _ _ _ hg
        refine ⟨hbody, ?_⟩
        rw [hmv] at hsound
        have hb : All2 (BV P T w' Fr') (vx ++ (unflat T p l :: vy)) (x ++ #[arg] ++ y).toList := by
          simp only [Array.toList_append, List.append_assoc, List.cons_append, List.nil_append]
          exact (bx.mono fun v u hb => hb.later hl).append (.cons (av_bv hT harg) (by'.mono fun v u hb => hb.later hl))
        refine (hsound w' Fr' _ hF hb).mono ?_
        rintro e w'' ⟨u, rfl, hB, hR, _⟩
        obtain ⟨r1, r2⟩ := rs
        cases r1 <;> cases r2 <;> simp [kL] at hk
        rename_i e1 l1
        obtain ⟨hk, hk2⟩ := cond_some hk
        have hk := Nat.eq_of_beq_eq_true hk
        injection hk2 with hk2
        subst hk hk2
        cases hR with
        | flat _ _ hf => exact hf.elim
        | slv _ _ _ h1 h2 => exact ⟨u, rfl, hB, h1, h2⟩
      · cases hs
    · cases hs
  | _ => exact snap1_sound h hX hv hs

end Go.Ev
end

section
/- Calls: what comes back. -/
namespace Go.Ev
open Go.RowKit (Below)

variable {P : Program} {T : Tab} {w0 w w' : World} {M X : Nat → Prop} {ρ : Nat → Loc} {N : Nat → Loc × Blk} {s : St} {a : Act} {Fr : Nat → Prop} {blk : Nat → Option Blk}

theorem obInts {w : World} {Fr Fr' : Nat → Prop} {e : TypeId} {r : Bool} {l : List Int} {loc : Loc} (h : OB P T w Fr ⟨e, r, .ints l⟩ loc) : OB P T w Fr' ⟨e, r, .ints l⟩ loc := by
  cases loc with
  | none => exact h
  | some x => exact h

/-- A result's slice becomes block d; R: what is then known. -/
def ThawP (P : Program) (T : Tab) (w' : World) (base : Nat) (M : Nat → Prop) (d : Nat) (o : Option (TypeId × List Int)) (R : (Nat → Prop) → (Nat → Option Blk) → (Nat → Loc) → Prop) : Prop :=
  match o with
  | none => ∀ Fr blk ρ, R Fr blk ρ
  | some (e, l) => ∃ loc : Loc, OB P T w' (fun _ => False) ⟨e, false, .ints l⟩ loc ∧ (∀ b o lim, loc = some (b, o, lim) → b < w'.heap.size ∧ (base ≤ b ∨ M b)) ∧
      ∀ Fr blk ρ, blk d = some ⟨e, false, .ints l⟩ → ρ d = loc → R Fr blk ρ

theorem ThawP.mono {base : Nat} {d : Nat} {o : Option (TypeId × List Int)} {R R' : (Nat → Prop) → (Nat → Option Blk) → (Nat → Loc) → Prop} (h : ThawP P T w' base M d o R) (hr : ∀ Fr blk ρ, R Fr blk ρ → R' Fr blk ρ) : ThawP P T w' base M d o R' := by
  cases o with
  | none => exact fun Fr blk ρ => hr _ _ _ (h Fr blk ρ)
  | some x =>
    obtain ⟨loc, h1, h2, h3⟩ := h
    exact ⟨loc, h1, h2, fun Fr blk ρ e1 e2 => hr _ _ _ (h3 Fr blk ρ e1 e2)⟩

theorem lt_of_heap {w : World} {b : Nat} {o : Obj} (h : w.heap[b]? = some o) : b < w.heap.size := (Array.getElem?_eq_some_iff.1 h).1

theorem own_thaw {base d : Nat} {e : TypeId} {l : List Int} {u : Value} (hf : isFlatTy T e = true) (h : OwnS T w' base M e (.ints l) u (IntsIn (T.at e).ks l)) :
    ThawP P T w' base M d (some (e, l)) fun Fr blk ρ => LV P T w' Fr blk ρ (.slw d e) u := by
  obtain ⟨ad, n, cap, rfl, h1, h2, h3, h4⟩ := h
  rcases h4 with ⟨rfl, rfl⟩ | ⟨b, o, arr, rfl, g1, g2, g3, g4⟩
  · have h0 : l.length = 0 := by simpa [D.len] using h1
    refine ⟨none, ⟨rfl, h0, hf⟩, (fun b o lim e => by cases e), fun Fr blk ρ e1 e2 => .slwNil d e _ ad e1 rfl rfl e2 h0⟩
  · refine ⟨some (b, o, arr.size), ⟨arr, g2, rfl, hf, g4⟩, fun b' o' lim e => ?_, fun Fr blk ρ e1 e2 => .slw d e _ b o arr.size n cap e1 rfl rfl e2 h1 h2 h3 g3⟩
    injection e with e
    injection e with e1 e2
    subst e1
    exact ⟨lt_of_heap g2, g1⟩

theorem thawV_sound {base d : Nat} {v x : V} {o : Option (TypeId × List Int)} {u : Value} (h : RV T w' base M v u) (ht : thawV d v = some (x, o)) :
    ThawP P T w' base M d o fun Fr blk ρ => LV P T w' Fr blk ρ x u := by
  cases v with
  | slv e l =>
    simp only [thawV, Option.some.injEq, Prod.mk.injEq] at ht
    obtain ⟨rfl, rfl⟩ := ht
    cases h with
    | flat _ _ h => exact h.elim
    | slv _ _ _ h1 h2 => exact own_thaw h1 h2
  | bool b =>
    simp only [thawV, Option.some.injEq, Prod.mk.injEq] at ht
    obtain ⟨rfl, rfl⟩ := ht
    cases h with
    | flat _ _ h => exact fun Fr blk ρ => .flatV h
  | int k n =>
    simp only [thawV, Option.some.injEq, Prod.mk.injEq] at ht
    obtain ⟨rfl, rfl⟩ := ht
    cases h with
    | flat _ _ h => exact fun Fr blk ρ => .flatV h
  | str b =>
    simp only [thawV, Option.some.injEq, Prod.mk.injEq] at ht
    obtain ⟨rfl, rfl⟩ := ht
    cases h with
    | flat _ _ h => exact fun Fr blk ρ => .flatV h
  | agg t l =>
    simp only [thawV, Option.some.injEq, Prod.mk.injEq] at ht
    obtain ⟨rfl, rfl⟩ := ht
    cases h with
    | flat _ _ h => exact fun Fr blk ρ => .flatV h
  | _ => simp [thawV] at ht

theorem thawL_sound {base d : Nat} {vs : List V} {us : List Value} (h : All2 (RV T w' base M) vs us) : ∀ {q : List V} {o : Option (TypeId × List Int)}, thawL d vs = some (q, o) →
    ThawP P T w' base M d o fun Fr blk ρ => All2 (LV P T w' Fr blk ρ) q us := by
  induction h with
  | nil =>
    intro q o ht
    simp only [thawL, Option.some.injEq, Prod.mk.injEq] at ht
    obtain ⟨rfl, rfl⟩ := ht
    exact fun Fr blk ρ => .nil
  | cons h1 _ ih =>
    intro q o ht
    simp only [thawL] at ht
    split at ht
    · rename_i x q' o' hx hq
      injection ht with ht
      injection ht with e1 e2
      subst e1 e2
      have hx := thawV_sound (P := P) h1 hx
      exact (ih hq).mono fun Fr blk ρ hq => .cons (hx Fr blk ρ) hq
    · rename_i x y q' hx hq
      injection ht with ht
      injection ht with e1 e2
      subst e1 e2
      have hq := ih hq
      exact (thawV_sound (P := P) h1 hx).mono fun Fr blk ρ hx => .cons hx (hq Fr blk ρ)
    · cases ht

theorem thawR_sound {base d : Nat} {v x : V} {o : Option (TypeId × List Int)} {u : Value} (h : RV T w' base M v u) (ht : thawR d v = some (x, o)) :
    ThawP P T w' base M d o fun Fr blk ρ => LV P T w' Fr blk ρ x u := by
  cases v with
  | tup vs =>
    simp only [thawR] at ht
    split at ht
    · rename_i q o' hq
      injection ht with ht
      injection ht with e1 e2
      subst e1 e2
      cases h with
      | flat _ _ h => exact h.elim
      | tup _ arr h1 =>
        refine (thawL_sound (P := P) h1 hq).mono fun Fr blk ρ hh => .tup q arr (by simpa using hh.length.symm) fun i v hv => ?_
        have := hh.get i v hv
        simpa [Array.getD_eq_getD_getElem?, List.getD_eq_getElem?_getD] using this
    · cases ht
  | _ => exact thawV_sound h ht

theorem But.below (h : But w w' (fun _ => False)) : Below w.heap.size w w' := ⟨h.os, h.tape, h.output, h.size, fun b hb => h.block b hb (fun x => x)⟩

/-- The slice of a result, in a new block. -/
theorem thaw_rel (h : RelAt P T w0 M N ρ s a w) {d : Nat} (hd : d < s.n) {v : V} {u : Value} (hB : Below w.heap.size w w') (hR : RV T w' w.heap.size (fun _ => False) v u) {s2 : St} (ht : thaw s d v = some s2) :
    Rel P T w0 M N s2 (a.put (some d) u) w' := by
  unfold thaw at ht
  split at ht
  · cases ht
  · rename_i x hx
    injection ht with ht
    subst ht
    exact ⟨ρ, (h.below hB).put hd (thawR_sound hR hx _ _ _)⟩
  · rename_i x e l hx
    split at ht
    · rename_i hb
      injection ht with ht
      subst ht
      obtain ⟨loc, h1, h2, h3⟩ := thawR_sound (P := P) hR hx
      refine ⟨upd ρ d loc, ((h.adopt (bk := ⟨e, false, .ints l⟩) (loc' := loc) hb hd hB ?_ ?_).put hd ?_)⟩
      · intro b o lim hl
        obtain ⟨g1, g2⟩ := h2 b o lim hl
        exact ⟨g1, g2.resolve_right (fun x => x)⟩
      · exact fun _ => obInts h1
      · exact h3 _ _ _ (blk_setB_self _ _ _) (upd_self _ _ _)
    · cases ht

/-- A block that nobody leads to goes by another name. -/
theorem RelAt.rename (h : RelAt P T w0 M N ρ s a w) {k d : Nat} {bk : Blk} (hk : s.blk k = some bk) (hr : ∀ t, V.has k (s.get t) = false) (hd : (s.drop k).blk d = none) (hdn : d < s.n) :
    RelAt P T w0 M N (upd ρ d (ρ k)) ((s.drop k).setB d bk) a w := by
  have hdk : d ≠ k → s.blk d = none := fun e => by rw [blk_drop_ne _ (Ne.symm e)] at hd; exact hd
  have hb : ∀ j bj, ((s.drop k).setB d bk).blk j = some bj → ∃ i, s.blk i = some bj ∧ upd ρ d (ρ k) j = ρ i ∧ (j = d → i = k) ∧ (j ≠ d → i = j ∧ i ≠ k) := by
    intro j bj hj
    by_cases e : j = d
    · subst e
      rw [blk_setB_self] at hj
      injection hj with hj
      subst hj
      exact ⟨k, hk, upd_self _ _ _, fun _ => rfl, fun h => absurd rfl h⟩
    · rw [blk_setB_ne _ _ (Ne.symm e)] at hj
      have ejk : j ≠ k := fun ek => by subst ek; rw [blk_drop_self] at hj; cases hj
      rw [blk_drop_ne _ (Ne.symm ejk)] at hj
      exact ⟨j, hj, upd_ne _ _ e, fun h => absurd h e, fun _ => ⟨rfl, ejk⟩⟩
  have hl : Later w (FrOf s.blk ρ w) w (FrOf ((s.drop k).setB d bk).blk (upd ρ d (ρ k)) w) := by
    intro b hbb
    refine ⟨⟨hbb.1, fun j bj base lim hj hρ => ?_⟩, rfl⟩
    obtain ⟨i, h1, h2, _, _⟩ := hb j bj hj
    exact hbb.2 i bj base lim h1 (h2 ▸ hρ)
  refine ⟨h.os, h.tape, h.output, h.size, h.old, h.defers, h.tn, ?_, ?_, ?_, ?_, ?_⟩
  · intro j bj b base lim hj hρ
    obtain ⟨i, h1, h2, _, _⟩ := hb j bj hj
    exact h.loc i bj b base lim h1 (h2 ▸ hρ)
  · intro i j bi bj b base base' lim lim' hi hj hρi hρj
    obtain ⟨i', h1, h2, h3, h4⟩ := hb i bi hi
    obtain ⟨j', g1, g2, g3, g4⟩ := hb j bj hj
    have hij := h.inj i' j' bi bj b base base' lim lim' h1 g1 (h2 ▸ hρi) (g2 ▸ hρj)
    by_cases ei : i = d <;> by_cases ej : j = d
    · rw [ei, ej]
    · have := h3 ei; have := (g4 ej).2; exact absurd (hij.symm.trans ‹i' = k›) this
    · have := g3 ej; have := (h4 ei).2; exact absurd (hij.trans ‹j' = k›) this
    · rw [← (h4 ei).1, ← (g4 ej).1, hij]
  · intro j bj hj
    obtain ⟨i, h1, h2, _, _⟩ := hb j bj hj
    have ho := h.ob i bj h1
    rw [h2]
    cases hρ : ρ i with
    | none => rw [hρ] at ho; exact ho
    | some x =>
      obtain ⟨b, base, lim⟩ := x
      rw [hρ] at ho
      obtain ⟨arr, g1, g2, g3⟩ := ho
      exact ⟨arr, g1, g2, g3.later hl⟩
  · intro t
    refine (h.lv t).move hl ?_
    intro j bj hh hj
    have ejk : j ≠ k := fun e => by subst e; have hx := hr t; rw [hx] at hh; cases hh
    have ejd : j ≠ d := fun e => by subst e; rw [hdk ejk] at hj; cases hj
    refine ⟨upd_ne _ _ ejd, bj, ?_, rfl, rfl, ?_⟩
    · rw [blk_setB_ne _ _ (Ne.symm ejd), blk_drop_ne _ (Ne.symm ejk)]; exact hj
    · cases bj.d <;> simp [D.alike]
  · intro j hj
    have hj : s.n ≤ j := hj
    have ejd : j ≠ d := by omega
    obtain ⟨p1, p2⟩ := h.pin j hj
    rw [upd_ne _ _ ejd]
    refine ⟨p1, fun bk2 hbk => ?_⟩
    obtain ⟨i, h1, _, _, h4⟩ := hb j bk2 hbk
    rw [(h4 ejd).1] at h1
    exact p2 bk2 h1

/-- The slice that was handed over comes back, of its old length. -/
theorem back_rel (h : RelAt P T w0 M N ρ s a w) {d k : Nat} (hd : d < s.n) {e : TypeId} {l l' : List Int} (hk : s.blk k = some ⟨e, false, .ints l⟩) {v x : V} {u : Value} (hB : But w w' (MOf (ρ k))) (hR : RV T w' w.heap.size (MOf (ρ k)) v u)
    (hx : thawR d v = some (x, none)) (hlen : l'.length = l.length) (hO : OB P T w' (fun _ => False) ⟨e, false, .ints l'⟩ (ρ k)) : Rel P T w0 M N ((s.setB k ⟨e, false, .ints l'⟩).put d x) (a.put (some d) u) w' := by
  have h1 := h.change (w' := w') (bk' := ⟨e, false, .ints l'⟩) (loc' := ρ k) hk hB.os hB.tape hB.output hB.size (fun b hb hne => hB.block b hb fun ⟨base, lim, hh⟩ => hne base lim hh)
    (fun b base lim hl => ⟨by rw [hl] at hO; obtain ⟨arr, g1, _⟩ := hO; exact lt_of_heap g1, .inl ⟨base, lim, hl⟩⟩) (fun _ => obInts hO) (.inr ⟨⟨rfl, rfl, hlen.symm⟩, rfl⟩)
  exact ⟨_, h1.put hd (thawR_sound hR hx _ _ _)⟩

/-- Blocks are given other contents of their shapes. -/
theorem RelAt.rewr (h : RelAt P T w0 M N ρ s a w) {s' : St} (hn : s'.n = s.n) (hget : ∀ t, s'.get t = s.get t) (hB : But w w' X) {ks : List Nat} (hX : ∀ b, X b → ∃ k ∈ ks, MOf (ρ k) b ∧ ∃ bk, s.blk k = some bk)
    (hin : ∀ k ∈ ks, ∃ e r l l', s.blk k = some ⟨e, r, .ints l⟩ ∧ s'.blk k = some ⟨e, r, .ints l'⟩ ∧ l'.length = l.length ∧ OB P T w' (fun _ => False) ⟨e, r, .ints l'⟩ (ρ k)) (hout : ∀ k, k ∉ ks → s'.blk k = s.blk k) : RelAt P T w0 M N ρ s' a w' := by
  have hsub : ∀ j bj, s'.blk j = some bj → ∃ bi, s.blk j = some bi ∧ bi.alike bj := by
    intro j bj hj
    by_cases hk : j ∈ ks
    · obtain ⟨e, r, l, l', h1, h2, h3, _⟩ := hin j hk
      rw [h2] at hj
      injection hj with hj
      subst hj
      exact ⟨_, h1, rfl, rfl, h3.symm⟩
    · rw [hout j hk] at hj
      refine ⟨bj, hj, rfl, rfl, ?_⟩
      cases bj.d <;> simp [D.alike]
  have hsup : ∀ j bi, s.blk j = some bi → ∃ bj, s'.blk j = some bj ∧ bi.alike bj := by
    intro j bi hj
    by_cases hk : j ∈ ks
    · obtain ⟨e, r, l, l', h1, h2, h3, _⟩ := hin j hk
      rw [h1] at hj
      injection hj with hj
      subst hj
      exact ⟨_, h2, rfl, rfl, h3.symm⟩
    · refine ⟨bi, by rw [hout j hk]; exact hj, rfl, rfl, ?_⟩
      cases bi.d <;> simp [D.alike]
  have hl : Later w (FrOf s.blk ρ w) w' (FrOf s'.blk ρ w') := by
    intro b hb
    refine ⟨⟨Nat.lt_of_lt_of_le hb.1 hB.size, fun j bj base lim hj hρ => ?_⟩, hB.block b hb.1 fun hx => ?_⟩
    · obtain ⟨bi, h1, _⟩ := hsub j bj hj
      exact hb.2 j bi base lim h1 hρ
    · obtain ⟨k, _, ⟨base, lim, h1⟩, bk, h2⟩ := hX b hx
      exact hb.2 k bk base lim h2 h1
  refine ⟨hB.os.trans h.os, hB.tape.trans h.tape, hB.output.trans h.output, Nat.le_trans h.size hB.size, ?_, h.defers, h.tn.trans hn.symm, ?_, ?_, ?_, ?_, ?_⟩
  · intro b hb hm
    rw [hB.block b (Nat.lt_of_lt_of_le hb h.size) fun hx => ?_]
    · exact h.old b hb hm
    · obtain ⟨k, _, ⟨base, lim, h1⟩, bk, h2⟩ := hX b hx
      rcases (h.loc k bk b base lim h2 h1).2 with q | q
      · omega
      · exact hm q
  · intro j bj b base lim hj hρ
    obtain ⟨bi, h1, _⟩ := hsub j bj hj
    obtain ⟨g1, g2⟩ := h.loc j bi b base lim h1 hρ
    exact ⟨Nat.lt_of_lt_of_le g1 hB.size, g2⟩
  · intro i j bi bj b base base' lim lim' hi hj hρi hρj
    obtain ⟨ci, h1, _⟩ := hsub i bi hi
    obtain ⟨cj, h2, _⟩ := hsub j bj hj
    exact h.inj i j ci cj b base base' lim lim' h1 h2 hρi hρj
  · intro j bj hj
    by_cases hk : j ∈ ks
    · obtain ⟨e, r, l, l', _, h2, _, h4⟩ := hin j hk
      rw [h2] at hj
      injection hj with hj
      subst hj
      exact obInts h4
    · rw [hout j hk] at hj
      have ho := h.ob j bj hj
      cases hρ : ρ j with
      | none => rw [hρ] at ho; exact ho
      | some x =>
        obtain ⟨b, base, lim⟩ := x
        rw [hρ] at ho
        obtain ⟨arr, g1, g2, g3⟩ := ho
        refine ⟨arr, ?_, g2, g3.later hl⟩
        rw [hB.block b (lt_of_heap g1) fun hx => ?_]
        · exact g1
        · obtain ⟨k, hk', ⟨base', lim', h1⟩, bk, h2⟩ := hX b hx
          have := h.inj k j bk bj b base' base lim' lim h2 hj h1 hρ
          subst this
          exact hk hk'
  · intro t
    rw [hget]
    refine (h.lv t).move hl ?_
    intro k bk _ hk
    obtain ⟨bj, h1, h2⟩ := hsup k bk hk
    exact ⟨rfl, bj, h1, h2⟩
  · intro j hj
    rw [hn] at hj
    obtain ⟨p1, p2⟩ := h.pin j hj
    refine ⟨p1, fun bj hbj => ?_⟩
    obtain ⟨bi, h1, h2⟩ := hsub j bj hbj
    exact alike_trans (p2 bi h1) h2

/-- Which blocks are handed over. -/
def KeyM (T : Tab) (s : St) (ρ : Nat → Loc) (loc : Nat → Loc) (k : Nat) (m : Nat × TypeId × List Int) : Prop :=
  s.blk k = some ⟨m.2.1, true, .ints m.2.2⟩ ∧ loc m.1 = ρ k ∧ m.2.2.length = (T.at m.2.1).size

theorem all2_right {α β : Type} {Φ : α → β → Prop} {xs : List α} {ys : List β} (h : All2 Φ xs ys) : ∀ y ∈ ys, ∃ x ∈ xs, Φ x y := by
  induction h with
  | nil => intro y hy; cases hy
  | cons h1 _ ih =>
    intro y hy
    rcases List.mem_cons.1 hy with rfl | hy
    · exact ⟨_, by simp, h1⟩
    · obtain ⟨x, q1, q2⟩ := ih y hy
      exact ⟨x, by simp [q1], q2⟩

theorem distinct_cons {k : Nat} {r : List Nat} (h : distinct (k :: r) = true) : k ∉ r ∧ distinct r = true := by
  simp only [distinct, Bool.and_eq_true, Bool.not_eq_true'] at h
  refine ⟨fun hk => ?_, h.2⟩
  have := h.1
  rw [List.any_eq_false] at this
  exact this k hk (Nat.beq_refl k)

theorem distM_of (h : RelAt P T w0 M N ρ s a w) {loc : Nat → Loc} {ks : List Nat} {ms : List (Nat × TypeId × List Int)} (hz : All2 (KeyM T s ρ loc) ks ms) (hd : distinct ks = true) : DistM loc ms := by
  induction hz with
  | nil => trivial
  | cons h1 hz ih =>
    rename_i k m ks ms
    obtain ⟨hk, hd⟩ := distinct_cons hd
    refine ⟨fun m' hm' b hb hb' => ?_, ih hd⟩
    have : ∃ k' ∈ ks, KeyM T s ρ loc k' m' := all2_right hz m' hm'
    obtain ⟨k', q1, q2, q3, _⟩ := this
    obtain ⟨g2, g3, _⟩ := h1
    obtain ⟨base, lim, hb⟩ := hb
    obtain ⟨base', lim', hb'⟩ := hb'
    rw [g3] at hb
    rw [q3] at hb'
    have := h.inj k k' _ _ b base base' lim lim' g2 q2 hb hb'
    subst this
    exact hk q1

theorem putM_spec {loc : Nat → Loc} : ∀ {ks : List Nat} {ms : List (Nat × TypeId × List Int)} {s s' : St} {q : List Int}, All2 (KeyM T s ρ loc) ks ms → distinct ks = true → MOut P T w' loc ms q → putM T s ks q = some s' →
    s'.n = s.n ∧ (∀ t, s'.get t = s.get t) ∧ (∀ k, k ∉ ks → s'.blk k = s.blk k) ∧
      ∀ k ∈ ks, ∃ e r l l', s.blk k = some ⟨e, r, .ints l⟩ ∧ s'.blk k = some ⟨e, r, .ints l'⟩ ∧ l'.length = l.length ∧ OB P T w' (fun _ => False) ⟨e, r, .ints l'⟩ (ρ k) := by
  intro ks
  induction ks with
  | nil =>
    intro ms s s' q _ _ _ hp
    simp only [putM, Option.some.injEq] at hp
    subst hp
    exact ⟨rfl, fun _ => rfl, fun _ _ => rfl, fun k hk => by cases hk⟩
  | cons k r ih =>
    intro ms s s' q hz hd ho hp
    cases hz with
    | cons h1 hz =>
      rename_i m ms
      obtain ⟨g1, g2, g3⟩ := h1
      obtain ⟨hk, hd⟩ := distinct_cons hd
      unfold putM at hp
      rw [g1] at hp
      simp only at hp
      cases r with
      | nil =>
        cases hz
        simp only [Option.some.injEq] at hp
        subst hp
        obtain ⟨o1, o2⟩ := ho
        refine ⟨rfl, fun _ => rfl, fun j hj => blk_setB_ne _ _ (fun e => hj (by simp [e])), fun j hj => ?_⟩
        rw [List.mem_singleton] at hj
        subst hj
        exact ⟨_, _, _, _, g1, blk_setB_self _ _ _, o1, g2 ▸ o2⟩
      | cons k2 r2 =>
        cases hz with
        | cons h2 hz =>
          rename_i m2 ms2
          obtain ⟨o1, o2, o3⟩ := ho
          simp only at hp
          rw [← g3] at hp
          have hz' : All2 (KeyM T (s.setB k ⟨m.2.1, true, .ints (q.take m.2.2.length)⟩) ρ loc) (k2 :: r2) (m2 :: ms2) := by
            have all : ∀ {xs : List Nat} {ys : List (Nat × TypeId × List Int)}, All2 (KeyM T s ρ loc) xs ys → k ∉ xs → All2 (KeyM T (s.setB k ⟨m.2.1, true, .ints (q.take m.2.2.length)⟩) ρ loc) xs ys := by
              intro xs ys hxy
              induction hxy with
              | nil => intro _; exact .nil
              | cons q1 _ ihq =>
                intro hkx
                simp only [List.mem_cons, not_or] at hkx
                exact .cons ⟨(blk_setB_ne _ _ hkx.1).trans q1.1, q1.2⟩ (ihq hkx.2)
            exact all (.cons h2 hz) hk
          obtain ⟨c1, c2, c3, c4⟩ := ih hz' hd o3 hp
          refine ⟨c1, c2, fun j hj => ?_, fun j hj => ?_⟩
          · rw [c3 j (fun e => hj (by simp [e]))]
            exact blk_setB_ne _ _ (fun e => hj (by simp [e]))
          · rcases List.mem_cons.1 hj with rfl | hj
            · refine ⟨_, _, _, _, g1, (c3 j hk).trans (blk_setB_self _ _ _), o1, g2 ▸ o2⟩
            · obtain ⟨e, b, l, l', d1, d2, d3, d4⟩ := c4 j hj
              rw [blk_setB_ne _ _ (fun e => hk (by rw [e]; exact hj))] at d1
              exact ⟨e, b, l, l', d1, d2, d3, d4⟩

/-- The slice that was handed over is gone, or is the result. -/
theorem gone_rel (h : RelAt P T w0 M N ρ s a w) {d k : Nat} (hd : d < s.n) (hkn : k < s.n) {e : TypeId} {l : List Int} (hk : s.blk k = some ⟨e, false, .ints l⟩) (hfl : isFlatTy T e = true) {v : V} {u : Value} (hB : But w w' (MOf (ρ k))) (hR : RV T w' w.heap.size (MOf (ρ k)) v u)
    {s2 : St} (ht : thaw ((s.kill k).drop k) d v = some s2) : Rel P T w0 M N s2 (a.put (some d) u) w' := by
  have hkill := h.kill k
  have hr := noRef_kill s k
  unfold thaw at ht
  split at ht
  · cases ht
  · rename_i x hx
    injection ht with ht
    subst ht
    have h1 := hkill.change (w' := w') (bk' := ⟨e, false, .ints []⟩) (loc' := none) (k := k) hk hB.os hB.tape hB.output hB.size (fun b hb hne => hB.block b hb fun ⟨base, lim, hh⟩ => hne base lim hh)
      (fun b base lim hl => by cases hl) (fun _ => ⟨rfl, rfl, hfl⟩) (.inl ⟨hr, hkn⟩)
    have h2 := h1.dropB (k := k) (fun t => hr t)
    have h3 := h2.ext (s' := (s.kill k).drop k) rfl (fun t => rfl) fun j => by
      by_cases ej : j = k
      · subst ej; rw [blk_drop_self, blk_drop_self]
      · rw [blk_drop_ne _ (Ne.symm ej), blk_drop_ne _ (Ne.symm ej), blk_setB_ne _ _ (Ne.symm ej)]
    exact ⟨_, h3.put hd (thawR_sound hR hx _ _ _)⟩
  · rename_i x e' l' hx
    split at ht
    · rename_i hb
      injection ht with ht
      subst ht
      obtain ⟨loc, g1, g2, g3⟩ := thawR_sound (P := P) hR hx
      have h1 := hkill.change (w' := w') (bk' := ⟨e', false, .ints l'⟩) (loc' := loc) (k := k) hk hB.os hB.tape hB.output hB.size (fun b hb hne => hB.block b hb fun ⟨base, lim, hh⟩ => hne base lim hh)
        (fun b base lim hl => by obtain ⟨q1, q2⟩ := g2 b base lim hl; exact ⟨q1, q2.symm.imp id id⟩) (fun _ => obInts g1) (.inl ⟨hr, hkn⟩)
      have h2 := h1.rename (k := k) (d := d) (bk := ⟨e', false, .ints l'⟩) (blk_setB_self _ _ _) (fun t => hr t) (by
        by_cases ej : d = k
        · subst ej; exact blk_drop_self _ _
        · rw [blk_drop_ne _ (Ne.symm ej), blk_setB_ne _ _ (Ne.symm ej)]; rw [blk_drop_ne _ (Ne.symm ej)] at hb; exact hb) hd
      have h3 := h2.ext (s' := ((s.kill k).drop k).setB d ⟨e', false, .ints l'⟩) rfl (fun t => rfl) fun j => by
        by_cases ed : j = d
        · subst ed; rw [blk_setB_self, blk_setB_self]
        · rw [blk_setB_ne _ _ (Ne.symm ed), blk_setB_ne _ _ (Ne.symm ed)]
          by_cases ej : j = k
          · subst ej; rw [blk_drop_self, blk_drop_self]
          · rw [blk_drop_ne _ (Ne.symm ej), blk_drop_ne _ (Ne.symm ej), blk_setB_ne _ _ (Ne.symm ej)]
      exact ⟨_, h3.put hd (g3 _ _ _ (blk_setB_self _ _ _) (by simp [upd]))⟩
    · cases ht

end Go.Ev
end

section
/- Calls: what the evaluator gives, the kit's model gives. -/
namespace Go.Ev
open Go.RowKit (Below)

variable {P : Program} {w0 w w' : World} {M X : Nat → Prop} {ρ : Nat → Loc} {N : Nat → Loc × Blk} {s : St} {a : Act} {Fr : Nat → Prop} {blk : Nat → Option Blk} {C : Cfg}

theorem snapArgs_sound (hT : TabOK P C.T) (hO : OraOK P C.T C.mv C.ora) (h : RelAt P C.T w0 M N ρ s a w) {vs : List V} {us : List Value} (hv : All2 (LV P C.T w (FrOf s.blk ρ w) s.blk ρ) vs us) :
    ∀ (ts : List TypeId) (vs' : List V), (∀ v ∈ vs, Apart ρ s.blk X v) → snapArgs C s ts vs = some vs' → All2 (BV P C.T w (FrX w X)) vs' us := by
  induction hv with
  | nil => intro ts vs' _ hs; cases ts <;> (simp only [snapArgs, Option.some.injEq] at hs; subst hs; exact .nil)
  | cons h1 _ ih =>
    intro ts vs' hX hs
    cases ts with
    | nil => simp [snapArgs] at hs
    | cons t ts =>
      simp only [snapArgs] at hs
      split at hs
      · rename_i a b ha hb
        injection hs with hs; subst hs
        exact .cons (snap_sound (lo := C.lo) hT hO h (hX _ (by simp)) h1 ha) (ih ts b (fun v hv => hX v (by simp [hv])) hb)
      · cases hs

theorem exec_call {o : Oper} {c : Call} {f : Operand} (ho : o.op = .call c) (hc : c.callee = .value f) {ev : Operand → Value} {g : FuncId} {x y : Array Value} (hf : ev f = .func (.func g) x y) (hb : HasBody P g) (w : World) :
    (execOp ev o).run P w = .ok (.enter g (x ++ c.args.map ev ++ y)) w := by
  obtain ⟨fn, h1, h2, h3⟩ := hb
  simp only [execOp, ho]
  rw [Sem.run_bind]
  unfold resolve
  simp only [hc, hf]
  simp only [Deferred.ofValue, invoke, Sem.run_pure, Result.andThen_ok]
  unfold callFunc
  have hnb : fn.body ≠ none := by intro hbd; rw [hbd] at h2; cases h2
  simp [h1, h3, hnb]

theorem call_wp {o : Oper} {c : Call} {f : Operand} (ho : o.op = .call c) (hc : c.callee = .value f) {d : Nat} (hd : o.dst = some d) {g : FuncId} {x y : Array Value} (hf : a.eval f = .func (.func g) x y) (hb : HasBody P g)
    {next : Act → World → Prop} {Q : Exit → Act → World → Prop} {R : Ending → World → Prop} (h : Calls P g (x ++ c.args.map a.eval ++ y) w R) (hR : ∀ e w', R e w' → ∃ u, e = .returned u ∧ next (a.put (some d) u) w') : o.wp P a w next Q := by
  unfold Oper.wp
  rw [exec_call ho hc hf hb w, Oper.upon_enter]
  refine h.mono fun e w' he => ?_
  obtain ⟨u, rfl, hn⟩ := hR e w' he
  rw [hd]
  exact hn

theorem head_in (h : RelAt P C.T w0 M N ρ s a w) {k : Nat} {e e0 : TypeId} {l : List Int} {u : Value} (hk : s.blk k = some ⟨e0, false, .ints l⟩) (hv : LV P C.T w (FrOf s.blk ρ w) s.blk ρ (.slw k e) u) :
    e0 = e ∧ isFlatTy C.T e = true ∧ HeadIn P C.T w e l (ρ k) u := by
  have hO := h.ob k _ hk
  cases hv with
  | bv _ _ hb => cases hb with
    | flat _ _ hb => exact hb.elim
  | slw k e bk b base lim n cap h1 h2 h3 h4 h5 h6 h7 h8 =>
    rw [hk] at h1
    injection h1 with h1
    subst h1
    simp only at h2
    subst h2
    have hfl : isFlatTy C.T e0 = true := by rw [h4] at hO; obtain ⟨_, _, _, hf, _⟩ := hO; exact hf
    exact ⟨rfl, hfl, obInts hO, fun b' base' lim' hl => (h.loc k _ b' base' lim' hk hl).1, .slw 0 e0 ⟨e0, false, .ints l⟩ b base lim n cap (by simp) rfl rfl h4 h5 h6 h7 h8⟩
  | slwNil k e bk ad h1 h2 h3 h4 h5 =>
    rw [hk] at h1
    injection h1 with h1
    subst h1
    simp only at h2
    subst h2
    have hfl : isFlatTy C.T e0 = true := by rw [h4] at hO; exact hO.2.2
    exact ⟨rfl, hfl, obInts hO, fun b' base' lim' hl => (h.loc k _ b' base' lim' hk hl).1, .slwNil 0 e0 ⟨e0, false, .ints l⟩ ad (by simp) rfl rfl h4 h5⟩

theorem apart_none (v : V) : Apart ρ blk (fun _ => False) v := fun _ hb => hb.elim

theorem frX_lt {b : Nat} (h : FrX w X b) : b < w.heap.size := h.1

def locV (ρ : Nat → Loc) : Option V → Loc
  | some (.ptr k _ _) => ρ k
  | _ => none

theorem snapM_sound (hT : TabOK P C.T) (hO : OraOK P C.T C.mv C.ora) (h : RelAt P C.T w0 M N ρ s a w) {g : Nat} {loc : Nat → Loc} {vs : List V} {us : List Value} (hv : All2 (LV P C.T w (FrOf s.blk ρ w) s.blk ρ) vs us) :
    ∀ (i : Nat) (ts : List TypeId) (as : List V) (ks : List Nat) (os : List V), (∀ j, loc (i + j) = locV ρ vs[j]?) → snapM C s g i ts vs = some (as, ks, os) → (∀ v ∈ os, Apart ρ s.blk X v) →
      MIn P C.T w (FrX w X) loc i as us ∧ All2 (KeyM C.T s ρ loc) ks (marks i as) := by
  induction hv with
  | nil =>
    intro i ts as ks os _ hs _
    have : snapM C s g i ts [] = some ([], [], []) := by cases ts <;> rfl
    rw [this] at hs
    injection hs with hs
    injection hs with e1 hs
    injection hs with e2 e3
    subst e1 e2 e3
    exact ⟨trivial, .nil⟩
  | cons h1 _ ih =>
    rename_i v u vs us _
    intro i ts as ks os hloc hs hX
    cases ts with
    | nil => simp [snapM] at hs
    | cons t ts =>
      have hloc' : ∀ j, loc (i + 1 + j) = locV ρ vs[j]? := fun j => by
        have := hloc (j + 1)
        rw [show i + (j + 1) = i + 1 + j by omega] at this
        simpa using this
      have hl0 : loc i = locV ρ (some v) := by simpa using hloc 0
      simp only [snapM] at hs
      split at hs
      · cases hs
      · rename_i as' ks' os' hrest
        cases hp : posM C.mv g i with
        | true =>
          rw [hp] at hs
          simp only [cond_true] at hs
          split at hs
          · rename_i k t0
            split at hs
            · rename_i t1 l hk
              obtain ⟨he, hs⟩ := cond_some hs
              have he := Nat.eq_of_beq_eq_true he
              subst he
              injection hs with hs
              injection hs with e1 hs
              injection hs with e2 e3
              subst e1 e2 e3
              obtain ⟨q1, q2⟩ := ih (i + 1) ts _ _ _ hloc' hrest hX
              cases h1 with
              | bv _ _ hb => cases hb with
                | flat _ _ hb => exact hb.elim
              | ptr k off t bk b base lim g1 g2 g3 =>
                rw [hk] at g1
                injection g1 with g1
                subst g1
                obtain ⟨f1, f2, f3, f4, f5⟩ := g3
                have hlen := f5 rfl
                simp only [] at hlen
                have hlo : loc i = some (b, base, lim) := hl0.trans g2
                have hob := h.ob k _ hk
                rw [g2] at hob
                refine ⟨⟨⟨b, base, lim, hlo, rfl, ?_, (h.loc k _ b base lim hk g2).1, f2, hlen⟩, q1⟩, .cons ⟨hk, hlo.trans g2.symm, hlen⟩ q2⟩
                rw [hlo]
                exact obInts hob
            · cases hs
          · cases hs
        | false =>
          rw [hp] at hs
          simp only [cond_false] at hs
          split at hs
          · rename_i a' ha
            split at hs
            · cases hs
            · rename_i hm
              injection hs with hs
              injection hs with e1 hs
              injection hs with e2 e3
              subst e1 e2 e3
              obtain ⟨q1, q2⟩ := ih (i + 1) ts _ _ _ hloc' hrest (fun v hv => hX v (by simp [hv]))
              refine ⟨⟨?_, q1⟩, ?_⟩
              · rw [hm]
                exact snap_sound (lo := C.lo) hT hO h (hX _ (by simp)) h1 ha
              · simp only [marks, hm]
                exact q2
          · cases hs

theorem evCall_sound (hT : TabOK P C.T) (hO : OraOK P C.T C.mv C.ora) (h : RelAt P C.T w0 M N ρ s a w) {d : Nat} (hd : d < s.n) {o : Oper} {c : Call} {f : Operand} (ho : o.op = .call c) (hc : c.callee = .value f) (hdst : o.dst = some d)
    {R : Type} {K : St → Option R} {r : R} (hev : evCall C s c f d K = some r) {next : Act → World → Prop} {Q : Exit → Act → World → Prop} (hK : ∀ s' a' w', Rel P C.T w0 M N s' a' w' → K s' = some r → next a' w') : o.wp P a w next Q := by
  have hargs : All2 (LV P C.T w (FrOf s.blk ρ w) s.blk ρ) (c.args.toList.map s.ev) ((c.args.map a.eval).toList) := by
    rw [Array.toList_map]
    exact .map _ _ _ fun x => h.ev x
  have hf := h.ev f
  unfold evCall at hev
  split at hev
  · -- a function of the program
    rename_i g first cap hfv
    rw [hfv] at hf
    obtain ⟨x, y, hu, hx, hy⟩ := hf.fn_inv
    split at hev
    · rename_i va vb ea eb
      cases hm : memN g C.mv with
      | false =>
        rw [hm] at hev
        simp only [cond_false] at hev
        split at hev
        · rename_i as es
          obtain ⟨hbody, rs, hk, hsound⟩ := hO _ _ _ _ _ hev
          rw [hm] at hsound
          have b1 := snapL_sound (X := fun _ => False) h hx _ (fun v _ => apart_none v) ea
          have b2 := snapL_sound (X := fun _ => False) h hy _ (fun v _ => apart_none v) eb
          have b3 := snapArgs_sound (X := fun _ => False) hT hO h hargs _ _ (fun v _ => apart_none v) es
          have hcall := hsound w (FrX w fun _ => False) (x ++ c.args.map a.eval ++ y) (fun b hb => frX_lt hb) (by
            rw [Array.toList_append, Array.toList_append, List.append_assoc]
            exact b1.append (b3.append b2))
          refine call_wp ho hc hdst hu hbody hcall ?_
          rintro e w' ⟨u, rfl, hB, hR, hn⟩
          refine ⟨u, rfl, ?_⟩
          simp only [hn] at hk
          split at hk
          · rename_i s2 ht
            exact hK _ _ _ (thaw_rel h hd hB hR ht) hk
          · cases hk
        · cases hev
      | true =>
        rw [hm] at hev
        simp only [cond_true] at hev
        replace hev := (cond_some hev).2
        split at hev
        · rename_i t1 ts k e vs hts hvs
          split at hev
          · rename_i e0 l as hblk es
            obtain ⟨hcond, hev⟩ := cond_some hev
            obtain ⟨hkn, hcond⟩ := and_true hcond
            have hkn : k < s.n := Nat.le_of_ble_eq_true hkn
            obtain ⟨he, hno⟩ := and_true hcond
            have he := Nat.eq_of_beq_eq_true he
            subst he
            rw [hvs] at hargs
            cases hlist : (c.args.map a.eval).toList with
            | nil => rw [hlist] at hargs; cases hargs
            | cons u0 us' =>
              rw [hlist] at hargs
              cases hargs with
              | cons hv0 hvs' =>
                obtain ⟨_, hfl, hin⟩ := head_in h hblk hv0
                obtain ⟨hbody, rs, hk, hsound⟩ := hO _ _ _ _ _ hev
                rw [hm] at hsound
                have hx0 : x.toList = [] := by
                  have b1 := snapL_sound (X := fun _ => False) h hx _ (fun v _ => apart_none v) ea
                  cases hxl : x.toList with
                  | nil => rfl
                  | cons q r => rw [hxl] at b1; cases b1
                have hnoL : ∀ v, v ∈ vs ∨ v ∈ cap → Apart ρ s.blk (MOf (ρ k)) v := by
                  intro v hv b hb
                  obtain ⟨base, lim, hb⟩ := hb
                  refine ⟨k, _, base, lim, hblk, hb, ?_⟩
                  cases hh : V.has k v with
                  | false => rfl
                  | true =>
                    exfalso
                    have : (V.hasL k vs || V.hasL k cap) = true := by
                      rcases hv with hv | hv
                      · obtain ⟨i, hi⟩ := List.mem_iff_getElem?.1 hv
                        simp [hasL_of vs i v k hi hh]
                      · obtain ⟨i, hi⟩ := List.mem_iff_getElem?.1 hv
                        simp [hasL_of cap i v k hi hh]
                    rw [this] at hno
                    cases hno
                have b2 := snapL_sound (X := MOf (ρ k)) h hy _ (fun v hv => hnoL v (.inr hv)) eb
                have b3 := snapArgs_sound (X := MOf (ρ k)) hT hO h hvs' _ _ (fun v hv => hnoL v (.inl hv)) es
                have hcall := hsound w (FrX w (MOf (ρ k))) (x ++ c.args.map a.eval ++ y) (fun b hb => frX_lt hb) (ρ k) u0 (us' ++ y.toList) (by
                  rw [Array.toList_append, Array.toList_append, hx0, hlist]; rfl) (fun b hb => hb.2) hin (b3.append b2)
                refine call_wp ho hc hdst hu hbody hcall ?_
                rintro e w' ⟨u, rfl, hB, hR, hback⟩
                refine ⟨u, rfl, ?_⟩
                split at hk
                · rename_i l' hl'
                  obtain ⟨g1, g2⟩ := hback l' hl'
                  split at hk
                  · rename_i x' hx'
                    exact hK _ _ _ (back_rel h hd hblk hB hR hx' g1 g2) hk
                  · cases hk
                · split at hk
                  · rename_i s2 ht
                    exact hK _ _ _ (gone_rel h hd hkn hblk hfl hB hR ht) hk
                  · cases hk
          · cases hev
        · -- pointers to whole variables
          rename_i vs _
          generalize hts : c.argTypes.toList = ts at hev
          generalize hvs : c.args.toList.map s.ev = vs at hev hargs
          unfold evMoved at hev
          split at hev
          · rename_i as ks os es
            split at hev
            · cases hev
            · rename_i hhead
              obtain ⟨hcond, hev⟩ := cond_some hev
              obtain ⟨hdist, hno⟩ := and_true hcond
              obtain ⟨hbody, rs, hk, hsound⟩ := hO _ _ _ _ _ hev
              rw [hm] at hsound
              have hx0 : x.toList = [] := by
                have b1 := snapL_sound (X := fun _ => False) h hx _ (fun v _ => apart_none v) ea
                cases hxl : x.toList with
                | nil => rfl
                | cons q r => rw [hxl] at b1; cases b1
              have hy0 : y.toList = [] := by
                have b1 := snapL_sound (X := fun _ => False) h hy _ (fun v _ => apart_none v) eb
                cases hxl : y.toList with
                | nil => rfl
                | cons q r => rw [hxl] at b1; cases b1
              let loc : Nat → Loc := fun j => locV ρ vs[j]?
              have hraw := snapM_sound (X := fun _ => False) (g := g) (loc := loc) hT hO h hargs 0 ts as ks os (fun j => by simp [loc]) es (fun v _ => apart_none v)
              have hkey := hraw.2
              have hapart : ∀ v ∈ os, Apart ρ s.blk (MAny loc (marks 0 as)) v := by
                intro v hv b hb
                obtain ⟨m, hm1, base, lim, hb⟩ := hb
                obtain ⟨k, k1, k2, k3, _⟩ := all2_right hkey m hm1
                rw [k3] at hb
                refine ⟨k, _, base, lim, k2, hb, ?_⟩
                have := List.all_eq_true.1 hno k k1
                cases hh : V.has k v with
                | false => rfl
                | true =>
                  obtain ⟨i, hi⟩ := List.mem_iff_getElem?.1 hv
                  rw [hasL_of os i v k hi hh] at this
                  cases this
              obtain ⟨hmin, _⟩ := snapM_sound (X := MAny loc (marks 0 as)) (g := g) (loc := loc) hT hO h hargs 0 ts as ks os (fun j => by simp [loc]) es hapart
              have hcall := hsound w (FrX w (MAny loc (marks 0 as))) (x ++ c.args.map a.eval ++ y) (fun b hb => frX_lt hb)
              simp only [hhead] at hcall
              have hcall := hcall loc (by rw [Array.toList_append, Array.toList_append, hx0, hy0, List.nil_append, List.append_nil]; exact hmin) (distM_of h hkey hdist) (fun b hb => hb.2)
              refine call_wp ho hc hdst hu hbody hcall ?_
              rintro e w' ⟨u, rfl, hB, hR, hback⟩
              refine ⟨u, rfl, ?_⟩
              split at hk
              · rename_i q hq
                split at hk
                · rename_i x' hx'
                  split at hk
                  · rename_i s' hput
                    obtain ⟨c1, c2, c3, c4⟩ := putM_spec hkey hdist (hback q hq) hput
                    have hr := h.rewr c1 c2 hB (ks := ks) (fun b hb => by
                      obtain ⟨m, hm1, hb⟩ := hb
                      obtain ⟨k, k1, k2, k3, _⟩ := all2_right hkey m hm1
                      exact ⟨k, k1, k3 ▸ hb, _, k2⟩) c4 c3
                    exact hK _ _ _ ⟨_, hr.put (c1.symm ▸ hd) (thawR_sound hR hx' _ _ _)⟩ hk
                  · cases hk
                · cases hk
              · cases hk
          · cases hev
        · cases hev
    · cases hev
  · rename_i t g hfv
    rw [hfv] at hf
    obtain ⟨fid, x, y, hu, hclo⟩ := hf.cloB_inv
    split at hev
    · rename_i v hvs
      split at hev
      · rename_i l hl
        simp only [Option.bind_eq_some_iff] at hev
        obtain ⟨b, hg, hk⟩ := hev
        rw [hvs] at hargs
        cases hlist : (c.args.map a.eval).toList with
        | nil => rw [hlist] at hargs; cases hargs
        | cons u0 us' =>
          rw [hlist] at hargs
          cases hargs with
          | cons hv0 hrest =>
            cases hrest
            have hav := argOf_sound (X := fun _ => False) h (apart_none v) hv0 hl
            obtain ⟨hbody, hcall⟩ := hclo w (FrX w fun _ => False) l b u0 (fun b hb => ⟨frOf_X (v := .undef) (apart_none _) hb, rfl⟩) (fun b hb => frX_lt hb) hg hav
            have hA : c.args.map a.eval = #[u0] := by
              apply Array.toList_inj.1; rw [hlist]
            rw [← hA] at hcall
            refine call_wp ho hc hdst hu hbody hcall ?_
            rintro e w' ⟨rfl, hB⟩
            exact ⟨_, rfl, hK _ _ _ ⟨ρ, (h.below hB).put hd (.ofBool b)⟩ hk⟩
      · cases hev
    · cases hev
  · rename_i t e g hfv
    rw [hfv] at hf
    obtain ⟨fid, x, y, hu, hclo⟩ := hf.cloL_inv
    split at hev
    · rename_i v hvs
      split at hev
      · rename_i l hl
        simp only [Option.bind_eq_some_iff] at hev
        obtain ⟨q, hg, hk⟩ := hev
        rw [hvs] at hargs
        cases hlist : (c.args.map a.eval).toList with
        | nil => rw [hlist] at hargs; cases hargs
        | cons u0 us' =>
          rw [hlist] at hargs
          cases hargs with
          | cons hv0 hrest =>
            cases hrest
            have hav := argOf_sound (X := fun _ => False) h (apart_none v) hv0 hl
            obtain ⟨hbody, hcall⟩ := hclo w (FrX w fun _ => False) l q u0 (fun b hb => ⟨frOf_X (v := .undef) (apart_none _) hb, rfl⟩) (fun b hb => frX_lt hb) hg hav
            have hA : c.args.map a.eval = #[u0] := by
              apply Array.toList_inj.1; rw [hlist]
            rw [← hA] at hcall
            refine call_wp ho hc hdst hu hbody hcall ?_
            rintro en w' ⟨u, rfl, hB, hfl, hown⟩
            refine ⟨u, rfl, ?_⟩
            split at hk
            · rename_i s2 ht
              exact hK _ _ _ (thaw_rel h hd hB (.slv _ _ _ hfl hown) ht) hk
            · cases hk
      · cases hev
    · cases hev
  · cases hev

end Go.Ev
end

section
/- Regions in the text's order. -/
namespace Go.Ev
open Go.RowKit (Below)

variable {P : Program} {w0 w w' : World} {M X : Nat → Prop} {ρ : Nat → Loc} {N : Nat → Loc × Blk} {s s' : St} {a : Act} {Fr : Nat → Prop} {blk : Nat → Option Blk} {C : Cfg}

/-- What is done with a call's result is done at its end alone. -/
def OraNat (ora : Ora) : Prop := ∀ (f : FuncId) (args : List V) (R : Type) (K : Rs → Option R), ora f args R K = (ora f args Rs some).bind K

theorem cond_bind {α β : Type} (b : Bool) (x y : Option α) (f : α → Option β) : (cond b x y).bind f = cond b (x.bind f) (y.bind f) := by cases b <;> rfl

theorem outK_nat (o : Out) {R : Type} (K : St → Option R) : outK o K = (outK o some).bind K := by
  cases o with
  | bad => rfl
  | ok b s => cases b <;> rfl

theorem evMoved_nat (hN : OraNat C.ora) (g : Nat) (b : List V) (ts : List TypeId) (vs : List V) (d : Nat) {R : Type} (K : St → Option R) : evMoved C s g b ts vs d K = (evMoved C s g b ts vs d some).bind K := by
  unfold evMoved
  split
  · split
    · rfl
    · rw [cond_bind]
      congr 1
      rw [hN g _ R, hN g _ St, Option.bind_assoc]
      congr 1
      funext r
      split
      · split
        · split <;> rfl
        · rfl
      · rfl
  · rfl

theorem evCall_nat (hN : OraNat C.ora) (c : Call) (f : Operand) (d : Nat) {R : Type} (K : St → Option R) : evCall C s c f d K = (evCall C s c f d some).bind K := by
  unfold evCall
  cases s.ev f with
  | fn g first cap =>
    simp only []
    cases snapL C.T s first with
    | none => rfl
    | some va =>
      cases snapL C.T s cap with
      | none => rfl
      | some vb =>
        simp only []
        cases memN g C.mv with
        | false =>
          simp only [cond_false]
          split
          · rename_i as _
            rw [hN g _ R, hN g _ St, Option.bind_assoc]
            congr 1
            funext r
            split
            · rfl
            · split <;> rfl
          · rfl
        | true =>
          simp only [cond_true]
          rw [cond_bind]
          congr 1
          split
          · split
            · rw [cond_bind]
              congr 1
              rw [hN g _ R, hN g _ St, Option.bind_assoc]
              congr 1
              funext r
              split
              · split <;> rfl
              · split <;> rfl
            · rfl
          · exact evMoved_nat hN _ _ _ _ _ _
          · rfl
  | cloB t g =>
    simp only []
    split
    · split
      · rw [Option.bind_assoc]; rfl
      · rfl
    · rfl
  | cloL t e g =>
    simp only []
    split
    · split
      · rw [Option.bind_assoc]
        congr 1
        funext q
        split <;> rfl
      · rfl
    · rfl
  | undef => rfl
  | skip => rfl
  | nil => rfl
  | bool _ => rfl
  | int _ _ => rfl
  | str _ => rfl
  | agg _ _ => rfl
  | tup _ => rfl
  | ptr _ _ _ => rfl
  | slw _ _ => rfl
  | sl _ _ _ _ => rfl
  | pvi _ _ _ _ => rfl
  | pvv _ _ _ => rfl
  | pvr _ _ _ => rfl
  | slv _ _ => rfl
  | slr _ _ => rfl

theorem evOp_nat (hN : OraNat C.ora) (o : Oper) {R : Type} (K : St → Option R) : evOp C s o K = (evOp C s o some).bind K := by
  unfold evOp
  split
  · exact outK_nat _ _
  · rw [cond_bind]
    congr 1
    split
    · split
      · rw [cond_bind]; rfl
      · rfl
    · split
      · exact evCall_nat hN _ _ _ _
      · exact outK_nat _ _
    · split <;> rfl
    · exact outK_nat _ _

/-- One operation, with its guard. -/
def evG (C : Cfg) (ops : List Oper) (s : St) (o : Oper) : Option St :=
  match o.guard with
  | none => evOp C s o some
  | some (j, want) => match (ops[j]?).bind (·.dst) with
    | none => none
    | some dj => match s.get dj with
      | .bool b => cond (b == want) (evOp C (s.put dj (.bool want)) o some) (some (putD (s.put dj (.bool (!want))) o.dst .skip))
      | .skip => some (putD s o.dst .skip)
      | _ => none

theorem evOps_cons (hN : OraNat C.ora) (ops : List Oper) (o : Oper) (r : List Oper) {R : Type} (K : St → Option R) :
    evOps C ops (o :: r) s K = (evG C ops s o).bind fun s' => evOps C ops r s' K := by
  simp only [evOps, evG]
  cases o.guard with
  | none => exact evOp_nat hN _ _
  | some jw =>
    obtain ⟨j, want⟩ := jw
    simp only []
    cases (ops[j]?).bind (·.dst) with
    | none => rfl
    | some dj =>
      simp only []
      cases s.get dj with
      | bool b => cases want <;> cases b <;> first | rfl | exact evOp_nat hN _ _
      | _ => rfl

/-! ## One operation -/

theorem asBool_run (b : Bool) (w : World) : (asBool (.bool b)).run P w = .ok b w := rfl

theorem asNil_sound {T : Tab} (h : RelAt P T w0 M N ρ s a w) {d : Nat} (hd : d < s.n) {t : TypeId} {x : Operand} (hs : asNil T s d t x = some s') : Rel P T w0 M N s' (a.put (some d) (a.eval x)) w := by
  unfold asNil at hs
  obtain ⟨h1, hs⟩ := cond_some hs
  have hx : a.eval x = .slice none 0 0 := by
    unfold isNilC at h1
    split at h1
    · rfl
    · cases h1
  split at hs
  · rename_i e hty hb
    obtain ⟨hf, hs⟩ := cond_some hs
    injection hs with hs
    subst hs
    have h1 := h.adopt (d := d) (bk := ⟨e, false, .ints []⟩) (loc' := none) hb hd (Below.refl _ _) (fun b base lim hl => by cases hl) (fun _ => ⟨rfl, rfl, hf⟩)
    rw [hx]
    exact ⟨_, h1.put hd (.slwNil d e _ none (blk_setB_self _ _ _) rfl rfl (upd_self _ _ _) rfl)⟩
  · cases hs

theorem evOp_sound (hT : TabOK P C.T) (hE : EqTabOK P C.T) (hO : OraOK P C.T C.mv C.ora) (h : RelAt P C.T w0 M N ρ s a w) {o : Oper} {R : Type} {K : St → Option R} {r : R} (hev : evOp C s o K = some r)
    {next : Act → World → Prop} {Q : Exit → Act → World → Prop} (hK : ∀ s' a' w', Rel P C.T w0 M N s' a' w' → K s' = some r → next a' w') : o.wp P a w next Q := by
  unfold evOp at hev
  split at hev
  · rename_i hdst
    cases hop : opN C.T s o.op with
    | bad => rw [hop] at hev; cases hev
    | ok b s' =>
      rw [hop] at hev
      simp only [outK] at hev
      obtain ⟨hb, hev⟩ := cond_some hev
      subst hb
      obtain ⟨n, w', h1, h2, h3⟩ := opN_sound hT h hop o rfl
      unfold Oper.wp
      rw [h1]
      rcases h2 with rfl | ⟨v, rfl⟩
      · rw [Oper.upon_skip, hdst]; exact hK _ _ _ h3 hev
      · rw [Oper.upon_value, hdst]; exact hK _ _ _ h3 hev
  · rename_i d hdst
    obtain ⟨hd, hev⟩ := cond_some hev
    have hd : d < s.n := by simpa [Nat.blt_eq] using hd
    have gen : outK (opR C.T s d o.op) K = some r → o.wp P a w next Q := by
      intro hev
      cases hop : opR C.T s d o.op with
      | bad => rw [hop] at hev; cases hev
      | ok b s' =>
        rw [hop] at hev
        simp only [outK] at hev
        obtain ⟨hb, hev⟩ := cond_some hev
        subst hb
        obtain ⟨u, w', h1, h2⟩ := opR_sound hT hE h hd hop o rfl
        unfold Oper.wp
        rw [h1, Oper.upon_value, hdst]
        exact hK _ _ _ h2 hev
    split at hev
    · rename_i c x y hop
      split at hev
      · rename_i t ht
        have hc := h.ev c
        rw [ht] at hc
        have hc := hc.bool_inv
        unfold Oper.wp
        have : (execOp a.eval o).run P w = .ok (.value (if t then a.eval x else a.eval y)) w := by
          simp only [execOp, hop]
          rw [hc]
          rfl
        rw [this, Oper.upon_value, hdst]
        cases t with
        | true => exact hK _ _ _ ⟨ρ, h.put hd (h.ev x)⟩ hev
        | false => exact hK _ _ _ ⟨ρ, h.put hd (h.ev y)⟩ hev
      · cases hev
    · rename_i c hop
      split at hev
      · rename_i f hc
        exact evCall_sound hT hO h hd hop hc hdst hev hK
      · exact gen hev
    · rename_i x hop
      have hrun : (execOp a.eval o).run P w = .ok (.value (a.eval x)) w := by simp only [execOp, hop]; rfl
      unfold Oper.wp
      rw [hrun, Oper.upon_value, hdst]
      split at hev
      · rename_i s2 hs2
        exact hK _ _ _ (asNil_sound h hd hs2) hev
      · exact hK _ _ _ ⟨ρ, h.put hd (h.ev x)⟩ hev
    · exact gen hev

theorem skip_lv {T : Tab} {Fr : Nat → Prop} : LV P T w Fr blk ρ .skip undef := .bv _ _ .skip

theorem RelAt.putSkip {T : Tab} (h : RelAt P T w0 M N ρ s a w) (d : Option Tmp) : RelAt P T w0 M N ρ (putD s d .skip) (a.put d undef) w := by
  cases d with
  | none => exact h
  | some t =>
    rcases Nat.lt_or_ge t s.n with ht | ht
    · exact h.put ht skip_lv
    · have : a.put (some t) undef = a := by
        simp only [Act.put]
        congr 1
        exact Array.setIfInBounds_eq_of_size_le (by rw [h.tn]; exact ht)
      rw [this]
      refine h.same ?_
      have : a.tmps.getD t undef = undef := by simp [Array.getD_eq_getD_getElem?, Array.getElem?_eq_none (by rw [h.tn]; exact ht : a.tmps.size ≤ t)]
      rw [this]
      exact skip_lv

theorem evG_sound (hT : TabOK P C.T) (hE : EqTabOK P C.T) (hO : OraOK P C.T C.mv C.ora) (h : RelAt P C.T w0 M N ρ s a w) {ops : Array Oper} {i : Nat} {o : Oper} (hi : ops[i]? = some o) {s' : St} (hev : evG C ops.toList s o = some s')
    {next : Act → World → Prop} {Q : Exit → Act → World → Prop} (hK : ∀ a' w', Rel P C.T w0 M N s' a' w' → next a' w') : wpOp P ops Q i next a w := by
  unfold wpOp
  simp only [hi]
  unfold evG at hev
  split at hev
  · rename_i hg
    have hw : Region.wanted o (yielded ops a.tmps) = true := by simp [Region.wanted, hg]
    rw [if_pos hw]
    exact .inl (evOp_sound hT hE hO h hev fun s1 a1 w1 h1 h2 => by injection h2 with h2; subst h2; exact hK _ _ h1)
  · rename_i j want hg
    split at hev
    · cases hev
    · rename_i dj hdj
      rw [Array.getElem?_toList] at hdj
      have hlv := h.lv dj
      split at hev
      · rename_i b hb
        rw [hb] at hlv
        have hu := hlv.bool_inv
        have hy : yielded ops a.tmps j = some b := by
          unfold yielded
          rw [hdj]
          have : a.tmps[dj]? = some (.bool b) := by
            rw [Array.getD_eq_getD_getElem?] at hu
            cases hh : a.tmps[dj]? with
            | none => rw [hh] at hu; cases hu
            | some x => rw [hh] at hu; simpa using hu
          simp [this]
        by_cases hbw : b = want
        · subst hbw
          have hw : Region.wanted o (yielded ops a.tmps) = true := by simp [Region.wanted, hg, hy]
          rw [if_pos hw]
          simp only [beq_self_eq_true, cond_true] at hev
          have h1 : RelAt P C.T w0 M N ρ (s.put dj (.bool b)) a w := h.same (by rw [hu]; exact .ofBool b)
          exact .inl (evOp_sound hT hE hO h1 hev fun s1 a1 w1 h1 h2 => by injection h2 with h2; subst h2; exact hK _ _ h1)
        · have hw : ¬ (Region.wanted o (yielded ops a.tmps) = true) := by simp [Region.wanted, hg, hy, hbw]
          rw [if_neg hw]
          have hbf : (b == want) = false := by simpa using hbw
          rw [hbf] at hev
          simp only [cond_false, Option.some.injEq] at hev
          subst hev
          have hbn : b = !want := by cases b <;> cases want <;> simp_all
          have h1 : RelAt P C.T w0 M N ρ (s.put dj (.bool (!want))) a w := h.same (by rw [hu, hbn]; exact .ofBool _)
          exact hK _ _ ⟨ρ, h1.putSkip _⟩
      · rename_i hb
        rw [hb] at hlv
        have hu := hlv.skip_inv
        have hy : yielded ops a.tmps j = none := by
          unfold yielded
          rw [hdj]
          simp only [Option.bind_some]
          rw [Array.getD_eq_getD_getElem?] at hu
          cases hh : a.tmps[dj]? with
          | none => rfl
          | some x =>
            rw [hh] at hu
            simp only [Option.getD_some] at hu
            subst hu
            rfl
        have hw : ¬ (Region.wanted o (yielded ops a.tmps) = true) := by simp [Region.wanted, hg, hy]
        rw [if_neg hw]
        injection hev with hev
        subst hev
        exact hK _ _ ⟨ρ, h.putSkip _⟩
      · cases hev

theorem evOps_sound (hT : TabOK P C.T) (hE : EqTabOK P C.T) (hO : OraOK P C.T C.mv C.ora) (hN : OraNat C.ora) {ops : Array Oper} {R : Type} {K : St → Option R} {r : R} {Q : Exit → Act → World → Prop}
    (hQ : ∀ s' a' w', Rel P C.T w0 M N s' a' w' → K s' = some r → Q .normal a' w') : ∀ (l : List Oper) (i : Nat) (s : St) (a : Act) (w : World), ops.toList.drop i = l → Rel P C.T w0 M N s a w → evOps C ops.toList l s K = some r →
      wpOps P ops Q (List.range' i l.length) a w := by
  intro l
  induction l with
  | nil =>
    intro i s a w _ h hev
    exact hQ _ _ _ h hev
  | cons o l ih =>
    intro i s a w hd h hev
    obtain ⟨ρ, h⟩ := h
    rw [evOps_cons hN, Option.bind_eq_some_iff] at hev
    obtain ⟨s1, h1, h2⟩ := hev
    have hi : ops[i]? = some o := by
      have : (ops.toList.drop i)[0]? = some o := by rw [hd]; rfl
      simpa using this
    have hd' : ops.toList.drop (i + 1) = l := by
      rw [← List.tail_drop, hd]; rfl
    simp only [List.length_cons, List.range'_succ]
    rw [wpOps_cons]
    exact evG_sound hT hE hO h hi h1 fun a' w' hr => ih (i + 1) s1 a' w' hd' hr h2

end Go.Ev
end

