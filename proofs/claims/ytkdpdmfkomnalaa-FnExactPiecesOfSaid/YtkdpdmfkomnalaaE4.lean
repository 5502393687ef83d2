import Derived.Test.YtkdpdmfkomnalaaE3b
set_option linter.unusedVariables false
set_option linter.unusedSimpArgs false
section
/- Calls: what is handed over, by value. -/
namespace Go.Ev
open Go.RowKit (Below)

variable {P : Program} {T : Tab} {w0 w : World} {M : Mo} {ρ : Nat → Loc} {N : Nat → Loc × Blk} {s : St} {a : Act} {Fr : Nat → Prop} {blk : Nat → Option Blk}

/-- What a value leads to is in F. -/
def Sees (ρ : Nat → Loc) (blk : Nat → Option Blk) (F : Nat → Prop) (v : V) : Prop := ∀ k bk b, V.has k v = true → blk k = some bk → (ρ k).owns b → F b

def FrX (w : World) (X : Nat → Prop) (b : Nat) : Prop := b < w.heap.size ∧ ¬ X b

theorem frOf_X {A X : Nat → Prop} (hX : ∀ b, X b → ∃ k bk, blk k = some bk ∧ (ρ k).owns b) {b : Nat} (hb : FrOf A blk ρ w b) : FrX w X b :=
  ⟨hb.lt, fun hx => let ⟨k, bk, h1, h2⟩ := hX b hx; hb.no k bk h1 h2⟩

theorem sees_X (h : RelAt P T w0 M N ρ s a w) {X : Nat → Prop} {v : V} (hX : ∀ b, X b → ∃ k bk, s.blk k = some bk ∧ (ρ k).owns b ∧ V.has k v = false) : Sees ρ s.blk (FrX w X) v := fun k bk b hv hk hb =>
  ⟨(h.own k bk b hk hb).1, fun hx => by
    obtain ⟨j, bj, h1, h2, h3⟩ := hX b hx
    have := h.one k j bk bj b hk h1 hb h2
    subst this
    rw [hv] at h3
    cases h3⟩

theorem Sees.sub {F : Nat → Prop} {v v' : V} (h : Sees ρ blk F v) (hs : ∀ k, V.has k v' = true → V.has k v = true) : Sees ρ blk F v' := fun k bk b hv => h k bk b (hs k hv)

theorem noRefs_has {v : V} (h : v.refs = false) (k : Nat) : V.has k v = false := by
  cases v <;> first | rfl | (simp [V.refs] at h)

theorem sees_noRefs {F : Nat → Prop} {v : V} (h : v.refs = false) : Sees ρ blk F v := fun k bk b hv => by rw [noRefs_has h k] at hv; cases hv

theorem blocks_F {F : Nat → Prop} {v : V} (hF : ∀ b, FrOf M.a s.blk ρ w b → F b) (hX : Sees ρ s.blk F v) {b : Nat} (hb : FrOf M.a s.blk ρ w b ∨ Blocks ρ s.blk v b) : F b := by
  rcases hb with hb | ⟨k, bk, h1, h2, h3⟩
  · exact hF b hb
  · exact hX k bk b h1 h2 h3

theorem BV.mono {Fr' : Nat → Prop} {v : V} {u : Value} (h : BV P T w Fr v u) (hF : ∀ b, Fr b → Fr' b) : BV P T w Fr' v u := h.later fun b hb => ⟨hF b hb, rfl⟩

theorem rows_bv {F : Nat → Prop} (hF : ∀ b, FrOf M.a s.blk ρ w b → F b) (h : RelAt P T w0 M N ρ s a w) {k : Nat} {e : TypeId} {u : Value} (hX : Sees ρ s.blk F (.slw k e)) (hv : LV P T w (FrOf M.a s.blk ρ w) s.blk ρ (.slw k e) u) {bk : Blk} (hk : s.blk k = some bk) {xss : List (List Int)}
    (hd : bk.d = .rows xss ∨ ∃ e', bk.d = .orows e' xss) : BV P T w F (.slr e xss) u := by
  have hO := h.ob k bk hk
  cases hv with
  | bv _ _ hb => cases hb with
    | flat _ _ hb => exact hb.elim
  | slw k e bk' b base lim n cap h1 h2 h3 h4 h5 h6 h7 h8 =>
    rw [hk] at h1
    injection h1 with h1
    subst h1
    rw [h4] at hO
    obtain ⟨e0, r0, d0⟩ := bk
    simp only at h2 h3 hd h5
    subst h2
    have hb0 : F b := hX k _ b (by simp [V.has]) hk (owns_main h4)
    rcases hd with hd | ⟨e', hd⟩
    · subst hd
      obtain ⟨arr, g1, g2, g3, g4, e', g5, g6⟩ := hO
      have hn : n = xss.length := by simp only [D.len] at h5; rw [g4, Nat.mul_one] at h5; exact h5.symm
      refine .slr e0 e' xss _ n cap (fun j => arr.getD (base + j) undef) b base g5 g3 g4 hn (.inr ⟨rfl, hb0, fun j hj => ?_, fun j hj => ?_⟩)
      · obtain ⟨x, hx, _⟩ := g6 j (hn ▸ hj)
        rw [rowCell g1, hx]
        simp [Array.getD_eq_getD_getElem?, hx]
      · obtain ⟨x, hx, hsv⟩ := g6 j (hn ▸ hj)
        have : arr.getD (base + j) undef = x := by simp [Array.getD_eq_getD_getElem?, hx]
        rw [this]
        exact hsv.mono hF
    · subst hd
      obtain ⟨arr, g1, g2, ⟨g3, g4, g5, gf⟩, g6, _⟩ := hO
      have hn : n = xss.length := by simp only [D.len] at h5; rw [g4, Nat.mul_one] at h5; exact h5.symm
      refine .slr e0 e' xss _ n cap (fun j => arr.getD (base + j) undef) b base g5 g3 g4 hn (.inr ⟨rfl, hb0, fun j hj => ?_, fun j hj => ?_⟩)
      · obtain ⟨x, hx, _⟩ := g6 j (hn ▸ hj)
        rw [rowCell g1, hx]
        simp [Array.getD_eq_getD_getElem?, hx]
      · obtain ⟨x, hx, ad, n', cap', rfl, q1, q2, q3, q4⟩ := g6 j (hn ▸ hj)
        have : arr.getD (base + j) undef = .slice ad n' cap' := by simp [Array.getD_eq_getD_getElem?, hx]
        rw [this]
        refine ⟨gf, ad, n', cap', rfl, q1, q2, ?_⟩
        rcases q4 with ⟨q4, _⟩ | ⟨b', o', lim', arr', r1, r2, r3, r4, r5, r6⟩
        · exact .inl q4
        · refine .inr ⟨b', o', r2, hX k _ b' (by simp [V.has]) hk (owns_kid h4 r1), fun i hi => ?_⟩
          rw [rowCell r4, r6 i hi, Nat.zero_add]
  | slwNil k e bk' ad h1 h2 h3 h4 h5 =>
    rw [hk] at h1
    injection h1 with h1
    subst h1
    rw [h4] at hO
    obtain ⟨e0, r0, d0⟩ := bk
    simp only at h2 h3 hd h5
    subst h2
    obtain ⟨_, _, g3⟩ := hO
    rcases hd with hd | ⟨e', hd⟩
    · subst hd
      obtain ⟨g3, g4, e', g5⟩ := g3
      exact .slr e0 e' xss _ 0 0 (fun _ => undef) 0 0 g5 g3 g4 h5.symm (.inl rfl)
    · subst hd
      obtain ⟨g3, g4, g5, _⟩ := g3
      exact .slr e0 e' xss _ 0 0 (fun _ => undef) 0 0 g5 g3 g4 h5.symm (.inl rfl)

theorem contents_e {x : V} {e e1 : TypeId} {d : D} (hx : (∃ k, x = .slw k e) ∨ (∃ k off n, x = .sl k off n e) ∨ (∃ k i, x = .row k i e)) (hc : contents T s x = some (e1, d)) : e1 = e := by
  rcases hx with ⟨k, rfl⟩ | ⟨k, off, n, rfl⟩ | ⟨k, i, rfl⟩
  · simp only [contents] at hc
    split at hc
    · injection hc with hc; injection hc with h1 _; exact h1.symm
    · cases hc
  · simp only [contents] at hc
    split at hc
    · injection hc with hc; injection hc with h1 _; exact h1.symm
    · cases hc
  · simp only [contents] at hc
    split at hc
    · obtain ⟨_, hc⟩ := cond_some hc
      injection hc with hc; injection hc with h1 _; exact h1.symm
    · cases hc

theorem snap1_sound (h : RelAt P T w0 M N ρ s a w) {F : Nat → Prop} {v v' : V} {u : Value} (hF : ∀ b, FrOf M.a s.blk ρ w b → F b) (hX : Sees ρ s.blk F v) (hv : LV P T w (FrOf M.a s.blk ρ w) s.blk ρ v u) (hs : snap1 T s v = some v') : BV P T w F v' u := by
  have triv : ∀ {x : V}, BV P T w (FrOf M.a s.blk ρ w) x u → BV P T w F x u := fun hx => hx.mono hF
  cases v with
  | bool b => injection hs with hs; subst hs; exact .flat _ _ hv.bool_inv
  | int k n => injection hs with hs; subst hs; exact .flat _ _ hv.int_inv
  | str b => injection hs with hs; subst hs; exact .flat _ _ hv.str_inv
  | agg t l => injection hs with hs; subst hs; exact .flat _ _ hv.agg_inv
  | slv e l => injection hs with hs; subst hs; exact triv (.slv _ _ _ hv.slv_inv)
  | slr e l => injection hs with hs; subst hs; exact triv hv.slr_inv
  | cloB e g => injection hs with hs; subst hs; exact triv (.cloB _ _ _ hv.cloB_inv)
  | cloL e e' g => injection hs with hs; subst hs; exact triv (.cloL _ _ _ _ hv.cloL_inv)
  | pvi t0 l off t =>
    injection hs with hs; subst hs
    obtain ⟨b, o, h1, h2, h3, h4, h5, rfl⟩ := hv.pvi_inv
    exact triv (.pvi _ _ _ _ b o h1 h2 h3 h4 h5)
  | pvv vs off t =>
    injection hs with hs; subst hs
    obtain ⟨b, o, us, h1, h2, h3, rfl⟩ := hv.pvv_inv
    exact triv (.pvv _ _ _ b o us h1 h2 h3)
  | pvo cs off t =>
    injection hs with hs; subst hs
    obtain ⟨b, o, h1, h2, rfl⟩ := hv.pvo_inv
    exact triv (.pvo _ _ _ b o h1 h2)
  | mapv t es =>
    injection hs with hs; subst hs
    obtain ⟨b, h1, h2, rfl⟩ := hv.mapv_inv
    exact triv (.mapv _ _ b h1 h2)
  | reco t cs =>
    injection hs with hs; subst hs
    obtain ⟨arr, rfl, h0, h1, h2, h3⟩ := hv.reco_inv
    exact triv (.reco _ _ arr h0 h1 h2 h3)
  | slw k e =>
    simp only [snap1] at hs
    split at hs
    · rename_i e1 l hc
      injection hs with hs; subst hs
      have hsv := (contents_SV h hv hc).mono (Fr' := F) fun b hb => blocks_F hF hX hb
      rw [contents_e (.inl ⟨k, rfl⟩) hc] at hsv
      exact .slv _ _ _ hsv
    · rename_i e1 xss hc
      injection hs with hs; subst hs
      simp only [contents] at hc
      split at hc
      · rename_i bk hk
        injection hc with hc
        injection hc with _ hd
        exact rows_bv hF h hX hv hk (.inl hd)
      · cases hc
    · rename_i e1 e2 xss hc
      injection hs with hs; subst hs
      simp only [contents] at hc
      split at hc
      · rename_i bk hk
        injection hc with hc
        injection hc with _ hd
        exact rows_bv hF h hX hv hk (.inr ⟨e2, hd⟩)
      · cases hc
    · cases hs
  | sl k off n e =>
    simp only [snap1] at hs
    split at hs
    · rename_i e1 l hc
      injection hs with hs; subst hs
      have hsv := (contents_SV h hv hc).mono (Fr' := F) fun b hb => blocks_F hF hX hb
      rw [contents_e (.inr (.inl ⟨k, off, n, rfl⟩)) hc] at hsv
      exact .slv _ _ _ hsv
    · cases hs
  | row k i e =>
    simp only [snap1] at hs
    split at hs
    · rename_i e1 l hc
      injection hs with hs; subst hs
      have hsv := (contents_SV h hv hc).mono (Fr' := F) fun b hb => blocks_F hF hX hb
      rw [contents_e (.inr (.inr ⟨k, i, rfl⟩)) hc] at hsv
      exact .slv _ _ _ hsv
    · cases hs
  | ptr k off t =>
    obtain ⟨bk, b, base, lim, h1, h2, h3, rfl⟩ := hv.ptr_inv
    simp only [snap1, h1] at hs
    have hO := h.ob k bk h1
    rw [h2] at hO
    have hb : F b := hX k bk b (by simp [V.has]) h1 (owns_main h2)
    obtain ⟨e0, r, d⟩ := bk
    cases d with
    | ints l =>
      injection hs with hs; subst hs
      have hcells := ob_cells hO rfl h3
      simp only [TyAt] at h3
      obtain ⟨t1, t2, t3, t4, t5⟩ := h3
      refine .pvi _ l off t b (base + off) hb t1 t3 hcells ?_
      intro e _
      cases r with
      | false => simp [Blk.root] at e
      | true => simp only [Blk.root, cond_true, Option.some.injEq] at e; subst e; exact t5 rfl
    | vals vs =>
      injection hs with hs; subst hs
      obtain ⟨arr, g1, g2, g3⟩ := hO
      refine .pvv vs off t b (base + off) (fun j => arr.getD (base + (off + j)) undef) hb (fun j v hj => ?_) (fun j v hj => ?_)
      · obtain ⟨x, hx, _⟩ := g3 (off + j) v hj
        rw [rowCell g1, Nat.add_assoc, hx]
        simp [Array.getD_eq_getD_getElem?, hx]
      · obtain ⟨x, hx, hbv⟩ := g3 (off + j) v hj
        have : arr.getD (base + (off + j)) undef = x := by simp [Array.getD_eq_getD_getElem?, hx]
        rw [this]
        exact hbv.mono hF
    | obj cs =>
      injection hs with hs; subst hs
      obtain ⟨arr, g1, g2, g3, g4⟩ := hO
      refine .pvo cs off t b (base + off) hb fun j oc hj => ?_
      obtain ⟨x, hx, ho, hc⟩ := g3 (off + j) oc hj
      refine ⟨x, by rw [rowCell g1, Nat.add_assoc]; exact hx, ho, ?_⟩
      cases oc with
      | m tt es =>
        obtain ⟨b', q, c1, c2, c3⟩ := hc
        exact ⟨b', c2, hX k _ b' (by simp [V.has]) h1 (owns_kid h2 c1), c3⟩
      | sl e l => exact SV.mono hc hF
      | _ => exact hc
    | _ => simp at hs
  | mapk k t =>
    obtain ⟨bk, b, base, lim, h1, h2, h3, h4, rfl⟩ := hv.mapk_inv
    obtain ⟨e0, r, d⟩ := bk
    have hO := h.ob k _ h1
    rw [h4] at hO
    simp only at h2
    subst h2
    simp only [snap1, mapOf, h1] at hs
    cases d with
    | mapI es =>
      injection hs with hs; subst hs
      exact .mapv _ _ b (hX k _ b (by simp [V.has]) h1 (owns_main h4)) hO
    | _ => simp at hs
  | mapc k i t =>
    obtain ⟨bk, cs, es, b0, base, b, lim, q, h1, h2, h3, h4, h5, rfl⟩ := hv.mapc_inv
    obtain ⟨e0, r, d⟩ := bk
    simp only at h2
    subst h2
    have hO := h.ob k _ h1
    rw [h4] at hO
    obtain ⟨arr, g1, g2, g3, g4⟩ := hO
    obtain ⟨x, hx, ho, b', q', c1, c2, c3⟩ := g3 i _ h3
    rw [h5] at c1
    injection c1 with c1
    injection c1 with c1 _
    subst c1
    simp only [snap1, mapOf, h1, rdo_get h3] at hs
    injection hs with hs; subst hs
    exact .mapv _ _ b (hX k _ b (by simp [V.has]) h1 (owns_kid h4 h5)) c3
  | _ => simp [snap1] at hs

/-- Two lists, part by part. -/
inductive All2 {α β : Type} (R : α → β → Prop) : List α → List β → Prop
  | nil : All2 R [] []
  | cons {x : α} {y : β} {xs : List α} {ys : List β} : R x y → All2 R xs ys → All2 R (x :: xs) (y :: ys)

theorem All2.append {α β : Type} {R : α → β → Prop} {xs xs' : List α} {ys ys' : List β} (h : All2 R xs ys) (h' : All2 R xs' ys') : All2 R (xs ++ xs') (ys ++ ys') := by
  induction h with
  | nil => exact h'
  | cons h1 _ ih => exact .cons h1 ih

theorem All2.length {α β : Type} {R : α → β → Prop} {xs : List α} {ys : List β} (h : All2 R xs ys) : xs.length = ys.length := by
  induction h with
  | nil => rfl
  | cons _ _ ih => simp [ih]

theorem All2.mono {α β : Type} {R R' : α → β → Prop} {xs : List α} {ys : List β} (h : All2 R xs ys) (hr : ∀ x y, R x y → R' x y) : All2 R' xs ys := by
  induction h with
  | nil => exact .nil
  | cons h1 _ ih => exact .cons (hr _ _ h1) ih

theorem All2.of_get {α : Type} {R : α → Value → Prop} : ∀ (xs : List α) (ys : List Value), ys.length = xs.length → (∀ (i : Nat) (x : α), xs[i]? = some x → R x (ys.getD i undef)) → All2 R xs ys := by
  intro xs
  induction xs with
  | nil => intro ys h _; cases ys with
    | nil => exact .nil
    | cons y r => simp at h
  | cons x xs ih =>
    intro ys h hr
    cases ys with
    | nil => simp at h
    | cons y ys =>
      refine .cons (by simpa using hr 0 x rfl) (ih ys (by simpa using h) fun i x hx => ?_)
      simpa using hr (i + 1) x (by simpa using hx)

theorem All2.get {α : Type} {R : α → Value → Prop} {xs : List α} {ys : List Value} (h : All2 R xs ys) : ∀ (i : Nat) (x : α), xs[i]? = some x → R x (ys.getD i undef) := by
  induction h with
  | nil => intro i x hx; simp at hx
  | cons h1 _ ih =>
    intro i x hx
    cases i with
    | zero => simp at hx; subst hx; simpa using h1
    | succ i => simpa using ih i x (by simpa using hx)

theorem All2.map {α β γ : Type} {R : β → γ → Prop} (f : α → β) (g : α → γ) (xs : List α) (h : ∀ x, R (f x) (g x)) : All2 R (xs.map f) (xs.map g) := by
  induction xs with
  | nil => exact .nil
  | cons x xs ih => exact .cons (h x) ih

theorem snapL_sound (h : RelAt P T w0 M N ρ s a w) {F : Nat → Prop} (hF : ∀ b, FrOf M.a s.blk ρ w b → F b) {vs : List V} {us : List Value} (hv : All2 (LV P T w (FrOf M.a s.blk ρ w) s.blk ρ) vs us) : ∀ (vs' : List V), (∀ v ∈ vs, Sees ρ s.blk F v) →
    snapL T s vs = some vs' → All2 (BV P T w F) vs' us := by
  induction hv with
  | nil => intro vs' _ hs; injection hs with hs; subst hs; exact .nil
  | cons h1 _ ih =>
    intro vs' hX hs
    simp only [snapL] at hs
    split at hs
    · rename_i a b ha hb
      injection hs with hs; subst hs
      exact .cons (snap1_sound h hF (hX _ (by simp)) h1 ha) (ih b (fun v hv => hX v (by simp [hv])) hb)
    · cases hs

end Go.Ev
end

section
/- Calls: what a call gives; closures. -/
namespace Go.Ev
open Go.RowKit (Below)

variable {P : Program} {T : Tab} {w0 w w' : World} {M : Mo} {ρ : Nat → Loc} {N : Nat → Loc × Blk} {s : St} {a : Act} {Fr : Nat → Prop} {blk : Nat → Option Blk}

def isOwn : V → Bool
  | .ownR _ _ _ | .ownM _ _ | .ownO _ _ => true
  | _ => false

/-- Results by value. -/
inductive RV (P : Program) (T : Tab) (w : World) (base : Nat) (M Fr : Nat → Prop) : V → Value → Prop
  | flat (v : V) (u : Value) : FV T v u → RV P T w base M Fr v u
  | slv (e : TypeId) (l : List Int) (u : Value) : isFlatTy T e = true → OwnS T w base M e (.ints l) u (IntsIn (T.at e).ks l) → RV P T w base M Fr (.slv e l) u
  | own (v : V) (bk : Blk) (loc : Loc) (u : Value) : isOwn v = true → (∀ d, ∃ x, thawV d v = some (x, some bk) ∧ ∀ Fr' blk ρ, blk d = some bk → ρ d = loc → LV P T w Fr' blk ρ x u) → OB P T w Fr bk loc →
      (∀ b, loc.owns b → b < w.heap.size ∧ (base ≤ b ∨ M b)) → (∀ b, Fr b → ¬ loc.owns b) → RV P T w base M Fr v u
  | tup (vs : List V) (arr : Array Value) : All2 (RV P T w base M Fr) vs arr.toList → RV P T w base M Fr (.tup vs) (.tuple arr)

/-- But for the blocks of M, what stood stands. -/
structure But (w w' : World) (M : Nat → Prop) : Prop where
  os : w'.os = w.os
  tape : w'.tape = w.tape
  output : w'.output = w.output
  size : w.heap.size ≤ w'.heap.size
  block : ∀ b, b < w.heap.size → ¬ M b → w'.heap[b]? = w.heap[b]?

/-- The slice that is handed over to be written to. -/
structure HeadIn (P : Program) (T : Tab) (w : World) (Fr : Nat → Prop) (e : TypeId) (d : D) (loc : Loc) (u : Value) : Prop where
  ob : OB P T w Fr ⟨e, false, d⟩ loc
  lt : ∀ b, loc.owns b → b < w.heap.size
  lv : LV P T w Fr (fun j => if j = 0 then some ⟨e, false, d⟩ else none) (fun _ => loc) (.slw 0 e) u

/-- A pointer to a whole variable that is handed over to be written through. -/
def PtrIn (P : Program) (T : Tab) (w : World) (Fr : Nat → Prop) (t : TypeId) (d : D) (loc : Loc) (u : Value) : Prop :=
  ∃ b base lim, loc = some (b, base, lim) ∧ u = .pointer (some ⟨b, base, none⟩) ∧ OB P T w Fr ⟨t, true, d⟩ loc ∧ (∀ b', loc.owns b' → b' < w.heap.size) ∧ TyAt T ⟨t, true, d⟩ 0 t

def MIn (P : Program) (T : Tab) (w : World) (Fr : Nat → Prop) (loc : Nat → Loc) : Nat → List V → List Value → Prop
  | _, [], [] => True
  | i, v :: vs, u :: us => (match isM v with | some (t, d) => PtrIn P T w Fr t d (loc i) u | none => BV P T w Fr v u) ∧ MIn P T w Fr loc (i + 1) vs us
  | _, _, _ => False

def MAny (loc : Nat → Loc) (ms : List (Nat × TypeId × D)) (b : Nat) : Prop := ∃ m ∈ ms, (loc m.1).owns b

def DistM (loc : Nat → Loc) : List (Nat × TypeId × D) → Prop
  | [] => True
  | m :: r => (∀ m' ∈ r, ∀ b, (loc m.1).owns b → ¬ (loc m'.1).owns b) ∧ DistM loc r

def MOut (P : Program) (T : Tab) (w : World) (Fr : Nat → Prop) (loc : Nat → Loc) : List (Nat × TypeId × D) → List D → Prop
  | [], [] => True
  | m :: r, d :: q => m.2.2.alike d ∧ OB P T w Fr ⟨m.2.1, true, d⟩ (loc m.1) ∧ MOut P T w Fr loc r q
  | _, _ => False

/-- What stands still behind a call, of what the callee's values lead to. -/
def Still (w w' : World) (Fr M Fr' : Nat → Prop) : Prop := ∀ b, Fr' b → b < w'.heap.size ∧ (Fr b ∨ w.heap.size ≤ b ∨ M b)

def SoundRs (P : Program) (T : Tab) (f : FuncId) (mvd : Bool) (args : List V) (rs : Rs) : Prop := ∀ (w : World) (Fr : Nat → Prop) (us : Array Value), (∀ b, Fr b → b < w.heap.size) →
  match mvd with
  | false => All2 (BV P T w Fr) args us.toList → Calls P f us w fun en w' => ∃ u Fr', en = .returned u ∧ Below w.heap.size w w' ∧ Still w w' Fr (fun _ => False) Fr' ∧ RV P T w' w.heap.size (fun _ => False) Fr' rs.1 u ∧ rs.2 = none
  | true => match headSlv args with
    | some (e, d, vs) => ∀ loc u0 us', us.toList = u0 :: us' → (∀ b, Fr b → ¬ loc.owns b) → HeadIn P T w Fr e d loc u0 → All2 (BV P T w Fr) vs us' →
      Calls P f us w fun en w' => ∃ u Fr', en = .returned u ∧ But w w' loc.owns ∧ Still w w' Fr loc.owns Fr' ∧ RV P T w' w.heap.size loc.owns Fr' rs.1 u ∧ ∀ q, rs.2 = some q → ∃ d', q = [d'] ∧ d.alike d' ∧ OB P T w' Fr' ⟨e, false, d'⟩ loc
    | none => ∀ loc, MIn P T w Fr loc 0 args us.toList → DistM loc (marks 0 args) → (∀ b, Fr b → ¬ MAny loc (marks 0 args) b) →
      Calls P f us w fun en w' => ∃ u Fr', en = .returned u ∧ But w w' (MAny loc (marks 0 args)) ∧ Still w w' Fr (MAny loc (marks 0 args)) Fr' ∧ RV P T w' w.heap.size (MAny loc (marks 0 args)) Fr' rs.1 u ∧
        ∀ q, rs.2 = some q → (∀ b, Fr' b → ¬ MAny loc (marks 0 args) b) ∧ MOut P T w' Fr' loc (marks 0 args) q

def OraOK (P : Program) (T : Tab) (mv : List Nat) (ora : Ora) : Prop := ∀ (f : FuncId) (args : List V) (R : Type) (K : Rs → Option R) (r : R), ora f args R K = some r →
  HasBody P f ∧ ∃ rs, K rs = some r ∧ SoundRs P T f (memN f mv) args rs

/-! ## Closures -/

theorem rds_all (l : List Int) : ∀ (n : Nat), l.length = n → rds l 0 0 n = l := by
  intro n hn
  apply List.ext_getElem?
  intro i
  rcases Nat.lt_or_ge i n with hi | hi
  · have := rd_rds l 0 n 0 i hi
    have h1 : i < (rds l 0 0 n).length := by rw [rds_length]; exact hi
    have h2 : i < l.length := by omega
    simp only [rd, List.getD_eq_getElem?_getD, Nat.zero_add] at this
    rw [List.getElem?_eq_getElem h1, List.getElem?_eq_getElem h2] at this ⊢
    simpa using this
  · rw [List.getElem?_eq_none (by rw [rds_length]; exact hi), List.getElem?_eq_none (by omega)]

theorem av_bv (_hT : TabOK P T) {t : TypeId} {l : List Int} {u : Value} (h : AV T w Fr t l u) : BV P T w Fr (unflat T t l) u := by
  unfold AV at h
  unfold unflat
  cases hd : (T.at t).d with
  | slice e => rw [hd] at h; exact .slv _ _ _ h
  | sc sk =>
    rw [hd] at h
    obtain ⟨_, n, rfl, rfl⟩ := h
    simp only [loadI, hd]
    exact .flat _ _ (mk_FV sk n)
  | _ =>
    rw [hd] at h
    have hl := h.2.2.1
    refine .flat _ _ ?_
    simp only [loadI, hd]
    have : (cond (Nat.ble (T.at t).size 8) (rds l 0 0 (T.at t).size) (cond (rootEq (some t) t 0) l (win l 0 (T.at t).size))) = l := by
      cases Nat.ble (T.at t).size 8 with
      | true => exact rds_all l _ hl
      | false => simp [rootEq]
    rw [this]
    exact h

theorem argOf_sound (h : RelAt P T w0 M N ρ s a w) {F : Nat → Prop} (hF : ∀ b, FrOf M.a s.blk ρ w b → F b) {t : TypeId} {v : V} {l : List Int} {u : Value} (hX : Sees ρ s.blk F v) (hv : LV P T w (FrOf M.a s.blk ρ w) s.blk ρ v u) (hs : argOf T s t v = some l) : AV T w F t l u := by
  unfold argOf at hs
  unfold AV
  cases hd : (T.at t).d with
  | slice e =>
    simp only [hd] at hs
    split at hs
    · rename_i e' l' hc
      obtain ⟨h1, h2⟩ := cond_some hs
      have h1 := Nat.eq_of_beq_eq_true h1
      injection h2 with h2
      subst h1 h2
      exact (contents_SV h hv hc).mono fun b hb => blocks_F hF hX hb
    · cases hs
  | sc sk =>
    simp only [hd] at hs
    obtain ⟨h1, h2⟩ := cond_some hs
    obtain ⟨h1, h3⟩ := and_true h1
    refine ⟨h3, ?_⟩
    have hfv := flat_FV hv h2
    cases v with
    | int k n =>
      simp only [fits, hd] at h1
      cases sk with
      | int j =>
        have := sameKind_eq h1
        subst this
        simp only [V.flat, Option.some.injEq] at h2
        exact ⟨n, h2.symm, hfv⟩
      | bool => cases h1
    | bool b =>
      simp only [fits, hd] at h1
      cases sk with
      | int j => cases h1
      | bool =>
        simp only [V.flat, Option.some.injEq] at h2
        refine ⟨cond b 1 0, h2.symm, ?_⟩
        simp only [FV] at hfv
        subst hfv
        cases b <;> rfl
    | agg t' l' =>
      simp only [fits] at h1
      have := Nat.eq_of_beq_eq_true h1
      subst this
      have := hfv.1
      rw [hd] at this
      cases this
    | _ => simp [V.flat] at h2
  | _ =>
    simp only [hd] at hs
    obtain ⟨h1, h2⟩ := cond_some hs
    obtain ⟨h1, h3⟩ := and_true h1
    have hfv := flat_FV hv h2
    cases v with
    | int k n => simp [fits, hd] at h1
    | bool b => simp [fits, hd] at h1
    | agg t' l' =>
      simp only [fits] at h1
      have := Nat.eq_of_beq_eq_true h1
      subst this
      simp only [V.flat, Option.some.injEq] at h2
      subst h2
      exact hfv
    | _ => simp [V.flat] at h2

theorem LV.fn_inv {f : FuncId} {first cap : List V} {u : Value} {Fr : Nat → Prop} (h : LV P T w Fr blk ρ (.fn f first cap) u) :
    ∃ x y : Array Value, u = .func (.func f) x y ∧ All2 (LV P T w Fr blk ρ) first x.toList ∧ All2 (LV P T w Fr blk ρ) cap y.toList := by
  cases h with
  | bv _ _ h => cases h with
    | flat _ _ h => exact h.elim
  | fn f first cap x y h1 h2 h3 h4 =>
    refine ⟨x, y, rfl, .of_get _ _ (by simpa using h1) fun i v hv => ?_, .of_get _ _ (by simpa using h2) fun i v hv => ?_⟩
    · have := h3 i v hv; simpa [Array.getD_eq_getD_getElem?, List.getD_eq_getElem?_getD] using this
    · have := h4 i v hv; simpa [Array.getD_eq_getD_getElem?, List.getD_eq_getElem?_getD] using this

theorem sees_fn {F : Nat → Prop} {f : FuncId} {first cap : List V} (h : Sees ρ blk F (.fn f first cap)) : (∀ v ∈ first, Sees ρ blk F v) ∧ (∀ v ∈ cap, Sees ρ blk F v) := by
  have key : ∀ (vs : List V) (v : V) (k : Nat), v ∈ vs → V.has k v = true → V.hasL k vs = true := by
    intro vs v k hv hh
    obtain ⟨i, hi⟩ := List.mem_iff_getElem?.1 hv
    exact hasL_of vs i v k hi hh
  exact ⟨fun v hv => h.sub fun k hk => by simp [V.has, key _ _ k hv hk], fun v hv => h.sub fun k hk => by simp [V.has, key _ _ k hv hk]⟩

theorem snap_sound {mv : List Nat} {lo : Lo} {ora : Ora} (hT : TabOK P T) (hO : OraOK P T mv ora) (h : RelAt P T w0 M N ρ s a w) {F : Nat → Prop} (hF : ∀ b, FrOf M.a s.blk ρ w b → F b) {t : TypeId} {v v' : V} {u : Value} (hX : Sees ρ s.blk F v)
    (hv : LV P T w (FrOf M.a s.blk ρ w) s.blk ρ v u) (hs : snap ⟨T, mv, ora, lo⟩ s t v = some v') : BV P T w F v' u := by
  cases v with
  | nil =>
    simp only [snap] at hs
    have hu := hv.nil_inv
    subst hu
    split at hs
    · rename_i e hd
      obtain ⟨h1, h2⟩ := cond_some hs
      injection h2 with h2
      subst h2
      exact .slv _ _ _ ⟨h1, none, 0, 0, rfl, by simp, Nat.le_refl _, .inl rfl⟩
    · cases hs
  | fn f first cap =>
    simp only [snap] at hs
    have hmv : memN f mv = false := by
      cases hm : memN f mv with
      | false => rfl
      | true => rw [hm] at hs; cases hs
    rw [hmv] at hs
    simp only [cond_false] at hs
    obtain ⟨x, y, rfl, hx, hy⟩ := hv.fn_inv
    obtain ⟨a1, a2⟩ := sees_fn hX
    split at hs
    · rename_i vx vy ex ey
      have bx := snapL_sound h hF hx _ a1 ex
      have by' := snapL_sound h hF hy _ a2 ey
      split at hs
      · rename_i p hd
        injection hs with hs; subst hs
        refine .cloB _ _ _ ⟨f, x, y, rfl, ?_⟩
        intro w' Fr' l r arg hl hF hg harg
        obtain ⟨hbody, rs, hk, hsound⟩ := hO _ _ _ _ _ hg
        refine ⟨hbody, ?_⟩
        rw [hmv] at hsound
        have hb : All2 (BV P T w' Fr') (vx ++ (unflat T p l :: vy)) (x ++ #[arg] ++ y).toList := by
          simp only [Array.toList_append, List.append_assoc, List.cons_append, List.nil_append]
          exact (bx.mono fun v u hb => hb.later hl).append (.cons (av_bv hT harg) (by'.mono fun v u hb => hb.later hl))
        refine (hsound w' Fr' _ hF hb).mono ?_
        rintro e w'' ⟨u, Fr2, rfl, hB, _, hR, _⟩
        refine ⟨?_, hB⟩
        obtain ⟨r1, r2⟩ := rs
        cases r1 <;> cases r2 <;> simp [kB] at hk
        subst hk
        cases hR with
        | flat _ _ hf => simp only [FV] at hf; rw [hf]
        | own _ _ _ _ ho => cases ho
      · rename_i p q hd
        injection hs with hs; subst hs
        refine .cloL _ _ _ _ ⟨f, x, y, rfl, ?_⟩
        intro w' Fr' l r arg hl hF hg harg
        obtain ⟨hbody, rs, hk, hsound⟩ := hO _ _ _ _ _ hg
        refine ⟨hbody, ?_⟩
        rw [hmv] at hsound
        have hb : All2 (BV P T w' Fr') (vx ++ (unflat T p l :: vy)) (x ++ #[arg] ++ y).toList := by
          simp only [Array.toList_append, List.append_assoc, List.cons_append, List.nil_append]
          exact (bx.mono fun v u hb => hb.later hl).append (.cons (av_bv hT harg) (by'.mono fun v u hb => hb.later hl))
        refine (hsound w' Fr' _ hF hb).mono ?_
        rintro e w'' ⟨u, Fr2, rfl, hB, _, hR, _⟩
        obtain ⟨r1, r2⟩ := rs
        cases r1 <;> cases r2 <;> simp [kL] at hk
        rename_i e1 l1
        obtain ⟨hk, hk2⟩ := cond_some hk
        have hk := Nat.eq_of_beq_eq_true hk
        injection hk2 with hk2
        subst hk hk2
        cases hR with
        | flat _ _ hf => exact hf.elim
        | slv _ _ _ h1 h2 => exact ⟨u, rfl, hB, h1, h2⟩
        | own _ _ _ _ ho => cases ho
      · cases hs
    · cases hs
  | _ => exact snap1_sound h hF hX hv hs

end Go.Ev
end

section
/- Calls: what comes back. -/
namespace Go.Ev
open Go.RowKit (Below)

variable {P : Program} {T : Tab} {w0 w w' : World} {M : Mo} {X Y Fr' : Nat → Prop} {ρ : Nat → Loc} {N : Nat → Loc × Blk} {s : St} {a : Act} {Fr : Nat → Prop} {blk : Nat → Option Blk}

/-- Contents that lead to nobody else's. -/
def D.free : D → Bool
  | .ints _ | .orows _ _ | .mapI _ | .mapS _ => true
  | _ => false

theorem obFree {w : World} {Fr Fr' : Nat → Prop} {bk : Blk} {loc : Loc} (hd : bk.d.free = true) (h : OB P T w Fr bk loc) : OB P T w Fr' bk loc := by
  obtain ⟨e, r, d⟩ := bk
  cases loc with
  | none => exact h
  | some x => cases d <;> first | exact h | cases hd

theorem OB.mono {w : World} {Fr Fr' : Nat → Prop} {bk : Blk} {loc : Loc} (h : OB P T w Fr bk loc) (hF : ∀ b, Fr b → Fr' b) : OB P T w Fr' bk loc := h.later (fun b hb => ⟨hF b hb, rfl⟩) fun _ _ => rfl

/-- A result's own part becomes block d; R: what is then known. -/
def ThawP (P : Program) (T : Tab) (w' : World) (base : Nat) (M Fr' : Nat → Prop) (d : Nat) (o : Option Blk) (R : (Nat → Prop) → (Nat → Option Blk) → (Nat → Loc) → Prop) : Prop :=
  match o with
  | none => ∀ Fr blk ρ, R Fr blk ρ
  | some bk => ∃ loc : Loc, OB P T w' Fr' bk loc ∧ (∀ b, loc.owns b → b < w'.heap.size ∧ (base ≤ b ∨ M b)) ∧ (bk.d.free = true ∨ ∀ b, Fr' b → ¬ loc.owns b) ∧
      ∀ Fr blk ρ, blk d = some bk → ρ d = loc → R Fr blk ρ

theorem ThawP.mono {base : Nat} {d : Nat} {o : Option Blk} {R R' : (Nat → Prop) → (Nat → Option Blk) → (Nat → Loc) → Prop} (h : ThawP P T w' base X Fr' d o R) (hr : ∀ Fr blk ρ, R Fr blk ρ → R' Fr blk ρ) : ThawP P T w' base X Fr' d o R' := by
  cases o with
  | none => exact fun Fr blk ρ => hr _ _ _ (h Fr blk ρ)
  | some x =>
    obtain ⟨loc, h1, h2, h3, h4⟩ := h
    exact ⟨loc, h1, h2, h3, fun Fr blk ρ e1 e2 => hr _ _ _ (h4 Fr blk ρ e1 e2)⟩

theorem lt_of_heap {w : World} {b : Nat} {o : Obj} (h : w.heap[b]? = some o) : b < w.heap.size := (Array.getElem?_eq_some_iff.1 h).1

theorem own_thaw {base d : Nat} {e : TypeId} {l : List Int} {u : Value} (hf : isFlatTy T e = true) (h : OwnS T w' base X e (.ints l) u (IntsIn (T.at e).ks l)) :
    ThawP P T w' base X Fr' d (some ⟨e, false, .ints l⟩) fun Fr blk ρ => LV P T w' Fr blk ρ (.slw d e) u := by
  obtain ⟨ad, n, cap, rfl, h1, h2, h3, h4⟩ := h
  rcases h4 with ⟨rfl, rfl⟩ | ⟨b, o, arr, rfl, g1, g2, g3, g4⟩
  · have h0 : l.length = 0 := by simpa [D.len] using h1
    refine ⟨none, ⟨rfl, h0, hf⟩, (fun b e => (owns_none e).elim), .inl rfl, fun Fr blk ρ e1 e2 => .slwNil d e _ ad e1 rfl rfl e2 h0⟩
  · refine ⟨some (b, o, leaf arr.size), ⟨arr, g2, rfl, hf, g4⟩, fun b' e => ?_, .inl rfl, fun Fr blk ρ e1 e2 => .slw d e _ b o (leaf arr.size) n cap e1 rfl rfl e2 h1 h2 h3 g3⟩
    rw [owns_leaf e]
    exact ⟨lt_of_heap g2, g1⟩

theorem thawV_sound {base d : Nat} {v x : V} {o : Option Blk} {u : Value} (h : RV P T w' base X Fr' v u) (ht : thawV d v = some (x, o)) :
    ThawP P T w' base X Fr' d o fun Fr blk ρ => LV P T w' Fr blk ρ x u := by
  cases h with
  | slv e l _ h1 h2 =>
    simp only [thawV, Option.some.injEq, Prod.mk.injEq] at ht
    obtain ⟨rfl, rfl⟩ := ht
    exact own_thaw h1 h2
  | own _ bk loc _ h0 h1 h2 h3 h4 =>
    obtain ⟨x', e1, e2⟩ := h1 d
    rw [e1] at ht
    injection ht with ht
    injection ht with e3 e4
    subst e3 e4
    exact ⟨loc, h2, h3, .inr h4, e2⟩
  | tup vs arr h => simp [thawV] at ht
  | flat _ _ h =>
    cases v <;> first | exact h.elim | skip
    all_goals
      simp only [thawV, Option.some.injEq, Prod.mk.injEq] at ht
      obtain ⟨rfl, rfl⟩ := ht
      exact fun Fr blk ρ => .flatV h

theorem thawL_sound {base d : Nat} {vs : List V} {us : List Value} (h : All2 (RV P T w' base X Fr') vs us) : ∀ {q : List V} {o : Option Blk}, thawL d vs = some (q, o) →
    ThawP P T w' base X Fr' d o fun Fr blk ρ => All2 (LV P T w' Fr blk ρ) q us := by
  induction h with
  | nil =>
    intro q o ht
    simp only [thawL, Option.some.injEq, Prod.mk.injEq] at ht
    obtain ⟨rfl, rfl⟩ := ht
    exact fun Fr blk ρ => .nil
  | cons h1 _ ih =>
    intro q o ht
    simp only [thawL] at ht
    split at ht
    · rename_i x q' o' hx hq
      injection ht with ht
      injection ht with e1 e2
      subst e1 e2
      have hx := thawV_sound h1 hx
      exact (ih hq).mono fun Fr blk ρ hq => .cons (hx Fr blk ρ) hq
    · rename_i x y q' hx hq
      injection ht with ht
      injection ht with e1 e2
      subst e1 e2
      have hq := ih hq
      exact (thawV_sound h1 hx).mono fun Fr blk ρ hx => .cons hx (hq Fr blk ρ)
    · cases ht

theorem thawR_sound {base d : Nat} {v x : V} {o : Option Blk} {u : Value} (h : RV P T w' base X Fr' v u) (ht : thawR d v = some (x, o)) :
    ThawP P T w' base X Fr' d o fun Fr blk ρ => LV P T w' Fr blk ρ x u := by
  cases v with
  | tup vs =>
    simp only [thawR] at ht
    split at ht
    · rename_i q o' hq
      injection ht with ht
      injection ht with e1 e2
      subst e1 e2
      cases h with
      | flat _ _ h => exact h.elim
      | own _ _ _ _ h0 => cases h0
      | tup _ arr h1 =>
        refine (thawL_sound h1 hq).mono fun Fr blk ρ hh => .tup q arr (by simpa using hh.length.symm) fun i v hv => ?_
        have := hh.get i v hv
        simpa [Array.getD_eq_getD_getElem?, List.getD_eq_getElem?_getD] using this
    · cases ht
  | _ => exact thawV_sound h ht

theorem thawV_free {d : Nat} {v x : V} {bk : Blk} (ht : thawV d v = some (x, some bk)) (hn : isOwnO v = false) : bk.d.free = true := by
  cases v <;> simp only [thawV, Option.some.injEq, Prod.mk.injEq, reduceCtorEq, and_false] at ht
  · obtain ⟨_, rfl⟩ := ht; rfl
  · obtain ⟨_, rfl⟩ := ht; rfl
  · obtain ⟨_, rfl⟩ := ht; rfl
  · cases hn

theorem thawL_free {d : Nat} : ∀ {vs q : List V} {bk : Blk}, thawL d vs = some (q, some bk) → vs.any isOwnO = false → bk.d.free = true := by
  intro vs
  induction vs with
  | nil => intro q bk h; simp [thawL] at h
  | cons v r ih =>
    intro q bk h hn
    simp only [List.any_cons, Bool.or_eq_false_iff] at hn
    simp only [thawL] at h
    split at h
    · rename_i x q' o' hx hq
      injection h with h
      injection h with _ e2
      subst e2
      exact ih hq hn.2
    · rename_i x y q' hx hq
      injection h with h
      injection h with _ e2
      injection e2 with e2
      subst e2
      exact thawV_free hx hn.1
    · cases h

theorem thawR_free {d : Nat} {v x : V} {bk : Blk} (ht : thawR d v = some (x, some bk)) (hn : needF v = false) : bk.d.free = true := by
  cases v with
  | tup vs =>
    simp only [thawR] at ht
    split at ht
    · rename_i q o hq
      injection ht with ht
      injection ht with _ e2
      subst e2
      exact thawL_free hq hn
    · cases ht
  | ownO t cs => cases hn
  | slv e l =>
    simp only [thawR, thawV, Option.some.injEq, Prod.mk.injEq] at ht
    obtain ⟨_, rfl⟩ := ht; rfl
  | ownR e l q =>
    simp only [thawR, thawV, Option.some.injEq, Prod.mk.injEq] at ht
    obtain ⟨_, rfl⟩ := ht; rfl
  | ownM e l =>
    simp only [thawR, thawV, Option.some.injEq, Prod.mk.injEq] at ht
    obtain ⟨_, rfl⟩ := ht; rfl
  | _ => simp [thawR, thawV] at ht

theorem But.below (h : But w w' (fun _ => False)) : Below w.heap.size w w' := ⟨h.os, h.tape, h.output, h.size, fun b hb => h.block b hb (fun x => x)⟩

/-- What the callee's values lead to stands still for the caller. -/
theorem still_frOf (h : RelAt P T w0 M N ρ s a w) {Fr0 : Nat → Prop} (hS : Still w w' Fr0 X Fr') (hF : ∀ b, Fr0 b → FrOf M.a s.blk ρ w b) {b : Nat} (hb : Fr' b) (hX : ¬ X b) : b < w'.heap.size ∧ M.a b ∧ ∀ k bk, s.blk k = some bk → ¬ (ρ k).owns b := by
  obtain ⟨h1, h2⟩ := hS b hb
  refine ⟨h1, ?_, fun k bk hk ho => ?_⟩
  · rcases h2 with h2 | h2 | h2
    · exact (hF b h2).ac
    · exact h.acc b (.inl (Nat.le_trans h.size h2))
    · exact (hX h2).elim
  · rcases h2 with h2 | h2 | h2
    · exact (hF b h2).no k bk hk ho
    · have := (h.own k bk b hk ho).1; omega
    · exact hX h2

/-- The own part of a result, in a new block. -/
theorem thaw_rel (h : RelAt P T w0 M N ρ s a w) {d : Nat} (hd : d < s.n) {v : V} {u : Value} {Fr0 : Nat → Prop} (hB : Below w.heap.size w w') (hS : Still w w' Fr0 (fun _ => False) Fr') (hR : RV P T w' w.heap.size (fun _ => False) Fr' v u)
    (hf : needF v = false ∨ ∀ b, Fr0 b → FrOf M.a s.blk ρ w b) {s2 : St} (ht : thaw s d v = some s2) : Rel P T w0 M N s2 (a.put (some d) u) w' := by
  unfold thaw at ht
  split at ht
  · cases ht
  · rename_i x hx
    injection ht with ht
    subst ht
    exact ⟨ρ, (h.below hB).put hd (thawR_sound hR hx _ _ _)⟩
  · rename_i x bk hx
    split at ht
    · rename_i hb
      injection ht with ht
      subst ht
      obtain ⟨loc, h1, h2, h4, h3⟩ := thawR_sound hR hx
      refine ⟨upd ρ d loc, ((h.adopt (bk := bk) (loc' := loc) hb hd hB ?_ ?_).put hd ?_)⟩
      · intro b hl
        obtain ⟨g1, g2⟩ := h2 b hl
        exact ⟨g1, g2.resolve_right (fun x => x)⟩
      · intro _
        have hfree : bk.d.free = true → OB P T w' (FrOf M.a (s.setB d bk).blk (upd ρ d loc) w') bk loc := fun hq => obFree hq h1
        rcases hf with hf | hf
        · exact hfree (thawR_free hx hf)
        · rcases h4 with h4 | h4
          · exact hfree h4
          · refine h1.mono fun b hb' => ?_
            obtain ⟨c1, c2, c3⟩ := still_frOf h hS hf hb' (fun x => x)
            refine ⟨c1, fun k bk' hk ho => ?_, c2⟩
            by_cases e : k = d
            · subst e
              rw [upd_self] at ho
              exact h4 b hb' ho
            · rw [blk_setB_ne _ _ (Ne.symm e)] at hk
              rw [upd_ne _ _ e] at ho
              exact c3 k bk' hk ho
      · exact h3 _ _ _ (blk_setB_self _ _ _) (upd_self _ _ _)
    · cases ht

/-- A block that nobody leads to goes by another name. -/
theorem RelAt.rename (h : RelAt P T w0 M N ρ s a w) {k d : Nat} {bk : Blk} (hk : s.blk k = some bk) (hr : ∀ t, V.has k (s.get t) = false) (hd : (s.drop k).blk d = none) (hdn : d < s.n) :
    RelAt P T w0 M N (upd ρ d (ρ k)) ((s.drop k).setB d bk) a w := by
  have hdk : d ≠ k → s.blk d = none := fun e => by rw [blk_drop_ne _ (Ne.symm e)] at hd; exact hd
  have hC : ∀ j bj, j = k ∨ j = d → ((s.drop k).setB d bk).blk j = some bj → j = d ∧ bj = bk := by
    intro j bj hj hb
    by_cases e : j = d
    · subst e
      rw [blk_setB_self] at hb
      injection hb with hb
      exact ⟨rfl, hb.symm⟩
    · have : j = k := hj.resolve_right e
      subst this
      rw [blk_setB_ne _ _ (Ne.symm e), blk_drop_self] at hb
      cases hb
  refine h.turn (fun j => j = k ∨ j = d) rfl rfl rfl rfl (Nat.le_refl _) (fun t => .inl rfl) ?_ (fun b hb _ => rfl) ?_ ?_ ?_ ?_ ?_
  · intro j hj
    simp only [not_or] at hj
    exact ⟨by rw [blk_setB_ne _ _ (Ne.symm hj.2), blk_drop_ne _ (Ne.symm hj.1)], upd_ne _ _ hj.2⟩
  · intro j bj b hj hb ho
    obtain ⟨rfl, rfl⟩ := hC j bj hj hb
    rw [upd_self] at ho
    exact ⟨(h.own k bj b hk ho).1, .inl ⟨k, bj, .inl rfl, hk, ho⟩⟩
  · intro i j bi bj b hi hj h1 h2 _ _
    exact (hC i bi hi h1).1.trans (hC j bj hj h2).1.symm
  · intro hl j bj hj hb
    obtain ⟨rfl, rfl⟩ := hC j bj hj hb
    have := (h.ob k bj hk).later hl (fun _ _ => rfl)
    rw [upd_self]
    exact this
  · intro t j bj hj hh hb
    rcases hj with rfl | rfl
    · rw [show ((s.drop j).setB d bk).get t = s.get t from rfl, hr t] at hh
      cases hh
    · by_cases e : j = k
      · subst e
        rw [show ((s.drop j).setB j bk).get t = s.get t from rfl, hr t] at hh
        cases hh
      · rw [hdk e] at hb; cases hb
  · intro j hj hn
    by_cases e : j = d
    · omega
    · refine ⟨upd_ne _ _ e, fun bj hb => ?_⟩
      have := (hC j bj hj hb).1
      exact absurd this e

/-- The slice that was handed over comes back, of its old shape. -/
theorem back_rel (h : RelAt P T w0 M N ρ s a w) {d k : Nat} (hd : d < s.n) {e : TypeId} {d0 d1 : D} (hk : s.blk k = some ⟨e, false, d0⟩) {v x : V} {u : Value} (hB : But w w' (ρ k).owns) (hR : RV P T w' w.heap.size Y Fr' v u)
    (hx : thawR d v = some (x, none)) (ha : d0.alike d1) (hfree : d1.free = true) {Fr2 : Nat → Prop} (hO : OB P T w' Fr2 ⟨e, false, d1⟩ (ρ k)) : Rel P T w0 M N ((s.setB k ⟨e, false, d1⟩).put d x) (a.put (some d) u) w' := by
  have h1 := h.change (w' := w') (bk' := ⟨e, false, d1⟩) (loc' := ρ k) hk hB.os hB.tape hB.output hB.size (fun b hb hne => hB.block b hb hne)
    (fun b hl => ⟨Nat.lt_of_lt_of_le (h.own k _ b hk hl).1 hB.size, .inl hl⟩) (fun _ => obFree hfree hO) (.inr ⟨⟨rfl, rfl, ha⟩, rfl⟩)
  exact ⟨_, h1.put hd (thawR_sound hR hx _ _ _)⟩

/-- Where a row of one's own lies. -/
def rowLoc : Option (Nat × Nat × Nat) → Loc
  | some (b, o, m) => some (b, o, leaf m)
  | none => none

theorem rowLoc_owns {c : Option (Nat × Nat × Nat)} {b : Nat} (h : (rowLoc c).owns b) : ∃ q, c = some (b, q) := by
  cases c with
  | none => exact absurd h owns_none
  | some x =>
    obtain ⟨b0, o, m⟩ := x
    have := owns_leaf h
    subst this
    exact ⟨_, rfl⟩

theorem rdr_set_self {xss : List (List Int)} {i : Nat} {l : List Int} (h : i < xss.length) : rdr (xss.set i l) i = l := by
  unfold rdr
  rw [List.getD_eq_getElem?_getD, List.getElem?_set]
  simp [h]

theorem rdr_set_ne {xss : List (List Int)} {i j : Nat} {l : List Int} (h : i ≠ j) : rdr (xss.set i l) j = rdr xss j := by
  unfold rdr
  rw [List.getD_eq_getElem?_getD, List.getD_eq_getElem?_getD, List.getElem?_set]
  simp [h]

/-- A row that is handed over. -/
theorem row_in {F : Nat → Prop} (h : RelAt P T w0 M N ρ s a w) {k i : Nat} {e e0 e1 : TypeId} {xss : List (List Int)} {u : Value} (hk : s.blk k = some ⟨e0, false, .orows e1 xss⟩) (hv : LV P T w (FrOf M.a s.blk ρ w) s.blk ρ (.row k i e) u) :
    ∃ b0 base lim, ρ k = some (b0, base, lim) ∧ i < xss.length ∧ e = e1 ∧ (∀ b, (rowLoc (lim.c i)).owns b → (ρ k).owns b) ∧ HeadIn P T w F e (.ints (rdr xss i)) (rowLoc (lim.c i)) u := by
  have hO := h.ob k _ hk
  cases hv with
  | bv _ _ hb => cases hb with
    | flat _ _ hb => exact hb.elim
  | row k i e bk xss' b0 base lim ad n cap h1 h2 h3 h4 h5 h6 h7 h8 =>
    rw [hk] at h1
    injection h1 with h1
    subst h1
    injection h2 with e1' e2'
    subst e1' e2'
    rw [h5] at hO
    obtain ⟨arr, g1, g2, ⟨_, _, _, t4⟩, g4, g5⟩ := hO
    have hown : ∀ b, (rowLoc (lim.c i)).owns b → (ρ k).owns b := fun b hb => by
      obtain ⟨q, hq⟩ := rowLoc_owns hb
      exact owns_kid h5 hq
    refine ⟨b0, base, lim, h5, h3, rfl, hown, ?_, fun b hb => (h.own k _ b hk (hown b hb)).1, ?_⟩
    · obtain ⟨u', _, ad', n', cap', _, _, _, _, r5⟩ := g4 i h3
      rcases h8 with ⟨q1, q2, q3⟩ | ⟨b, o, m, q1, q2, q3⟩
      · rw [q3]
        refine ⟨rfl, ?_, t4⟩
        show (rdr xss i).length = 0
        rw [h4, q1, Nat.zero_mul]
      · rw [q1] at r5 ⊢
        rcases r5 with ⟨_, _, r5⟩ | ⟨b', o', lim', arr', s1, _, _, s4, s5, s6⟩
        · cases r5
        · injection s1 with s1
          injection s1 with s1 s2
          injection s2 with s2 s3
          subst s1 s2 s3
          exact ⟨arr', s4, s5, t4, s6⟩
    · rcases h8 with ⟨q1, q2, q3⟩ | ⟨b, o, m, q1, q2, q3⟩
      · subst q1 q2
        rw [q3]
        exact .slwNil 0 e1 ⟨e1, false, .ints (rdr xss i)⟩ ad (by simp) rfl rfl rfl (by show (rdr xss i).length = 0; rw [h4, Nat.zero_mul])
      · rw [q1, q2]
        exact .slw 0 e1 ⟨e1, false, .ints (rdr xss i)⟩ b o (leaf m) n cap (by simp) rfl rfl rfl h4 h6 h7 q3

/-- A row that comes back. -/
theorem row_rel (h : RelAt P T w0 M N ρ s a w) {d k i : Nat} (hd : d < s.n) {e0 e1 : TypeId} {xss : List (List Int)} (hk : s.blk k = some ⟨e0, false, .orows e1 xss⟩) {b0 base : Nat} {lim : Lim} (hρ : ρ k = some (b0, base, lim)) (hi : i < xss.length)
    {v x : V} {u : Value} (hB : But w w' (rowLoc (lim.c i)).owns) (hR : RV P T w' w.heap.size Y Fr' v u)
    (hx : thawR d v = some (x, none)) {l' : List Int} (hl : (rdr xss i).length = l'.length) {Fr2 : Nat → Prop} (hO : OB P T w' Fr2 ⟨e1, false, .ints l'⟩ (rowLoc (lim.c i))) :
    Rel P T w0 M N ((s.setB k ⟨e0, false, .orows e1 (xss.set i l')⟩).put d x) (a.put (some d) u) w' := by
  have hown : ∀ b, (rowLoc (lim.c i)).owns b → (ρ k).owns b := fun b hb => by
    obtain ⟨q, hq⟩ := rowLoc_owns hb
    exact owns_kid hρ hq
  have h1 := h.change (w' := w') (bk' := ⟨e0, false, .orows e1 (xss.set i l')⟩) (loc' := ρ k) hk hB.os hB.tape hB.output hB.size (fun b hb hne => hB.block b hb fun hx => hne (hown b hx))
    (fun b hl => ⟨Nat.lt_of_lt_of_le (h.own k _ b hk hl).1 hB.size, .inl hl⟩) (fun _ => by
      have hO0 := h.ob k _ hk
      rw [hρ] at hO0 ⊢
      obtain ⟨arr, g1, g2, ⟨t1, t2, t3, t4⟩, g4, g5⟩ := hO0
      have hb0 : b0 < w.heap.size := (Array.getElem?_eq_some_iff.1 g1).1
      refine ⟨arr, (hB.block b0 hb0 fun hx => ?_).trans g1, g2, ⟨t1, t2, t3, t4⟩, fun j hj => ?_, fun p q b x y hp hq => g5 p q b x y (by rw [List.length_set] at hp; exact hp) (by rw [List.length_set] at hq; exact hq)⟩
      · obtain ⟨q, hq⟩ := rowLoc_owns hx
        obtain ⟨u', _, hr⟩ := g4 i hi
        exact rowAt_main hr hq g1 t1 t4
      · rw [List.length_set] at hj
        obtain ⟨u', hu', hr⟩ := g4 j hj
        refine ⟨u', hu', ?_⟩
        by_cases e : i = j
        · subst e
          rw [rdr_set_self hi]
          obtain ⟨ad, n, cap, r1, r2, r3, r4, r5⟩ := hr
          refine ⟨ad, n, cap, r1, hl.symm.trans r2, r3, r4, ?_⟩
          rcases r5 with r5 | ⟨b, o, m, arr', s1, s2, s3, s4, s5, s6⟩
          · exact .inl r5
          · rw [s1] at hO
            obtain ⟨arr2, p1, p2, _, p4⟩ := hO
            exact .inr ⟨b, o, m, arr2, s1, s2, s3, p1, p2, p4⟩
        · rw [rdr_set_ne e]
          refine hr.heap fun b q hq => hB.block b (h.own k _ b hk (owns_kid hρ hq)).1 fun hx => ?_
          obtain ⟨q', hq'⟩ := rowLoc_owns hx
          exact e (g5 i j b q' q hi hj hq' hq))
    (.inr ⟨⟨rfl, rfl, rfl, by rw [List.length_set], fun j => by
      by_cases e : i = j
      · subst e; rw [rdr_set_self hi]; exact hl
      · rw [rdr_set_ne e]⟩, rfl⟩)
  exact ⟨_, h1.put hd (thawR_sound hR hx _ _ _)⟩

/-- Blocks are given other contents of their shapes. -/
theorem RelAt.rewr (h : RelAt P T w0 M N ρ s a w) {s' : St} (hn : s'.n = s.n) (hget : ∀ t, s'.get t = s.get t) (hB : But w w' X) {ks : List Nat} (hX : ∀ b, X b → ∃ k ∈ ks, (ρ k).owns b ∧ ∃ bk, s.blk k = some bk)
    (hin : ∀ k ∈ ks, ∃ e r d d', s.blk k = some ⟨e, r, d⟩ ∧ s'.blk k = some ⟨e, r, d'⟩ ∧ d.alike d' ∧ OB P T w' Fr' ⟨e, r, d'⟩ (ρ k)) (hout : ∀ k, k ∉ ks → s'.blk k = s.blk k)
    (hF : ∀ b, Fr' b → b < w'.heap.size ∧ M.a b ∧ ∀ k bk, s.blk k = some bk → ¬ (ρ k).owns b) : RelAt P T w0 M N ρ s' a w' := by
  have hsub : ∀ j bj, s'.blk j = some bj → ∃ bi, s.blk j = some bi := by
    intro j bj hj
    by_cases hk : j ∈ ks
    · obtain ⟨e, r, l, l', h1, _⟩ := hin j hk
      exact ⟨_, h1⟩
    · rw [hout j hk] at hj
      exact ⟨_, hj⟩
  refine h.turn (fun j => j ∈ ks) hn hB.os hB.tape hB.output hB.size (fun t => .inl (hget t)) (fun j hj => ⟨hout j hj, rfl⟩) ?_ ?_ ?_ ?_ ?_ ?_
  · intro b hb hno
    refine hB.block b hb fun hx => ?_
    obtain ⟨k, k1, k2, bk, k3⟩ := hX b hx
    exact hno k bk k1 k3 k2
  · intro j bj b hj hb ho
    obtain ⟨bi, h1⟩ := hsub j bj hb
    exact ⟨Nat.lt_of_lt_of_le (h.own j bi b h1 ho).1 hB.size, .inl ⟨j, bi, hj, h1, ho⟩⟩
  · intro i j bi bj b _ _ h1 h2 g1 g2
    obtain ⟨ci, q1⟩ := hsub i bi h1
    obtain ⟨cj, q2⟩ := hsub j bj h2
    exact h.one i j ci cj b q1 q2 g1 g2
  · intro _ j bj hj hb
    obtain ⟨e, r, l, l', h1, h2, h3, h4⟩ := hin j hj
    rw [h2] at hb
    injection hb with hb
    subst hb
    refine h4.mono fun b hb' => ?_
    obtain ⟨c1, c2, c3⟩ := hF b hb'
    refine ⟨c1, fun k bk hk ho => ?_, c2⟩
    obtain ⟨bi, h5⟩ := hsub k bk hk
    exact c3 k bi h5 ho
  · intro t j bj hj hh hb
    obtain ⟨e, r, l, l', h1, h2, h3, h4⟩ := hin j hj
    rw [h1] at hb
    injection hb with hb
    subst hb
    exact ⟨_, h2, .of rfl ⟨rfl, rfl, h3⟩⟩
  · intro j hj _
    refine ⟨rfl, fun bj hb => ?_⟩
    obtain ⟨e, r, l, l', h1, h2, h3, h4⟩ := hin j hj
    rw [h2] at hb
    injection hb with hb
    subst hb
    exact ⟨_, h1, rfl, rfl, h3⟩

/-- Which blocks are handed over. -/
def KeyM (s : St) (ρ : Nat → Loc) (loc : Nat → Loc) (k : Nat) (m : Nat × TypeId × D) : Prop :=
  s.blk k = some ⟨m.2.1, true, m.2.2⟩ ∧ loc m.1 = ρ k

theorem all2_right {α β : Type} {Φ : α → β → Prop} {xs : List α} {ys : List β} (h : All2 Φ xs ys) : ∀ y ∈ ys, ∃ x ∈ xs, Φ x y := by
  induction h with
  | nil => intro y hy; cases hy
  | cons h1 _ ih =>
    intro y hy
    rcases List.mem_cons.1 hy with rfl | hy
    · exact ⟨_, by simp, h1⟩
    · obtain ⟨x, q1, q2⟩ := ih y hy
      exact ⟨x, by simp [q1], q2⟩

theorem distinct_cons {k : Nat} {r : List Nat} (h : distinct (k :: r) = true) : k ∉ r ∧ distinct r = true := by
  simp only [distinct, Bool.and_eq_true, Bool.not_eq_true'] at h
  refine ⟨fun hk => ?_, h.2⟩
  have := h.1
  rw [List.any_eq_false] at this
  exact this k hk (Nat.beq_refl k)

theorem distM_of (h : RelAt P T w0 M N ρ s a w) {loc : Nat → Loc} {ks : List Nat} {ms : List (Nat × TypeId × D)} (hz : All2 (KeyM s ρ loc) ks ms) (hd : distinct ks = true) : DistM loc ms := by
  induction hz with
  | nil => trivial
  | cons h1 hz ih =>
    rename_i k m ks ms
    obtain ⟨hk, hd⟩ := distinct_cons hd
    refine ⟨fun m' hm' b hb hb' => ?_, ih hd⟩
    have : ∃ k' ∈ ks, KeyM s ρ loc k' m' := all2_right hz m' hm'
    obtain ⟨k', q1, q2, q3⟩ := this
    obtain ⟨g2, g3⟩ := h1
    rw [g3] at hb
    rw [q3] at hb'
    have := h.one k k' _ _ b g2 q2 hb hb'
    subst this
    exact hk q1

theorem putM_spec {loc : Nat → Loc} : ∀ {ks : List Nat} {ms : List (Nat × TypeId × D)} {s s' : St} {q : List D}, All2 (KeyM s ρ loc) ks ms → distinct ks = true → MOut P T w' Fr' loc ms q → putM s ks q = some s' →
    s'.n = s.n ∧ (∀ t, s'.get t = s.get t) ∧ (∀ k, k ∉ ks → s'.blk k = s.blk k) ∧
      ∀ k ∈ ks, ∃ e r d d', s.blk k = some ⟨e, r, d⟩ ∧ s'.blk k = some ⟨e, r, d'⟩ ∧ d.alike d' ∧ OB P T w' Fr' ⟨e, r, d'⟩ (ρ k) := by
  intro ks
  induction ks with
  | nil =>
    intro ms s s' q hz _ ho hp
    cases hz
    cases q with
    | nil =>
      simp only [putM, Option.some.injEq] at hp
      subst hp
      exact ⟨rfl, fun _ => rfl, fun _ _ => rfl, fun k hk => by cases hk⟩
    | cons d q => exact ho.elim
  | cons k r ih =>
    intro ms s s' q hz hd ho hp
    cases hz with
    | cons h1 hz =>
      rename_i m ms
      obtain ⟨g1, g2⟩ := h1
      obtain ⟨hk, hd⟩ := distinct_cons hd
      cases q with
      | nil => exact ho.elim
      | cons dd q =>
        obtain ⟨o1, o2, o3⟩ := ho
        unfold putM at hp
        rw [g1] at hp
        simp only at hp
        have hz' : All2 (KeyM (s.setB k ⟨m.2.1, true, dd⟩) ρ loc) r ms := by
          have all : ∀ {xs : List Nat} {ys : List (Nat × TypeId × D)}, All2 (KeyM s ρ loc) xs ys → k ∉ xs → All2 (KeyM (s.setB k ⟨m.2.1, true, dd⟩) ρ loc) xs ys := by
            intro xs ys hxy
            induction hxy with
            | nil => intro _; exact .nil
            | cons q1 _ ihq =>
              intro hkx
              simp only [List.mem_cons, not_or] at hkx
              exact .cons ⟨(blk_setB_ne _ _ hkx.1).trans q1.1, q1.2⟩ (ihq hkx.2)
          exact all hz hk
        obtain ⟨c1, c2, c3, c4⟩ := ih hz' hd o3 hp
        refine ⟨c1, c2, fun j hj => ?_, fun j hj => ?_⟩
        · rw [c3 j (fun e => hj (by simp [e]))]
          exact blk_setB_ne _ _ (fun e => hj (by simp [e]))
        · rcases List.mem_cons.1 hj with rfl | hj
          · exact ⟨_, _, _, _, g1, (c3 j hk).trans (blk_setB_self _ _ _), o1, g2 ▸ o2⟩
          · obtain ⟨e, b, l, l', d1, d2, d3, d4⟩ := c4 j hj
            rw [blk_setB_ne _ _ (fun e => hk (by rw [e]; exact hj))] at d1
            exact ⟨e, b, l, l', d1, d2, d3, d4⟩

/-- The slice that was handed over is gone, or is the result. -/
theorem gone_rel (h : RelAt P T w0 M N ρ s a w) {d k : Nat} (hd : d < s.n) (hkn : k < s.n) {e : TypeId} {l : List Int} (hk : s.blk k = some ⟨e, false, .ints l⟩) (hfl : isFlatTy T e = true) {v : V} {u : Value} (hB : But w w' (ρ k).owns) (hR : RV P T w' w.heap.size (ρ k).owns Fr' v u) (hn : needF v = false)
    {s2 : St} (ht : thaw ((s.kill k).drop k) d v = some s2) : Rel P T w0 M N s2 (a.put (some d) u) w' := by
  have hkill := h.kill k
  have hr := noRef_kill s k
  unfold thaw at ht
  split at ht
  · cases ht
  · rename_i x hx
    injection ht with ht
    subst ht
    have h1 := hkill.change (w' := w') (bk' := ⟨e, false, .ints []⟩) (loc' := none) (k := k) hk hB.os hB.tape hB.output hB.size (fun b hb hne => hB.block b hb hne)
      (fun b hl => (owns_none hl).elim) (fun _ => ⟨rfl, rfl, hfl⟩) (.inl ⟨hr, hkn⟩)
    have h2 := h1.dropB (k := k) (fun t => hr t)
    have h3 := h2.ext (s' := (s.kill k).drop k) rfl (fun t => rfl) fun j => by
      by_cases ej : j = k
      · subst ej; rw [blk_drop_self, blk_drop_self]
      · rw [blk_drop_ne _ (Ne.symm ej), blk_drop_ne _ (Ne.symm ej), blk_setB_ne _ _ (Ne.symm ej)]
    exact ⟨_, h3.put hd (thawR_sound hR hx _ _ _)⟩
  · rename_i x bk hx
    split at ht
    · rename_i hb
      injection ht with ht
      subst ht
      obtain ⟨loc, g1, g2, _, g3⟩ := thawR_sound hR hx
      have hfree := thawR_free hx hn
      have h1 := hkill.change (w' := w') (bk' := bk) (loc' := loc) (k := k) hk hB.os hB.tape hB.output hB.size (fun b hb hne => hB.block b hb hne)
        (fun b hl => by obtain ⟨q1, q2⟩ := g2 b hl; exact ⟨q1, q2.symm⟩) (fun _ => obFree hfree g1) (.inl ⟨hr, hkn⟩)
      have h2 := h1.rename (k := k) (d := d) (bk := bk) (blk_setB_self _ _ _) (fun t => hr t) (by
        by_cases ej : d = k
        · subst ej; exact blk_drop_self _ _
        · rw [blk_drop_ne _ (Ne.symm ej), blk_setB_ne _ _ (Ne.symm ej)]; rw [blk_drop_ne _ (Ne.symm ej)] at hb; exact hb) hd
      have h3 := h2.ext (s' := ((s.kill k).drop k).setB d bk) rfl (fun t => rfl) fun j => by
        by_cases ed : j = d
        · subst ed; rw [blk_setB_self, blk_setB_self]
        · rw [blk_setB_ne _ _ (Ne.symm ed), blk_setB_ne _ _ (Ne.symm ed)]
          by_cases ej : j = k
          · subst ej; rw [blk_drop_self, blk_drop_self]
          · rw [blk_drop_ne _ (Ne.symm ej), blk_drop_ne _ (Ne.symm ej), blk_setB_ne _ _ (Ne.symm ej)]
      exact ⟨_, h3.put hd (g3 _ _ _ (blk_setB_self _ _ _) (by simp [upd]))⟩
    · cases ht

end Go.Ev
end

section
/- Calls: what the evaluator gives, the kit's model gives. -/
namespace Go.Ev
open Go.RowKit (Below)

variable {P : Program} {w0 w w' : World} {M : Mo} {X F : Nat → Prop} {ρ : Nat → Loc} {N : Nat → Loc × Blk} {s : St} {a : Act} {Fr : Nat → Prop} {blk : Nat → Option Blk} {C : Cfg}

theorem snapArgs_sound (hT : TabOK P C.T) (hO : OraOK P C.T C.mv C.ora) (h : RelAt P C.T w0 M N ρ s a w) (hF : ∀ b, FrOf M.a s.blk ρ w b → F b) {vs : List V} {us : List Value} (hv : All2 (LV P C.T w (FrOf M.a s.blk ρ w) s.blk ρ) vs us) :
    ∀ (ts : List TypeId) (vs' : List V), (∀ v ∈ vs, Sees ρ s.blk F v) → snapArgs C s ts vs = some vs' → All2 (BV P C.T w F) vs' us := by
  induction hv with
  | nil => intro ts vs' _ hs; cases ts <;> (simp only [snapArgs, Option.some.injEq] at hs; subst hs; exact .nil)
  | cons h1 _ ih =>
    intro ts vs' hX hs
    cases ts with
    | nil => simp [snapArgs] at hs
    | cons t ts =>
      simp only [snapArgs] at hs
      split at hs
      · rename_i a b ha hb
        injection hs with hs; subst hs
        exact .cons (snap_sound (lo := C.lo) hT hO h hF (hX _ (by simp)) h1 ha) (ih ts b (fun v hv => hX v (by simp [hv])) hb)
      · cases hs

theorem exec_call {o : Oper} {c : Call} {f : Operand} (ho : o.op = .call c) (hc : c.callee = .value f) {ev : Operand → Value} {g : FuncId} {x y : Array Value} (hf : ev f = .func (.func g) x y) (hb : HasBody P g) (w : World) :
    (execOp ev o).run P w = .ok (.enter g (x ++ c.args.map ev ++ y)) w := by
  obtain ⟨fn, h1, h2, h3⟩ := hb
  simp only [execOp, ho]
  rw [Sem.run_bind]
  unfold resolve
  simp only [hc, hf]
  simp only [Deferred.ofValue, invoke, Sem.run_pure, Result.andThen_ok]
  unfold callFunc
  have hnb : fn.body ≠ none := by intro hbd; rw [hbd] at h2; cases h2
  simp [h1, h3, hnb]

theorem call_wp {o : Oper} {c : Call} {f : Operand} (ho : o.op = .call c) (hc : c.callee = .value f) {d : Nat} (hd : o.dst = some d) {g : FuncId} {x y : Array Value} (hf : a.eval f = .func (.func g) x y) (hb : HasBody P g)
    {next : Act → World → Prop} {Q : Exit → Act → World → Prop} {R : Ending → World → Prop} (h : Calls P g (x ++ c.args.map a.eval ++ y) w R) (hR : ∀ e w', R e w' → ∃ u, e = .returned u ∧ next (a.put (some d) u) w') : o.wp P a w next Q := by
  unfold Oper.wp
  rw [exec_call ho hc hf hb w, Oper.upon_enter]
  refine h.mono fun e w' he => ?_
  obtain ⟨u, rfl, hn⟩ := hR e w' he
  rw [hd]
  exact hn

theorem headV_inv {e : TypeId} {d : D} {hd : V} (h : headV e d = some hd) (vs : List V) : headSlv (hd :: vs) = some (e, d, vs) ∧ d.free = true := by
  cases d <;> simp only [headV, Option.some.injEq, reduceCtorEq] at h
  · subst h; exact ⟨rfl, rfl⟩
  · subst h; exact ⟨rfl, rfl⟩

theorem head_in (h : RelAt P C.T w0 M N ρ s a w) {k : Nat} {e e0 : TypeId} {d : D} {u : Value} (hk : s.blk k = some ⟨e0, false, d⟩) (hfree : d.free = true) (hv : LV P C.T w (FrOf M.a s.blk ρ w) s.blk ρ (.slw k e) u) :
    e0 = e ∧ (∀ l, d = .ints l → isFlatTy C.T e = true) ∧ HeadIn P C.T w F e d (ρ k) u := by
  have hO := h.ob k _ hk
  cases hv with
  | bv _ _ hb => cases hb with
    | flat _ _ hb => exact hb.elim
  | slw k e bk b base lim n cap h1 h2 h3 h4 h5 h6 h7 h8 =>
    rw [hk] at h1
    injection h1 with h1
    subst h1
    simp only at h2
    subst h2
    refine ⟨rfl, fun l hl => ?_, obFree hfree hO, fun b hl => (h.own k _ b hk hl).1, .slw 0 e0 ⟨e0, false, d⟩ b base lim n cap (by simp) rfl rfl h4 h5 h6 h7 h8⟩
    subst hl
    rw [h4] at hO
    obtain ⟨_, _, _, hf, _⟩ := hO
    exact hf
  | slwNil k e bk ad h1 h2 h3 h4 h5 =>
    rw [hk] at h1
    injection h1 with h1
    subst h1
    simp only at h2
    subst h2
    refine ⟨rfl, fun l hl => ?_, obFree hfree hO, fun b hl => (h.own k _ b hk hl).1, .slwNil 0 e0 ⟨e0, false, d⟩ ad (by simp) rfl rfl h4 h5⟩
    subst hl
    rw [h4] at hO
    exact hO.2.2

theorem frX_lt {b : Nat} (h : FrX w X b) : b < w.heap.size := h.1

def locV (ρ : Nat → Loc) : Option V → Loc
  | some (.ptr k _ _) => ρ k
  | _ => none

theorem markV_inv {t : TypeId} {d : D} {v : V} (h : markV t d = some v) : isM v = some (t, d) := by
  cases d <;> simp only [markV, Option.some.injEq, reduceCtorEq] at h <;> (subst h; rfl)

theorem snapM_sound (hT : TabOK P C.T) (hO : OraOK P C.T C.mv C.ora) (h : RelAt P C.T w0 M N ρ s a w) {g : Nat} {loc : Nat → Loc} {vs : List V} {us : List Value} (hv : All2 (LV P C.T w (FrOf M.a s.blk ρ w) s.blk ρ) vs us) :
    ∀ (i : Nat) (ts : List TypeId) (as : List V) (ks : List Nat) (os : List V), (∀ j, loc (i + j) = locV ρ vs[j]?) → snapM C s g i ts vs = some (as, ks, os) → (∀ v ∈ os, v.refs = false) →
      MIn P C.T w (FrOf M.a s.blk ρ w) loc i as us ∧ All2 (KeyM s ρ loc) ks (marks i as) := by
  induction hv with
  | nil =>
    intro i ts as ks os _ hs _
    have : snapM C s g i ts [] = some ([], [], []) := by cases ts <;> rfl
    rw [this] at hs
    injection hs with hs
    injection hs with e1 hs
    injection hs with e2 e3
    subst e1 e2 e3
    exact ⟨trivial, .nil⟩
  | cons h1 _ ih =>
    rename_i v u vs us _
    intro i ts as ks os hloc hs hX
    cases ts with
    | nil => simp [snapM] at hs
    | cons t ts =>
      have hloc' : ∀ j, loc (i + 1 + j) = locV ρ vs[j]? := fun j => by
        have := hloc (j + 1)
        rw [show i + (j + 1) = i + 1 + j by omega] at this
        simpa using this
      have hl0 : loc i = locV ρ (some v) := by simpa using hloc 0
      simp only [snapM] at hs
      split at hs
      · cases hs
      · rename_i as' ks' os' hrest
        cases hp : posM C.mv g i with
        | true =>
          rw [hp] at hs
          simp only [cond_true] at hs
          split at hs
          · rename_i k t0
            split at hs
            · rename_i t1 dd hk
              split at hs
              · rename_i av hav
                obtain ⟨he, hs2⟩ := cond_some hs
                clear hs
                have he := Nat.eq_of_beq_eq_true he
                subst he
                injection hs2 with hs2
                injection hs2 with e1 hs2
                injection hs2 with e2 e3
                subst e1 e2 e3
                obtain ⟨q1, q2⟩ := ih (i + 1) ts _ _ _ hloc' hrest hX
                have hm := markV_inv hav
                cases h1 with
                | bv _ _ hb => cases hb with
                  | flat _ _ hb => exact hb.elim
                | ptr k off t bk b base lim g1 g2 g3 =>
                  rw [hk] at g1
                  injection g1 with g1
                  subst g1
                  have hlo : loc i = some (b, base, lim) := hl0.trans g2
                  have hob := h.ob k _ hk
                  refine ⟨⟨?_, q1⟩, ?_⟩
                  · rw [hm]
                    refine ⟨b, base, lim, hlo, rfl, ?_, fun b' hb' => (h.own k _ b' hk (by rw [g2]; rw [hlo] at hb'; exact hb')).1, g3⟩
                    rw [hlo, ← g2]
                    exact hob
                  · simp only [marks, hm]
                    exact .cons ⟨hk, hlo.trans g2.symm⟩ q2
              · cases hs
            · cases hs
          · cases hs
        | false =>
          rw [hp] at hs
          simp only [cond_false] at hs
          split at hs
          · rename_i a' ha
            split at hs
            · cases hs
            · rename_i hm
              injection hs with hs
              injection hs with e1 hs
              injection hs with e2 e3
              subst e1 e2 e3
              obtain ⟨q1, q2⟩ := ih (i + 1) ts _ _ _ hloc' hrest (fun v hv => hX v (by simp [hv]))
              refine ⟨⟨?_, q1⟩, ?_⟩
              · rw [hm]
                exact snap_sound (lo := C.lo) hT hO h (fun _ hb => hb) (sees_noRefs (hX v (by simp))) h1 ha
              · simp only [marks, hm]
                exact q2
          · cases hs

theorem any_false {vs : List V} (h : vs.any V.refs = false) : ∀ v ∈ vs, v.refs = false := by
  intro v hv
  rw [List.any_eq_false] at h
  simpa using h v hv

theorem evCall_sound (hT : TabOK P C.T) (hO : OraOK P C.T C.mv C.ora) (h : RelAt P C.T w0 M N ρ s a w) {d : Nat} (hd : d < s.n) {o : Oper} {c : Call} {f : Operand} (ho : o.op = .call c) (hc : c.callee = .value f) (hdst : o.dst = some d)
    {R : Type} {K : St → Option R} {r : R} (hev : evCall C s c f d K = some r) {next : Act → World → Prop} {Q : Exit → Act → World → Prop} (hK : ∀ s' a' w', Rel P C.T w0 M N s' a' w' → K s' = some r → next a' w') : o.wp P a w next Q := by
  have hargs : All2 (LV P C.T w (FrOf M.a s.blk ρ w) s.blk ρ) (c.args.toList.map s.ev) ((c.args.map a.eval).toList) := by
    rw [Array.toList_map]
    exact .map _ _ _ fun x => h.ev x
  have hf := h.ev f
  unfold evCall at hev
  split at hev
  · -- a function of the program
    rename_i g first cap hfv
    rw [hfv] at hf
    obtain ⟨x, y, hu, hx, hy⟩ := hf.fn_inv
    split at hev
    · rename_i va vb ea eb
      cases hm : memN g C.mv with
      | false =>
        rw [hm] at hev
        simp only [cond_false] at hev
        split at hev
        · rename_i as es
          obtain ⟨hbody, rs, hk, hsound⟩ := hO _ _ _ _ _ hev
          rw [hm] at hsound
          obtain ⟨F, hF, hlt, hs1, hs2, hs3, hG⟩ : ∃ F : Nat → Prop, (∀ b, FrOf M.a s.blk ρ w b → F b) ∧ (∀ b, F b → b < w.heap.size) ∧ (∀ v ∈ c.args.toList.map s.ev, Sees ρ s.blk F v) ∧ (∀ v ∈ first, Sees ρ s.blk F v) ∧ (∀ v ∈ cap, Sees ρ s.blk F v) ∧
              (((c.args.toList.map s.ev).any V.refs || (first.any V.refs || cap.any V.refs)) = true ∨ ∀ b, F b → FrOf M.a s.blk ρ w b) := by
            cases hr : ((c.args.toList.map s.ev).any V.refs || (first.any V.refs || cap.any V.refs)) with
            | true =>
              exact ⟨FrX w (fun _ => False), fun b hb => ⟨hb.lt, fun x => x⟩, fun b hb => hb.1, fun v _ => sees_X h fun b hb => hb.elim, fun v _ => sees_X h fun b hb => hb.elim, fun v _ => sees_X h fun b hb => hb.elim, .inl rfl⟩
            | false =>
              simp only [Bool.or_eq_false_iff] at hr
              exact ⟨FrOf M.a s.blk ρ w, fun _ hb => hb, fun b hb => hb.lt, fun v hv => sees_noRefs (any_false hr.1 v hv), fun v hv => sees_noRefs (any_false hr.2.1 v hv), fun v hv => sees_noRefs (any_false hr.2.2 v hv), .inr fun _ hb => hb⟩
          have b1 := snapL_sound h hF hx _ hs2 ea
          have b2 := snapL_sound h hF hy _ hs3 eb
          have b3 := snapArgs_sound hT hO h hF hargs _ _ hs1 es
          have hcall := hsound w F (x ++ c.args.map a.eval ++ y) hlt (by
            rw [Array.toList_append, Array.toList_append, List.append_assoc]
            exact b1.append (b3.append b2))
          refine call_wp ho hc hdst hu hbody hcall ?_
          rintro e w' ⟨u, Fr2, rfl, hB, hS, hR, hn⟩
          refine ⟨u, rfl, ?_⟩
          simp only [hn] at hk
          cases hq : (needF rs.1 && ((c.args.toList.map s.ev).any V.refs || (first.any V.refs || cap.any V.refs))) with
          | true => rw [hq] at hk; cases hk
          | false =>
            rw [hq] at hk
            simp only [cond_false] at hk
            split at hk
            · rename_i s2 ht
              refine hK _ _ _ (thaw_rel h hd hB hS hR ?_ ht) hk
              rcases hG with hG | hG
              · rw [hG, Bool.and_true] at hq; exact .inl hq
              · exact .inr hG
            · cases hk
        · cases hev
      | true =>
        rw [hm] at hev
        simp only [cond_true] at hev
        replace hev := (cond_some hev).2
        split at hev
        · rename_i t1 ts k e vs hts hvs
          split at hev
          · rename_i e0 d0 as hblk es
            obtain ⟨hcond, hev⟩ := cond_some hev
            obtain ⟨hkn, hcond⟩ := and_true hcond
            have hkn : k < s.n := Nat.le_of_ble_eq_true hkn
            obtain ⟨he, hno⟩ := and_true hcond
            have hno := (and_true hno).1
            have he := Nat.eq_of_beq_eq_true he
            subst he
            split at hev
            · rename_i hdv hhd
              obtain ⟨hslv, hfree⟩ := headV_inv hhd (as ++ vb)
              rw [hvs] at hargs
              cases hlist : (c.args.map a.eval).toList with
              | nil => rw [hlist] at hargs; cases hargs
              | cons u0 us' =>
                rw [hlist] at hargs
                cases hargs with
                | cons hv0 hvs' =>
                  obtain ⟨_, hfl, hin⟩ := head_in (F := FrX w (ρ k).owns) h hblk hfree hv0
                  obtain ⟨hbody, rs, hk, hsound⟩ := hO _ _ _ _ _ hev
                  rw [hm] at hsound
                  have hF : ∀ b, FrOf M.a s.blk ρ w b → FrX w (ρ k).owns b := fun b hb => ⟨hb.lt, fun hx => hb.no k _ hblk hx⟩
                  have hx0 : x.toList = [] := by
                    have b1 := snapL_sound (F := FrX w (fun _ => False)) h (fun b hb => ⟨hb.lt, fun x => x⟩) hx _ (fun v _ => sees_X h fun b hb => hb.elim) ea
                    cases hxl : x.toList with
                    | nil => rfl
                    | cons q r => rw [hxl] at b1; cases b1
                  have hnoL : ∀ v, v ∈ vs ∨ v ∈ cap → Sees ρ s.blk (FrX w (ρ k).owns) v := by
                    intro v hv
                    refine sees_X h fun b hb => ⟨k, _, hblk, hb, ?_⟩
                    cases hh : V.has k v with
                    | false => rfl
                    | true =>
                      exfalso
                      have : (V.hasL k vs || V.hasL k cap) = true := by
                        rcases hv with hv | hv
                        · obtain ⟨i, hi⟩ := List.mem_iff_getElem?.1 hv
                          simp [hasL_of vs i v k hi hh]
                        · obtain ⟨i, hi⟩ := List.mem_iff_getElem?.1 hv
                          simp [hasL_of cap i v k hi hh]
                      rw [this] at hno
                      cases hno
                  have b2 := snapL_sound h hF hy _ (fun v hv => hnoL v (.inr hv)) eb
                  have b3 := snapArgs_sound hT hO h hF hvs' _ _ (fun v hv => hnoL v (.inl hv)) es
                  have hcall := hsound w (FrX w (ρ k).owns) (x ++ c.args.map a.eval ++ y) (fun b hb => frX_lt hb)
                  simp only [hslv] at hcall
                  have hcall := hcall (ρ k) u0 (us' ++ y.toList) (by
                    rw [Array.toList_append, Array.toList_append, hx0, hlist]; rfl) (fun b hb => hb.2) hin (b3.append b2)
                  refine call_wp ho hc hdst hu hbody hcall ?_
                  rintro e w' ⟨u, Fr2, rfl, hB, hS, hR, hback⟩
                  refine ⟨u, rfl, ?_⟩
                  split at hk
                  · rename_i q hq
                    obtain ⟨d', g0, g1, g2⟩ := hback q hq
                    subst g0
                    split at hk
                    · rename_i d1 x' hd1 hx'
                      injection hd1 with hd1 _
                      subst hd1
                      have hfree' : d'.free = true := by revert g1 hfree; cases d0 <;> cases d' <;> simp [D.alike, D.free]
                      exact hK _ _ _ (back_rel h hd hblk hB hR hx' g1 hfree' g2) hk
                    · cases hk
                  · split at hk
                    · rename_i l0
                      cases hnf : needF rs.1 with
                      | true => rw [hnf] at hk; cases hk
                      | false =>
                        rw [hnf] at hk
                        simp only [cond_false] at hk
                        split at hk
                        · rename_i s2 ht
                          exact hK _ _ _ (gone_rel h hd hkn hblk (hfl _ rfl) hB hR hnf ht) hk
                        · cases hk
                    · cases hk
            · cases hev
          · cases hev
        · -- a row of one's own
          rename_i t1 ts k i e vs hts hvs
          split at hev
          · rename_i e0 e1 xss as hblk es
            obtain ⟨hcond, hev⟩ := cond_some hev
            obtain ⟨he, hno⟩ := and_true hcond
            have hno := (and_true hno).1
            have he := Nat.eq_of_beq_eq_true he
            subst he
            rw [hvs] at hargs
            cases hlist : (c.args.map a.eval).toList with
            | nil => rw [hlist] at hargs; cases hargs
            | cons u0 us' =>
              rw [hlist] at hargs
              cases hargs with
              | cons hv0 hvs' =>
                obtain ⟨b0, base, lim, hρ, hi, _, hown, hin⟩ := row_in (F := FrX w (ρ k).owns) h hblk hv0
                obtain ⟨hbody, rs, hk, hsound⟩ := hO _ _ _ _ _ hev
                rw [hm] at hsound
                have hF : ∀ b, FrOf M.a s.blk ρ w b → FrX w (ρ k).owns b := fun b hb => ⟨hb.lt, fun hx => hb.no k _ hblk hx⟩
                have hx0 : x.toList = [] := by
                  have b1 := snapL_sound (F := FrX w (fun _ => False)) h (fun b hb => ⟨hb.lt, fun x => x⟩) hx _ (fun v _ => sees_X h fun b hb => hb.elim) ea
                  cases hxl : x.toList with
                  | nil => rfl
                  | cons q r => rw [hxl] at b1; cases b1
                have hnoL : ∀ v, v ∈ vs ∨ v ∈ cap → Sees ρ s.blk (FrX w (ρ k).owns) v := by
                  intro v hv
                  refine sees_X h fun b hb => ⟨k, _, hblk, hb, ?_⟩
                  cases hh : V.has k v with
                  | false => rfl
                  | true =>
                    exfalso
                    have : (V.hasL k vs || V.hasL k cap) = true := by
                      rcases hv with hv | hv
                      · obtain ⟨i, hi⟩ := List.mem_iff_getElem?.1 hv
                        simp [hasL_of vs i v k hi hh]
                      · obtain ⟨i, hi⟩ := List.mem_iff_getElem?.1 hv
                        simp [hasL_of cap i v k hi hh]
                    rw [this] at hno
                    cases hno
                have b2 := snapL_sound h hF hy _ (fun v hv => hnoL v (.inr hv)) eb
                have b3 := snapArgs_sound hT hO h hF hvs' _ _ (fun v hv => hnoL v (.inl hv)) es
                have hcall := hsound w (FrX w (ρ k).owns) (x ++ c.args.map a.eval ++ y) (fun b hb => frX_lt hb)
                simp only [headSlv] at hcall
                have hcall := hcall (rowLoc (lim.c i)) u0 (us' ++ y.toList) (by
                  rw [Array.toList_append, Array.toList_append, hx0, hlist]; rfl) (fun b hb hx => hb.2 (hown b hx)) hin (b3.append b2)
                refine call_wp ho hc hdst hu hbody hcall ?_
                rintro e w' ⟨u, Fr2, rfl, hB, hS, hR, hback⟩
                refine ⟨u, rfl, ?_⟩
                split at hk
                · rename_i q hq
                  obtain ⟨d', g0, g1, g2⟩ := hback q hq
                  subst g0
                  split at hk
                  · rename_i l1 x' hl1 hx'
                    injection hl1 with hl1 _
                    subst hl1
                    exact hK _ _ _ (row_rel h hd hblk hρ hi hB hR hx' g1 g2) hk
                  · cases hk
                · cases hk
          · cases hev
        · -- pointers to whole variables
          rename_i vs _
          generalize hts : c.argTypes.toList = ts at hev
          generalize hvs : c.args.toList.map s.ev = vs at hev hargs
          unfold evMoved at hev
          split at hev
          · rename_i as ks os es
            split at hev
            · cases hev
            · rename_i hhead
              obtain ⟨hcond, hev⟩ := cond_some hev
              obtain ⟨hdist, hno⟩ := and_true hcond
              obtain ⟨hbody, rs, hk, hsound⟩ := hO _ _ _ _ _ hev
              rw [hm] at hsound
              have hx0 : x.toList = [] := by
                have b1 := snapL_sound (F := FrX w (fun _ => False)) h (fun b hb => ⟨hb.lt, fun x => x⟩) hx _ (fun v _ => sees_X h fun b hb => hb.elim) ea
                cases hxl : x.toList with
                | nil => rfl
                | cons q r => rw [hxl] at b1; cases b1
              have hy0 : y.toList = [] := by
                have b1 := snapL_sound (F := FrX w (fun _ => False)) h (fun b hb => ⟨hb.lt, fun x => x⟩) hy _ (fun v _ => sees_X h fun b hb => hb.elim) eb
                cases hxl : y.toList with
                | nil => rfl
                | cons q r => rw [hxl] at b1; cases b1
              let loc : Nat → Loc := fun j => locV ρ vs[j]?
              have hno' : ∀ v ∈ os, v.refs = false := by
                intro v hv
                have := List.all_eq_true.1 hno v hv
                simpa using this
              obtain ⟨hmin, hkey⟩ := snapM_sound (g := g) (loc := loc) hT hO h hargs 0 ts as ks os (fun j => by simp [loc]) es hno'
              have hapart : ∀ b, FrOf M.a s.blk ρ w b → ¬ MAny loc (marks 0 as) b := by
                rintro b hb ⟨m, hm1, hb1⟩
                obtain ⟨k, k1, k2, k3⟩ := all2_right hkey m hm1
                rw [k3] at hb1
                exact hb.no k _ k2 hb1
              have hcall := hsound w (FrOf M.a s.blk ρ w) (x ++ c.args.map a.eval ++ y) (fun b hb => hb.lt)
              simp only [hhead] at hcall
              have hcall := hcall loc (by rw [Array.toList_append, Array.toList_append, hx0, hy0, List.nil_append, List.append_nil]; exact hmin) (distM_of h hkey hdist) hapart
              refine call_wp ho hc hdst hu hbody hcall ?_
              rintro e w' ⟨u, Fr2, rfl, hB, hS, hR, hback⟩
              refine ⟨u, rfl, ?_⟩
              split at hk
              · rename_i q hq
                obtain ⟨hq1, hq2⟩ := hback q hq
                split at hk
                · rename_i x' hx'
                  split at hk
                  · rename_i s' hput
                    obtain ⟨c1, c2, c3, c4⟩ := putM_spec hkey hdist hq2 hput
                    have hr := h.rewr c1 c2 hB (ks := ks) (fun b hb => by
                      obtain ⟨m, hm1, hb⟩ := hb
                      obtain ⟨k, k1, k2, k3⟩ := all2_right hkey m hm1
                      exact ⟨k, k1, k3 ▸ hb, _, k2⟩) c4 c3 (fun b hb => still_frOf h hS (fun _ hb => hb) hb (hq1 b hb))
                    exact hK _ _ _ ⟨_, hr.put (c1.symm ▸ hd) (thawR_sound hR hx' _ _ _)⟩ hk
                  · cases hk
                · cases hk
              · cases hk
          · cases hev
        · cases hev
    · cases hev
  · rename_i t g hfv
    rw [hfv] at hf
    obtain ⟨fid, x, y, hu, hclo⟩ := hf.cloB_inv
    split at hev
    · rename_i v hvs
      split at hev
      · rename_i l hl
        simp only [Option.bind_eq_some_iff] at hev
        obtain ⟨b, hg, hk⟩ := hev
        rw [hvs] at hargs
        cases hlist : (c.args.map a.eval).toList with
        | nil => rw [hlist] at hargs; cases hargs
        | cons u0 us' =>
          rw [hlist] at hargs
          cases hargs with
          | cons hv0 hrest =>
            cases hrest
            have hav := argOf_sound (F := FrX w fun _ => False) h (fun b hb => ⟨hb.lt, fun x => x⟩) (sees_X h fun b hb => hb.elim) hv0 hl
            obtain ⟨hbody, hcall⟩ := hclo w (FrX w fun _ => False) l b u0 (fun b hb => ⟨⟨hb.lt, fun x => x⟩, rfl⟩) (fun b hb => frX_lt hb) hg hav
            have hA : c.args.map a.eval = #[u0] := by
              apply Array.toList_inj.1; rw [hlist]
            rw [← hA] at hcall
            refine call_wp ho hc hdst hu hbody hcall ?_
            rintro e w' ⟨rfl, hB⟩
            exact ⟨_, rfl, hK _ _ _ ⟨ρ, (h.below hB).put hd (.ofBool b)⟩ hk⟩
      · cases hev
    · cases hev
  · rename_i t e g hfv
    rw [hfv] at hf
    obtain ⟨fid, x, y, hu, hclo⟩ := hf.cloL_inv
    split at hev
    · rename_i v hvs
      split at hev
      · rename_i l hl
        simp only [Option.bind_eq_some_iff] at hev
        obtain ⟨q, hg, hk⟩ := hev
        rw [hvs] at hargs
        cases hlist : (c.args.map a.eval).toList with
        | nil => rw [hlist] at hargs; cases hargs
        | cons u0 us' =>
          rw [hlist] at hargs
          cases hargs with
          | cons hv0 hrest =>
            cases hrest
            have hav := argOf_sound (F := FrX w fun _ => False) h (fun b hb => ⟨hb.lt, fun x => x⟩) (sees_X h fun b hb => hb.elim) hv0 hl
            obtain ⟨hbody, hcall⟩ := hclo w (FrX w fun _ => False) l q u0 (fun b hb => ⟨⟨hb.lt, fun x => x⟩, rfl⟩) (fun b hb => frX_lt hb) hg hav
            have hA : c.args.map a.eval = #[u0] := by
              apply Array.toList_inj.1; rw [hlist]
            rw [← hA] at hcall
            refine call_wp ho hc hdst hu hbody hcall ?_
            rintro en w' ⟨u, rfl, hB, hfl, hown⟩
            refine ⟨u, rfl, ?_⟩
            split at hk
            · rename_i s2 ht
              exact hK _ _ _ (thaw_rel (Fr0 := fun _ => False) (Fr' := fun _ => False) h hd hB (fun _ hb => hb.elim) (.slv _ _ _ hfl hown) (.inl rfl) ht) hk
            · cases hk
      · cases hev
    · cases hev
  · cases hev

end Go.Ev
end

section
/- Regions in the text's order. -/
namespace Go.Ev
open Go.RowKit (Below)

variable {P : Program} {w0 w w' : World} {M : Mo} {X : Nat → Prop} {ρ : Nat → Loc} {N : Nat → Loc × Blk} {s s' : St} {a : Act} {Fr : Nat → Prop} {blk : Nat → Option Blk} {C : Cfg}

/-- What is done with a call's result is done at its end alone. -/
def OraNat (ora : Ora) : Prop := ∀ (f : FuncId) (args : List V) (R : Type) (K : Rs → Option R), ora f args R K = (ora f args Rs some).bind K

theorem cond_bind {α β : Type} (b : Bool) (x y : Option α) (f : α → Option β) : (cond b x y).bind f = cond b (x.bind f) (y.bind f) := by cases b <;> rfl

theorem outK_nat (o : Out) {R : Type} (K : St → Option R) : outK o K = (outK o some).bind K := by
  cases o with
  | bad => rfl
  | ok b s => cases b <;> rfl

theorem evMoved_nat (hN : OraNat C.ora) (g : Nat) (b : List V) (ts : List TypeId) (vs : List V) (d : Nat) {R : Type} (K : St → Option R) : evMoved C s g b ts vs d K = (evMoved C s g b ts vs d some).bind K := by
  unfold evMoved
  split
  · split
    · rfl
    · rw [cond_bind]
      congr 1
      rw [hN g _ R, hN g _ St, Option.bind_assoc]
      congr 1
      funext r
      split
      · split
        · split <;> rfl
        · rfl
      · rfl
  · rfl

theorem evCall_nat (hN : OraNat C.ora) (c : Call) (f : Operand) (d : Nat) {R : Type} (K : St → Option R) : evCall C s c f d K = (evCall C s c f d some).bind K := by
  unfold evCall
  cases s.ev f with
  | fn g first cap =>
    simp only []
    cases snapL C.T s first with
    | none => rfl
    | some va =>
      cases snapL C.T s cap with
      | none => rfl
      | some vb =>
        simp only []
        cases memN g C.mv with
        | false =>
          simp only [cond_false]
          split
          · rename_i as _
            rw [hN g _ R, hN g _ St, Option.bind_assoc]
            congr 1
            funext r
            split
            · rfl
            · rw [cond_bind]
              congr 1
              split <;> rfl
          · rfl
        | true =>
          simp only [cond_true]
          rw [cond_bind]
          congr 1
          split
          · split
            · rw [cond_bind]
              congr 1
              split
              · rw [hN g _ R, hN g _ St, Option.bind_assoc]
                congr 1
                funext r
                split
                · split <;> rfl
                · split
                  · rw [cond_bind]
                    congr 1
                    split <;> rfl
                  · rfl
              · rfl
            · rfl
          · split
            · rw [cond_bind]
              congr 1
              rw [hN g _ R, hN g _ St, Option.bind_assoc]
              congr 1
              funext r
              split
              · split <;> rfl
              · rfl
            · rfl
          · exact evMoved_nat hN _ _ _ _ _ _
          · rfl
  | cloB t g =>
    simp only []
    split
    · split
      · rw [Option.bind_assoc]; rfl
      · rfl
    · rfl
  | cloL t e g =>
    simp only []
    split
    · split
      · rw [Option.bind_assoc]
        congr 1
        funext q
        split <;> rfl
      · rfl
    · rfl
  | _ => rfl

theorem evOp_nat (hN : OraNat C.ora) (o : Oper) {R : Type} (K : St → Option R) : evOp C s o K = (evOp C s o some).bind K := by
  unfold evOp
  split
  · exact outK_nat _ _
  · rw [cond_bind]
    congr 1
    split
    · split
      · rw [cond_bind]; rfl
      · rfl
    · split
      · exact evCall_nat hN _ _ _ _
      · exact outK_nat _ _
    · split <;> rfl
    · exact outK_nat _ _

/-- One operation, with its guard. -/
def evG (C : Cfg) (ops : List Oper) (s : St) (o : Oper) : Option St :=
  match o.guard with
  | none => evOp C s o some
  | some (j, want) => match (ops[j]?).bind (·.dst) with
    | none => none
    | some dj => match s.get dj with
      | .bool b => cond (b == want) (evOp C (s.put dj (.bool want)) o some) (some (putD (s.put dj (.bool (!want))) o.dst .skip))
      | .skip => some (putD s o.dst .skip)
      | _ => none

theorem evOps_cons (hN : OraNat C.ora) (ops : List Oper) (o : Oper) (r : List Oper) {R : Type} (K : St → Option R) :
    evOps C ops (o :: r) s K = (evG C ops s o).bind fun s' => evOps C ops r s' K := by
  simp only [evOps, evG]
  cases o.guard with
  | none => exact evOp_nat hN _ _
  | some jw =>
    obtain ⟨j, want⟩ := jw
    simp only []
    cases (ops[j]?).bind (·.dst) with
    | none => rfl
    | some dj =>
      simp only []
      cases s.get dj with
      | bool b => cases want <;> cases b <;> first | rfl | exact evOp_nat hN _ _
      | _ => rfl

/-! ## One operation -/

theorem asBool_run (b : Bool) (w : World) : (asBool (.bool b)).run P w = .ok b w := rfl

theorem asNil_sound {T : Tab} (h : RelAt P T w0 M N ρ s a w) {d : Nat} (hd : d < s.n) {t : TypeId} {x : Operand} (hs : asNil T s d t x = some s') : Rel P T w0 M N s' (a.put (some d) (a.eval x)) w := by
  unfold asNil at hs
  obtain ⟨h1, hs⟩ := cond_some hs
  have hx : a.eval x = .slice none 0 0 := by
    unfold isNilC at h1
    split at h1
    · rfl
    · cases h1
  split at hs
  · rename_i e hty hb
    obtain ⟨hf, hs⟩ := cond_some hs
    injection hs with hs
    subst hs
    have h1 := h.adopt (d := d) (bk := ⟨e, false, .ints []⟩) (loc' := none) hb hd (Below.refl _ _) (fun b hl => (owns_none hl).elim) (fun _ => ⟨rfl, rfl, hf⟩)
    rw [hx]
    exact ⟨_, h1.put hd (.slwNil d e _ none (blk_setB_self _ _ _) rfl rfl (upd_self _ _ _) rfl)⟩
  · cases hs

theorem evOp_sound (hT : TabOK P C.T) (hE : EqTabOK P C.T) (hO : OraOK P C.T C.mv C.ora) (h : RelAt P C.T w0 M N ρ s a w) {o : Oper} {R : Type} {K : St → Option R} {r : R} (hev : evOp C s o K = some r)
    {next : Act → World → Prop} {Q : Exit → Act → World → Prop} (hK : ∀ s' a' w', Rel P C.T w0 M N s' a' w' → K s' = some r → next a' w') : o.wp P a w next Q := by
  unfold evOp at hev
  split at hev
  · rename_i hdst
    cases hop : opN C.T s o.op with
    | bad => rw [hop] at hev; cases hev
    | ok b s' =>
      rw [hop] at hev
      simp only [outK] at hev
      obtain ⟨hb, hev⟩ := cond_some hev
      subst hb
      obtain ⟨n, w', h1, h2, h3⟩ := opN_sound hT hE h hop o rfl
      unfold Oper.wp
      rw [h1]
      rcases h2 with rfl | ⟨v, rfl⟩
      · rw [Oper.upon_skip, hdst]; exact hK _ _ _ h3 hev
      · rw [Oper.upon_value, hdst]; exact hK _ _ _ h3 hev
  · rename_i d hdst
    obtain ⟨hd, hev⟩ := cond_some hev
    have hd : d < s.n := by simpa [Nat.blt_eq] using hd
    have gen : outK (opR C.T s d o.op) K = some r → o.wp P a w next Q := by
      intro hev
      cases hop : opR C.T s d o.op with
      | bad => rw [hop] at hev; cases hev
      | ok b s' =>
        rw [hop] at hev
        simp only [outK] at hev
        obtain ⟨hb, hev⟩ := cond_some hev
        subst hb
        obtain ⟨u, w', h1, h2⟩ := opR_sound hT hE h hd hop o rfl
        unfold Oper.wp
        rw [h1, Oper.upon_value, hdst]
        exact hK _ _ _ h2 hev
    split at hev
    · rename_i c x y hop
      split at hev
      · rename_i t ht
        have hc := h.ev c
        rw [ht] at hc
        have hc := hc.bool_inv
        unfold Oper.wp
        have : (execOp a.eval o).run P w = .ok (.value (if t then a.eval x else a.eval y)) w := by
          simp only [execOp, hop]
          rw [hc]
          rfl
        rw [this, Oper.upon_value, hdst]
        cases t with
        | true => exact hK _ _ _ ⟨ρ, h.put hd (h.ev x)⟩ hev
        | false => exact hK _ _ _ ⟨ρ, h.put hd (h.ev y)⟩ hev
      · cases hev
    · rename_i c hop
      split at hev
      · rename_i f hc
        exact evCall_sound hT hO h hd hop hc hdst hev hK
      · exact gen hev
    · rename_i x hop
      have hrun : (execOp a.eval o).run P w = .ok (.value (a.eval x)) w := by simp only [execOp, hop]; rfl
      unfold Oper.wp
      rw [hrun, Oper.upon_value, hdst]
      split at hev
      · rename_i s2 hs2
        exact hK _ _ _ (asNil_sound h hd hs2) hev
      · exact hK _ _ _ ⟨ρ, h.put hd (h.ev x)⟩ hev
    · exact gen hev

theorem skip_lv {T : Tab} {Fr : Nat → Prop} : LV P T w Fr blk ρ .skip undef := .bv _ _ .skip

theorem RelAt.putSkip {T : Tab} (h : RelAt P T w0 M N ρ s a w) (d : Option Tmp) : RelAt P T w0 M N ρ (putD s d .skip) (a.put d undef) w := by
  cases d with
  | none => exact h
  | some t =>
    rcases Nat.lt_or_ge t s.n with ht | ht
    · exact h.put ht skip_lv
    · have : a.put (some t) undef = a := by
        simp only [Act.put]
        congr 1
        exact Array.setIfInBounds_eq_of_size_le (by rw [h.tn]; exact ht)
      rw [this]
      refine h.same ?_
      have : a.tmps.getD t undef = undef := by simp [Array.getD_eq_getD_getElem?, Array.getElem?_eq_none (by rw [h.tn]; exact ht : a.tmps.size ≤ t)]
      rw [this]
      exact skip_lv

theorem evG_sound (hT : TabOK P C.T) (hE : EqTabOK P C.T) (hO : OraOK P C.T C.mv C.ora) (h : RelAt P C.T w0 M N ρ s a w) {ops : Array Oper} {i : Nat} {o : Oper} (hi : ops[i]? = some o) {s' : St} (hev : evG C ops.toList s o = some s')
    {next : Act → World → Prop} {Q : Exit → Act → World → Prop} (hK : ∀ a' w', Rel P C.T w0 M N s' a' w' → next a' w') : wpOp P ops Q i next a w := by
  unfold wpOp
  simp only [hi]
  unfold evG at hev
  split at hev
  · rename_i hg
    have hw : Region.wanted o (yielded ops a.tmps) = true := by simp [Region.wanted, hg]
    rw [if_pos hw]
    exact .inl (evOp_sound hT hE hO h hev fun s1 a1 w1 h1 h2 => by injection h2 with h2; subst h2; exact hK _ _ h1)
  · rename_i j want hg
    split at hev
    · cases hev
    · rename_i dj hdj
      rw [Array.getElem?_toList] at hdj
      have hlv := h.lv dj
      split at hev
      · rename_i b hb
        rw [hb] at hlv
        have hu := hlv.bool_inv
        have hy : yielded ops a.tmps j = some b := by
          unfold yielded
          rw [hdj]
          have : a.tmps[dj]? = some (.bool b) := by
            rw [Array.getD_eq_getD_getElem?] at hu
            cases hh : a.tmps[dj]? with
            | none => rw [hh] at hu; cases hu
            | some x => rw [hh] at hu; simpa using hu
          simp [this]
        by_cases hbw : b = want
        · subst hbw
          have hw : Region.wanted o (yielded ops a.tmps) = true := by simp [Region.wanted, hg, hy]
          rw [if_pos hw]
          simp only [beq_self_eq_true, cond_true] at hev
          have h1 : RelAt P C.T w0 M N ρ (s.put dj (.bool b)) a w := h.same (by rw [hu]; exact .ofBool b)
          exact .inl (evOp_sound hT hE hO h1 hev fun s1 a1 w1 h1 h2 => by injection h2 with h2; subst h2; exact hK _ _ h1)
        · have hw : ¬ (Region.wanted o (yielded ops a.tmps) = true) := by simp [Region.wanted, hg, hy, hbw]
          rw [if_neg hw]
          have hbf : (b == want) = false := by simpa using hbw
          rw [hbf] at hev
          simp only [cond_false, Option.some.injEq] at hev
          subst hev
          have hbn : b = !want := by cases b <;> cases want <;> simp_all
          have h1 : RelAt P C.T w0 M N ρ (s.put dj (.bool (!want))) a w := h.same (by rw [hu, hbn]; exact .ofBool _)
          exact hK _ _ ⟨ρ, h1.putSkip _⟩
      · rename_i hb
        rw [hb] at hlv
        have hu := hlv.skip_inv
        have hy : yielded ops a.tmps j = none := by
          unfold yielded
          rw [hdj]
          simp only [Option.bind_some]
          rw [Array.getD_eq_getD_getElem?] at hu
          cases hh : a.tmps[dj]? with
          | none => rfl
          | some x =>
            rw [hh] at hu
            simp only [Option.getD_some] at hu
            subst hu
            rfl
        have hw : ¬ (Region.wanted o (yielded ops a.tmps) = true) := by simp [Region.wanted, hg, hy]
        rw [if_neg hw]
        injection hev with hev
        subst hev
        exact hK _ _ ⟨ρ, h.putSkip _⟩
      · cases hev

theorem evOps_sound (hT : TabOK P C.T) (hE : EqTabOK P C.T) (hO : OraOK P C.T C.mv C.ora) (hN : OraNat C.ora) {ops : Array Oper} {R : Type} {K : St → Option R} {r : R} {Q : Exit → Act → World → Prop}
    (hQ : ∀ s' a' w', Rel P C.T w0 M N s' a' w' → K s' = some r → Q .normal a' w') : ∀ (l : List Oper) (i : Nat) (s : St) (a : Act) (w : World), ops.toList.drop i = l → Rel P C.T w0 M N s a w → evOps C ops.toList l s K = some r →
      wpOps P ops Q (List.range' i l.length) a w := by
  intro l
  induction l with
  | nil =>
    intro i s a w _ h hev
    exact hQ _ _ _ h hev
  | cons o l ih =>
    intro i s a w hd h hev
    obtain ⟨ρ, h⟩ := h
    rw [evOps_cons hN, Option.bind_eq_some_iff] at hev
    obtain ⟨s1, h1, h2⟩ := hev
    have hi : ops[i]? = some o := by
      have : (ops.toList.drop i)[0]? = some o := by rw [hd]; rfl
      simpa using this
    have hd' : ops.toList.drop (i + 1) = l := by
      rw [← List.tail_drop, hd]; rfl
    simp only [List.length_cons, List.range'_succ]
    rw [wpOps_cons]
    exact evG_sound hT hE hO h hi h1 fun a' w' hr => ih (i + 1) s1 a' w' hd' hr h2

end Go.Ev
end

