import Derived.Test.YtkblhnedillknaaE5
import Derived.ChangeArms
import Derived.ChangeSlices
import Derived.OpenShut
import Derived.ProofKit
import Derived.Carry
import Derived.ChangeSame
import Derived.WideKeyArgs
set_option linter.unusedVariables false
set_option linter.unusedSimpArgs false
section
/- Code. -/
namespace Go.Ev
open Go.RowKit (Below)

variable {P : Program} {T : Tab} {w0 w w' : World} {M X : Nat → Prop} {ρ : Nat → Loc} {N : Nat → Loc × Blk} {s s' : St} {a : Act} {Fr : Nat → Prop} {blk : Nat → Option Blk} {C : Cfg}

/-! ## Forgetting -/

theorem RelAt.forget (h : RelAt P T w0 M N ρ s a w) (hn : s'.n = s.n) (hg : ∀ t, s'.get t = s.get t ∨ s'.get t = .undef) (hb : ∀ k bk, s'.blk k = some bk → s.blk k = some bk)
    (hr : ∀ t k, V.has k (s'.get t) = true → s'.blk k = s.blk k) : RelAt P T w0 M N ρ s' a w := by
  have hl : Later w (FrOf s.blk ρ w) w (FrOf s'.blk ρ w) := fun b hbb => ⟨⟨hbb.1, fun k bk base lim hk hρ => hbb.2 k bk base lim (hb k bk hk) hρ⟩, rfl⟩
  refine ⟨h.os, h.tape, h.output, h.size, h.old, h.defers, h.tn.trans hn.symm, fun k bk b base lim hk => h.loc k bk b base lim (hb k bk hk), fun k k' bk bk' b base base' lim lim' hk hk' => h.inj k k' bk bk' b base base' lim lim' (hb k bk hk) (hb k' bk' hk'), ?_, ?_, fun k hk => ⟨(h.pin k (hn ▸ hk)).1, fun bk hbk => (h.pin k (hn ▸ hk)).2 bk (hb k bk hbk)⟩⟩
  · intro k bk hk
    have ho := h.ob k bk (hb k bk hk)
    cases hρ : ρ k with
    | none => rw [hρ] at ho; exact ho
    | some x =>
      obtain ⟨b, base, lim⟩ := x
      rw [hρ] at ho
      obtain ⟨arr, g1, g2, g3⟩ := ho
      exact ⟨arr, g1, g2, g3.later hl⟩
  · intro t
    rcases hg t with e | e
    · rw [e]
      refine (h.lv t).move hl ?_
      intro k bk hh hk
      rw [← e] at hh
      refine ⟨rfl, bk, (hr t k hh).trans hk, rfl, rfl, ?_⟩
      cases bk.d <;> simp [D.alike]
    · rw [e]; exact .bv _ _ (.undef _)

theorem look_restrictE (s : St) : ∀ (ks : List Nat) (t : Nat), look V.undef (restrictE s ks) t = V.undef ∨ (t ∈ ks ∧ look V.undef (restrictE s ks) t = plainV (s.get t)) := by
  intro ks
  induction ks with
  | nil => intro t; exact .inl rfl
  | cons k ks ih =>
    intro t
    simp only [restrictE, look]
    cases hb : Nat.beq k t with
    | true =>
      have := Nat.eq_of_beq_eq_true hb
      subst this
      exact .inr ⟨by simp, rfl⟩
    | false =>
      simp only [cond_false]
      rcases ih t with h | ⟨h1, h2⟩
      · exact .inl h
      · exact .inr ⟨by simp [h1], h2⟩

theorem plainV_eq (v : V) : plainV v = v ∨ plainV v = .undef := by
  cases v with
  | fn f x y => cases x <;> cases y <;> simp [plainV]
  | _ => simp [plainV]

theorem plainV_has {k : Nat} {v : V} (h : V.has k (plainV v) = true) : idV v = some k := by
  cases v with
  | fn f x y => cases x <;> cases y <;> simp [plainV, V.has, V.hasL] at h
  | ptr k' _ _ => simp only [plainV, V.has] at h; simp [idV, Nat.eq_of_beq_eq_true h]
  | slw k' _ => simp only [plainV, V.has] at h; simp [idV, Nat.eq_of_beq_eq_true h]
  | sl k' _ _ _ => simp only [plainV, V.has] at h; simp [idV, Nat.eq_of_beq_eq_true h]
  | _ => simp [plainV, V.has] at h

theorem look_addB (s : St) (k : Nat) (own : List (Nat × Option Blk)) (hq : ∀ j, look none own j = s.blk j ∨ look none own j = none) :
    (∀ j, look none (addB s k own) j = s.blk j ∨ look none (addB s k own) j = none) ∧ look none (addB s k own) k = s.blk k ∧ ∀ j, look none own j = s.blk j → look none (addB s k own) j = s.blk j := by
  unfold addB
  cases hl : look none own k with
  | some b =>
    simp only []
    refine ⟨hq, ?_, fun j hj => hj⟩
    rcases hq k with h | h
    · exact h
    · rw [hl] at h; cases h
  | none =>
    simp only []
    refine ⟨fun j => ?_, look_cons_self _ _ _ _, fun j hj => ?_⟩
    · by_cases e : k = j
      · subst e; exact .inl (look_cons_self _ _ _ _)
      · rw [look_cons_ne _ _ _ e]; exact hq j
    · by_cases e : k = j
      · subst e; exact look_cons_self _ _ _ _
      · rw [look_cons_ne _ _ _ e]; exact hj

theorem look_restrictB (s : St) : ∀ (ks : List Nat), (∀ j, look none (restrictB s ks) j = s.blk j ∨ look none (restrictB s ks) j = none) ∧ ∀ t ∈ ks, ∀ k, idV (s.get t) = some k → look none (restrictB s ks) k = s.blk k := by
  intro ks
  induction ks with
  | nil => exact ⟨fun j => .inr rfl, fun t ht => by simp at ht⟩
  | cons t ks ih =>
    obtain ⟨h1, h2⟩ := ih
    simp only [restrictB]
    cases hid : idV (s.get t) with
    | none =>
      simp only []
      refine ⟨h1, fun u hu k hk => ?_⟩
      rcases List.mem_cons.1 hu with rfl | hu
      · rw [hid] at hk; cases hk
      · exact h2 u hu k hk
    | some k =>
      simp only []
      obtain ⟨g1, g2, g3⟩ := look_addB s k (restrictB s ks) h1
      refine ⟨g1, fun u hu j hj => ?_⟩
      rcases List.mem_cons.1 hu with rfl | hu
      · rw [hid] at hj; injection hj with hj; subst hj; exact g2
      · exact g3 j (h2 u hu j hj)

theorem look_ownR (s : St) (ks : List Nat) : (∀ j, look none (ownR s ks) j = s.blk j ∨ look none (ownR s ks) j = none) ∧ ∀ t ∈ ks, ∀ k, idV (s.get t) = some k → look none (ownR s ks) k = s.blk k := by
  obtain ⟨h1, h2⟩ := look_restrictB s ks
  unfold ownR
  split
  · obtain ⟨g1, _, g3⟩ := look_addB s s.n (restrictB s ks) h1
    exact ⟨g1, fun t ht k hk => g3 k (h2 t ht k hk)⟩
  · exact ⟨h1, h2⟩

theorem restrict_rel (h : RelAt P T w0 M N ρ s a w) (ks : List Nat) : RelAt P T w0 M N ρ (restrict ks s) a w := by
  obtain ⟨b1, b2⟩ := look_ownR s ks
  refine h.forget rfl ?_ ?_ ?_
  · intro t
    show look V.undef (restrictE s ks) t = _ ∨ look V.undef (restrictE s ks) t = _
    rcases look_restrictE s ks t with e | ⟨_, e⟩
    · exact .inr e
    · rw [e]
      exact plainV_eq _
  · intro k bk hk
    have hk : look none (ownR s ks) k = some bk := hk
    rcases b1 k with e | e
    · rw [e] at hk; exact hk
    · rw [e] at hk; cases hk
  · intro t k hh
    have hh : V.has k (look V.undef (restrictE s ks) t) = true := hh
    rcases look_restrictE s ks t with e | ⟨ht, e⟩
    · rw [e] at hh; cases hh
    · rw [e] at hh
      exact b2 t ht k (plainV_has hh)

theorem undef_rel (h : RelAt P T w0 M N ρ s a w) (t : Nat) : RelAt P T w0 M N ρ (s.put t .undef) a w := h.same (.bv _ _ (.undef _))

theorem window_rel (h : RelAt P T w0 M N ρ s a w) (ks : List Nat) (t : Nat) : Rel P T w0 M N (window T ks s t) a w := by
  unfold window
  split
  · rename_i k off n e hv
    cases hoth : (othersHave s k t ks || Nat.ble s.n k) with
    | true => exact ⟨ρ, undef_rel h t⟩
    | false =>
      have hkn : k < s.n := by
        rw [Bool.or_eq_false_iff] at hoth
        rcases Nat.lt_or_ge k s.n with hx | hx
        · exact hx
        · have := Nat.ble_eq_true_of_le hx; rw [hoth.2] at this; cases this
      simp only [cond_false]
      split
      · rename_i e0 r0 l hk
        cases hc : (Nat.beq e0 e && !r0) with
        | false => exact ⟨ρ, undef_rel h t⟩
        | true =>
          simp only [cond_true]
          obtain ⟨he, hr⟩ := and_true hc
          have he := Nat.eq_of_beq_eq_true he
          subst he
          have hlv := h.lv t
          rw [hv] at hlv
          generalize hu : a.tmps.getD t undef = u at hlv
          cases hlv with
          | bv _ _ hb => cases hb with
            | flat _ _ hb => exact hb.elim
          | sl k off n e e1 r1 l1 ad cap h1 h2 h3 h4 h5 h5r h6 h7 h8 =>
            rw [hk] at h1
            injection h1 with h1
            injection h1 with q1 q2 q3
            injection q3 with q3
            subst q1 q2 q3
            have hlen : (win l off (n * (T.at e0).size)).length = n * (T.at e0).size := win_length _ _ _ h4
            have hO := h.ob k _ hk
            rcases h8 with h8 | ⟨b, base, lim, g1, g2, g3⟩
            · subst h8
              have hn : n = 0 := by omega
              subst hn
              have h1 := (h.kill k).change (w' := w) (bk' := ⟨e0, false, .ints (win l off (0 * (T.at e0).size))⟩) (loc' := none) (k := k) hk rfl rfl rfl (Nat.le_refl _) (fun _ _ _ => rfl)
                (fun b base lim hl => by cases hl) (fun _ => ⟨rfl, by simpa [D.len] using hlen, h3⟩) (.inl ⟨noRef_kill s k, hkn⟩)
              refine ⟨_, h1.same ?_⟩
              rw [hu]
              exact .slwNil k e0 _ ad (blk_setB_self _ _ _) rfl rfl (upd_self _ _ _) (by simpa [D.len] using hlen)
            · rw [g1] at hO
              obtain ⟨arr, o1, o2, o3⟩ := hO
              have h1 := (h.kill k).change (w' := w) (bk' := ⟨e0, false, .ints (win l off (n * (T.at e0).size))⟩) (loc' := some (b, base + off, lim)) (k := k) hk rfl rfl rfl (Nat.le_refl _) (fun _ _ _ => rfl)
                (fun b' base' lim' hl => by
                  injection hl with hl
                  injection hl with hl1 hl2
                  subst hl1
                  exact ⟨lt_of_heap o1, .inl ⟨base, lim, g1⟩⟩)
                (fun _ => ⟨arr, o1, o2, h3, fun j hj => by
                  rw [hlen] at hj
                  rw [Nat.add_assoc, o3.2 (off + j) (by omega), h5 j hj, rd_win _ _ _ _ hj]⟩) (.inl ⟨noRef_kill s k, hkn⟩)
              refine ⟨_, h1.same ?_⟩
              rw [hu, g2]
              exact .slw k e0 _ b (base + off) lim n cap (blk_setB_self _ _ _) rfl rfl (upd_self _ _ _) hlen h6 h7 (by omega)
      · exact ⟨ρ, undef_rel h t⟩
  · exact ⟨ρ, h⟩

theorem rename_rel (h : RelAt P T w0 M N ρ s a w) (ks : List Nat) (t : Nat) : Rel P T w0 M N (rename ks s t) a w := by
  unfold rename
  split
  · rename_i k e hv
    cases hc : ((Nat.beq k t || othersHave s k t ks) || (Nat.ble s.n k || Nat.ble s.n t)) with
    | true => exact ⟨ρ, h⟩
    | false =>
      simp only [cond_false]
      split
      · rename_i bk hk ht
        have hkt : k ≠ t := by
          intro e
          subst e
          simp at hc
        have htn : t < s.n := by
          have hc2 := (Bool.or_eq_false_iff.1 (Bool.or_eq_false_iff.1 hc).2).2
          rcases Nat.lt_or_ge t s.n with hx | hx
          · exact hx
          · have := Nat.ble_eq_true_of_le hx; rw [hc2] at this; cases this
        have hlv := h.lv t
        rw [hv] at hlv
        generalize hu : a.tmps.getD t undef = u at hlv
        have h1 := (h.kill k).rename (k := k) (d := t) (bk := bk) hk (noRef_kill s k) (by rw [blk_drop_ne _ hkt]; exact ht) htn
        refine ⟨_, h1.same ?_⟩
        rw [hu]
        cases hlv with
        | bv _ _ hb => cases hb with
          | flat _ _ hb => exact hb.elim
        | slw k e bk' b base lim n cap g1 g2 g3 g4 g5 g6 g7 g8 =>
          rw [hk] at g1
          injection g1 with g1
          subst g1
          exact .slw t e bk b base lim n cap (blk_setB_self _ _ _) g2 g3 ((upd_self _ _ _).trans g4) g5 g6 g7 g8
        | slwNil k e bk' ad g1 g2 g3 g4 g5 =>
          rw [hk] at g1
          injection g1 with g1
          subst g1
          exact .slwNil t e bk ad (blk_setB_self _ _ _) g2 g3 ((upd_self _ _ _).trans g4) g5
      · exact ⟨ρ, h⟩
  · exact ⟨ρ, h⟩

theorem heads_rel (ks : List Nat) : ∀ (ts : List Nat) (s : St), Rel P T w0 M N s a w → Rel P T w0 M N (heads T ks s ts) a w := by
  intro ts
  induction ts with
  | nil => intro s h; exact h
  | cons t ts ih =>
    intro s h
    obtain ⟨ρ, h⟩ := h
    obtain ⟨ρ1, h1⟩ := window_rel h ks t
    exact ih _ (rename_rel h1 ks t)

theorem canon_rel (h : Rel P T w0 M N s a w) (ks : List Nat) : Rel P T w0 M N (canon T ks s) a w := by
  obtain ⟨ρ, h⟩ := h
  obtain ⟨ρ', h'⟩ := heads_rel (T := T) ks ks _ ⟨ρ, restrict_rel h ks⟩
  exact ⟨ρ', restrict_rel h' ks⟩

/-! ## Code -/

def PostK (P : Program) (T : Tab) (w0 : World) (M : Nat → Prop) (N : Nat → Loc × Blk) {R : Type} (K : Ex → St → Option R) (r : R) : Exit → Act → World → Prop
  | .normal, a, w => ∃ s, Rel P T w0 M N s a w ∧ K .normal s = some r
  | .exit id, a, w => ∃ s, Rel P T w0 M N s a w ∧ K (.exit id) s = some r
  | .ret, a, w => ∃ s, Rel P T w0 M N s a w ∧ K .ret s = some r
  | _, _, _ => False

/-- A loop does as the evaluator says of it. -/
def LoopOK (P : Program) (T : Tab) (lo : Lo) (lab : Nat) (c : Code) : Prop := ∀ (w0 : World) (M : Nat → Prop) (N : Nat → Loc × Blk) (R : Type) (K : Ex → St → Option R) (r : R) (s : St) (a : Act) (w : World), lo lab s R K = some r → Rel P T w0 M N s a w → (Code.loop c).wp P (PostK P T w0 M N K r) a w

theorem aliveElse_false {d : Nat} : ∀ (env : List (Nat × V)), aliveElse d env = false → ∀ t, t ≠ d → V.has d (look .undef env t) = false := by
  intro env
  induction env with
  | nil => intro _ t _; rfl
  | cons x r ih =>
    obtain ⟨i, v⟩ := x
    intro h t ht
    simp only [aliveElse, Bool.or_eq_false_iff] at h
    simp only [look]
    cases hb : Nat.beq i t with
    | false => exact ih h.2 t ht
    | true =>
      have := Nat.eq_of_beq_eq_true hb
      subst this
      have h1 := h.1
      rw [beq_ne ht] at h1
      simpa using h1

theorem freeB_rel (h : Rel P T w0 M N s a w) (d : Nat) : Rel P T w0 M N (freeB s d) a w := by
  obtain ⟨ρ, h⟩ := h
  unfold freeB
  split
  · cases hb : aliveElse d s.env with
    | true => exact ⟨ρ, h⟩
    | false =>
      refine ⟨ρ, (h.same (d := d) (v := .undef) (.bv _ _ (.undef _))).dropB fun t => ?_⟩
      by_cases e : d = t
      · subst e; rw [get_put_self]; rfl
      · rw [get_put_ne _ _ e]; exact aliveElse_false _ hb t (Ne.symm e)
  · exact ⟨ρ, h⟩

theorem frees_rel : ∀ (ops : List Oper) {s : St}, Rel P T w0 M N s a w → Rel P T w0 M N (frees ops s) a w := by
  intro ops
  induction ops with
  | nil => intro s h; exact h
  | cons o r ih =>
    intro s h
    unfold frees
    split
    · cases isAlloc o.op with
      | true => exact ih (freeB_rel h _)
      | false => exact ih h
    · exact ih h

theorem evCode_sound (hT : TabOK P C.T) (hE : EqTabOK P C.T) (hO : OraOK P C.T C.mv C.ora) (hN : OraNat C.ora) (hm : P.follows .mixedOrders = true) {R : Type} {r : R} :
    ∀ (c : Code) (lab : Nat) (s : St) (K : Ex → St → Option R) (a : Act) (w : World), (∀ p ∈ loopsOf c lab, LoopOK P C.T C.lo p.1 p.2) → evCode C c lab s K = some r → Rel P C.T w0 M N s a w → c.wp P (PostK P C.T w0 M N K r) a w := by
  intro c
  induction c with
  | skip => intro lab s K a w hl h hr; exact wp_skip ⟨s, hr, h⟩
  | region id ops draw =>
    intro lab s K a w hl h hr
    simp only [evCode] at h
    have hQ : ∀ s' a' w', Rel P C.T w0 M N s' a' w' → K .normal s' = some r → PostK P C.T w0 M N K r .normal a' w' := fun s' a' w' q1 q2 => ⟨s', q1, q2⟩
    cases draw with
    | false =>
      refine wp_region ?_
      have := evOps_sound hT hE hO hN hQ ops.toList 0 (frees ops.toList s) a w rfl (frees_rel _ hr) h
      rwa [← List.range_eq_range', Array.length_toList] at this
    | true =>
      obtain ⟨h1, h2⟩ := cond_some h
      exact draw_sound hT hE hO hN hm hQ (fun c a w h => h) h1 hr h2
  | seq x y ihx ihy =>
    intro lab s K a w hl h hr
    simp only [evCode] at h
    refine wp_seq (wp_mono (ihx lab s _ a w (fun p hp => hl p (List.mem_append_left _ hp)) h hr) ?_)
    intro e a' w' hp
    cases e with
    | normal =>
      obtain ⟨s', h1, h2⟩ := hp
      exact ihy lab s' K a' w' (fun p hp => hl p (List.mem_append_right _ hp)) h2 h1
    | exit id => exact hp
    | ret => exact hp
    | _ => exact hp.elim
  | cond c x y ihx ihy =>
    intro lab s K a w hl h hr
    simp only [evCode] at h
    split at h
    · rename_i t ht
      obtain ⟨ρ, hr'⟩ := hr
      have hc := hr'.ev c
      rw [ht] at hc
      refine wp_cond hc.bool_inv ?_
      cases t with
      | true => exact ihx lab s K a w (fun p hp => hl p (List.mem_append_left _ hp)) h ⟨ρ, hr'⟩
      | false => exact ihy lab s K a w (fun p hp => hl p (List.mem_append_right _ hp)) h ⟨ρ, hr'⟩
    · cases h
  | block id c ih =>
    intro lab s K a w hl h hr
    simp only [evCode] at h
    refine wp_block (wp_mono (ih id s _ a w (fun p hp => hl p hp) h hr) ?_)
    intro e a' w' hp
    cases e with
    | normal => exact hp
    | exit j =>
      obtain ⟨s', h1, h2⟩ := hp
      simp only at h2
      cases hj : Nat.beq j id with
      | true =>
        rw [hj] at h2
        have := Nat.eq_of_beq_eq_true hj
        subst this
        simp only [Exit.inBlock]
        simp
        exact ⟨s', h1, h2⟩
      | false =>
        rw [hj] at h2
        have hne : j ≠ id := fun e => by subst e; rw [Nat.beq_refl] at hj; cases hj
        simp only [Exit.inBlock]
        simp [hne]
        exact ⟨s', h1, h2⟩
    | ret => exact hp
    | _ => exact hp.elim
  | loop c ih =>
    intro lab s K a w hl h hr
    simp only [evCode] at h
    exact hl (lab, c) (by simp [loopsOf]) w0 M N R K r s a w h hr
  | exit id => intro lab s K a w hl h hr; exact wp_exit ⟨s, hr, h⟩
  | ret => intro lab s K a w hl h hr; exact wp_ret ⟨s, hr, h⟩
  | _ => intro lab s K a w hl h hr; cases h

/-- The continuation of a loop's body. -/
def loopK (T : Tab) (ksIn ksOut ksRet : List Nat) {R : Type} (g : St → Option R) (K : Ex → St → Option R) : Ex → St → Option R
  | .normal, s => g (canon T ksIn s)
  | .exit j, s => K (.exit j) (canon T ksOut s)
  | .ret, s => K .ret (canon T ksRet s)

/-- A loop, by its rounds; p: what its head's state S p holds. -/
theorem loop_ok (hT : TabOK P C.T) (hE : EqTabOK P C.T) (hO : OraOK P C.T C.mv C.ora) (hN : OraNat C.ora) (hm : P.follows .mixedOrders = true) {c : Code} {lab : Nat} (hl : ∀ p ∈ loopsOf c lab, LoopOK P C.T C.lo p.1 p.2) {ksIn ksOut ksRet : List Nat}
    {Pm : Type} {S : Pm → St} {pOf : St → Option Pm} (hS : ∀ s p, pOf s = some p → s = S p) (hp : ∀ p, pOf (S p) = some p) {R : Type} {K : Ex → St → Option R} {step : (Pm → Option R) → Pm → Option R}
    (hstep : ∀ (g : St → Option R) (p : Pm), evCode C c lab (S p) (loopK C.T ksIn ksOut ksRet g K) = step (fun p' => g (S p')) p) {r : R} :
    ∀ (n : Nat) (p : Pm) (a : Act) (w : World), loopF step n p = some r → Rel P C.T w0 M N (S p) a w → Code.rounds P c (PostK P C.T w0 M N K r) n a w := by
  intro n
  induction n with
  | zero => intro p a w h _; cases h
  | succ n ih =>
    intro p a w h hr
    rw [rounds_succ]
    have he : evCode C c lab (S p) (loopK C.T ksIn ksOut ksRet (fun s => (pOf s).bind (loopF step n)) K) = some r := by
      rw [hstep]
      simp only [hp, Option.bind_some]
      exact h
    refine wp_mono (evCode_sound hT hE hO hN hm c lab (S p) _ a w hl he hr) ?_
    intro e a' w' hpost
    cases e with
    | normal =>
      obtain ⟨s', h1, h2⟩ := hpost
      simp only [loopK, Option.bind_eq_some_iff] at h2
      obtain ⟨p', h3, h4⟩ := h2
      have hc := canon_rel h1 ksIn
      rw [hS _ _ h3] at hc
      exact ih p' a' w' h4 hc
    | exit id =>
      obtain ⟨s', h1, h2⟩ := hpost
      exact ⟨_, canon_rel h1 ksOut, h2⟩
    | ret =>
      obtain ⟨s', h1, h2⟩ := hpost
      exact ⟨_, canon_rel h1 ksRet, h2⟩
    | _ => exact hpost.elim

end Go.Ev
end

section
/- Functions. -/
namespace Go.Ev
open Go.RowKit (Below)

variable {P : Program} {T : Tab} {w0 w w' : World} {M X : Nat → Prop} {ρ : Nat → Loc} {N : Nat → Loc × Blk} {s s' : St} {a : Act} {Fr : Nat → Prop} {blk : Nat → Option Blk} {C : Cfg}

/-! ## Results -/

theorem ownOf (h : RelAt P T w0 M N ρ s a w) {k n cap b base lim o : Nat} {bk : Blk} {e : TypeId} {l : List Int} {ad : Option Addr} (hk : s.blk k = some bk) (hρ : ρ k = some (b, base, lim)) (hbe : bk.e = e) (had : ad = some ⟨b, o, none⟩)
    (hl : l.length = n * (T.at e).size) (hn : n ≤ cap) (hc : cap ≤ maxLen) (hlim : o + cap * (T.at e).size ≤ lim) (hcells : ∀ arr, w.heap[b]? = some (.cells arr bk.e (0, 0)) → ArrOK P T w (FrOf s.blk ρ w) bk.e bk.d arr base → IntsIn (T.at e).ks l arr o) :
    OwnS T w w0.heap.size M e (.ints l) (.slice ad n cap) (IntsIn (T.at e).ks l) := by
  have hO := h.ob k bk hk
  rw [hρ] at hO
  obtain ⟨arr, g1, g2, g3⟩ := hO
  exact ⟨ad, n, cap, rfl, hl, hn, hc, .inr ⟨b, o, arr, had, (h.loc k bk b base lim hk hρ).2, hbe ▸ g1, g2 ▸ hlim, hcells arr g1 g3⟩⟩

theorem result_sound (h : RelAt P T w0 M N ρ s a w) {t : TypeId} {v v' : V} {u : Value} (hv : LV P T w (FrOf s.blk ρ w) s.blk ρ v u) (hr : result T s t v = some v') : RV T w w0.heap.size M v' u := by
  cases v with
  | bool b => injection hr with hr; subst hr; exact .flat _ _ hv.bool_inv
  | int k n => injection hr with hr; subst hr; exact .flat _ _ hv.int_inv
  | str b => injection hr with hr; subst hr; exact .flat _ _ hv.str_inv
  | agg t l => injection hr with hr; subst hr; exact .flat _ _ hv.agg_inv
  | nil =>
    have hu := hv.nil_inv
    subst hu
    simp only [result] at hr
    split at hr
    · rename_i e hd
      cases hf : isFlatTy T e with
      | true =>
        rw [hf] at hr
        injection hr with hr
        subst hr
        exact .slv _ _ _ hf ⟨none, 0, 0, rfl, by simp [D.len], Nat.le_refl _, Nat.zero_le _, .inl ⟨rfl, rfl⟩⟩
      | false =>
        rw [hf] at hr
        injection hr with hr
        subst hr
        exact .slr _ _ _
    · cases hr
  | slw k e =>
    simp only [result] at hr
    split at hr
    · rename_i e0 r0 l hk
      injection hr with hr
      subst hr
      cases hv with
      | bv _ _ hb => cases hb with
        | flat _ _ hb => exact hb.elim
      | slw k e bk b base lim n cap h1 h2 h3 h4 h5 h6 h7 h8 =>
        rw [hk] at h1
        injection h1 with h1
        subst h1
        simp only at h2 h5
        have hO := h.ob k _ hk
        rw [h4] at hO
        obtain ⟨arr, g1, g2, g3⟩ := hO
        have hf : isFlatTy T e = true := h2 ▸ g3.1
        refine .slv _ _ _ hf (ownOf h hk h4 h2 rfl h5 h6 h7 h8 ?_)
        intro arr' _ ha
        have := ha.2
        simp only at this
        rw [h2] at this
        exact this
      | slwNil k e bk ad h1 h2 h3 h4 h5 =>
        rw [hk] at h1
        injection h1 with h1
        subst h1
        simp only at h2
        have h5 : l.length = 0 := h5
        have hO := h.ob k _ hk
        rw [h4] at hO
        have hf : isFlatTy T e = true := h2 ▸ hO.2.2
        exact .slv _ _ _ hf ⟨ad, 0, 0, rfl, by simpa [D.len] using h5, Nat.le_refl _, Nat.zero_le _, .inl ⟨rfl, rfl⟩⟩
    · injection hr with hr; subst hr; exact .slr _ _ _
    · cases hr
  | sl k off n e =>
    simp only [result] at hr
    split at hr
    · rename_i e0 r0 l hk
      obtain ⟨he, hr⟩ := cond_some hr
      have he := Nat.eq_of_beq_eq_true he
      subst he
      injection hr with hr
      subst hr
      cases hv with
      | bv _ _ hb => cases hb with
        | flat _ _ hb => exact hb.elim
      | sl k off n e e1 r1 l1 ad cap h1 h2 h3 h4 h5 h5r h6 h7 h8 =>
        rw [hk] at h1
        injection h1 with h1
        injection h1 with q1 q2 q3
        injection q3 with q3
        subst q1 q2 q3
        have hlen : (win l off (n * (T.at e0).size)).length = n * (T.at e0).size := win_length _ _ _ h4
        rcases h8 with h8 | ⟨b, base, lim, g1, g2, g3⟩
        · subst h8
          have hn : n = 0 := by omega
          subst hn
          exact .slv _ _ _ h3 ⟨ad, 0, 0, rfl, by simpa [D.len] using hlen, Nat.le_refl _, Nat.zero_le _, .inl ⟨rfl, rfl⟩⟩
        · refine .slv _ _ _ h3 (ownOf h hk g1 rfl g2 hlen h6 h7 g3 ?_)
          intro arr _ ha j hj
          rw [hlen] at hj
          rw [Nat.add_assoc, ha.2 (off + j) (by omega), h5 j hj, rd_win _ _ _ _ hj]
    · cases hr
  | _ => simp [result] at hr

def readVar (a : Act) (x : ResultVar) : Sem Value :=
  match x with
  | .tmp t => pure (a.tmps.getD t undef)
  | .cell p t => do loadVar t (← asAddr (a.tmps.getD p undef))

theorem resVar_sound (hT : TabOK P T) (h : RelAt P T w0 M N ρ s a w) {x : ResultVar} {v : V} (hr : resVar T s x = some v) :
    ∃ u, (readVar a x).run P w = .ok u w ∧ LV P T w (FrOf s.blk ρ w) s.blk ρ v u := by
  cases x with
  | tmp t =>
    simp only [resVar, Option.some.injEq] at hr
    subst hr
    exact ⟨_, rfl, h.lv t⟩
  | cell p t =>
    simp only [resVar] at hr
    obtain ⟨ad, x, h1, h2, h3⟩ := loadV_sound hT h (h.lv p) hr
    refine ⟨x, ?_, h3⟩
    unfold readVar
    simp only []
    rw [Sem.run_bind, h1]
    have : (asAddr (.pointer (some ad))).run P w = .ok ad w := rfl
    rw [this]
    exact h2

theorem results_list (hT : TabOK P T) (h : RelAt P T w0 M N ρ s a w) : ∀ (rs : List ResultVar) (ts : List TypeId) (vs : List V), results T s rs ts = some vs →
    ∃ us, (rs.mapM (readVar a)).run P w = .ok us w ∧ All2 (RV T w w0.heap.size M) vs us := by
  intro rs
  induction rs with
  | nil =>
    intro ts vs hv
    simp only [results, Option.some.injEq] at hv
    subst hv
    exact ⟨[], rfl, .nil⟩
  | cons x rs ih =>
    intro ts vs hv
    cases ts with
    | nil => simp [results] at hv
    | cons t ts =>
      simp only [results] at hv
      split at hv
      · rename_i v hrv
        split at hv
        · rename_i v' vs' h1 h2
          injection hv with hv
          subst hv
          obtain ⟨u, hu, hlv⟩ := resVar_sound hT h hrv
          obtain ⟨us, hus, hall⟩ := ih ts vs' h2
          refine ⟨u :: us, ?_, .cons (result_sound h hlv h1) hall⟩
          rw [List.mapM_cons, Sem.run_bind, hu]
          simp only [Result.andThen_ok]
          rw [Sem.run_bind, hus]
          rfl
        · cases hv
      · cases hv

theorem results_run (hT : TabOK P T) (h : RelAt P T w0 M N ρ s a w) {fn : Func} {vs : List V} (hr : results T s fn.results.toList fn.resultTypes.toList = some vs) :
    ∃ u, (Go.results fn a.tmps).run P w = .ok u w ∧ RV T w w0.heap.size M (match vs with | [v] => v | vs => .tup vs) u := by
  obtain ⟨us, hus, hall⟩ := results_list hT h _ _ _ hr
  refine ⟨if h : us.toArray.size = 1 then us.toArray[0] else .tuple us.toArray, ?_, ?_⟩
  · have hA : (fn.results.mapM (readVar a)).run P w = .ok us.toArray w := by
      rw [Array.mapM_eq_mapM_toList, Sem.run_map, hus]
      rfl
    have hg : Go.results fn a.tmps = (fn.results.mapM (readVar a) >>= fun vs => pure (if h : vs.size = 1 then vs[0] else .tuple vs)) := by
      unfold Go.results
      congr 1
    rw [hg, Sem.run_bind, hA]
    rfl
  · cases hall with
    | nil => exact .tup _ _ .nil
    | cons h1 hrest =>
      cases hrest with
      | nil => simpa using h1
      | cons h2 h3 => exact .tup _ _ (.cons h1 (.cons h2 h3))

theorem backOf_some {s : St} {rs : List ResultVar} {l : List Int} (h : backOf T s rs = some l) : ∃ e r, s.blk s.n = some ⟨e, r, .ints l⟩ := by
  unfold backOf at h
  generalize (rs.any fun r => match resVar T s r with
    | some v => V.has s.n v
    | none => true) = b at h
  cases b with
  | true => cases h
  | false =>
    simp only [cond_false] at h
    split at h
    · rename_i e r q hb
      injection h with h
      subst h
      exact ⟨e, r, hb⟩
    · cases h

theorem fin_sound (hT : TabOK P T) (h : Rel P T w0 M N s a w) {fn : Func} {mvd : Bool} {args : List V} {R : Type} {K : Rs → Option R} {r : R} (hf : fin T fn mvd args K s = some r) :
    ∃ rs : Rs, K rs = some r ∧ ∃ u, (Go.results fn a.tmps).run P w = .ok u w ∧ RV T w w0.heap.size M rs.1 u ∧ rs.2 = backF T fn mvd args s := by
  obtain ⟨ρ, h⟩ := h
  unfold fin at hf
  split at hf
  · rename_i vs hvs
    obtain ⟨u, h1, h2⟩ := results_run hT h hvs
    cases vs with
    | nil => exact ⟨(.tup [], _), hf, u, h1, h2, rfl⟩
    | cons v q =>
      cases q with
      | nil => exact ⟨(v, _), hf, u, h1, h2, rfl⟩
      | cons v2 q => exact ⟨(.tup (v :: v2 :: q), _), hf, u, h1, h2, rfl⟩
  · cases hf

/-! ## Entering -/

theorem look_numb : ∀ (vs : List V) (i t : Nat), look V.undef (numb i vs) t = V.undef ∨ (i ≤ t ∧ ∃ v, vs[t - i]? = some v ∧ look V.undef (numb i vs) t = v) := by
  intro vs
  induction vs with
  | nil => intro i t; exact .inl rfl
  | cons v vs ih =>
    intro i t
    simp only [numb, look]
    cases hb : Nat.beq i t with
    | true =>
      have := Nat.eq_of_beq_eq_true hb
      subst this
      exact .inr ⟨Nat.le_refl _, v, by simp, rfl⟩
    | false =>
      simp only [cond_false]
      rcases ih (i + 1) t with h | ⟨h1, x, h2, h3⟩
      · exact .inl h
      · refine .inr ⟨by omega, x, ?_, h3⟩
        have : t - i = (t - (i + 1)) + 1 := by omega
        rw [this]
        simpa using h2

theorem tmps_get {us : Array Value} {n : Nat} {t : Nat} (h : t < us.size) : (us ++ Array.replicate n undef).getD t undef = us.toList.getD t undef := by
  simp [Array.getD_eq_getD_getElem?, List.getD_eq_getElem?_getD, Array.getElem?_append, h]

def codeOf (fn : Func) : Code := match fn.body with
  | some c => c
  | none => .skip

/-! ## Pointers to whole variables that are handed over -/

def blkM (ms : List (Nat × TypeId × List Int)) (i : Nat) : Blk := look ⟨0, false, .ints []⟩ (ms.map fun m => (m.1, ⟨m.2.1, true, .ints m.2.2⟩)) i

theorem isM_spec {v : V} {x : TypeId × List Int} (h : isM v = some x) : v = .tup [.agg x.1 x.2] := by
  unfold isM at h
  split at h
  · injection h with h; subst h; rfl
  · cases h

/-- What is known of the blocks that are handed over. -/
theorem min_marks {loc : Nat → Loc} : ∀ (args : List V) (us : List Value) (i : Nat), MIn P T w Fr loc i args us → us.length = args.length ∧
    (∀ j v, args[j]? = some v → match isM v with | some (t, l) => PtrIn P T w t l (loc (i + j)) (us.getD j undef) | none => BV P T w Fr v (us.getD j undef)) := by
  intro args
  induction args with
  | nil =>
    intro us i h
    cases us with
    | nil => exact ⟨rfl, fun j v hv => by simp at hv⟩
    | cons u us => exact h.elim
  | cons v vs ih =>
    intro us i h
    cases us with
    | nil => exact h.elim
    | cons u us =>
      obtain ⟨h1, h2⟩ := h
      obtain ⟨q1, q2⟩ := ih us (i + 1) h2
      refine ⟨by simp [q1], fun j v' hv => ?_⟩
      cases j with
      | zero =>
        simp only [List.getElem?_cons_zero, Option.some.injEq] at hv
        subst hv
        exact h1
      | succ j =>
        rw [List.getElem?_cons_succ] at hv
        have := q2 j v' hv
        rw [show i + 1 + j = i + (j + 1) by omega] at this
        simpa using this

theorem marks_mem : ∀ (args : List V) (i : Nat) (m : Nat × TypeId × List Int), m ∈ marks i args → ∃ j v, m.1 = i + j ∧ args[j]? = some v ∧ isM v = some m.2 := by
  intro args
  induction args with
  | nil => intro i m h; cases h
  | cons v vs ih =>
    intro i m h
    simp only [marks] at h
    split at h
    · rename_i x hx
      rcases List.mem_cons.1 h with rfl | h
      · exact ⟨0, v, rfl, by simp, hx⟩
      · obtain ⟨j, v', h1, h2, h3⟩ := ih (i + 1) m h
        exact ⟨j + 1, v', by omega, by simpa using h2, h3⟩
    · obtain ⟨j, v', h1, h2, h3⟩ := ih (i + 1) m h
      exact ⟨j + 1, v', by omega, by simpa using h2, h3⟩

theorem marks_of : ∀ (args : List V) (i j : Nat) (v : V) (x : TypeId × List Int), args[j]? = some v → isM v = some x → (i + j, x) ∈ marks i args := by
  intro args
  induction args with
  | nil => intro i j v x h; simp at h
  | cons v0 vs ih =>
    intro i j v x h hx
    simp only [marks]
    cases j with
    | zero =>
      simp only [List.getElem?_cons_zero, Option.some.injEq] at h
      subst h
      rw [hx]
      simp
    | succ j =>
      rw [List.getElem?_cons_succ] at h
      have := ih (i + 1) j v x h hx
      rw [show i + 1 + j = i + (j + 1) by omega] at this
      split
      · exact List.mem_cons_of_mem _ this
      · exact this

theorem marks_fst : ∀ (args : List V) (i : Nat) (m m' : Nat × TypeId × List Int), m ∈ marks i args → m' ∈ marks i args → m.1 = m'.1 → m = m' := by
  intro args i m m' h h' e
  obtain ⟨j, v, h1, h2, h3⟩ := marks_mem args i m h
  obtain ⟨j', v', g1, g2, g3⟩ := marks_mem args i m' h'
  have : j = j' := by omega
  subst this
  rw [h2] at g2
  injection g2 with g2
  subst g2
  rw [h3] at g3
  injection g3 with g3
  exact Prod.ext e g3

theorem look_entB {n : Nat} : ∀ (ms : List (Nat × TypeId × List Int)) (k : Nat) (bk : Blk), look none (entB n ms) k = some bk → ∃ m ∈ ms, k = n + m.1 ∧ bk = ⟨m.2.1, true, .ints m.2.2⟩ := by
  intro ms
  induction ms with
  | nil => intro k bk h; cases h
  | cons m r ih =>
    intro k bk h
    obtain ⟨i, t, l⟩ := m
    simp only [entB, look] at h
    cases hb : Nat.beq (n + i) k with
    | true =>
      rw [hb] at h
      injection h with h
      exact ⟨(i, t, l), by simp, (Nat.eq_of_beq_eq_true hb).symm, h.symm⟩
    | false =>
      rw [hb] at h
      obtain ⟨m, h1, h2⟩ := ih k bk h
      exact ⟨m, by simp [h1], h2⟩

theorem look_entB_mem {n : Nat} : ∀ (ms : List (Nat × TypeId × List Int)) (m : Nat × TypeId × List Int), m ∈ ms → (∀ m' ∈ ms, m'.1 = m.1 → m' = m) → look none (entB n ms) (n + m.1) = some ⟨m.2.1, true, .ints m.2.2⟩ := by
  intro ms
  induction ms with
  | nil => intro m h; cases h
  | cons m0 r ih =>
    intro m h hu
    obtain ⟨i, t, l⟩ := m0
    simp only [entB, look]
    cases hb : Nat.beq (n + i) (n + m.1) with
    | true =>
      have e := Nat.eq_of_beq_eq_true hb
      have := hu (i, t, l) (by simp) (by omega)
      subst this
      rfl
    | false =>
      rcases List.mem_cons.1 h with rfl | h
      · simp at hb
      · exact ih m h (fun m' hm' => hu m' (by simp [hm']))

theorem blkM_mem {ms : List (Nat × TypeId × List Int)} : ∀ (m : Nat × TypeId × List Int), m ∈ ms → (∀ m' ∈ ms, m'.1 = m.1 → m' = m) → blkM ms m.1 = ⟨m.2.1, true, .ints m.2.2⟩ := by
  unfold blkM
  induction ms with
  | nil => intro m h; cases h
  | cons m0 r ih =>
    intro m h hu
    simp only [List.map_cons, look]
    cases hb : Nat.beq m0.1 m.1 with
    | true =>
      have := hu m0 (by simp) (Nat.eq_of_beq_eq_true hb)
      subst this
      rfl
    | false =>
      rcases List.mem_cons.1 h with rfl | h
      · simp at hb
      · exact ih m h (fun m' hm' => hu m' (by simp [hm']))

theorem distM_eq {loc : Nat → Loc} : ∀ {ms : List (Nat × TypeId × List Int)}, DistM loc ms → ∀ m ∈ ms, ∀ m' ∈ ms, ∀ b, MOf (loc m.1) b → MOf (loc m'.1) b → m = m' := by
  intro ms
  induction ms with
  | nil => intro _ m hm; cases hm
  | cons x r ih =>
    intro h m hm m' hm' b hb hb'
    rcases List.mem_cons.1 hm with e1 | h1
    · rcases List.mem_cons.1 hm' with e2 | h2
      · rw [e1, e2]
      · rw [e1] at hb; exact absurd hb' (h.1 m' h2 b hb)
    · rcases List.mem_cons.1 hm' with e2 | h2
      · rw [e2] at hb'; exact absurd hb (h.1 m h1 b hb')
      · exact ih h.2 m h1 m' h2 b hb hb'

theorem look_entE (n : Nat) : ∀ (args : List V) (i t : Nat), look V.undef (entE n i args) t = .undef ∨ (i ≤ t ∧ ∃ v, args[t - i]? = some v ∧ look V.undef (entE n i args) t = match isM v with | some (u, _) => .ptr (n + t) 0 u | none => v) := by
  intro args
  induction args with
  | nil => intro i t; exact .inl rfl
  | cons v vs ih =>
    intro i t
    simp only [entE, look]
    cases hb : Nat.beq i t with
    | true =>
      have := Nat.eq_of_beq_eq_true hb
      subst this
      exact .inr ⟨Nat.le_refl _, v, by simp, by simp only [cond_true]; cases isM v <;> rfl⟩
    | false =>
      simp only [cond_false]
      rcases ih (i + 1) t with h | ⟨h1, x, h2, h3⟩
      · exact .inl h
      · refine .inr ⟨by omega, x, ?_, h3⟩
        have : t - i = (t - (i + 1)) + 1 := by omega
        rw [this]
        simpa using h2

/-- What is given back is right. -/
theorem backP_out (h : RelAt P T w0 M N ρ s a w) {n : Nat} (hn : s.n ≤ n) {loc : Nat → Loc} : ∀ (ms : List (Nat × TypeId × List Int)) (q : List Int), (∀ m ∈ ms, N (n + m.1) = (loc m.1, ⟨m.2.1, true, .ints m.2.2⟩)) → backP s (keysM n ms) = some q → MOut P T w loc ms q := by
  intro ms
  induction ms with
  | nil => intro q _ _; trivial
  | cons m r ih =>
    intro q hN hq
    obtain ⟨i, t, l⟩ := m
    have one : ∀ (e : TypeId) (b : Bool) (l' : List Int), s.blk (n + i) = some ⟨e, b, .ints l'⟩ → l'.length = l.length ∧ OB P T w (fun _ => False) ⟨t, true, .ints l'⟩ (loc i) := by
      intro e b l' hb
      obtain ⟨p1, p2⟩ := h.pin (n + i) (by omega)
      have ho := h.ob _ _ hb
      have hNi := hN (i, t, l) (by simp)
      simp only at hNi
      rw [hNi] at p1 p2
      obtain ⟨a1, a2, a3⟩ := p2 _ hb
      simp only at a1 a2 a3 p1
      subst a1 a2
      rw [p1] at ho
      exact ⟨a3.symm, obInts ho⟩
    simp only [keysM, backP] at hq
    split at hq
    · rename_i e b l' hb
      obtain ⟨o1, o2⟩ := one e b l' hb
      cases r with
      | nil =>
        simp only [keysM, Option.some.injEq] at hq
        subst hq
        exact ⟨o1, o2⟩
      | cons m2 r2 =>
        simp only [keysM] at hq
        split at hq
        · rename_i q' hq'
          injection hq with hq
          subst hq
          have hrec := ih q' (fun m hm => hN m (by simp [hm])) (by simpa only [keysM] using hq')
          have e1 : (l' ++ q').take l.length = l' := by rw [← o1]; simp
          have e2 : (l' ++ q').drop l.length = q' := by rw [← o1]; simp
          refine ⟨?_, ?_, ?_⟩
          · show ((l' ++ q').take l.length).length = l.length
            rw [e1]; exact o1
          · show OB P T w _ ⟨t, true, .ints ((l' ++ q').take l.length)⟩ (loc i)
            rw [e1]; exact o2
          · show MOut P T w loc (m2 :: r2) ((l' ++ q').drop l.length)
            rw [e2]; exact hrec
        · cases hq
    · cases hq

/-- A function, once its code is evaluated, is what the evaluator says. -/
theorem runF_sound (hT : TabOK P C.T) (hE : EqTabOK P C.T) (hO : OraOK P C.T C.mv C.ora) (hN : OraNat C.ora) (hm : P.follows .mixedOrders = true) {f : FuncId} {fn : Func} (hf : P.funcs[f]? = some fn) (hl : ∀ p ∈ loopsOf (codeOf fn) 0, LoopOK P C.T C.lo p.1 p.2)
    {mvd : Bool} {args : List V} {R : Type} {K : Rs → Option R} {r : R} {rs : Rs} (hK : ∀ rs', K rs' = some r → rs' = rs) (hrun : runF C fn mvd args K = some r) : SoundRs P C.T f mvd args rs := by
  unfold runF at hrun
  split at hrun
  · rename_i c hbody
    obtain ⟨hlen, hrun⟩ := cond_some hrun
    have hlen : args.length ≤ fn.ntmps := Nat.le_of_ble_eq_true hlen
    -- the walk, from a state that is right
    have walk : ∀ (w : World) (M : Nat → Prop) (N : Nat → Loc × Blk) (us : Array Value), us.size = args.length → Rel P C.T w M N (enter fn.ntmps mvd args) ⟨us ++ Array.replicate (fn.ntmps - us.size) undef, []⟩ w →
        Calls P f us w fun en w' => ∃ u, en = .returned u ∧ But w w' M ∧ RV C.T w' w.heap.size M rs.1 u ∧ ∃ s' a' ρ', RelAt P C.T w M N ρ' s' a' w' ∧ rs.2 = backF C.T fn mvd args s' := by
      intro w M N us hus hr
      have hc : codeOf fn = c := by simp only [codeOf, hbody]
      refine calls_of_wp hf hbody (wp_mono (evCode_sound hT hE hO hN hm c 0 _ _ _ w (hc ▸ hl) hrun hr) ?_)
      have done : ∀ (s' : St) (a' : Act) (w' : World), Rel P C.T w M N s' a' w' → fin C.T fn mvd args K s' = some r →
          a'.defers = [] ∧ ∃ v, (Go.results fn a'.tmps).run P w' = .ok v w' ∧ ∃ u, Ending.returned v = .returned u ∧ But w w' M ∧ RV C.T w' w.heap.size M rs.1 u ∧ ∃ s' a' ρ', RelAt P C.T w M N ρ' s' a' w' ∧ rs.2 = backF C.T fn mvd args s' := by
        intro s' a' w' h1 h2
        obtain ⟨rs', e1, u, g1, g2, g3⟩ := fin_sound hT h1 h2
        have e1 := hK rs' e1
        subst e1
        obtain ⟨ρ, h1⟩ := h1
        exact ⟨h1.defers, u, g1, u, rfl, ⟨h1.os, h1.tape, h1.output, h1.size, h1.old⟩, g2, s', a', ρ, h1, g3⟩
      intro e a' w' hp
      cases e with
      | normal => obtain ⟨s', h1, h2⟩ := hp; exact done s' a' w' h1 h2
      | ret => obtain ⟨s', h1, h2⟩ := hp; exact done s' a' w' h1 h2
      | exit id => obtain ⟨s', _, h2⟩ := hp; cases h2
      | _ => exact hp.elim
    intro w Fr us hFr
    cases mvd with
    | false =>
      intro hargs
      have hus : us.size = args.length := by have := hargs.length; simpa using this.symm
      refine (walk w (fun _ => False) (fun _ => (none, ⟨0, false, .ints []⟩)) us hus ⟨fun _ => none, ⟨rfl, rfl, rfl, Nat.le_refl _, fun _ _ _ => rfl, rfl, ?_, ?_, ?_, ?_, ?_, fun k _ => ⟨rfl, fun bk hk => by cases hk⟩⟩⟩).mono ?_
      · show (us ++ Array.replicate (fn.ntmps - us.size) undef).size = fn.ntmps
        simp; omega
      · intro k bk b base lim hk _; cases hk
      · intro k k' bk bk' b base base' lim lim' hk; cases hk
      · intro k bk hk; cases hk
      · intro t
        show LV P C.T w _ _ _ (look V.undef (numb 0 args) t) _
        rcases look_numb args 0 t with h | ⟨_, v, hv, h⟩
        · rw [h]; exact .bv _ _ (.undef _)
        · rw [h]
          rw [Nat.sub_zero] at hv
          have ht : t < us.size := by
            rw [hus]
            rcases Nat.lt_or_ge t args.length with h | h
            · exact h
            · rw [List.getElem?_eq_none h] at hv; cases hv
          rw [tmps_get ht]
          exact .bv _ _ ((hargs.get t v hv).mono fun b hb => ⟨hFr b hb, fun k bk base lim hk => by cases hk⟩)
      · rintro en w' ⟨u, rfl, hB, hR, _, _, _, _, h0⟩
        exact ⟨u, rfl, hB.below, hR, h0⟩
    | true =>
      simp only
      split
      · rename_i e l vs hhead
        obtain rfl : args = .slv e l :: vs := by
          unfold headSlv at hhead
          split at hhead
          · injection hhead with hhead
            injection hhead with e1 hhead
            injection hhead with e2 e3
            subst e1 e2 e3
            rfl
          · cases hhead
        · skip
          intro loc u0 us' hsplit hapart hin hargs
          have hus : us.size = (V.slv e l :: vs).length := by
            have h1 := hargs.length
            have h2 : us.toList.length = us'.length + 1 := by rw [hsplit]; rfl
            simp only [Array.length_toList] at h2
            simp only [List.length_cons]
            omega
          have hblk : ∀ k bk, look none [(fn.ntmps, some (⟨e, false, .ints l⟩ : Blk))] k = some bk → k = fn.ntmps ∧ bk = ⟨e, false, .ints l⟩ := by
            intro k bk hk
            simp only [look] at hk
            cases hb : Nat.beq fn.ntmps k with
            | true =>
              rw [hb] at hk
              injection hk with hk
              exact ⟨(Nat.eq_of_beq_eq_true hb).symm, hk.symm⟩
            | false => rw [hb] at hk; cases hk
          have hFrOf : ∀ b, Fr b → FrOf (St.blk ⟨fn.ntmps, (0, .slw fn.ntmps e) :: numb 1 vs, [(fn.ntmps, some ⟨e, false, .ints l⟩)]⟩) (fun _ => loc) w b := fun b hb => ⟨hFr b hb, fun k bk base lim hk hl => hapart b hb ⟨base, lim, hl⟩⟩
          refine (walk w (MOf loc) (fun _ => (loc, ⟨e, false, .ints l⟩)) us hus ⟨fun _ => loc, ⟨rfl, rfl, rfl, Nat.le_refl _, fun _ _ _ => rfl, rfl, ?_, ?_, ?_, ?_, ?_, fun k _ => ⟨rfl, fun bk hk => by rw [(hblk k bk hk).2]; exact ⟨rfl, rfl, rfl⟩⟩⟩⟩).mono ?_
          · show (us ++ Array.replicate (fn.ntmps - us.size) undef).size = fn.ntmps
            simp; rw [hus]; simp only [List.length_cons] at hlen ⊢; omega
          · intro k bk b base lim hk hl
            exact ⟨hin.lt b base lim hl, .inr ⟨base, lim, hl⟩⟩
          · intro k k' bk bk' b base base' lim lim' hk hk' _ _
            rw [(hblk k bk hk).1, (hblk k' bk' hk').1]
          · intro k bk hk
            obtain ⟨rfl, rfl⟩ := hblk k bk hk
            exact obInts hin.ob
          · intro t
            show LV P C.T w _ _ _ (look V.undef ((0, .slw fn.ntmps e) :: numb 1 vs) t) _
            by_cases ht0 : t = 0
            · subst ht0
              have : look V.undef ((0, V.slw fn.ntmps e) :: numb 1 vs) 0 = .slw fn.ntmps e := rfl
              rw [this, tmps_get (by rw [hus]; simp), hsplit]
              have hl := hin.lv
              have hself : (St.blk ⟨fn.ntmps, (0, .slw fn.ntmps e) :: numb 1 vs, [(fn.ntmps, some ⟨e, false, .ints l⟩)]⟩) fn.ntmps = some ⟨e, false, .ints l⟩ := look_cons_self _ _ _ _
              show LV P C.T w _ _ _ (.slw fn.ntmps e) u0
              cases hl with
              | bv _ _ hb => cases hb with
                | flat _ _ hb => exact hb.elim
              | slw k e bk b base lim n cap h1 h2 h3 h4 h5 h6 h7 h8 =>
                simp only [if_pos, Option.some.injEq] at h1
                subst h1
                exact .slw fn.ntmps e _ b base lim n cap hself h2 h3 h4 h5 h6 h7 h8
              | slwNil k e bk ad h1 h2 h3 h4 h5 =>
                simp only [if_pos, Option.some.injEq] at h1
                subst h1
                exact .slwNil fn.ntmps e _ ad hself h2 h3 h4 h5
            · rw [look_cons_ne _ _ _ (Ne.symm ht0)]
              rcases look_numb vs 1 t with h | ⟨h1, v, hv, h⟩
              · rw [h]; exact .bv _ _ (.undef _)
              · rw [h]
                have ht : t < us.size := by
                  rw [hus, List.length_cons]
                  rcases Nat.lt_or_ge (t - 1) vs.length with h | h
                  · omega
                  · rw [List.getElem?_eq_none h] at hv; cases hv
                rw [tmps_get ht, hsplit]
                have : (u0 :: us').getD t undef = us'.getD (t - 1) undef := by
                  obtain ⟨j, rfl⟩ : ∃ j, t = j + 1 := ⟨t - 1, by omega⟩
                  simp
                rw [this]
                exact .bv _ _ ((hargs.get (t - 1) v hv).mono hFrOf)
          · rintro en w' ⟨u, rfl, hB, hR, s', a', ρ', h1, h0⟩
            refine ⟨u, rfl, hB, hR, fun l' hl' => ?_⟩
            rw [h0] at hl'
            have hl' : backOf C.T s' fn.results.toList = some l' := hl'
            obtain ⟨e', r', hb⟩ := backOf_some hl'
            obtain ⟨p1, p2⟩ := h1.pin s'.n (Nat.le_refl _)
            have ho := h1.ob _ _ hb
            rw [p1] at ho
            obtain ⟨a1, a2, a3⟩ := p2 _ hb
            simp only at a1 a2 a3 ho
            subst a1 a2
            exact ⟨a3.symm, obInts ho⟩
      · rename_i hhead
        intro loc hmin hdist hapart
        obtain ⟨hlen2, hget⟩ := min_marks args us.toList 0 hmin
        have hus : us.size = args.length := by simpa using hlen2
        have hent : enter fn.ntmps true args = ⟨fn.ntmps, entE fn.ntmps 0 args, entB fn.ntmps (marks 0 args)⟩ := by simp only [enter, hhead]
        have huniq : ∀ m ∈ marks 0 args, ∀ m' ∈ marks 0 args, m'.1 = m.1 → m' = m := fun m hm1 m' hm2 e => marks_fst args 0 m' m hm2 hm1 e
        have hptr : ∀ m ∈ marks 0 args, PtrIn P C.T w m.2.1 m.2.2 (loc m.1) (us.toList.getD m.1 undef) := by
          intro m hm1
          obtain ⟨j, v, q1, q2, q3⟩ := marks_mem args 0 m hm1
          have := hget j v q2
          rw [q3, Nat.zero_add] at this
          rw [Nat.zero_add] at q1
          rw [q1]
          exact this
        have hFrOf : ∀ b, Fr b → FrOf (St.blk ⟨fn.ntmps, entE fn.ntmps 0 args, entB fn.ntmps (marks 0 args)⟩) (fun k => loc (k - fn.ntmps)) w b := fun b hb => ⟨hFr b hb, fun k bk base lim hk hl => by
          obtain ⟨m, m1, m2, _⟩ := look_entB _ k bk hk
          subst m2
          simp only [Nat.add_sub_cancel_left] at hl
          exact hapart b hb ⟨m, m1, base, lim, hl⟩⟩
        refine (walk w (MAny loc (marks 0 args)) (fun k => (loc (k - fn.ntmps), blkM (marks 0 args) (k - fn.ntmps))) us hus ?_).mono ?_
        · rw [hent]
          refine ⟨fun k => loc (k - fn.ntmps), ⟨rfl, rfl, rfl, Nat.le_refl _, fun _ _ _ => rfl, rfl, ?_, ?_, ?_, ?_, ?_, ?_⟩⟩
          · simp; rw [hus]; omega
          · intro k bk b base lim hk hl
            obtain ⟨m, m1, m2, _⟩ := look_entB _ k bk hk
            subst m2
            simp only [Nat.add_sub_cancel_left] at hl
            obtain ⟨b', base', lim', g1, _, _, g4, _⟩ := hptr m m1
            rw [g1] at hl
            injection hl with hl
            injection hl with hl1 hl2
            subst hl1
            exact ⟨g4, .inr ⟨m, m1, _, _, g1⟩⟩
          · intro k k' bk bk' b base base' lim lim' hk hk' hl hl'
            obtain ⟨m, m1, m2, _⟩ := look_entB _ k bk hk
            obtain ⟨m', n1, n2, _⟩ := look_entB _ k' bk' hk'
            subst m2 n2
            simp only [Nat.add_sub_cancel_left] at hl hl'
            have := distM_eq hdist m m1 m' n1 b ⟨_, _, hl⟩ ⟨_, _, hl'⟩
            rw [this]
          · intro k bk hk
            obtain ⟨m, m1, m2, m3⟩ := look_entB _ k bk hk
            subst m2 m3
            simp only [Nat.add_sub_cancel_left]
            obtain ⟨_, _, _, _, _, g3, _⟩ := hptr m m1
            exact obInts g3
          · intro t
            show LV P C.T w _ _ _ (look V.undef (entE fn.ntmps 0 args) t) _
            rcases look_entE fn.ntmps args 0 t with h | ⟨_, v, hv, h⟩
            · rw [h]; exact .bv _ _ (.undef _)
            · rw [h]
              rw [Nat.sub_zero] at hv
              have ht : t < us.size := by
                rw [hus]
                rcases Nat.lt_or_ge t args.length with h | h
                · exact h
                · rw [List.getElem?_eq_none h] at hv; cases hv
              rw [tmps_get ht]
              have hg := hget t v hv
              cases hm0 : isM v with
              | none =>
                rw [hm0] at hg
                exact .bv _ _ (hg.mono hFrOf)
              | some x =>
                obtain ⟨u, l⟩ := x
                have hmem := marks_of args 0 t v (u, l) hv hm0
                rw [Nat.zero_add] at hmem
                obtain ⟨b, base, lim, g1, g2, g3, g4, g5, g6⟩ := hptr _ hmem
                simp only at g1 g2 g5 g6 ⊢
                rw [g2]
                have hb := look_entB_mem (n := fn.ntmps) _ _ hmem (fun m' hm' e => huniq _ hmem m' hm' e)
                exact .ptr (fn.ntmps + t) 0 u ⟨u, true, .ints l⟩ b base lim hb (by simp only [Nat.add_sub_cancel_left]; exact g1) ⟨g5, g5, by omega, fun j hj => by rw [Nat.zero_add], fun _ => g6⟩
          · intro k _
            refine ⟨rfl, fun bk hk => ?_⟩
            obtain ⟨m, m1, m2, m3⟩ := look_entB _ k bk hk
            subst m2 m3
            simp only [Nat.add_sub_cancel_left]
            rw [blkM_mem m m1 (fun m' hm' e => huniq m m1 m' hm' e)]
            exact ⟨rfl, rfl, rfl⟩
        · rintro en w' ⟨u, rfl, hB, hR, s', a', ρ', h1, h0⟩
          refine ⟨u, rfl, hB, hR, fun q hq => ?_⟩
          rw [h0] at hq
          unfold backF at hq
          rw [hhead] at hq
          simp only [cond_true] at hq
          obtain ⟨hn, hq⟩ := cond_some hq
          have hn := Nat.eq_of_beq_eq_true hn
          refine backP_out h1 (n := fn.ntmps) (by omega) (marks 0 args) q (fun m hm1 => ?_) hq
          simp only [Nat.add_sub_cancel_left]
          rw [blkM_mem m hm1 (fun m' hm' e => huniq m hm1 m' hm' e)]
  · cases hrun

end Go.Ev
end

section
/- The table of types, checked by evaluation. -/
namespace Go.Ev
open Go.RowKit (Below)

variable {P : Program} {T : Tab}

def eqSK : SK → SK → Bool
  | .int j, .int k => sameKind j k
  | .bool, .bool => true
  | _, _ => false

theorem eqSK_eq {x y : SK} (h : eqSK x y = true) : x = y := by
  cases x <;> cases y <;> first | rfl | (cases h; done) | (rw [sameKind_eq h])

def eqKs : List SK → List SK → Bool
  | [], [] => true
  | x :: a, y :: b => eqSK x y && eqKs a b
  | _, _ => false

theorem eqKs_eq : ∀ {a b : List SK}, eqKs a b = true → a = b := by
  intro a
  induction a with
  | nil => intro b h; cases b with
    | nil => rfl
    | cons _ _ => cases h
  | cons x a ih =>
    intro b h
    cases b with
    | nil => cases h
    | cons y b =>
      simp only [eqKs, Bool.and_eq_true] at h
      rw [eqSK_eq h.1, ih h.2]

/-- Are the kinds from off on, n of them, those of u? -/
def part (ks : List SK) (off n : Nat) (us : List SK) : Bool := eqKs ((ks.drop off).take n) us && Nat.beq us.length n

theorem part_spec {ks us : List SK} {off n : Nat} (h : part ks off n us = true) : ∀ j, j < n → ks[off + j]? = us[j]? := by
  intro j hj
  simp only [part, Bool.and_eq_true] at h
  rw [← eqKs_eq h.1, List.getElem?_take_of_lt hj, List.getElem?_drop]

def eqFs : List (Nat × TypeId) → List (Nat × TypeId) → Bool
  | [], [] => true
  | x :: a, y :: b => Nat.beq x.1 y.1 && (Nat.beq x.2 y.2 && eqFs a b)
  | _, _ => false

theorem eqFs_eq : ∀ {a b : List (Nat × TypeId)}, eqFs a b = true → a = b := by
  intro a
  induction a with
  | nil => intro b h; cases b with
    | nil => rfl
    | cons _ _ => cases h
  | cons x a ih =>
    intro b h
    cases b with
    | nil => cases h
    | cons y b =>
      simp only [eqFs, Bool.and_eq_true] at h
      obtain ⟨x1, x2⟩ := x
      obtain ⟨y1, y2⟩ := y
      have h1 : x1 = y1 := Nat.eq_of_beq_eq_true h.1
      have h2 : x2 = y2 := Nat.eq_of_beq_eq_true h.2.1
      rw [h1, h2, ih h.2.2]

def chkDesc (d : TyD) (u : Option TypeDesc) : Bool :=
  match d with
  | .sc (.int k) => match u with
    | some (.int k') => sameKind k' k
    | _ => false
  | .sc .bool => match u with
    | some .bool => true
    | _ => false
  | .str => match u with
    | some .string => true
    | _ => false
  | .struct fs => match u with
    | some (.struct F) => eqFs (F.toList.map fun f => (f.offset, f.type)) fs
    | _ => false
  | .arr n e => match u with
    | some (.array n' e') => Nat.beq n' n && Nat.beq e' e
    | _ => false
  | .slice e => match u with
    | some (.slice e') => Nat.beq e' e
    | _ => false
  | .ptr e => match u with
    | some (.pointer e') => Nat.beq e' e
    | _ => false
  | .map k e => match u with
    | some (.map k' e') => Nat.beq k' k && Nat.beq e' e
    | _ => false
  | .fnB _ => match u with
    | some (.func ..) => true
    | _ => false
  | .fnL _ _ => match u with
    | some (.func ..) => true
    | _ => false
  | .other => true

def isZero : SK → Value → Bool
  | .int k, .int j n => sameKind j k && (n == 0)
  | .bool, .bool b => !b
  | _, _ => false

theorem isZero_eq {k : SK} {v : Value} (h : isZero k v = true) : v = k.val 0 := by
  cases k <;> cases v <;> simp only [isZero, Bool.and_eq_true, Bool.not_eq_true', beq_iff_eq] at h <;> first | cases h; done | skip
  · rw [sameKind_eq h.1, h.2]; rfl
  · rw [h]; rfl

def areZero : List SK → List Value → Bool
  | [], [] => true
  | k :: ks, v :: vs => isZero k v && areZero ks vs
  | _, _ => false

theorem areZero_eq : ∀ {ks : List SK} {vs : List Value}, areZero ks vs = true → vs = zipV ks (List.replicate ks.length 0) := by
  intro ks
  induction ks with
  | nil => intro vs h; cases vs with
    | nil => rfl
    | cons _ _ => cases h
  | cons k ks ih =>
    intro vs h
    cases vs with
    | nil => cases h
    | cons v vs =>
      simp only [areZero, Bool.and_eq_true] at h
      rw [isZero_eq h.1, ih h.2]
      rfl

def chkZero (i : TyI) (z : Value) : Bool :=
  Nat.beq z.cells.size i.size && ((!i.flat || areZero i.ks z.cells.toList) && (match i.d with
    | .str => (match z with | .string b => Nat.beq b.size 0 | _ => false)
    | .slice _ => (match z with | .slice none 0 0 => true | _ => false)
    | _ => true))

def chkInfo (i : TyI) (ti : Option TypeInfo) : Bool :=
  match i.d with
  | .other => true
  | _ => match ti with
    | none => false
    | some ti => Nat.beq ti.size i.size && (Nat.ble ti.bytes 1024 && (Nat.ble 1 i.size && (match ti.zero with
      | none => false
      | some z => chkZero i z)))

def chkFields (T : Tab) (i : TyI) : List (Nat × TypeId) → Bool
  | [] => true
  | (o, u) :: r => isFlatTy T u && (Nat.ble (o + (T.at u).size) i.size && (part i.ks o (T.at u).size (T.at u).ks && chkFields T i r))

def chkElems (ks es : List SK) (sz : Nat) : Nat → Bool
  | 0 => true
  | n + 1 => chkElems ks es sz n && part ks (n * sz) sz es

def chkFlat (T : Tab) (i : TyI) : Bool :=
  !i.flat || (Nat.beq i.ks.length i.size && (match i.d with
    | .sc s => eqKs i.ks [s]
    | .struct fs => chkFields T i fs
    | .arr n e => isFlatTy T e && (Nat.beq i.size (n * (T.at e).size) && chkElems i.ks (T.at e).ks (T.at e).size n)
    | _ => false))

def chkRun (T : Tab) (i : TyI) : List (Nat × TypeId) → Nat → Bool
  | [], off => Nat.beq off i.size
  | f :: r, off => Nat.beq f.1 off && (Nat.ble (off + (T.at f.2).size) i.size && (isFlatTy T f.2 && (part i.ks off (T.at f.2).size (T.at f.2).ks && chkRun T i r (off + (T.at f.2).size))))

def chkEq (P : Program) (T : Tab) (t : TypeId) (i : TyI) : Bool :=
  !i.flat || (match i.d with
    | .struct fs => !(P.eqGuardType P.depth t) && (!(P.stoodInHeld t) && ((match P.underlying t with
      | some (.struct F) => F.toList.all fun f => !(f.name == "_")
      | _ => false) && chkRun T i fs 0))
    | _ => true)

def chkTy (P : Program) (T : Tab) (t : TypeId) : Bool := chkDesc (T.at t).d (P.underlying t) && (chkInfo (T.at t) (P.info? t) && (chkFlat T (T.at t) && chkEq P T t (T.at t)))

def chkTab (P : Program) (T : Tab) : List (Nat × TyI) → Bool
  | [] => true
  | (t, _) :: r => chkTy P T t && chkTab P T r

theorem chkElems_spec {ks es : List SK} {sz : Nat} : ∀ {n : Nat}, chkElems ks es sz n = true → ∀ i j, i < n → j < sz → ks[i * sz + j]? = es[j]? := by
  intro n
  induction n with
  | zero => intro _ i j hi; omega
  | succ n ih =>
    intro h i j hi hj
    simp only [chkElems, Bool.and_eq_true] at h
    rcases Nat.lt_or_ge i n with h1 | h1
    · exact ih h.1 i j h1 hj
    · have : i = n := by omega
      subst this
      exact part_spec h.2 j hj

theorem chkFields_spec {i : TyI} : ∀ {fs : List (Nat × TypeId)}, chkFields T i fs = true → ∀ n o u, fieldOf fs n = some (o, u) → isFlatTy T u = true ∧ o + (T.at u).size ≤ i.size ∧ ∀ j, j < (T.at u).size → i.ks[o + j]? = (T.at u).ks[j]? := by
  intro fs
  induction fs with
  | nil => intro _ n o u h; cases n <;> cases h
  | cons f fs ih =>
    intro h n o u hf
    obtain ⟨o', u'⟩ := f
    simp only [chkFields, Bool.and_eq_true] at h
    cases n with
    | zero =>
      simp only [fieldOf, Option.some.injEq, Prod.mk.injEq] at hf
      obtain ⟨rfl, rfl⟩ := hf
      exact ⟨h.1, Nat.le_of_ble_eq_true h.2.1, part_spec h.2.2.1⟩
    | succ n => exact ih h.2.2.2 n o u hf

theorem chkTy_ok {t : TypeId} (h : chkTy P T t = true) : TyOK P T t := by
  simp only [chkTy, Bool.and_eq_true] at h
  obtain ⟨h1, h2, h3, _⟩ := h
  refine ⟨?_, ?_, ?_⟩
  · unfold chkDesc at h1
    split at h1 <;> rename_i hd <;> rw [hd] <;> simp only [] <;> first | trivial | (split at h1 <;> rename_i hu <;> first | (cases h1; done) | skip)
    · rw [hu, sameKind_eq h1]
    · exact hu
    · exact hu
    · exact ⟨_, hu, eqFs_eq h1⟩
    · obtain ⟨q1, q2⟩ := and_true h1
      rw [hu, Nat.eq_of_beq_eq_true q1, Nat.eq_of_beq_eq_true q2]
    · rw [hu, Nat.eq_of_beq_eq_true h1]
    · rw [hu, Nat.eq_of_beq_eq_true h1]
    · obtain ⟨q1, q2⟩ := and_true h1
      rw [hu, Nat.eq_of_beq_eq_true q1, Nat.eq_of_beq_eq_true q2]
    · exact ⟨_, _, _, hu⟩
    · exact ⟨_, _, _, hu⟩
  · unfold chkInfo at h2
    split at h2
    · rename_i hd; left; rw [hd]
    · right
      split at h2
      · cases h2
      · rename_i ti hti
        simp only [Bool.and_eq_true] at h2
        obtain ⟨q1, q2, q3, q4⟩ := h2
        split at q4
        · cases q4
        · rename_i z hz
          simp only [chkZero, Bool.and_eq_true] at q4
          obtain ⟨z1, z2, z3⟩ := q4
          have z1 := Nat.eq_of_beq_eq_true z1
          refine ⟨ti, z, hti, Nat.eq_of_beq_eq_true q1, Nat.le_of_ble_eq_true q2, hz, z1, Nat.le_of_ble_eq_true q3, ?_, ?_, ?_⟩
          · intro hf
            unfold isFlatTy at hf
            rw [hf] at z2
            have z2 := areZero_eq (by simpa using z2)
            rw [z2]
            unfold chkFlat at h3
            rw [hf] at h3
            simp only [Bool.not_true, Bool.false_or, Bool.and_eq_true] at h3
            rw [Nat.eq_of_beq_eq_true h3.1]
            rfl
          · intro hs
            have hd : (T.at t).d = .str := by
              revert hs
              cases (T.at t).d <;> simp
            rw [hd] at z3
            simp only [] at z3
            cases z with
            | string b =>
              have hb := Nat.eq_of_beq_eq_true z3
              obtain ⟨⟨l⟩⟩ := b
              have : l = [] := List.eq_nil_of_length_eq_zero hb
              subst this
              rfl
            | _ => cases z3
          · intro e he
            rw [he] at z3
            simp only [] at z3
            split at z3
            · rfl
            · cases z3
  · intro hf
    unfold chkFlat at h3
    unfold isFlatTy at hf
    rw [hf] at h3
    simp only [Bool.not_true, Bool.false_or, Bool.and_eq_true] at h3
    obtain ⟨q1, q2⟩ := h3
    refine ⟨Nat.eq_of_beq_eq_true q1, ?_⟩
    split at q2
    · rename_i s hd; rw [hd]; exact eqKs_eq q2
    · rename_i fs hd; rw [hd]; exact chkFields_spec q2
    · rename_i n e hd
      rw [hd]
      simp only [Bool.and_eq_true] at q2
      exact ⟨q2.1, Nat.eq_of_beq_eq_true q2.2.1, chkElems_spec q2.2.2⟩
    · cases q2

theorem tyOK_none {t : TypeId} (h : T.at t = ⟨.other, 0, []⟩) : TyOK P T t := by
  refine ⟨?_, ?_, ?_⟩
  · rw [h]; trivial
  · left; rw [h]
  · intro hf; unfold isFlatTy at hf; rw [h] at hf; cases hf

theorem at_none : ∀ (L : List (Nat × TyI)) (t : TypeId), (∃ i, (t, i) ∈ L) ∨ look (⟨.other, 0, []⟩ : TyI) L t = ⟨.other, 0, []⟩ := by
  intro L
  induction L with
  | nil => intro t; exact .inr rfl
  | cons x L ih =>
    intro t
    obtain ⟨u, i⟩ := x
    simp only [look]
    cases hb : Nat.beq u t with
    | true => rw [← Nat.eq_of_beq_eq_true hb]; exact .inl ⟨i, by simp⟩
    | false =>
      rcases ih t with ⟨j, hj⟩ | h
      · exact .inl ⟨j, by simp [hj]⟩
      · exact .inr h

theorem chkTab_mem : ∀ {L : List (Nat × TyI)}, chkTab P T L = true → ∀ t i, (t, i) ∈ L → chkTy P T t = true := by
  intro L
  induction L with
  | nil => intro _ t i h; simp at h
  | cons x L ih =>
    intro h t i ht
    obtain ⟨u, j⟩ := x
    simp only [chkTab, Bool.and_eq_true] at h
    rcases List.mem_cons.1 ht with e | ht
    · injection e with e1 _; subst e1; exact h.1
    · exact ih h.2 t i ht

theorem tabOK_of (h : chkTab P T T = true) : TabOK P T := by
  intro t
  rcases at_none T t with ⟨i, hi⟩ | h0
  · exact chkTy_ok (chkTab_mem h t i hi)
  · exact tyOK_none h0

theorem eqTabOK_of (h : chkTab P T T = true) : EqTabOK P T := by
  intro t fs hf hd
  rcases at_none T t with ⟨i, hi⟩ | h0
  · have hc := chkTab_mem h t i hi
    simp only [chkTy, Bool.and_eq_true] at hc
    obtain ⟨_, _, _, h4⟩ := hc
    unfold chkEq at h4
    unfold isFlatTy at hf
    rw [hf, hd] at h4
    simp only [Bool.not_true, Bool.false_or, Bool.and_eq_true] at h4
    obtain ⟨g1, g2, g3, g4⟩ := h4
    refine ⟨by simpa using g1, by simpa using g2, ?_, ?_⟩
    · intro F hF f hfm
      rw [hF] at g3
      simp only [List.all_eq_true] at g3
      simpa using g3 f hfm
    · intro fs' hd'
      rw [hd] at hd'
      injection hd' with hd'
      subst hd'
      refine ⟨fun fs off => chkRun T (T.at t) fs off = true, g4, ?_, ?_⟩
      · intro off ho; exact Nat.eq_of_beq_eq_true ho
      · intro f r off ho
        simp only [chkRun, Bool.and_eq_true] at ho
        exact ⟨Nat.eq_of_beq_eq_true ho.1, Nat.le_of_ble_eq_true ho.2.1, ho.2.2.1, ho.2.2.2.2, part_spec ho.2.2.2.1⟩
  · have h0 : T.at t = ⟨.other, 0, []⟩ := h0
    rw [h0] at hd
    cases hd

end Go.Ev
end

section
/- Templates of values and states; lists of what is known of functions and loops. -/
namespace Go.Ev
open Go.RowKit (Below)

/-- What a place in a template holds. -/
inductive Pay
  | i (n : Int)
  | b (b : Bool)
  | l (l : List Int)
  | r (xss : List (List Int))
  | s (b : ByteArray)
  | g (g : List Int → Option Bool)
  | h (g : List Int → Option (List Int))

inductive Tm
  | undef
  | skip
  | nil
  | int (k : IntKind)
  | bool
  | str
  | agg (t : TypeId)
  | slv (e : TypeId)
  | slr (e : TypeId)
  | slw (k : Nat) (e : TypeId)
  | ptr (k off : Nat) (t : TypeId)
  | pvi (t0 : Option TypeId) (off : Nat) (t : TypeId)
  | pvv (ts : List Tm) (off : Nat) (t : TypeId)
  | fn (f : FuncId)
  | cloB (a : TypeId)
  | cloL (a e : TypeId)
  | tup (ts : List Tm)

def eqO : Option Nat → Option Nat → Bool
  | none, none => true
  | some a, some b => Nat.beq a b
  | _, _ => false

theorem eqO_eq {a b : Option Nat} (h : eqO a b = true) : a = b := by
  cases a <;> cases b <;> first | rfl | (cases h; done) | (rw [Nat.eq_of_beq_eq_true h])

def both (x y : Option (List Pay)) : Option (List Pay) :=
  match x with
  | some a => match y with
    | some b => some (a ++ b)
    | none => none
  | none => none

mutual
def mV : Tm → V → Option (List Pay)
  | .undef, .undef => some []
  | .skip, .skip => some []
  | .nil, .nil => some []
  | .int k, .int j n => cond (sameKind j k) (some [.i n]) none
  | .bool, .bool b => some [.b b]
  | .str, .str b => some [.s b]
  | .agg t, .agg u l => cond (Nat.beq u t) (some [.l l]) none
  | .slv t, .slv u l => cond (Nat.beq u t) (some [.l l]) none
  | .slr t, .slr u l => cond (Nat.beq u t) (some [.r l]) none
  | .slw k e, .slw k' e' => cond (Nat.beq k' k && Nat.beq e' e) (some []) none
  | .ptr k o t, .ptr k' o' t' => cond (Nat.beq k' k && (Nat.beq o' o && Nat.beq t' t)) (some []) none
  | .pvi t0 o t, .pvi t0' l o' t' => cond (eqO t0' t0 && (Nat.beq o' o && Nat.beq t' t)) (some [.l l]) none
  | .pvv ts o t, .pvv vs o' t' => cond (Nat.beq o' o && Nat.beq t' t) (mL ts vs) none
  | .fn f, .fn g a c => match a, c with
    | [], [] => cond (Nat.beq g f) (some []) none
    | _, _ => none
  | .cloB a, .cloB a' g => cond (Nat.beq a' a) (some [.g g]) none
  | .cloL a e, .cloL a' e' g => cond (Nat.beq a' a && Nat.beq e' e) (some [.h g]) none
  | .tup ts, .tup vs => mL ts vs
  | _, _ => none
def mL : List Tm → List V → Option (List Pay)
  | [], [] => some []
  | t :: ts, v :: vs => both (mV t v) (mL ts vs)
  | _, _ => none
end

mutual
def fV : Tm → List Pay → V × List Pay
  | .undef, ps => (.undef, ps)
  | .skip, ps => (.skip, ps)
  | .nil, ps => (.nil, ps)
  | .int k, .i n :: ps => (.int k n, ps)
  | .bool, .b b :: ps => (.bool b, ps)
  | .str, .s b :: ps => (.str b, ps)
  | .agg t, .l l :: ps => (.agg t l, ps)
  | .slv t, .l l :: ps => (.slv t l, ps)
  | .slr t, .r l :: ps => (.slr t l, ps)
  | .slw k e, ps => (.slw k e, ps)
  | .ptr k o t, ps => (.ptr k o t, ps)
  | .pvi t0 o t, .l l :: ps => (.pvi t0 l o t, ps)
  | .pvv ts o t, ps => (.pvv (fL ts ps).1 o t, (fL ts ps).2)
  | .fn f, ps => (.fn f [] [], ps)
  | .cloB a, .g g :: ps => (.cloB a g, ps)
  | .cloL a e, .h g :: ps => (.cloL a e g, ps)
  | .tup ts, ps => (.tup (fL ts ps).1, (fL ts ps).2)
  | _, ps => (.undef, ps)
def fL : List Tm → List Pay → List V × List Pay
  | [], ps => ([], ps)
  | t :: ts, ps => ((fV t ps).1 :: (fL ts (fV t ps).2).1, (fL ts (fV t ps).2).2)
end

theorem both_some {x y : Option (List Pay)} {ps : List Pay} (h : both x y = some ps) : ∃ a b, x = some a ∧ y = some b ∧ ps = a ++ b := by
  cases x with
  | none => cases h
  | some a => cases y with
    | none => cases h
    | some b => injection h with h; exact ⟨a, b, rfl, rfl, h.symm⟩

theorem condS {b : Bool} {ps qs : List Pay} (h : cond b (some qs) none = some ps) : b = true ∧ ps = qs := by
  cases b with
  | true => injection h with h; exact ⟨rfl, h.symm⟩
  | false => cases h

mutual
theorem mV_fill : ∀ (t : Tm) (v : V) (ps rest : List Pay), mV t v = some ps → fV t (ps ++ rest) = (v, rest)
  | .undef, v, ps, rest, h => by
    cases v <;> simp only [mV] at h <;> first | (injection h with h; subst h; rfl) | cases h
  | .skip, v, ps, rest, h => by
    cases v <;> simp only [mV] at h <;> first | (injection h with h; subst h; rfl) | cases h
  | .nil, v, ps, rest, h => by
    cases v <;> simp only [mV] at h <;> first | (injection h with h; subst h; rfl) | cases h
  | .int k, v, ps, rest, h => by
    cases v <;> simp only [mV] at h <;> first | cases h; done | skip
    obtain ⟨h1, rfl⟩ := condS h
    rw [sameKind_eq h1]; rfl
  | .bool, v, ps, rest, h => by
    cases v <;> simp only [mV] at h <;> first | (injection h with h; subst h; rfl) | cases h
  | .str, v, ps, rest, h => by
    cases v <;> simp only [mV] at h <;> first | (injection h with h; subst h; rfl) | cases h
  | .agg t, v, ps, rest, h => by
    cases v <;> simp only [mV] at h <;> first | cases h; done | skip
    obtain ⟨h1, rfl⟩ := condS h
    rw [Nat.eq_of_beq_eq_true h1]; rfl
  | .slv t, v, ps, rest, h => by
    cases v <;> simp only [mV] at h <;> first | cases h; done | skip
    obtain ⟨h1, rfl⟩ := condS h
    rw [Nat.eq_of_beq_eq_true h1]; rfl
  | .slr t, v, ps, rest, h => by
    cases v <;> simp only [mV] at h <;> first | cases h; done | skip
    obtain ⟨h1, rfl⟩ := condS h
    rw [Nat.eq_of_beq_eq_true h1]; rfl
  | .slw k e, v, ps, rest, h => by
    cases v <;> simp only [mV] at h <;> first | cases h; done | skip
    obtain ⟨h1, rfl⟩ := condS h
    obtain ⟨g1, g2⟩ := and_true h1
    rw [Nat.eq_of_beq_eq_true g1, Nat.eq_of_beq_eq_true g2]; rfl
  | .ptr k o t, v, ps, rest, h => by
    cases v <;> simp only [mV] at h <;> first | cases h; done | skip
    obtain ⟨h1, rfl⟩ := condS h
    obtain ⟨g1, g2⟩ := and_true h1
    obtain ⟨g2, g3⟩ := and_true g2
    rw [Nat.eq_of_beq_eq_true g1, Nat.eq_of_beq_eq_true g2, Nat.eq_of_beq_eq_true g3]; rfl
  | .pvi t0 o t, v, ps, rest, h => by
    cases v <;> simp only [mV] at h <;> first | cases h; done | skip
    obtain ⟨h1, rfl⟩ := condS h
    obtain ⟨g1, g2⟩ := and_true h1
    obtain ⟨g2, g3⟩ := and_true g2
    rw [eqO_eq g1, Nat.eq_of_beq_eq_true g2, Nat.eq_of_beq_eq_true g3]; rfl
  | .pvv ts o t, v, ps, rest, h => by
    cases v <;> simp only [mV] at h <;> first | cases h; done | skip
    obtain ⟨h1, h2⟩ := cond_some h
    obtain ⟨g1, g2⟩ := and_true h1
    have := mL_fill ts _ ps rest h2
    simp only [fV]
    rw [this, Nat.eq_of_beq_eq_true g1, Nat.eq_of_beq_eq_true g2]
  | .fn f, v, ps, rest, h => by
    cases v <;> simp only [mV] at h <;> first | cases h; done | skip
    split at h
    · obtain ⟨h1, rfl⟩ := condS h
      rw [Nat.eq_of_beq_eq_true h1]; rfl
    · cases h
  | .cloB t, v, ps, rest, h => by
    cases v <;> simp only [mV] at h <;> first | cases h; done | skip
    obtain ⟨h1, rfl⟩ := condS h
    rw [Nat.eq_of_beq_eq_true h1]; rfl
  | .cloL t e, v, ps, rest, h => by
    cases v <;> simp only [mV] at h <;> first | cases h; done | skip
    obtain ⟨h1, rfl⟩ := condS h
    obtain ⟨g1, g2⟩ := and_true h1
    rw [Nat.eq_of_beq_eq_true g1, Nat.eq_of_beq_eq_true g2]; rfl
  | .tup ts, v, ps, rest, h => by
    cases v <;> simp only [mV] at h <;> first | cases h; done | skip
    have := mL_fill ts _ ps rest h
    simp only [fV]
    rw [this]
theorem mL_fill : ∀ (ts : List Tm) (vs : List V) (ps rest : List Pay), mL ts vs = some ps → fL ts (ps ++ rest) = (vs, rest)
  | [], vs, ps, rest, h => by
    cases vs <;> simp only [mL] at h
    · injection h with h; subst h; rfl
    · cases h
  | t :: ts, vs, ps, rest, h => by
    cases vs <;> simp only [mL] at h
    · cases h
    · obtain ⟨a, b, h1, h2, rfl⟩ := both_some h
      simp only [fL]
      rw [List.append_assoc, mV_fill t _ a (b ++ rest) h1]
      simp only []
      rw [mL_fill ts _ b rest h2]
end

/-! ## States -/

inductive DTm
  | ints
  | rows
  | vals (ts : List Tm)

structure StTm where
  n : Nat
  env : List (Nat × Tm)
  own : List (Nat × TypeId × Bool × DTm)

def mE : List (Nat × Tm) → List (Nat × V) → Option (List Pay)
  | [], [] => some []
  | (i, t) :: ts, (j, v) :: vs => cond (Nat.beq j i) (both (mV t v) (mE ts vs)) none
  | _, _ => none

def fE : List (Nat × Tm) → List Pay → List (Nat × V) × List Pay
  | [], ps => ([], ps)
  | (i, t) :: ts, ps => ((i, (fV t ps).1) :: (fE ts (fV t ps).2).1, (fE ts (fV t ps).2).2)

def mD : DTm → D → Option (List Pay)
  | .ints, .ints l => some [.l l]
  | .rows, .rows l => some [.r l]
  | .vals ts, .vals vs => mL ts vs
  | _, _ => none

def fD : DTm → List Pay → D × List Pay
  | .ints, .l l :: ps => (.ints l, ps)
  | .rows, .r l :: ps => (.rows l, ps)
  | .vals ts, ps => (.vals (fL ts ps).1, (fL ts ps).2)
  | _, ps => (.ints [], ps)

def mO : List (Nat × TypeId × Bool × DTm) → List (Nat × Option Blk) → Option (List Pay)
  | [], [] => some []
  | (k, e, r, d) :: ts, (j, some ⟨e', r', d'⟩) :: bs => cond (Nat.beq j k && (Nat.beq e' e && (r' == r))) (both (mD d d') (mO ts bs)) none
  | _, _ => none

def fO : List (Nat × TypeId × Bool × DTm) → List Pay → List (Nat × Option Blk) × List Pay
  | [], ps => ([], ps)
  | (k, e, r, d) :: ts, ps => ((k, some ⟨e, r, (fD d ps).1⟩) :: (fO ts (fD d ps).2).1, (fO ts (fD d ps).2).2)

def mSt (t : StTm) (s : St) : Option (List Pay) := cond (Nat.beq s.n t.n) (both (mE t.env s.env) (mO t.own s.own)) none
def fSt (t : StTm) (ps : List Pay) : St := ⟨t.n, (fE t.env ps).1, (fO t.own (fE t.env ps).2).1⟩

theorem mE_fill : ∀ (ts : List (Nat × Tm)) (vs : List (Nat × V)) (ps rest : List Pay), mE ts vs = some ps → fE ts (ps ++ rest) = (vs, rest) := by
  intro ts
  induction ts with
  | nil =>
    intro vs ps rest h
    cases vs <;> simp only [mE] at h
    · injection h with h; subst h; rfl
    · cases h
  | cons t ts ih =>
    intro vs ps rest h
    obtain ⟨i, t⟩ := t
    cases vs with
    | nil => cases h
    | cons v vs =>
      obtain ⟨j, v⟩ := v
      simp only [mE] at h
      obtain ⟨h1, h2⟩ := cond_some h
      obtain ⟨a, b, g1, g2, rfl⟩ := both_some h2
      simp only [fE]
      rw [List.append_assoc, mV_fill t _ a (b ++ rest) g1]
      simp only []
      rw [ih _ b rest g2, Nat.eq_of_beq_eq_true h1]

theorem mD_fill {t : DTm} {d : D} {ps rest : List Pay} (h : mD t d = some ps) : fD t (ps ++ rest) = (d, rest) := by
  cases t <;> cases d <;> simp only [mD] at h <;> first | (cases h; done) | skip
  · injection h with h; subst h; rfl
  · injection h with h; subst h; rfl
  · simp only [fD]; rw [mL_fill _ _ _ _ h]

theorem mO_fill : ∀ (ts : List (Nat × TypeId × Bool × DTm)) (bs : List (Nat × Option Blk)) (ps rest : List Pay), mO ts bs = some ps → fO ts (ps ++ rest) = (bs, rest) := by
  intro ts
  induction ts with
  | nil =>
    intro bs ps rest h
    cases bs <;> simp only [mO] at h
    · injection h with h; subst h; rfl
    · cases h
  | cons t ts ih =>
    intro bs ps rest h
    obtain ⟨k, e, r, d⟩ := t
    cases bs with
    | nil => cases h
    | cons x bs =>
      obtain ⟨j, ob⟩ := x
      cases ob with
      | none => cases h
      | some bk =>
        obtain ⟨e', r', d'⟩ := bk
        simp only [mO] at h
        obtain ⟨h1, h2⟩ := cond_some h
        obtain ⟨q1, q2⟩ := and_true h1
        obtain ⟨q2, q3⟩ := and_true q2
        obtain ⟨a, b, g1, g2, rfl⟩ := both_some h2
        simp only [fO]
        rw [List.append_assoc, mD_fill g1]
        simp only []
        rw [ih _ b rest g2, Nat.eq_of_beq_eq_true q1, Nat.eq_of_beq_eq_true q2, eq_of_beq q3]

theorem mSt_fill {t : StTm} {s : St} {ps : List Pay} (h : mSt t s = some ps) : s = fSt t ps := by
  unfold mSt at h
  obtain ⟨h1, h2⟩ := cond_some h
  obtain ⟨a, b, g1, g2, rfl⟩ := both_some h2
  have e1 := mE_fill _ _ a b g1
  have e2 := mO_fill _ _ b [] g2
  rw [List.append_nil] at e2
  unfold fSt
  rw [e1, ← Nat.eq_of_beq_eq_true h1]
  simp only []
  rw [e2]

theorem mL_args {ts : List Tm} {vs : List V} {ps : List Pay} (h : mL ts vs = some ps) : vs = (fL ts ps).1 := by
  have := mL_fill ts vs ps [] h
  rw [List.append_nil] at this
  rw [this]

theorem mV_val {t : Tm} {v : V} {ps : List Pay} (h : mV t v = some ps) : v = (fV t ps).1 := by
  have := mV_fill t v ps [] h
  rw [List.append_nil] at this
  rw [this]

/-! ## Functions that are known -/

abbrev Fcall := List V → (R : Type) → (Rs → Option R) → Option R

abbrev Ent := Nat × Fcall

def oraOf : List Ent → Ora
  | [] => fun _ _ _ _ => none
  | (g, call) :: r => fun f args R K => cond (Nat.beq g f) (call args R K) (oraOf r f args R K)

structure EntOK (P : Program) (T : Tab) (mv : List Nat) (e : Ent) : Prop where
  body : HasBody P e.1
  nat : ∀ args R K, e.2 args R K = (e.2 args Rs some).bind K
  sound : ∀ args rs, e.2 args Rs some = some rs → SoundRs P T e.1 (memN e.1 mv) args rs

theorem oraOf_nat {P : Program} {T : Tab} {mv : List Nat} : ∀ {es : List Ent}, (∀ e ∈ es, EntOK P T mv e) → OraNat (oraOf es) := by
  intro es
  induction es with
  | nil => intro _ f args R K; rfl
  | cons e es ih =>
    intro h f args R K
    obtain ⟨g, call⟩ := e
    simp only [oraOf]
    rw [cond_bind, ← ih (fun e he => h e (by simp [he])), ← (h (g, call) (by simp)).nat]

theorem oraOf_ok {P : Program} {T : Tab} {mv : List Nat} : ∀ {es : List Ent}, (∀ e ∈ es, EntOK P T mv e) → OraOK P T mv (oraOf es) := by
  intro es
  induction es with
  | nil => intro _ f args R K r h; cases h
  | cons e es ih =>
    intro h f args R K r hr
    obtain ⟨g, call⟩ := e
    simp only [oraOf] at hr
    cases hb : Nat.beq g f with
    | false => rw [hb] at hr; exact ih (fun e he => h e (by simp [he])) f args R K r hr
    | true =>
      rw [hb] at hr
      have := Nat.eq_of_beq_eq_true hb
      subst this
      have he := h (g, call) (by simp)
      simp only [cond_true] at hr
      have hnat := he.nat args R K
      simp only [] at hnat
      rw [hnat, Option.bind_eq_some_iff] at hr
      obtain ⟨rs, h1, h2⟩ := hr
      exact ⟨he.body, rs, h2, he.sound args rs h1⟩

/-- The usual entry: arguments of a template, a result of a template. -/
def callOf {A : Type} (ta : List Tm) (dec : List Pay → Option A) (G : A → (R : Type) → (Rs → Option R) → Option R) : Fcall := fun args R K =>
  match mL ta args with
  | some ps => match dec ps with
    | some a => G a R K
    | none => none
  | none => none

theorem entOK_of {P : Program} {T : Tab} {mv : List Nat} {f : FuncId} {fn : Func} {A : Type} {ta : List Tm} {dec : List Pay → Option A} {G : A → (R : Type) → (Rs → Option R) → Option R} (hmv : memN f mv = false) (hf : P.funcs[f]? = some fn) (hb : fn.body.isSome = true)
    (hname : fn.name ≠ "runtime.NumGoroutine") (hnat : ∀ a R K, G a R K = (G a Rs some).bind K) (hs : ∀ ps a rs, dec ps = some a → G a Rs some = some rs → SoundRs P T f false (fL ta ps).1 rs) : EntOK P T mv (f, callOf ta dec G) := by
  refine ⟨⟨fn, hf, hb, hname⟩, ?_, ?_⟩
  · intro args R K
    simp only [callOf]
    split
    · split
      · exact hnat _ _ _
      · rfl
    · rfl
  · intro args rs h
    simp only [callOf] at h
    rw [hmv]
    split at h
    · rename_i ps hps
      split at h
      · rename_i a ha
        rw [mL_args hps]
        exact hs ps a rs ha h
      · cases h
    · cases h

def resK {A : Type} (tm : Tm) (dec : List Pay → Option A) (rs : Rs) : Option A :=
  match rs.2 with
  | none => match mV tm rs.1 with
    | some ps => dec ps
    | none => none
  | some _ => none

theorem fn_ok {P : Program} {C : Cfg} (hT : TabOK P C.T) (hE : EqTabOK P C.T) {es : List Ent} (hes : ∀ e ∈ es, EntOK P C.T C.mv e) (hora : C.ora = oraOf es) (hm : P.follows .mixedOrders = true) {f : FuncId} {fn : Func} (hf : P.funcs[f]? = some fn)
    (hb : fn.body.isSome = true) (hname : (fn.name == "runtime.NumGoroutine") = false) (hmv : memN f C.mv = false) (hl : ∀ p ∈ loopsOf (codeOf fn) 0, LoopOK P C.T C.lo p.1 p.2) {A B : Type} {ta : List Tm} {tr : Tm}
    {decA : List Pay → Option A} {encA : A → List Pay} {decB : List Pay → Option B} {encB : B → List Pay} (hA : ∀ ps a, decA ps = some a → ps = encA a) (hB : ∀ ps b, decB ps = some b → ps = encB b)
    {F : A → Option B} (hrun : ∀ a, runF C fn false (fL ta (encA a)).1 (resK tr decB) = F a) : EntOK P C.T C.mv (f, callOf ta decA fun a R K => (F a).bind fun b => K ((fV tr (encB b)).1, none)) := by
  have hO : OraOK P C.T C.mv C.ora := hora ▸ oraOf_ok hes
  have hN : OraNat C.ora := hora ▸ oraOf_nat hes
  refine entOK_of hmv hf hb (by simpa using hname) (fun a R K => by rw [Option.bind_assoc]; rfl) ?_
  intro ps a rs hps hF
  rw [Option.bind_eq_some_iff] at hF
  obtain ⟨b, h1, h2⟩ := hF
  injection h2 with h2
  subst h2
  rw [hA ps a hps]
  refine runF_sound hT hE hO hN hm hf hl (K := resK tr decB) (r := b) ?_ (by rw [hrun]; exact h1)
  intro rs' hrs
  unfold resK at hrs
  split at hrs
  · rename_i hr2
    split at hrs
    · rename_i ps' hps'
      have h3 := mV_val hps'
      rw [hB ps' b hrs] at h3
      obtain ⟨x, y⟩ := rs'
      simp only at h3 hr2
      rw [h3, hr2]
    · cases hrs
  · cases hrs

theorem fnm_ok {P : Program} {C : Cfg} (hT : TabOK P C.T) (hE : EqTabOK P C.T) {es : List Ent} (hes : ∀ e ∈ es, EntOK P C.T C.mv e) (hora : C.ora = oraOf es) (hm : P.follows .mixedOrders = true) {f : FuncId} {fn : Func} (hf : P.funcs[f]? = some fn)
    (hb : fn.body.isSome = true) (hname : (fn.name == "runtime.NumGoroutine") = false) (hmv : memN f C.mv = true) (hl : ∀ p ∈ loopsOf (codeOf fn) 0, LoopOK P C.T C.lo p.1 p.2) {A B : Type} {ta : List Tm} {tr : Tm}
    {decA : List Pay → Option A} {encA : A → List Pay} {decB : List Pay → Option B} {encB : B → List Pay} (hA : ∀ ps a, decA ps = some a → ps = encA a) (hB : ∀ ps b, decB ps = some b → ps = encB b)
    {F : A → Option B} (hrun : ∀ a, runF C fn true (fL ta (encA a)).1 (resK tr decB) = F a) : EntOK P C.T C.mv (f, callOf ta decA fun a R K => (F a).bind fun b => K ((fV tr (encB b)).1, none)) := by
  have hO : OraOK P C.T C.mv C.ora := hora ▸ oraOf_ok hes
  have hN : OraNat C.ora := hora ▸ oraOf_nat hes
  refine ⟨⟨fn, hf, hb, by simpa using hname⟩, ?_, ?_⟩
  · intro args R K
    simp only [callOf]
    split
    · split
      · rw [Option.bind_assoc]; rfl
      · rfl
    · rfl
  · intro args rs h
    simp only [callOf] at h
    rw [hmv]
    split at h
    · rename_i ps hps
      split at h
      · rename_i a ha
        rw [mL_args hps]
        rw [Option.bind_eq_some_iff] at h
        obtain ⟨b, h1, h2⟩ := h
        injection h2 with h2
        subst h2
        rw [hA ps a ha]
        refine runF_sound hT hE hO hN hm hf hl (K := resK tr decB) (r := b) ?_ (by rw [hrun]; exact h1)
        intro rs' hrs
        unfold resK at hrs
        split at hrs
        · rename_i hr2
          split at hrs
          · rename_i ps' hps'
            have h3 := mV_val hps'
            rw [hB ps' b hrs] at h3
            obtain ⟨x, y⟩ := rs'
            simp only at h3 hr2
            rw [h3, hr2]
          · cases hrs
        · cases hrs
      · cases h
    · cases h

def resB {A : Type} (tm : Tm) (dec : List Pay → Option A) (rs : Rs) : Option (A × List Int) :=
  match rs.2 with
  | some l => match mV tm rs.1 with
    | some ps => match dec ps with
      | some b => some (b, l)
      | none => none
    | none => none
  | none => none

theorem fnb_ok {P : Program} {C : Cfg} (hT : TabOK P C.T) (hE : EqTabOK P C.T) {es : List Ent} (hes : ∀ e ∈ es, EntOK P C.T C.mv e) (hora : C.ora = oraOf es) (hm : P.follows .mixedOrders = true) {f : FuncId} {fn : Func} (hf : P.funcs[f]? = some fn)
    (hb : fn.body.isSome = true) (hname : (fn.name == "runtime.NumGoroutine") = false) (hmv : memN f C.mv = true) (hl : ∀ p ∈ loopsOf (codeOf fn) 0, LoopOK P C.T C.lo p.1 p.2) {A B : Type} {ta : List Tm} {tr : Tm}
    {decA : List Pay → Option A} {encA : A → List Pay} {decB : List Pay → Option B} {encB : B → List Pay} (hA : ∀ ps a, decA ps = some a → ps = encA a) (hB : ∀ ps b, decB ps = some b → ps = encB b)
    {F : A → Option (B × List Int)} (hrun : ∀ a, runF C fn true (fL ta (encA a)).1 (resB tr decB) = F a) : EntOK P C.T C.mv (f, callOf ta decA fun a R K => (F a).bind fun b => K ((fV tr (encB b.1)).1, some b.2)) := by
  have hO : OraOK P C.T C.mv C.ora := hora ▸ oraOf_ok hes
  have hN : OraNat C.ora := hora ▸ oraOf_nat hes
  refine ⟨⟨fn, hf, hb, by simpa using hname⟩, ?_, ?_⟩
  · intro args R K
    simp only [callOf]
    split
    · split
      · rw [Option.bind_assoc]; rfl
      · rfl
    · rfl
  · intro args rs h
    simp only [callOf] at h
    rw [hmv]
    split at h
    · rename_i ps hps
      split at h
      · rename_i a ha
        rw [mL_args hps]
        rw [Option.bind_eq_some_iff] at h
        obtain ⟨b, h1, h2⟩ := h
        injection h2 with h2
        subst h2
        rw [hA ps a ha]
        refine runF_sound hT hE hO hN hm hf hl (K := resB tr decB) (r := b) ?_ (by rw [hrun]; exact h1)
        intro rs' hrs
        unfold resB at hrs
        split at hrs
        · rename_i l' hr2
          split at hrs
          · rename_i ps' hps'
            split at hrs
            · rename_i b' hb'
              injection hrs with hrs
              subst hrs
              have h3 := mV_val hps'
              rw [hB ps' b' hb'] at h3
              obtain ⟨x, y⟩ := rs'
              simp only at h3 hr2
              rw [h3, hr2]
            · cases hrs
          · cases hrs
        · cases hrs
      · cases h
    · cases h

/-! ## Loops that are known -/

abbrev Lcall := St → (R : Type) → (Ex → St → Option R) → Option R

def loOf : List (Nat × Lcall) → Lo
  | [] => fun _ _ _ _ => none
  | (l, call) :: r => fun lab s R K => cond (Nat.beq l lab) (call s R K) (loOf r lab s R K)

def loopP : List Nat → Nat × Code → Nat × Code
  | [], p => p
  | i :: r, p => loopP r ((loopsOf p.2 p.1).getD i (0, .skip))

theorem forall_getD {α : Type} {Φ : α → Prop} (l : List α) (n : Nat) (d : α) (hn : l.length = n) (h : ∀ i, i < n → Φ (l.getD i d)) : ∀ x ∈ l, Φ x := by
  intro x hx
  obtain ⟨i, hi, rfl⟩ := List.mem_iff_getElem.1 hx
  have := h i (hn ▸ hi)
  simpa [List.getD_eq_getElem?_getD, List.getElem?_eq_getElem hi] using this

def lcallOf {Pm : Type} (T : Tab) (tm : StTm) (dec : List Pay → Option Pm) (ksIn : List Nat) (k : Nat) (step : (R : Type) → (Ex → St → Option R) → (Pm → Option R) → Pm → Option R) : Lcall := fun s R K =>
  match mSt tm (canon T ksIn s) with
  | some ps => match dec ps with
    | some p => loopF (step R K) k p
    | none => none
  | none => none

theorem loopOK_of {P : Program} {C : Cfg} (hT : TabOK P C.T) (hE : EqTabOK P C.T) (hO : OraOK P C.T C.mv C.ora) (hN : OraNat C.ora) (hm : P.follows .mixedOrders = true) {c : Code} {lab : Nat} (hl : ∀ p ∈ loopsOf c lab, LoopOK P C.T C.lo p.1 p.2)
    {Pm : Type} {tm : StTm} {dec : List Pay → Option Pm} {enc : Pm → List Pay} {ksIn ksOut ksRet : List Nat} {k : Nat} {step : (R : Type) → (Ex → St → Option R) → (Pm → Option R) → Pm → Option R}
    (hdec : ∀ ps p, dec ps = some p → ps = enc p) (henc : ∀ p, (match mSt tm (fSt tm (enc p)) with | some ps => dec ps | none => none) = some p)
    (hlo : ∀ s R K, C.lo lab s R K = lcallOf C.T tm dec ksIn k step s R K)
    (hstep : ∀ (R : Type) (K : Ex → St → Option R) (g : St → Option R) (p : Pm), evCode C c lab (fSt tm (enc p)) (loopK C.T ksIn ksOut ksRet g K) = step R K (fun p' => g (fSt tm (enc p'))) p) : LoopOK P C.T C.lo lab c := by
  intro w0 M N R K r s a w h hr
  rw [hlo] at h
  unfold lcallOf at h
  split at h
  · rename_i ps hps
    split at h
    · rename_i p hp
      have hs := mSt_fill hps
      rw [hdec ps p hp] at hs
      have hr' := canon_rel (T := C.T) hr ksIn
      rw [hs] at hr'
      refine wp_loop_rounds k (loop_ok hT hE hO hN hm hl (S := fun p => fSt tm (enc p)) (pOf := fun s => match mSt tm s with | some ps => dec ps | none => none) ?_ henc (step := step R K) (hstep R K) k p a w h hr')
      intro s p hsp
      split at hsp
      · rename_i ps' hps'
        have := mSt_fill hps'
        rw [hdec ps' p hsp] at this
        exact this
      · cases hsp
    · cases h
  · cases h

end Go.Ev
end

section
/- Functions of the library that the kit's own contracts tell of. -/
namespace Go.Ev
open Go.RowKit (Below)

/-- A function of a string and a byte that gives back a number and touches nothing. -/
theorem strByte_ok {P : Program} {T : Tab} {mv : List Nat} {f : FuncId} {fn : Func} (hmv : memN f mv = false) (hf : P.funcs[f]? = some fn) (hb : fn.body.isSome = true) (hname : (fn.name == "runtime.NumGoroutine") = false) (g : ByteArray → Int → Int)
    (h : ∀ (s : ByteArray) (c : Int) (w : World), Calls P f #[.string s, .int .u8 c] w fun e w' => e = .returned (.int .i64 (g s c)) ∧ w' = w)
    {dec : List Pay → Option (ByteArray × Int)} {enc : ByteArray × Int → List Pay} (hdec : ∀ ps p, dec ps = some p → ps = enc p) (henc : ∀ p, enc p = [.s p.1, .i p.2])
    {encB : Int → List Pay} (hencB : ∀ b, encB b = [.i b]) {F : ByteArray → Int → Option Int} (hF : ∀ s c, F s c = some (g s c)) :
    EntOK P T mv (f, callOf [.str, .int .u8] dec fun p R K => (F p.1 p.2).bind fun (b : Int) => K ((fV (.int .i64) (encB b)).1, none)) := by
  refine entOK_of hmv hf hb (by simpa using hname) (fun a R K => by rw [Option.bind_assoc]; rfl) ?_
  intro ps p rs hps hG
  rw [hF] at hG
  simp only [Option.bind_some, hencB] at hG
  injection hG with hG
  subst hG
  rw [hdec ps p hps, henc]
  obtain ⟨s, c⟩ := p
  intro w Fr us _ hargs
  have hus : us = #[.string s, .int .u8 c] := by
    obtain ⟨l⟩ := us
    cases hargs with
    | cons h1 h2 =>
      cases h2 with
      | cons h3 h4 =>
        cases h4
        cases h1 with
        | flat _ _ h1 =>
          cases h3 with
          | flat _ _ h3 =>
            simp only [FV] at h1 h3
            subst h1 h3
            rfl
  rw [hus]
  refine (h s c w).mono ?_
  rintro e w' ⟨rfl, rfl⟩
  exact ⟨_, rfl, Below.refl _ _, .flat _ _ rfl, rfl⟩

end Go.Ev
end

section
/- A law's arguments, as they are read. -/
namespace Go.Ev
open Go.RowKit (Below)

variable {P : Program} {T : Tab} {w : World} {H : Type} {enc : TypeId × Value → H} {base : Nat} {spare : Nat → Bool} {held : Bool}

/-- A number that a cell of this kind may hold. -/
def inKind : SK → Int → Prop
  | .int k, n => (Lit.int k n).wf = true
  | .bool, n => n = 0 ∨ n = 1

/-- The cells of a value without references. -/
def FlatCells (T : Tab) (t : TypeId) (cs : List Value) : Prop := cs.length = (T.at t).size ∧ ∀ j, j < (T.at t).size → ∃ n, cs[j]? = some ((kindAt (T.at t).ks j).val n) ∧ inKind (kindAt (T.at t).ks j) n

theorem cellsOf_size (hT : TabOK P T) {t : TypeId} (h : (T.at t).d ≠ .other) : P.cellsOf t = (T.at t).size := by
  obtain ⟨ti, z, h1, h2, _⟩ := hT.info' h
  unfold Program.cellsOf
  rw [h1]
  exact h2

theorem run_cover {t : TypeId} {c : List (Nat × TypeId) → Nat → Prop} (h0 : ∀ off, c [] off → off = (T.at t).size)
    (hr : ∀ f r off, c (f :: r) off → f.1 = off ∧ off + (T.at f.2).size ≤ (T.at t).size ∧ isFlatTy T f.2 = true ∧ c r (off + (T.at f.2).size) ∧ ∀ j, j < (T.at f.2).size → (T.at t).ks[off + j]? = (T.at f.2).ks[j]?) :
    ∀ (fs : List (Nat × TypeId)) (off : Nat), c fs off → ∀ j, off ≤ j → j < (T.at t).size → ∃ i o u, fieldOf fs i = some (o, u) ∧ o ≤ j ∧ j < o + (T.at u).size := by
  intro fs
  induction fs with
  | nil => intro off hc j h1 h2; have := h0 off hc; omega
  | cons f r ih =>
    intro off hc j h1 h2
    obtain ⟨e1, _, _, e4, _⟩ := hr f r off hc
    rcases Nat.lt_or_ge j (off + (T.at f.2).size) with h | h
    · exact ⟨0, f.1, f.2, rfl, by omega, by omega⟩
    · obtain ⟨i, o, u, g1, g2, g3⟩ := ih _ e4 j h h2
      exact ⟨i + 1, o, u, g1, g2, g3⟩

theorem trod_flat (hT : TabOK P T) (hE : EqTabOK P T) : ∀ (fuel : Nat) (t : TypeId) (cs : List Value) (x : DataW H × List MemPlace), isFlatTy T t = true → DataW.trod enc P w base spare held fuel t cs = some x → FlatCells T t cs := by
  intro fuel
  induction fuel with
  | zero => intro t cs x _ h; simp [DataW.trod] at h
  | succ fuel ih =>
    intro t cs x hf h
    have hd := (hT t).desc
    have hk := (hT t).flat hf
    have hsz := cellsOf_size hT (flat_ne hT hf)
    cases hdd : (T.at t).d with
    | sc sk =>
      rw [hdd] at hd hk
      have hk2 : (T.at t).ks = [sk] := hk.2
      have hs1 : (T.at t).size = 1 := by rw [← hk.1, hk2]; rfl
      cases sk with
      | int k =>
        obtain ⟨n, rfl, _, hw⟩ := DataW.trod_int hd h
        refine ⟨by rw [hs1]; rfl, fun j hj => ?_⟩
        have : j = 0 := by omega
        subst this
        exact ⟨n, by rw [hk2]; rfl, by rw [hk2]; exact hw⟩
      | bool =>
        obtain ⟨b, rfl, _⟩ := DataW.trod_bool hd h
        refine ⟨by rw [hs1]; rfl, fun j hj => ?_⟩
        have : j = 0 := by omega
        subst this
        refine ⟨cond b 1 0, by rw [hk2]; cases b <;> rfl, by rw [hk2]; cases b <;> simp [kindAt, inKind]⟩
    | struct fs =>
      rw [hdd] at hd hk
      obtain ⟨F, hF, hfs⟩ := hd
      obtain ⟨xs, n, hn, _, hlen, _, hall⟩ := DataW.trod_struct hF h
      have hn : n = fuel := by omega
      subst hn
      refine ⟨by rw [hlen, hsz], fun j hj => ?_⟩
      have hq := hE t fs hf hdd
      obtain ⟨c, hc0, hc1, hc2⟩ := hq.run fs hdd
      obtain ⟨i, o, u, g1, g2, g3⟩ := run_cover hc1 hc2 fs 0 hc0 j (Nat.zero_le _) hj
      obtain ⟨q1, q2, q3⟩ := hk.2 i o u g1
      rw [← hfs] at g1
      obtain ⟨f, f1, f2, f3⟩ := fieldOf_some F.toList i (o, u) g1
      have hx := hall i f (by rw [← Array.getElem?_toList]; exact f1)
      have hfu : f.type = u := f3
      have hfo : f.offset = o := f2
      rw [hfu, hfo, cellsOf_size hT (flat_ne hT q1)] at hx
      cases hxi : xs[i]? with
      | none =>
        exfalso
        have : i < xs.length := by
          have h3 : i < F.size := by rw [← Array.length_toList]; exact (List.getElem?_eq_some_iff.1 f1).1
          omega
        rw [List.getElem?_eq_getElem this] at hxi
        cases hxi
      | some y =>
        rw [hxi] at hx
        obtain ⟨r1, r2⟩ := ih u _ y q1 hx
        obtain ⟨m, m1, m2⟩ := r2 (j - o) (by omega)
        have hkk : kindAt (T.at t).ks j = kindAt (T.at u).ks (j - o) := by
          have h1 := q3 (j - o) (by omega)
          have : o + (j - o) = j := by omega
          rw [this] at h1
          have hlu := (hT u).flat q1
          rw [kindAt_lt (by rw [hk.1]; exact hj), kindAt_lt (by rw [hlu.1]; omega), getD_of_getElem? h1]
        refine ⟨m, ?_, by rw [hkk]; exact m2⟩
        rw [hkk, ← m1, List.getElem?_take_of_lt (by omega), List.getElem?_drop]
        congr 1
        omega
    | arr n e =>
      rw [hdd] at hd hk
      obtain ⟨q1, q2, q3⟩ := hk.2
      obtain ⟨xs, m, hm, _, hlen, hxl, hall⟩ := DataW.trod_array hd h
      have hm : m = fuel := by omega
      subst hm
      refine ⟨by rw [hlen, hsz], fun j hj => ?_⟩
      have he0 := flat_pos hT q1
      have hi : j / (T.at e).size < n := Nat.div_lt_of_lt_mul (by rw [Nat.mul_comm, ← q2]; exact hj)
      have hr : j % (T.at e).size < (T.at e).size := Nat.mod_lt _ he0
      have hjr : j / (T.at e).size * (T.at e).size + j % (T.at e).size = j := by rw [Nat.mul_comm]; exact Nat.div_add_mod _ _
      have hx := hall _ hi
      rw [cellsOf_size hT (flat_ne hT q1)] at hx
      cases hxi : xs[j / (T.at e).size]? with
      | none =>
        exfalso
        rw [List.getElem?_eq_getElem (by omega)] at hxi
        cases hxi
      | some y =>
        rw [hxi] at hx
        obtain ⟨r1, r2⟩ := ih e _ y q1 hx
        obtain ⟨v, m1, m2⟩ := r2 _ hr
        have hkk : kindAt (T.at t).ks j = kindAt (T.at e).ks (j % (T.at e).size) := by
          have h1 := q3 _ _ hi hr
          rw [hjr] at h1
          have hle := (hT e).flat q1
          rw [kindAt_lt (by rw [hk.1]; exact hj), kindAt_lt (by rw [hle.1]; exact hr), getD_of_getElem? h1]
        refine ⟨v, ?_, by rw [hkk]; exact m2⟩
        rw [hkk, ← m1, List.getElem?_take_of_lt hr, List.getElem?_drop, hjr]
    | _ =>
      rw [hdd] at hk
      exact hk.2.elim

/-- The numbers of such cells. -/
theorem flat_list (hT : TabOK P T) {t : TypeId} {cs : List Value} (hf : isFlatTy T t = true) (h : FlatCells T t cs) : ∃ l : List Int, cs = zipV (T.at t).ks l ∧ l.length = (T.at t).size ∧ ∀ j, j < (T.at t).size → inKind (kindAt (T.at t).ks j) (rd l j) := by
  obtain ⟨h1, h2⟩ := h
  have hk := ((hT t).flat hf).1
  have hex : ∀ j : Nat, ∃ n : Int, j < (T.at t).size → cs[j]? = some ((kindAt (T.at t).ks j).val n) ∧ inKind (kindAt (T.at t).ks j) n := by
    intro j
    by_cases hj : j < (T.at t).size
    · obtain ⟨n, hn⟩ := h2 j hj
      exact ⟨n, fun _ => hn⟩
    · exact ⟨0, fun h => absurd h hj⟩
  obtain ⟨f, hf'⟩ := Classical.axiomOfChoice hex
  have hrd : ∀ j, j < (T.at t).size → rd ((List.range (T.at t).size).map f) j = f j := by
    intro j hj
    simp [rd, hj]
  refine ⟨(List.range (T.at t).size).map f, ?_, by simp, fun j hj => by rw [hrd j hj]; exact (hf' j hj).2⟩
  apply List.ext_getElem?
  intro j
  rcases Nat.lt_or_ge j (T.at t).size with hj | hj
  · rw [zipV_getElem? _ _ _ (by simp [hk]) (by simpa using hj), hrd j hj, (hf' j hj).1, kindAt_lt (by rw [hk]; exact hj)]
  · rw [List.getElem?_eq_none (by omega), List.getElem?_eq_none (by rw [zipV_length _ _ (by simp [hk])]; simpa using hj)]

/-! ## The arguments -/

def InR (T : Tab) (t : TypeId) (l : List Int) : Prop := l.length = (T.at t).size ∧ ∀ j, j < (T.at t).size → inKind (kindAt (T.at t).ks j) (rd l j)

theorem okWide_arr {t : TypeId} {n : Nat} {e : TypeId} {r : Reach} {v : Value} (ht : P.underlying t = some (.array n e)) (h : Value.okWide P w r base t v) : ∃ cs, v = .agg cs := by
  simp only [Value.okWide, ht] at h
  obtain ⟨cs, h1, _⟩ := h
  exact ⟨cs, h1⟩

/-- A struct or an array without references. -/
theorem in_agg (hT : TabOK P T) (hE : EqTabOK P T) {t : TypeId} {v : Value} {d : DataW H} {ps : List MemPlace} {r : Reach} {b0 : Nat} {Fr : Nat → Prop} (hf : isFlatTy T t = true) (ha : (T.at t).d.isAgg = true) (hv : Value.okWide P w r b0 t v)
    (h : DataW.Trod enc P w base spare held t v d ps) : ∃ l, BV P T w Fr (.agg t l) v ∧ InR T t l := by
  have hagg : ∃ cs, v = .agg cs := by
    have hd := (hT t).desc
    cases hdd : (T.at t).d with
    | struct fs =>
      rw [hdd] at hd
      obtain ⟨F, hF, _⟩ := hd
      obtain ⟨cs, h1, _⟩ := WideShapes.okWide_struct hF hv
      exact ⟨cs, h1⟩
    | arr n e => rw [hdd] at hd; exact okWide_arr hd hv
    | _ => rw [hdd] at ha; cases ha
  obtain ⟨cs, rfl⟩ := hagg
  obtain ⟨fuel, hfu⟩ := h
  obtain ⟨l, h1, h2, h3⟩ := flat_list hT hf (trod_flat hT hE fuel t _ _ hf hfu)
  exact ⟨l, .flat _ _ ⟨ha, hf, h2, cs, rfl, h1⟩, h2, h3⟩

theorem cell_lt {a : Addr} {v : Value} (h : w.cell? a = some v) : a.block < w.heap.size := by
  rcases Nat.lt_or_ge a.block w.heap.size with hl | hl
  · exact hl
  · unfold World.cell? at h
    rw [Array.getElem?_eq_none hl] at h
    simp at h

/-- A slice of such elements. -/
theorem in_slice (hT : TabOK P T) (hE : EqTabOK P T) {t e : TypeId} {v : Value} {d : DataW H} {ps : List MemPlace} {r : Reach} {b0 : Nat} (ht : (T.at t).d = .slice e) (hf : isFlatTy T e = true) (hv : Value.okWide P w r b0 t v)
    (h : DataW.Trod enc P w base spare held t v d ps) : ∃ l n, BV P T w (fun b => b < w.heap.size) (.slv e l) v ∧ l.length = n * (T.at e).size ∧ (∀ j, j < l.length → inKind (kindAt (T.at e).ks j) (rd l j)) ∧
      ((n = 0 ∧ d = .nil) ∨ ∃ es rest, d = .slice es rest ∧ es.length = n) := by
  have hd := (hT t).desc
  rw [ht] at hd
  obtain ⟨a, len, cap, rfl⟩ := WideShapes.okWide_slice hd hv
  obtain ⟨fuel, hfu⟩ := h
  have he0 := flat_pos hT hf
  have hke := ((hT e).flat hf).1
  rcases DataW.trod_slice hd hfu with ⟨h1, h2⟩ | ⟨ad, len', cap', elems, rest, n, _, h1, h2, _, h4, _, h6, h7, _, _⟩
  · simp only [Value.cells] at h1
    injection h1 with h1 _
    injection h1 with h1 h3 h4
    subst h1 h3 h4
    injection h2 with h2 _
    exact ⟨[], 0, .slv _ _ _ ⟨hf, none, 0, 0, rfl, by simp, Nat.le_refl _, .inl rfl⟩, by simp, fun j hj => by simp at hj, .inl ⟨rfl, h2⟩⟩
  · simp only [Value.cells] at h1
    injection h1 with h1 _
    injection h1 with h1 h3 h5
    subst h1 h3 h5
    injection h2 with h2 _
    rw [cellsOf_size hT (flat_ne hT hf)] at h7
    -- each element
    have each : ∀ i, i < len → ∃ cs, w.cells? base (ad.add (i * (T.at e).size)) (T.at e).size = some cs ∧ FlatCells T e cs := by
      intro i hi
      have hx := h7 i hi
      have hel : i < elems.length := by omega
      rw [List.getElem?_eq_getElem hel, Option.bind_eq_some_iff] at hx
      obtain ⟨cs, g1, g2⟩ := hx
      exact ⟨cs, g1, trod_flat hT hE n e cs _ hf g2⟩
    have cells : ∀ i j, i < len → j < (T.at e).size → ∃ m, w.cell? ((ad.add (i * (T.at e).size)).add j) = some ((kindAt (T.at e).ks j).val m) ∧ inKind (kindAt (T.at e).ks j) m := by
      intro i j hi hj
      obtain ⟨cs, g1, g2, g3⟩ := each i hi
      obtain ⟨m, m1, m2⟩ := g3 j hj
      refine ⟨m, ?_, m2⟩
      unfold World.cells? at g1
      split at g1
      · have := mapM_some_get g1 j j (by simp [hj])
        rw [this, m1]
      · cases g1
    rcases Nat.eq_zero_or_pos len with h0 | h0
    · subst h0
      exact ⟨[], 0, .slv _ _ _ ⟨hf, some ad, 0, cap, rfl, by simp, Nat.zero_le _, .inl rfl⟩, by simp, fun j hj => by simp at hj, .inr ⟨_, _, h2, by simp [h6]⟩⟩
    · obtain ⟨b, o, spot⟩ := ad
      obtain ⟨m0, c0, _⟩ := cells 0 0 h0 he0
      have hspot : spot = none := by
        have := World.cell?_spot c0
        simpa [Addr.add] using this
      subst hspot
      have hb : b < w.heap.size := by
        have := cell_lt c0
        simpa [Addr.add] using this
      have hex : ∀ j : Nat, ∃ m : Int, j < len * (T.at e).size → w.cell? ⟨b, o + j, none⟩ = some ((kindAt (T.at e).ks j).val m) ∧ inKind (kindAt (T.at e).ks j) m := by
        intro j
        by_cases hj : j < len * (T.at e).size
        · have hi : j / (T.at e).size < len := Nat.div_lt_of_lt_mul (by rw [Nat.mul_comm]; exact hj)
          have hr : j % (T.at e).size < (T.at e).size := Nat.mod_lt _ he0
          have hjr : j / (T.at e).size * (T.at e).size + j % (T.at e).size = j := by rw [Nat.mul_comm]; exact Nat.div_add_mod _ _
          obtain ⟨m, m1, m2⟩ := cells _ _ hi hr
          rw [addr_add, addr_add, Nat.add_assoc, hjr] at m1
          have hkk : kindAt (T.at e).ks j = kindAt (T.at e).ks (j % (T.at e).size) := by
            unfold kindAt; rw [hke, Nat.mod_mod]
          rw [hkk]
          exact ⟨m, fun _ => ⟨m1, m2⟩⟩
        · exact ⟨0, fun h => absurd h hj⟩
      obtain ⟨f, hf'⟩ := Classical.axiomOfChoice hex
      have hrd : ∀ j, j < len * (T.at e).size → rd ((List.range (len * (T.at e).size)).map f) j = f j := by
        intro j hj
        simp [rd, hj]
      refine ⟨(List.range (len * (T.at e).size)).map f, len, .slv _ _ _ ⟨hf, _, len, cap, rfl, by simp, h4, .inr ⟨b, o, rfl, hb, fun j hj => ?_⟩⟩, by simp, fun j hj => ?_, .inr ⟨_, _, h2, by simp [h6]⟩⟩
      · have hj : j < len * (T.at e).size := by simpa using hj
        rw [Nat.zero_add, hrd j hj]
        exact (hf' j hj).1
      · have hj : j < len * (T.at e).size := by simpa using hj
        rw [hrd j hj]
        exact (hf' j hj).2

end Go.Ev
end

section
/- A law's last step: it answers true, and what it was handed reads as it did. -/
namespace Go.Ev
open Go.RowKit Go.WideShapes Go.ChangeShapes

variable {P : Program} {H : Type} {enc : TypeId × Value → H}

theorem trodAll_stays (hl : laidOutB P = true) {W W' : World} (hb : Below W.heap.size W W') {sp : Nat → Bool} : ∀ (ts : List TypeId) (vs : List Value) (ds : List (DataW H)) (ps : List MemPlace),
    (∀ t ∈ ts, P.readableRec t = true ∧ t < P.types.size) → DataW.TrodAll enc P W 0 (fun _ => true) true ts vs ds ps → (∀ x ∈ ps, x.block < W.heap.size) → (∀ x ∈ ps, sp x.block = true) → DataW.TrodAll enc P W' 0 sp true ts vs ds ps := by
  intro ts
  induction ts with
  | nil =>
    intro vs ds ps _ h _ _
    obtain ⟨rfl, rfl, rfl⟩ := trodAll_nil h
    exact trodAll_mk0
  | cons t ts ih =>
    intro vs ds ps hts h hlt hsp
    obtain ⟨v, vs', d, ds', p, q, rfl, rfl, rfl, h1, h2⟩ := trodAll_cons h
    obtain ⟨hr, hrow⟩ := hts t (by simp)
    exact trodAll_cons_mk (WideElems.Trod_stays hl hr hrow h1 (fun x hx => hb.same (hlt x (by simp [hx]))) (fun x hx => hsp x (by simp [hx])))
      (ih vs' ds' q (fun u hu => hts u (by simp [hu])) h2 (fun x hx => hlt x (by simp [hx])) (fun x hx => hsp x (by simp [hx])))

/-- The call has answered true; the world has grown, and nothing that was there has turned. -/
theorem post_true (hl : laidOutB P = true) {f : Func} {s : ChangeSpec} {apart fresh handsOn again : Bool} {W W' : World} {args : Array Value} {ds gs : List (DataW H)} {before : List MemPlace} {tb : TypeId}
    (hW : DataW.Whole enc P f.params.toList s.vars apart W args.toList ds gs before) (hvars : s.vars = []) (hrt : f.resultTypes = #[tb]) (htb : P.underlying tb = some .bool) (hts : ∀ t ∈ f.params.toList, P.readableRec t = true ∧ t < P.types.size)
    (hres : (s.fn H (ds ++ gs)).results = [.lit (.bool true)]) (hargs : (s.fn H (ds ++ gs)).args = ds) (hv : (s.fn H (ds ++ gs)).vars = []) (hb : Below W.heap.size W W') : s.post enc P f apart fresh handsOn again W args (.bool true) W' := by
  have hlt : ∀ p ∈ before, p.block < W.heap.size := fun p hp => hW.lt p hp
  have hW' := hW
  obtain ⟨p, q, hA, hV, hpq, hz, hn⟩ := hW
  rw [hvars] at hV
  obtain ⟨hgs, hq⟩ := trodVars_none hV
  subst hgs hq
  simp only [List.append_nil] at hpq
  subst hpq
  have A : ∀ sp : Nat → Bool, (∀ x ∈ before, sp x.block = true) → DataW.TrodAll enc P W' 0 sp true f.params.toList args.toList (s.fn H (ds ++ [])).args before := fun sp hsp => by
    rw [hargs]
    exact trodAll_stays hl hb _ _ _ _ hts hA hlt hsp
  have B : ∀ (b : Nat) (sp : Nat → Bool) (hd : Bool), DataW.TrodAll enc P W' b sp hd f.resultTypes.toList ((Value.bool true).resultList f.resultTypes.size) (s.fn H (ds ++ [])).results [] := fun b sp hd => by
    rw [hres, hrt]
    exact trodAll_cons_mk (shut_bool htb true) trodAll_mk0
  have V : ∀ sp : Nat → Bool, DataW.TrodVars enc P W' sp s.vars (s.fn H (ds ++ [])).vars [] := fun sp => by
    rw [hvars, hv]
    rfl
  have hold : ∀ x ∈ before, (fun b => decide (b < W.heap.size)) x.block = true := fun x hx => by simpa using hlt x hx
  refine ⟨ds, [], before, [], before, [], hW', B _ _ _, A _ hold, V _, World.keptBut_mono (fun x hx => ⟨hx, ?_⟩) (hb.frame (· ∈ before)), fun _ => ?_⟩
  · exact Or.inr (by simpa using hx)
  · refine ⟨?_, _, _, ([] ++ before) ++ [], ⟨[] ++ before, [], trodAll_append (A _ (fun _ _ => rfl)) (B _ _ _), V _, rfl, ?_, ?_⟩, ?_⟩
    · intro j t r hj hr
      rw [hrt] at hj hr
      cases j with
      | zero =>
        simp at hj
        subst hj
        have : r = .bool true := by simpa [Value.resultList] using hr.symm
        subst this
        exact okWide_bool_mk htb true
      | succ j => simp at hj
    · intro b off hp
      have hin : MemPlace.cell b off ∈ before := by simpa using hp
      rw [hb.frozen (hlt _ hin)]
      exact hz b off hin
    · intro ha
      have := hn ha
      simpa using this
    · intro x hx _
      simpa using hx

end Go.Ev
end

