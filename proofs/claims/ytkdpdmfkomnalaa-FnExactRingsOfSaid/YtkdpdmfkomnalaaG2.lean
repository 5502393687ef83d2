/- Plain laws: the program's parts. -/
import Derived.Test.YtkdpdmfkomnalaaG1
set_option linter.unusedVariables false
set_option linter.unusedSimpArgs false
namespace Go.Proofs.Ytkdpdmfkomnalaa.Tt
open Go.Ev Go

theorem decide_or (a b : Prop) [Decidable a] [Decidable b] : decide (a ∨ b) = (decide a || decide b) := by
  by_cases ha : a <;> by_cases hb : b <;> simp [ha, hb]

/-- One visited cell's neighbours. -/
theorem parts_look {R : Type} (k : Nat) (K1 : (List Int → Option Bool) → (List Int → Option (List Int)) → Int → Int → (List Int) → (List (List Int)) → (List (List Int × Int)) → (List (List Int × Int)) → (List Int) → (List Int) → Option R)
    (f1 : List Int → Option Bool) (f2 : List Int → Option (List Int)) (h3 h4 : Int) (a : List Int) (h8 : List (List Int)) (h12 : List Int) (g inB : Cell → Bool) (hg : ∀ c, g c = (hasB a c.1 c.2 && inB c)) (hin : ∀ c : Cell, hasB a c.1 c.2 = true → f1 [c.1, c.2] = some (inB c))
    (X : List Cell) (hX : X.length ≤ 100) (seen : List Cell) (hseen : ∀ c ∈ X, g c = true → c ∉ seen) (i : Nat) (hbig : ∀ Q, Qok g Q → Q.length ≤ 100) :
    ∀ (m j f : Nat) (es9 es10 : List (List Int × Int)) (Q : List Cell), j + m = X.length → m < f → MapOf es9 (fun c => decide (c ∈ seen ∨ c ∈ Q)) → MapOf es10 (fun c => decide (c ∈ Q)) → Qok g Q → i ≤ Q.length →
      ∃ es9' es10', loopF (fun (rec : (List Int → Option Bool) × (List Int → Option (List Int)) × Int × Int × Int × Int × (List Int) × (List (List Int)) × (List (List Int × Int)) × (List (List Int × Int)) × (List Int) × (List Int) × (List Int) → Option R) (p : (List Int → Option Bool) × (List Int → Option (List Int)) × Int × Int × Int × Int × (List Int) × (List (List Int)) × (List (List Int × Int)) × (List (List Int × Int)) × (List Int) × (List Int) × (List Int)) => impl_Lawn_parts_s0 k K1 (fun h1 h2 h3 h4 h5 h6 h7 h8 h9 h10 h11 h12 h13 => rec (h1, h2, h3, h4, h5, h6, h7, h8, h9, h10, h11, h12, h13)) p.1 p.2.1 p.2.2.1 p.2.2.2.1 p.2.2.2.2.1 p.2.2.2.2.2.1 p.2.2.2.2.2.2.1 p.2.2.2.2.2.2.2.1 p.2.2.2.2.2.2.2.2.1 p.2.2.2.2.2.2.2.2.2.1 p.2.2.2.2.2.2.2.2.2.2.1 p.2.2.2.2.2.2.2.2.2.2.2.1 p.2.2.2.2.2.2.2.2.2.2.2.2) f
        (f1, f2, h3, h4, (X.length : Int), (j : Int), a, h8, es9, es10, fl (Q.drop i), h12, fl X) = K1 f1 f2 h3 h4 a h8 es9' es10' (fl (((X.drop j).foldl (visQ g) Q).drop i)) h12 ∧
        MapOf es9' (fun c => decide (c ∈ seen ∨ c ∈ (X.drop j).foldl (visQ g) Q)) ∧ MapOf es10' (fun c => decide (c ∈ (X.drop j).foldl (visQ g) Q)) := by
  intro m
  induction m with
  | zero =>
    intro j f es9 es10 Q hj hf h9 h10 hQ hi
    obtain ⟨f, rfl⟩ : ∃ g, f = g + 1 := ⟨f - 1, by omega⟩
    refine ⟨es9, es10, ?_, ?_⟩
    · rw [loopF]
      dsimp only
      unfold impl_Lawn_parts_s0
      have hd0 : X.drop j = [] := List.drop_of_length_le (by omega)
      rw [bF (by omega), hd0]
      rfl
    · have hd0 : X.drop j = [] := List.drop_of_length_le (by omega)
      rw [hd0]
      exact ⟨h9, h10⟩
  | succ m ih =>
    intro j f es9 es10 Q hj hf h9 h10 hQ hi
    obtain ⟨f, rfl⟩ : ∃ g, f = g + 1 := ⟨f - 1, by omega⟩
    have hjl : j < X.length := by omega
    rw [drop_getD X (0, 0) hjl, List.foldl_cons]
    have hcx := getD_mem X (0, 0) hjl
    obtain ⟨hQ', r, hr⟩ := visQ_ok g hQ (X.getD j (0, 0))
    have hstep : ∀ es9' es10', MapOf es9' (fun c => decide (c ∈ seen ∨ c ∈ visQ g Q (X.getD j (0, 0)))) → MapOf es10' (fun c => decide (c ∈ visQ g Q (X.getD j (0, 0)))) → _ := fun es9' es10' q1 q2 => ih (j + 1) f es9' es10' (visQ g Q (X.getD j (0, 0))) (by omega) (by omega) q1 q2 hQ' (by rw [hr, List.length_append]; omega)
    rw [loopF]
    dsimp only
    unfold impl_Lawn_parts_s0
    simp only [cnt_fl, Int.toNat_natCast, fl_x, fl_y]
    rw [bT (p := (j : Int) < (X.length : Int)) (by omega), bT (p := (0 : Int) ≤ (j : Int)) (by omega)]
    simp only [cond_true, Bool.and_true]
    rw [wrap64 (x := (j : Int) + 1) (by omega), show (j : Int) + 1 = ((j + 1 : Nat) : Int) by omega]
    have hhas : impl_Lawn_has k a [(X.getD j (0, 0)).1, (X.getD j (0, 0)).2] = some (hasB a (X.getD j (0, 0)).1 (X.getD j (0, 0)).2) := impl_has k a _ _
    rw [hhas]
    simp only [Option.bind_some]
    generalize X.getD j (0, 0) = c at hcx hQ' hr hstep ⊢
    have hsame : g c = false → visQ g Q c = Q := fun h => by unfold visQ; rw [h]; rfl
    cases hh : hasB a c.1 c.2 with
    | false =>
      have hgc : g c = false := by rw [hg, hh]; rfl
      rw [hsame hgc] at hstep ⊢
      simp only [cond_false]
      exact hstep es9 es10 h9 h10
    | true =>
      rw [hin c hh]
      simp only [cond_true, Option.bind_some]
      cases hb : inB c with
      | false =>
        have hgc : g c = false := by rw [hg, hb, Bool.and_false]
        rw [hsame hgc] at hstep ⊢
        simp only [cond_false]
        exact hstep es9 es10 h9 h10
      | true =>
        have hgc : g c = true := by rw [hg, hh, hb]; rfl
        simp only [cond_true]
        rw [show (lookK (0 : Int) es9 [c.1, c.2] != 0) = decide (c ∈ seen ∨ c ∈ Q) from h9 c]
        have hns := hseen c hcx hgc
        by_cases hcq : c ∈ Q
        · have hv : visQ g Q c = Q := by unfold visQ; simp [hcq]
          rw [hv] at hstep ⊢
          rw [bT (p := c ∈ seen ∨ c ∈ Q) (.inr hcq)]
          simp only [Bool.not_true, cond_false]
          exact hstep es9 es10 h9 h10
        · have hv : visQ g Q c = Q ++ [c] := by unfold visQ; simp [hcq, hgc]
          rw [hv] at hstep ⊢
          rw [hv] at hQ'
          have hlen := hbig _ hQ'
          rw [bF (p := c ∈ seen ∨ c ∈ Q) (by rintro (h | h); exact hns h; exact hcq h)]
          simp only [Bool.not_false, cond_true]
          rw [bT (by rw [fl_length, List.length_drop, bigLen_val]; simp only [List.length_append] at hlen; omega)]
          simp only [cond_true]
          have hd : (Q ++ [c]).drop i = Q.drop i ++ [c] := by rw [List.drop_append_of_le_length hi]
          rw [hd, fl_append] at hstep
          refine hstep (putK es9 [c.1, c.2] 1) (putK es10 [c.1, c.2] 1) (mapOf_congr (mapOf_put h9 c) fun x => ?_) (mapOf_congr (mapOf_put h10 c) fun x => ?_)
          · rw [← decide_or]
            congr 1
            simp only [List.mem_append, List.mem_singleton, eq_iff_iff]
            constructor
            · rintro (h | h | h)
              · exact .inr (.inr h)
              · exact .inl h
              · exact .inr (.inl h)
            · rintro (h | h | h)
              · exact .inr (.inl h)
              · exact .inr (.inr h)
              · exact .inl h
          · rw [← decide_or]
            congr 1
            simp only [List.mem_append, List.mem_singleton, eq_iff_iff]
            exact Or.comm

end Go.Proofs.Ytkdpdmfkomnalaa.Tt
