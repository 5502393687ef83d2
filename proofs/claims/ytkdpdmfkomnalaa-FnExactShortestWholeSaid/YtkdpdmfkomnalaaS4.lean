/- Plain laws: both searches for whole ways, and the whole law. -/
import Derived.Test.YtkdpdmfkomnalaaS3
import Derived.Test.YtkdpdmfkomnalaaE6
set_option linter.unusedVariables false
set_option linter.unusedSimpArgs false
namespace Go.Proofs.Ytkdpdmfkomnalaa.Tt
open Go.Ev Go

theorem cnt_wait (Q : Qu) : cnt 4 (waitQ Q) = Q.length := by unfold cnt; rw [waitQ_length]; omega

theorem recAt_spec {Q : Qu} {i : Nat} (hi : i < Q.length) : recAt (specQ Q) i = ([Q[i].1.1.1, Q[i].1.1.2, Q[i].1.2, 0], Q[i].2) := by
  simp [recAt, specQ, List.getD_eq_getElem?_getD, List.getElem?_map, List.getElem?_eq_getElem hi]

theorem both_loop (k : Nat) (hk : 10 < k) {a : List Int} {w h : Nat} (v : LawnV a w h) {G : List (Int × Int)} (hG : G.length ≤ 9) (all : Int) : ∀ (m i f f' : Nat) (Q : Qu) (S : List Int), i + m = 51200 → m < f → m < f' → QI Q → Seen S Q → i ≤ Q.length →
    ∃ r : ByteArray × Int, loopF (fun (rec : Int × Int × (List Int) × (List Int) × (List Int) × (List (List Int × ByteArray)) → Option (ByteArray × Int)) (p : Int × Int × (List Int) × (List Int) × (List Int) × (List (List Int × ByteArray))) => spec_ShortestWhole_s1 k (fun y4 y5 => some (y4, y5)) (some ((ByteArray.mk #[]), 6)) (fun h1 h2 h3 h4 h5 h6 => rec (h1, h2, h3, h4, h5, h6)) p.1 p.2.1 p.2.2.1 p.2.2.2.1 p.2.2.2.2.1 p.2.2.2.2.2) f (all, (i : Int), a, fl G, S, specQ Q) = some r ∧
      loopF (fun (rec : Int × (List Int) × (List (List Int × Int)) × (List (List Int × ByteArray)) × (List Int) → Option (ByteArray × Int)) (p : Int × (List Int) × (List (List Int × Int)) × (List (List Int × ByteArray)) × (List Int)) => impl_ShortestWhole_s1 k (fun y4 y5 => some (y4, y5)) (some ((ByteArray.mk #[]), 6)) (fun h1 h2 h3 h4 h5 => rec (h1, h2, h3, h4, h5)) p.1 p.2.1 p.2.2.1 p.2.2.2.1 p.2.2.2.2) f' (all, a, ents G 0, waysQ Q, waitQ (Q.drop i)) = some r := by
  intro m
  induction m with
  | zero =>
    intro i f f' Q S him hf hf' hq hS hi
    obtain ⟨f, rfl⟩ : ∃ g, f = g + 1 := ⟨f - 1, by omega⟩
    obtain ⟨f', rfl⟩ : ∃ g, f' = g + 1 := ⟨f' - 1, by omega⟩
    have hlen := hq.len
    have hd0 : Q.drop i = [] := List.drop_of_length_le (by omega)
    refine ⟨(ByteArray.mk #[], 6), ?_, ?_⟩
    · rw [loopF]
      dsimp only
      rw [spec_ShortestWhole_s1, specQ_len, bF (by omega)]
      rfl
    · rw [loopF, hd0]
      dsimp only
      rw [impl_ShortestWhole_s1, cnt_wait, bF (p := ((([] : Qu).length : Nat) : Int) > 0) (by simp)]
      rfl
  | succ m ih =>
    intro i f f' Q S him hf hf' hq hS hi
    obtain ⟨f, rfl⟩ : ∃ g, f = g + 1 := ⟨f - 1, by omega⟩
    obtain ⟨f', rfl⟩ : ∃ g, f' = g + 1 := ⟨f' - 1, by omega⟩
    have hlen := hq.len
    rcases Nat.lt_or_ge i Q.length with hil | hil
    · have hd : Q.drop i = Q[i] :: Q.drop (i + 1) := List.drop_eq_getElem_cons hil
      have hmem : Q[i] ∈ Q := List.getElem_mem hil
      generalize he : Q[i] = e at hd hmem
      obtain ⟨u, way⟩ := e
      have hu := hq.rng _ hmem
      have hw := hq.sz _ hmem
      simp only at hu hw
      rw [loopF, loopF]
      dsimp only
      rw [spec_ShortestWhole_s1, impl_ShortestWhole_s1, specQ_len, Int.toNat_natCast, recAt_spec hil, he, cnt_wait, hd]
      have r0 : rd (waitQ ((u, way) :: Q.drop (i + 1))) 0 = u.1.1 := rfl
      have r1 : rd (waitQ ((u, way) :: Q.drop (i + 1))) 1 = u.1.2 := rfl
      have r2 : rd (waitQ ((u, way) :: Q.drop (i + 1))) 2 = 0 := rfl
      have r3 : rd (waitQ ((u, way) :: Q.drop (i + 1))) 3 = u.2 := rfl
      rw [r0, r1, r2, r3]
      simp only []
      have q0 : rd [u.1.1, u.1.2, u.2, 0] 0 = u.1.1 := rfl
      have q1 : rd [u.1.1, u.1.2, u.2, 0] 1 = u.1.2 := rfl
      have q2 : rd [u.1.1, u.1.2, u.2, 0] 2 = u.2 := rfl
      rw [q0, q1, q2, waysQ_look hq.nd hmem, bT (p := (i : Int) < (Q.length : Int)) (by omega), bT (p := (0 : Int) ≤ (i : Int)) (by omega), bT (p := (((((u, way) :: Q.drop (i + 1)).length : Nat)) : Int) > 0) (by rw [List.length_cons]; omega)]
      simp only [cond_true, Bool.and_true]
      cases hall : (u.2 == all) with
      | true => exact ⟨(way, 0), rfl, rfl⟩
      | false =>
        simp only [cond_false]
        rw [spec_ShortestWhole_l0, impl_ShortestWhole_l0, ← hd]
        obtain ⟨S', e1, s1⟩ := spec_inner k (fun y1 y2 y3 y4 y5 y6 => loopF (fun (rec : Int × Int × (List Int) × (List Int) × (List Int) × (List (List Int × ByteArray)) → Option (ByteArray × Int)) (p : Int × Int × (List Int) × (List Int) × (List Int) × (List (List Int × ByteArray))) => spec_ShortestWhole_s1 k (fun y4 y5 => some (y4, y5)) (some ((ByteArray.mk #[]), 6)) (fun h1 h2 h3 h4 h5 h6 => rec (h1, h2, h3, h4, h5, h6)) p.1 p.2.1 p.2.2.1 p.2.2.2.1 p.2.2.2.2.1 p.2.2.2.2.2) f (y1, IntKind.wrap .i64 (y2 + 1), y3, y4, y5, y6)) v hG hu (way := way) all (i : Int) hk 4 0 k Q S (by omega) (by omega) hq hw hS
        have e2 := impl_inner k (fun y1 y2 y3 y4 y5 => cond (decide (1 ≤ ((cnt 4 y5) : Int))) (loopF (fun (rec : Int × (List Int) × (List (List Int × Int)) × (List (List Int × ByteArray)) × (List Int) → Option (ByteArray × Int)) (p : Int × (List Int) × (List (List Int × Int)) × (List (List Int × ByteArray)) × (List Int)) => impl_ShortestWhole_s1 k (fun y4 y5 => some (y4, y5)) (some ((ByteArray.mk #[]), 6)) (fun h1 h2 h3 h4 h5 => rec (h1, h2, h3, h4, h5)) p.1 p.2.1 p.2.2.1 p.2.2.2.1 p.2.2.2.2) f' (y1, y2, y3, y4, win y5 4 (((cnt 4 y5) - 1) * 4))) none) v hG hu (way := way) all (i := i) 4 0 k Q (by omega) (by omega) hq hmem hi
        have hq' := visN_QI v hG hu (way := way) 4 0 Q (by omega) hq hw
        obtain ⟨r, hr⟩ := visN_grow a G u way 4 0 Q
        have hl' : Q.length ≤ (visN a G u way 4 0 Q).length := by rw [hr, List.length_append]; omega
        generalize visN a G u way 4 0 Q = Q' at *
        obtain ⟨r0, g1, g2⟩ := ih (i + 1) f f' Q' S' (by omega) (by omega) (by omega) hq' s1 (by omega)
        refine ⟨r0, ?_, ?_⟩
        · refine Eq.trans e1 ?_
          rw [wrap64 (x := (i : Int) + 1) (by omega), show (i : Int) + 1 = ((i + 1 : Nat) : Int) by omega]
          exact g1
        · refine Eq.trans e2 ?_
          have hd' : Q'.drop i = Q'[i]'(by omega) :: Q'.drop (i + 1) := List.drop_eq_getElem_cons (by omega)
          have hl2 : (Q'.drop (i + 1)).length = Q'.length - (i + 1) := List.length_drop ..
          have hwin : win (waitQ (Q'.drop i)) 4 ((cnt 4 (waitQ (Q'.drop i)) - 1) * 4) = waitQ (Q'.drop (i + 1)) := by
            rw [cnt_wait, hd', List.length_cons, Nat.add_sub_cancel]
            show (waitQ (Q'.drop (i + 1))).take ((Q'.drop (i + 1)).length * 4) = _
            exact List.take_of_length_le (by rw [waitQ_length]; omega)
          rw [hwin, cnt_wait, bT (p := (1 : Int) ≤ ((Q'.drop i).length : Int)) (by rw [hd', List.length_cons]; omega)]
          exact g2
    · have hd0 : Q.drop i = [] := List.drop_of_length_le (by omega)
      refine ⟨(ByteArray.mk #[], 6), ?_, ?_⟩
      · rw [loopF]
        dsimp only
        rw [spec_ShortestWhole_s1, specQ_len, bF (by omega)]
        rfl
      · rw [loopF, hd0]
        dsimp only
        rw [impl_ShortestWhole_s1, cnt_wait, bF (p := ((([] : Qu).length : Nat) : Int) > 0) (by simp)]
        rfl

/-! ## Codes -/

def pathL (a : List Int) (w h : Nat) : List (Int × Int) := (allC w h).filter fun p => kindV a p.1 p.2 == 3

theorem open_count {α : Type} (o g p : α → Bool) : ∀ (L : List α), (∀ x ∈ L, o x = (g x || p x) ∧ (g x && p x) = false) → (L.filter o).length = (L.filter g).length + (L.filter p).length := by
  intro L
  induction L with
  | nil => intro _; rfl
  | cons x r ih =>
    intro h
    obtain ⟨h1, h2⟩ := h x (List.mem_cons_self ..)
    have := ih fun y hy => h y (List.mem_cons_of_mem _ hy)
    rw [List.filter_cons, List.filter_cons, List.filter_cons, h1]
    cases hg : g x <;> cases hp : p x <;> rw [hg, hp] at h2 <;> first | (cases h2; done) | skip
    · simpa using this
    · simp only [Bool.or_true, if_true, List.length_cons, Bool.false_eq_true, if_false]; omega
    · simp only [Bool.or_false, if_true, List.length_cons, Bool.false_eq_true, if_false]; omega

theorem opens_len {a : List Int} {w h : Nat} (v : LawnV a w h) : ((allC w h).filter fun p => openP a p).length = (grassL a w h).length + (pathL a w h).length := by
  refine open_count _ _ _ _ fun p hp => ⟨?_, ?_⟩
  · unfold openP openB
    rw [hasB_all v hp, Bool.true_and]
  · cases h1 : (kindV a p.1 p.2 == 0) with
    | false => rfl
    | true =>
      have := beq_iff_eq.1 h1
      rw [this]
      rfl

def codeN (n m : Nat) : Int := cond (decide (9 < n)) 3 (cond (decide (16 < n + m)) 3 0)

theorem spec_small (k : Nat) (hk : 101 < k) {a : List Int} {w h : Nat} (v : LawnV a w h) (hv : lawnB a = true) (p : Int × Int) (hp : (-128 ≤ p.1 ∧ p.1 < 128) ∧ (-128 ≤ p.2 ∧ p.2 < 128)) :
    spec_l02Small k a [p.1, p.2] = some (cond (hasB a p.1 p.2) (cond (openP a p) (codeN (grassL a w h).length (pathL a w h).length) 4) 2) := by
  have ha := v.toLawnR
  unfold spec_l02Small
  have e0 : spec_l01Is k a [rd [p.1, p.2] 0, rd [p.1, p.2] 1] = some (hasB a p.1 p.2) := spec_is k ha hp.1 hp.2
  rw [e0, Option.bind_some, spec_told k ha (by omega), hv, Option.bind_some]
  cases hh : hasB a p.1 p.2 with
  | false => rfl
  | true =>
    have e1 : spec_l01Open k a [rd [p.1, p.2] 0, rd [p.1, p.2] 1] = some (openP a p) := spec_openL k v.toLawnS hh
    rw [e1]
    cases ho : openP a p with
    | false => rfl
    | true =>
      have hl1 : (grassL a w h).length ≤ 100 := Nat.le_trans (List.length_filter_le _ _) (allC_small v)
      have hl2 : (pathL a w h).length ≤ 100 := Nat.le_trans (List.length_filter_le _ _) (allC_small v)
      simp only [cond_true, Option.bind_some, Bool.not_true, cond_false, bne_self_eq_false]
      rw [spec_cells k v 0 hk, spec_cells k v 3 hk]
      simp only [Option.bind_some, cnt_fl]
      show cond (decide (((grassL a w h).length : Int) > 9)) (some 3) (cond (decide (IntKind.wrap .i64 (((grassL a w h).length : Int) + ((pathL a w h).length : Int)) > 16)) (some 3) (some 0)) = some (codeN _ _)
      rw [wrap64 (x := ((grassL a w h).length : Int) + ((pathL a w h).length : Int)) (by omega)]
      unfold codeN
      by_cases c1 : 9 < (grassL a w h).length
      · rw [bT c1, bT (by omega)]; rfl
      · rw [bF c1, bF (by omega)]
        by_cases c2 : 16 < (grassL a w h).length + (pathL a w h).length
        · rw [bT c2, bT (by omega)]; rfl
        · rw [bF c2, bF (by omega)]; rfl

theorem impl_whole (k : Nat) (hk : 101 < k) {a : List Int} {w h : Nat} (v : LawnV a w h) (hv : lawnB a = true) (p : Int × Int) :
    impl_wholeCode k a [p.1, p.2] = some (cond (hasB a p.1 p.2) (cond (openP a p) (codeN (grassL a w h).length (pathL a w h).length) 4) 2) := by
  have ha := v.toLawnR
  unfold impl_wholeCode
  have e0 : impl_openCode k a [rd [p.1, p.2] 0, rd [p.1, p.2] 1] = some (cond (hasB a p.1 p.2) (cond (openP a p) 0 4) 2) := by
    have := impl_openC k ha [p] (by simp) (by omega) (by simp; omega)
    rw [hv] at this
    simp only [fl, List.any_cons, List.any_nil, Bool.or_false, cond_true] at this
    refine this.trans ?_
    cases hasB a p.1 p.2 <;> cases openP a p <;> rfl
  rw [e0, Option.bind_some]
  cases hh : hasB a p.1 p.2 with
  | false => rfl
  | true =>
    cases ho : openP a p with
    | false => rfl
    | true =>
      simp only [cond_true]
      rw [impl_those k v _ (fun p => grassB a p.1 p.2) (fun p _ => impl_grassL k v.toLawnS p) hk, impl_those k v _ (fun p => openP a p) (fun p _ => openF k v.toLawnS p) hk, ← grass_filter v]
      simp only [Option.bind_some, cnt_fl, opens_len v, beq_self_eq_true, cond_true]
      show cond (decide (((grassL a w h).length : Int) > 9)) (some 3) (cond (decide (((((grassL a w h).length + (pathL a w h).length : Nat)) : Int) > 16)) (some 3) (some 0)) = some (codeN _ _)
      unfold codeN
      by_cases c1 : 9 < (grassL a w h).length
      · rw [bT c1, bT (by omega)]; rfl
      · rw [bF c1, bF (by omega)]
        by_cases c2 : 16 < (grassL a w h).length + (pathL a w h).length
        · rw [bT c2, bT (by omega)]; rfl
        · rw [bF c2, bF (by omega)]; rfl

theorem impl_beginW (k : Nat) {a : List Int} {G : List (Int × Int)} (hG : G.length ≤ 9) (p : Int × Int) : impl_Lawn_begin k a [p.1, p.2] (ents G 0) = some [p.1, p.2, 0, bitV G 0 p] := by
  have e3 : hasK (ents G 0) [rd [p.1, p.2] 0, rd [p.1, p.2] 1] = (G.any fun q => q == p) := ents_has G 0 _
  unfold impl_Lawn_begin
  rw [e3]
  cases hg : (G.any fun q => q == p) with
  | false => rw [bitV_none G 0 _ hg]; rfl
  | true =>
    obtain ⟨t, _, t2, t3, t4⟩ := ents_look G 0 p hg
    have t3 : lookK (0 : Int) (ents G 0) [rd [p.1, p.2] 0, rd [p.1, p.2] 1] = (t : Int) := t3
    rw [t3, bT (p := (0 : Int) ≤ (t : Int)) (by omega), Int.toNat_natCast, (pow_small t (by omega)).1, ← t4]
    rfl

theorem seen_zero : Seen (List.replicate 51200 0) [] := by
  refine ⟨List.length_replicate, fun s _ => ?_⟩
  have : rd (List.replicate 51200 0) (ixS s) = 0 := by rcases rd_rep 51200 0 (ixS s) with h | h <;> exact h
  rw [this]
  rfl

theorem whole_eq (k : Nat) (hk : 51300 < k) {a : List Int} (ha : LawnR a) (p : Int × Int) (hp : (-128 ≤ p.1 ∧ p.1 < 128) ∧ (-128 ≤ p.2 ∧ p.2 < 128)) : ∃ r, spec_ShortestWhole k a [p.1, p.2] = some r ∧ impl_ShortestWhole k a [p.1, p.2] = some r := by
  cases hv : lawnB a with
  | false =>
    refine ⟨(ByteArray.mk #[], 1), ?_, ?_⟩
    · have e : spec_l02Small k a [rd [p.1, p.2] 0, rd [p.1, p.2] 1] = some 1 := by
        unfold spec_l02Small
        have e0 : spec_l01Is k a [rd [rd [p.1, p.2] 0, rd [p.1, p.2] 1] 0, rd [rd [p.1, p.2] 0, rd [p.1, p.2] 1] 1] = some (hasB a p.1 p.2) := spec_is k ha hp.1 hp.2
        rw [e0, Option.bind_some, spec_told k ha (by omega), hv]
        rfl
      unfold spec_ShortestWhole
      rw [e]
      rfl
    · have e : impl_wholeCode k a [rd [p.1, p.2] 0, rd [p.1, p.2] 1] = some 1 := by
        unfold impl_wholeCode
        have e0 : impl_openCode k a [rd [rd [p.1, p.2] 0, rd [p.1, p.2] 1] 0, rd [rd [p.1, p.2] 0, rd [p.1, p.2] 1] 1] = some 1 := by
          have := impl_openC k ha [p] (by simp) (by omega) (by simp; omega)
          rw [hv] at this
          exact this
        rw [e0]
        rfl
      unfold impl_ShortestWhole
      rw [e]
      rfl
  | true =>
    obtain ⟨w, h, v⟩ := lawnV_of ha hv
    have es : spec_l02Small k a [rd [p.1, p.2] 0, rd [p.1, p.2] 1] = _ := spec_small k (by omega) v hv p hp
    have ei : impl_wholeCode k a [rd [p.1, p.2] 0, rd [p.1, p.2] 1] = _ := impl_whole k (by omega) v hv p
    unfold spec_ShortestWhole impl_ShortestWhole
    rw [es, ei, Option.bind_some, Option.bind_some]
    cases hh : hasB a p.1 p.2 with
    | false => exact ⟨_, rfl, rfl⟩
    | true =>
      cases ho : openP a p with
      | false => exact ⟨_, rfl, rfl⟩
      | true =>
        simp only [cond_true]
        cases hc : (codeN (grassL a w h).length (pathL a w h).length != 0) with
        | true => exact ⟨_, rfl, rfl⟩
        | false =>
          simp only [cond_false]
          have hG : (grassL a w h).length ≤ 9 := by
            unfold codeN at hc
            rcases Nat.lt_or_ge 9 (grassL a w h).length with q | q
            · rw [bT q] at hc; cases hc
            · exact q
          have e1 : spec_l01Cells k a 0 = some (fl (grassL a w h)) := spec_cells k v 0 (by omega)
          have e2 : spec_l02Bit k (fl (grassL a w h)) [rd [p.1, p.2] 0, rd [p.1, p.2] 1] = some (bitV (grassL a w h) 0 p) := spec_bit k hG p (by omega)
          have e3 : impl_Lawn_begin k a [rd [p.1, p.2] 0, rd [p.1, p.2] 1] (ents (grassL a w h) 0) = some [p.1, p.2, 0, bitV (grassL a w h) 0 p] := impl_beginW k hG p
          obtain ⟨_, hx, hy⟩ := open_in v ho
          have hb := bitV_range (grassL a w h) 0 p (by omega)
          have d0 : rd [p.1, p.2] 0 = p.1 := rfl
          have d1 : rd [p.1, p.2] 1 = p.2 := rfl
          rw [e1, Option.bind_some, cnt_fl, e2, Option.bind_some, impl_bits k v (by omega), Option.bind_some, e3, Option.bind_some, ents_length, wrapu64 (x := ((grassL a w h).length : Int)) (by omega), d0, d1]
          generalize bitV (grassL a w h) 0 p = b at hb
          have f4 : 0 + p.2.toNat * 5120 + p.1.toNat * 512 + b.toNat * 1 = ixS (p, b) := by unfold ixS; simp only; omega
          rw [f4, bT (p := (0 : Int) ≤ ((grassL a w h).length : Int)) (by omega), bT (p := 0 ≤ p.2) hy.1, bT (p := p.2 < 10) hy.2, bT (p := 0 ≤ p.1) hx.1, bT (p := p.1 < 10) hx.2, bT (p := 0 ≤ b) hb.1, bT (p := b < 512) hb.2]
          simp only [Bool.and_true, cond_true]
          rw [spec_ShortestWhole_l1, impl_ShortestWhole_l1]
          have hr : RngS (p, b) := ⟨⟨hx, hy⟩, hb⟩
          have hq : QI [((p, b), ByteArray.empty)] := ⟨by
              intro e he
              simp only [List.mem_singleton] at he
              subst he
              exact hr, by simp, by
              intro e he
              simp only [List.mem_singleton] at he
              subst he
              exact Nat.zero_le _⟩
          have hs : Seen (List.set (List.replicate 51200 0) (ixS (p, b)) 1) [((p, b), ByteArray.empty)] := seen_zero.add hr ByteArray.empty
          obtain ⟨r, g1, g2⟩ := both_loop k (by omega) v hG (IntKind.wrap .i64 ((IntKind.wrap .i64 (1 * 2 ^ (min ((grassL a w h).length : Int).toNat (IntKind.bits .i64)))) - 1)) 51200 0 k k [((p, b), ByteArray.empty)] _ (by omega) (by omega) (by omega) hq hs (Nat.zero_le _)
          exact ⟨r, g1, g2⟩

theorem i8S {n : Int} (h : inKind (.int .i8) n) : -128 ≤ n ∧ n < 128 := by
  simp [inKind, Lit.wf, IntKind.min, IntKind.max, IntKind.signed, IntKind.bits] at h
  omega
theorem u8S {n : Int} (h : inKind (.int .u8) n) : 0 ≤ n ∧ n < 256 := by
  simp [inKind, Lit.wf, IntKind.min, IntKind.max, IntKind.signed, IntKind.bits] at h
  omega

theorem whole_true {a : List Int} (ha : LawnR a) (p : Int × Int) (hp : (-128 ≤ p.1 ∧ p.1 < 128) ∧ (-128 ≤ p.2 ∧ p.2 < 128)) : ∃ k, laws_FnExactShortestWhole k a [p.1, p.2] = some true := by
  obtain ⟨k, hk⟩ : ∃ k, k = 51400 := ⟨_, rfl⟩
  obtain ⟨r, e1, e2⟩ := whole_eq (k + 11) (by omega) ha p hp
  refine ⟨k + 11, ?_⟩
  unfold laws_FnExactShortestWhole
  have t1 : laws_toLawn (k + 11) a = some a := toLawn_id k a ha.len
  have t2 : laws_toCell (k + 11) [rd [p.1, p.2] 0, rd [p.1, p.2] 1] = some [p.1, p.2] := rfl
  simp only [t1, t2, Option.bind_some, e1, e2]
  simp

end Go.Proofs.Ytkdpdmfkomnalaa.Tt
