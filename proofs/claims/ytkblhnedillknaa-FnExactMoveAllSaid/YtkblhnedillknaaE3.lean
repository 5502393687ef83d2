import Derived.Test.YtkblhnedillknaaE2
import Derived.Laws.Tables
import Derived.Laws.MakeOwn
set_option linter.unusedVariables false
set_option linter.unusedSimpArgs false
section
/- New blocks: variables, literals. -/
namespace Go.Ev
open Go.RowKit (Below)

variable {P : Program} {T : Tab} {w0 w : World} {M : Nat → Prop} {ρ : Nat → Loc} {N : Nat → Loc × Blk} {s : St} {a : Act} {Fr : Nat → Prop} {blk : Nat → Option Blk}

/-! ## Filling -/

theorem setAt_length : ∀ (m l : List Int) (off : Nat), (setAt l off m).length = l.length := by
  intro m
  induction m with
  | nil => intro l off; rfl
  | cons x m ih => intro l off; rw [setAt, ih]; simp

theorem rd_set (l : List Int) (i j : Nat) (x : Int) (h : i < l.length) : rd (l.set i x) j = if i = j then x else rd l j := by
  simp only [rd, List.getD_eq_getElem?_getD, List.getElem?_set]
  by_cases e : i = j
  · subst e; simp [h]
  · simp [e]

theorem rd_setAt : ∀ (m l : List Int) (off j : Nat), off + m.length ≤ l.length → rd (setAt l off m) j = if off ≤ j ∧ j < off + m.length then rd m (j - off) else rd l j := by
  intro m
  induction m with
  | nil => intro l off j h; simp [setAt]; intro h1 h2; omega
  | cons x m ih =>
    intro l off j h
    simp only [List.length_cons] at h
    rw [setAt, ih _ _ _ (by simp; omega)]
    by_cases h1 : off + 1 ≤ j ∧ j < off + 1 + m.length
    · rw [if_pos h1, if_pos (by simp only [List.length_cons]; omega), show j - off = (j - (off + 1)) + 1 by omega, rd_cons_succ]
    · rw [if_neg h1, rd_set _ _ _ _ (by omega)]
      by_cases h2 : off = j
      · subst h2
        rw [if_pos rfl, if_pos (by simp only [List.length_cons]; omega)]
        simp [rd_cons_zero]
      · rw [if_neg h2, if_neg (by simp only [List.length_cons]; omega)]

def putCells (off : Nat) (cs : Array Value) (x : Value × Nat) : Array Value := cs.setIfInBounds (off + x.2) x.1

theorem putCells_fold (off : Nat) : ∀ (vs : List Value) (k : Nat) (arr : Array Value), off + k + vs.length ≤ arr.size →
    ((vs.zipIdx k).foldl (putCells off) arr).size = arr.size ∧ ∀ j, ((vs.zipIdx k).foldl (putCells off) arr)[j]? = if off + k ≤ j ∧ j < off + k + vs.length then vs[j - (off + k)]? else arr[j]? := by
  intro vs
  induction vs with
  | nil => intro k arr h; refine ⟨rfl, fun j => ?_⟩; rw [if_neg (by simp only [List.length_nil]; omega)]; rfl
  | cons v vs ih =>
    intro k arr h
    simp only [List.length_cons] at h
    simp only [List.zipIdx_cons, List.foldl_cons]
    obtain ⟨h1, h2⟩ := ih (k + 1) (putCells off arr (v, k)) (by simp [putCells]; omega)
    refine ⟨h1.trans (by simp [putCells]), fun j => ?_⟩
    rw [h2 j]
    by_cases c1 : off + (k + 1) ≤ j ∧ j < off + (k + 1) + vs.length
    · rw [if_pos c1, if_pos (by simp only [List.length_cons]; omega), show j - (off + k) = (j - (off + (k + 1))) + 1 by omega, List.getElem?_cons_succ]
    · rw [if_neg c1]
      by_cases c2 : off + k = j
      · subst c2
        rw [if_pos (by simp only [List.length_cons]; omega)]
        have : off + k < arr.size := by omega
        simp [putCells, this]
      · rw [if_neg (by simp only [List.length_cons]; omega)]
        simp only [putCells]
        rw [Array.getElem?_setIfInBounds_ne c2]

/-- The kit's filling of cells, and the evaluator's. -/
theorem fill_sim (hT : TabOK P T) {KS : Nat → SK} {place : Nat → Option (Nat × TypeId)} {placeC : Nat → Option (Nat × Nat)} {N : Nat}
    (hpl : ∀ i off u, place i = some (off, u) → isFlatTy T u = true → off + (T.at u).size ≤ N → placeC i = some (off, (T.at u).size) ∧ ∀ j, j < (T.at u).size → KS (off + j) = kindAt (T.at u).ks j) :
    ∀ (ps : List (Nat × Operand)) (f : Operand → V) (g : Operand → Value) (l l' : List Int) (cells : Array Value), l.length = N → cells.size = N → (∀ j, j < N → cells[j]? = some ((KS j).val (rd l j))) →
      (∀ p ∈ ps, ∀ m, (f p.2).flat = some m → FV T (f p.2) (g p.2)) → placeAll T place l (ps.map fun p => (p.1, f p.2)) = some l' →
      ∃ cells', Instr.fill placeC cells (ps.map fun p => (p.1, g p.2)) = some cells' ∧ cells'.size = N ∧ l'.length = N ∧ ∀ j, j < N → cells'[j]? = some ((KS j).val (rd l' j)) := by
  intro ps
  induction ps with
  | nil =>
    intro f g l l' cells hl hc hcell _ h
    simp only [List.map_nil, placeAll, Option.some.injEq] at h
    subst h
    exact ⟨cells, rfl, hc, hl, hcell⟩
  | cons p ps ih =>
    intro f g l l' cells hl hc hcell hfv h
    obtain ⟨i, x⟩ := p
    simp only [List.map_cons, placeAll] at h
    split at h
    · rename_i off u m hpi hm
      obtain ⟨hcond, h⟩ := cond_some h
      obtain ⟨c1, c2⟩ := and_true hcond
      obtain ⟨c2, c3⟩ := and_true c2
      have c3 := Nat.le_of_ble_eq_true c3
      have hx := hfv (i, x) List.mem_cons_self m hm
      obtain ⟨q1, q2, q3, _⟩ := fits_cells hT c1 c2 hx hm
      obtain ⟨r1, r2⟩ := hpl i off u hpi c2 (by omega)
      have hku := flat_len hT c2
      have hsz : (g x).cells.size = (T.at u).size := by rw [← Array.length_toList, q1, zipV_length _ _ (by omega), q2]
      obtain ⟨f1, f2⟩ := putCells_fold off (g x).cells.toList 0 cells (by rw [Array.length_toList, hsz]; omega)
      have hfold : (g x).cells.zipIdx.foldl (fun cs (c, j) => cs.setIfInBounds (off + j) c) cells = ((g x).cells.toList.zipIdx 0).foldl (putCells off) cells := by
        rw [← Array.foldl_toList, Array.toList_zipIdx]
        rfl
      obtain ⟨cells', g1, g2, g3, g4⟩ := ih f g (setAt l off m) l' (((g x).cells.toList.zipIdx 0).foldl (putCells off) cells) (by rw [setAt_length, hl]) (f1.trans hc) (by
        intro j hj
        rw [f2 j, rd_setAt _ _ _ _ (by omega)]
        simp only [Nat.add_zero, Array.length_toList, hsz, q2]
        by_cases hin : off ≤ j ∧ j < off + (T.at u).size
        · rw [if_pos hin, if_pos hin, q1, zipV_getElem? _ _ _ (by omega) (by omega), ← kindAt_lt (by omega), ← r2 _ (by omega), show off + (j - off) = j by omega]
        · rw [if_neg hin, if_neg hin]; exact hcell j hj) (fun p hp => hfv p (List.mem_cons_of_mem _ hp)) h
      refine ⟨cells', ?_, g2, g3, g4⟩
      simp only [List.map_cons, Instr.fill, r1]
      rw [if_neg (by rw [hsz, hc]; simp; omega), hfold]
      exact g1
    · cases h

theorem partsOf_map (s : St) : ∀ (ps : List (Nat × Operand)), partsOf s ps = ps.map fun p => (p.1, s.ev p.2) := by
  intro ps
  induction ps with
  | nil => rfl
  | cons p ps ih => obtain ⟨i, x⟩ := p; simp [partsOf, ih]

theorem zeros_length (ti : TyI) : (zeros ti).length = ti.size := by simp [zeros]

theorem fieldOf_places (hT : TabOK P T) : ∀ (F : List Field), (∀ f ∈ F, known T f.type = true) → ∃ places : List (Nat × Nat), F.mapM (fun (f : Field) => (P.info? f.type).map fun i => (f.offset, i.size)) = some places ∧
    ∀ i : Nat, places[i]? = (F[i]?).map fun (f : Field) => (f.offset, (T.at f.type).size) := by
  intro F
  induction F with
  | nil => intro _; exact ⟨[], rfl, fun i => by simp⟩
  | cons f F ih =>
    intro hk
    obtain ⟨places, h1, h2⟩ := ih fun g hg => hk g (List.mem_cons_of_mem _ hg)
    obtain ⟨ti, z, q1, q2, _⟩ := hT.info' (known_ne (hk f List.mem_cons_self))
    refine ⟨(f.offset, (T.at f.type).size) :: places, ?_, ?_⟩
    · simp only [List.mapM_cons, q1, h1]
      simp [q2]
    · intro i
      cases i with
      | zero => rfl
      | succ i => simpa using h2 i

theorem fieldOf_mem : ∀ (F : List Field) (i : Nat) (f : Field), F[i]? = some f → fieldOf (F.map fun f => (f.offset, f.type)) i = some (f.offset, f.type) := by
  intro F
  induction F with
  | nil => intro i f h; simp at h
  | cons g F ih =>
    intro i f h
    cases i with
    | zero => simp at h; subst h; rfl
    | succ i => exact ih i f (by simpa using h)

/-- The cells of a zero value of flat type. -/
theorem zero_cells (hT : TabOK P T) {t : TypeId} (hf : isFlatTy T t = true) : ∃ ti z, P.info? t = some ti ∧ ti.size = (T.at t).size ∧ ti.zero = some z ∧ z.cells.size = (T.at t).size ∧ ∀ j, j < (T.at t).size → z.cells[j]? = some ((kindAt (T.at t).ks j).val (rd (zeros (T.at t)) j)) := by
  obtain ⟨ti, z, h1, h2, h3, h4, h5, h6, h7, _⟩ := hT.info' (flat_ne hT hf)
  have hk := flat_len hT hf
  refine ⟨ti, z, h1, h2, h4, h5, fun j hj => ?_⟩
  rw [← Array.getElem?_toList, h7 hf, zipV_getElem? _ _ _ (by rw [zeros_length]; exact hk) (by rw [zeros_length]; exact hj), kindAt_lt (by omega)]

theorem zipV_of_cells {ks : List SK} {l : List Int} {arr : Array Value} {n : Nat} (hk : ks.length = n) (hl : l.length = n) (ha : arr.size = n) (h : ∀ j, j < n → arr[j]? = some ((kindAt ks j).val (rd l j))) : arr.toList = zipV ks l := by
  apply List.ext_getElem?
  intro j
  by_cases hj : j < n
  · rw [Array.getElem?_toList, h j hj, zipV_getElem? _ _ _ (by omega) (by omega), kindAt_lt (by omega)]
  · rw [List.getElem?_eq_none (by simp; omega), List.getElem?_eq_none (by rw [zipV_length _ _ (by omega)]; omega)]

theorem does_build (hT : TabOK P T) (h : RelAt P T w0 M N ρ s a w) {d : Nat} (hd : d < s.n) {t : TypeId} {ps : Array (Nat × Operand)} {l : List Int} (hf : isFlatTy T t = true)
    (hc : (∃ fs, (T.at t).d = .struct fs ∧ placeAll T (fieldOf fs) (zeros (T.at t)) (partsOf s ps.toList) = some l) ∨
      (∃ n e, (T.at t).d = .arr n e ∧ placeAll T (fun i => some (i * (T.at e).size, e)) (zeros (T.at t)) (partsOf s ps.toList) = some l)) :
    Does P T w0 M N (.build t ps) a w d (s.put d (.agg t l)) := by
  intro o ho
  obtain ⟨ti, z, z1, z2, z3, z4, z5⟩ := zero_cells hT hf
  have hk := flat_len hT hf
  have hfv : ∀ p ∈ ps.toList, ∀ m, (s.ev p.2).flat = some m → FV T (s.ev p.2) (a.eval p.2) := fun p _ m hm => flat_FV (h.ev p.2) hm
  suffices hs : ∃ cells, P.built t (ps.toList.map fun p => (p.1, a.eval p.2)) = some cells ∧ cells.size = (T.at t).size ∧ l.length = (T.at t).size ∧ (T.at t).d.isAgg = true ∧ ∀ j, j < (T.at t).size → cells[j]? = some ((kindAt (T.at t).ks j).val (rd l j)) by
    obtain ⟨cells, c1, c2, c3, c4, c5⟩ := hs
    refine ⟨.agg cells, w, ?_, ρ, h.put hd (.flatV ⟨c4, hf, c3, cells, rfl, zipV_of_cells hk c3 c2 c5⟩)⟩
    simp only [execOp, ho]
    apply run_v
    apply run_build
    rw [show (ps.map fun (i, x) => (i, a.eval x)).toList = ps.toList.map fun p => (p.1, a.eval p.2) by simp]
    exact c1
  rcases hc with ⟨fs, hd1, hp⟩ | ⟨n, e, hd1, hp⟩
  · have hde := (hT t).desc
    rw [hd1] at hde
    obtain ⟨F, hF, hFs⟩ := hde
    subst hFs
    have hks := ((hT t).flat hf).2
    rw [hd1] at hks
    have hknown : ∀ f ∈ F.toList, known T f.type = true := by
      intro f hfm
      obtain ⟨i, hi⟩ := List.getElem?_of_mem hfm
      exact flat_known hT (hks i _ _ (fieldOf_mem _ _ _ hi)).1
    obtain ⟨places, p1, p2⟩ := fieldOf_places hT F.toList hknown
    rw [partsOf_map] at hp
    obtain ⟨cells, c1, c2, c3, c4⟩ := fill_sim hT (KS := kindAt (T.at t).ks) (placeC := fun i => places.toArray[i]?) (N := (T.at t).size) (by
      intro i off u hi hu hle
      obtain ⟨f, f1, f2, f3⟩ := fieldOf_some _ _ _ hi
      simp only at f2 f3
      subst f2 f3
      refine ⟨by simp [p2 i, f1], fun j hj => ?_⟩
      obtain ⟨_, q2, q3⟩ := hks i _ _ hi
      have hku := flat_len hT hu
      rw [kindAt_lt (by omega), kindAt_lt (by omega), getD_of_getElem? (q3 j hj)]) ps.toList s.ev a.eval _ l z.cells (zeros_length _) z4 z5 hfv hp
    refine ⟨cells, ?_, c2, c3, by rw [hd1]; rfl, c4⟩
    unfold Program.built
    simp only [z1, hF, z3, p1]
    exact c1
  · have hde := (hT t).desc
    rw [hd1] at hde
    have hks := ((hT t).flat hf).2
    rw [hd1] at hks
    obtain ⟨q1, q2, q3⟩ := hks
    obtain ⟨tie, ze, e1, e2, _⟩ := hT.info' (flat_ne hT q1)
    have hku := flat_len hT q1
    have hpos := flat_pos hT q1
    rw [partsOf_map] at hp
    obtain ⟨cells, c1, c2, c3, c4⟩ := fill_sim hT (KS := kindAt (T.at t).ks) (placeC := fun i => some (i * tie.size, tie.size)) (N := (T.at t).size) (by
      intro i off u hi hu hle
      simp only [Option.some.injEq, Prod.mk.injEq] at hi
      obtain ⟨rfl, rfl⟩ := hi
      refine ⟨by rw [e2], fun j hj => ?_⟩
      have hlt : i < n := by
        rw [q2, ← Nat.succ_mul] at hle
        have := Nat.le_of_mul_le_mul_right hle hpos
        omega
      rw [kindAt_lt (by omega), kindAt_lt (by omega), getD_of_getElem? (q3 i j hlt hj)]) ps.toList s.ev a.eval _ l z.cells (zeros_length _) z4 z5 hfv hp
    refine ⟨cells, ?_, c2, c3, by rw [hd1]; rfl, c4⟩
    unfold Program.built
    simp only [z1, hde, z3, e1]
    exact c1

/-! ## New blocks -/

theorem allocB_inv {c : Bool} {d : Nat} {bk : Blk} {v : V} {s' : St} (h : allocB s d bk v = .ok c s') : s.blk d = none ∧ c = true ∧ s' = (s.setB d bk).put d v := by
  unfold allocB at h
  split at h
  · cases h
  · rename_i hb
    simp only [Out.ok.injEq] at h
    exact ⟨hb, h.1.symm, h.2.symm⟩

/-- A new block at the end of the heap, and a reference to it. -/
theorem newBlock (h : RelAt P T w0 M N ρ s a w) {d : Nat} (hd : d < s.n) (hb : s.blk d = none) {e : TypeId} {r : Bool} {dd : D} {arr : Array Value} (hA : ArrOK P T w (FrOf s.blk ρ w) e dd arr 0) {v : V} {u : Value}
    (hv : LV P T (w.alloc (.cells arr e)) (FrOf (s.setB d ⟨e, r, dd⟩).blk (upd ρ d (some (w.heap.size, 0, arr.size))) (w.alloc (.cells arr e))) (s.setB d ⟨e, r, dd⟩).blk (upd ρ d (some (w.heap.size, 0, arr.size))) v u) :
    Rel P T w0 M N ((s.setB d ⟨e, r, dd⟩).put d v) (a.put (some d) u) (w.alloc (.cells arr e)) := by
  have hB : Below w.heap.size w (w.alloc (.cells arr e)) := (Below.refl _ _).alloc (Nat.le_refl _) _
  have h1 := h.adopt (bk := ⟨e, r, dd⟩) (loc' := some (w.heap.size, 0, arr.size)) hb hd hB (by
    intro b base lim hh
    simp only [Option.some.injEq, Prod.mk.injEq] at hh
    obtain ⟨rfl, _, _⟩ := hh
    exact ⟨by simp, Nat.le_refl _⟩) (fun hl => ⟨arr, heap_alloc_new w _, rfl, hA.later hl⟩)
  exact ⟨_, h1.put (by exact hd) hv⟩

theorem newVar_ptr (h : RelAt P T w0 M N ρ s a w) {d : Nat} (hd : d < s.n) (hb : s.blk d = none) {t : TypeId} {dd : D} {arr : Array Value} (hA : ArrOK P T w (FrOf s.blk ρ w) t dd arr 0) (hty : TyAt T ⟨t, true, dd⟩ 0 t) :
    Rel P T w0 M N ((s.setB d ⟨t, true, dd⟩).put d (.ptr d 0 t)) (a.put (some d) (.pointer (some ⟨w.heap.size, 0, none⟩))) (w.alloc (.cells arr t)) :=
  newBlock h hd hb hA (.ptr d 0 t ⟨t, true, dd⟩ w.heap.size 0 arr.size (blk_setB_self _ _ _) (upd_self _ _ _) hty)

theorem intsIn_of {ks : List SK} {l : List Int} {arr : Array Value} (h : ∀ j, j < l.length → arr[j]? = some ((kindAt ks j).val (rd l j))) : IntsIn ks l arr 0 := fun j hj => by rw [Nat.zero_add]; exact h j hj

theorem tyAt_var (_hT : TabOK P T) {t : TypeId} {l : List Int} (hf : isFlatTy T t = true) (hl : l.length = (T.at t).size) : TyAt T ⟨t, true, .ints l⟩ 0 t :=
  ⟨hf, hf, by omega, fun j _ => by rw [Nat.zero_add], fun _ => hl⟩

theorem does_alloc (hT : TabOK P T) (h : RelAt P T w0 M N ρ s a w) {d : Nat} (hd : d < s.n) (hb : s.blk d = none) {t : TypeId} {dd : D}
    (hc : (isFlatTy T t = true ∧ dd = .ints (zeros (T.at t))) ∨ ((T.at t).d = .str ∧ dd = .vals [.str .empty]) ∨ (∃ e, (T.at t).d = .slice e ∧ dd = .vals [.nil])) :
    Does P T w0 M N (.alloc t) a w d ((s.setB d ⟨t, true, dd⟩).put d (.ptr d 0 t)) := by
  intro o ho
  suffices hs : ∃ ti z, P.info? t = some ti ∧ ti.zero = some z ∧ ArrOK P T w (FrOf s.blk ρ w) t dd z.cells 0 ∧ TyAt T ⟨t, true, dd⟩ 0 t by
    obtain ⟨ti, z, h1, h2, h3, h4⟩ := hs
    refine ⟨_, _, ?_, newVar_ptr h hd hb h3 h4⟩
    simp only [execOp, ho]
    apply run_v
    unfold Instr.alloc
    rw [Sem.run_bind, run_zeroValue h1 h2]
    rfl
  rcases hc with ⟨hf, rfl⟩ | ⟨ht, rfl⟩ | ⟨e, ht, rfl⟩
  · obtain ⟨ti, z, z1, z2, z3, z4, z5⟩ := zero_cells hT hf
    exact ⟨ti, z, z1, z3, ⟨hf, intsIn_of fun j hj => z5 j (by rw [zeros_length] at hj; exact hj)⟩, tyAt_var hT hf (zeros_length _)⟩
  · obtain ⟨ti, z, h1, h2, h3, h4, h5, h6, h7, h8, _⟩ := hT.info' (t := t) (by rw [ht]; simp)
    have hz := h8 (by rw [ht])
    subst hz
    refine ⟨ti, _, h1, h4, ?_, trivial⟩
    intro j v hv
    cases j with
    | zero => simp at hv; subst hv; exact ⟨_, rfl, .flat _ _ rfl⟩
    | succ j => simp at hv
  · obtain ⟨ti, z, h1, h2, h3, h4, h5, h6, h7, _, h9⟩ := hT.info' (t := t) (by rw [ht]; simp)
    have hz := h9 e ht
    subst hz
    refine ⟨ti, _, h1, h4, ?_, trivial⟩
    intro j v hv
    cases j with
    | zero => simp at hv; subst hv; exact ⟨_, rfl, .nil⟩
    | succ j => simp at hv

theorem does_box_flat (hT : TabOK P T) (h : RelAt P T w0 M N ρ s a w) {d : Nat} (hd : d < s.n) (hb : s.blk d = none) {t : TypeId} {x : Operand} {l : List Int} (hfit : fits T t (s.ev x) = true) (hf : isFlatTy T t = true) (hl : (s.ev x).flat = some l) :
    Does P T w0 M N (.box t x) a w d ((s.setB d ⟨t, true, .ints l⟩).put d (.ptr d 0 t)) := by
  intro o ho
  have hx := flat_FV (h.ev x) hl
  obtain ⟨q1, q2, _, _⟩ := fits_cells hT hfit hf hx hl
  have hk := flat_len hT hf
  refine ⟨_, _, ?_, newVar_ptr (arr := (a.eval x).cells) h hd hb ⟨hf, intsIn_of fun j hj => ?_⟩ (tyAt_var hT hf q2)⟩
  · simp only [execOp, ho]
    exact run_v rfl
  · rw [← Array.getElem?_toList, q1, zipV_getElem? _ _ _ (by omega) hj, kindAt_lt (by omega)]

theorem does_box_val (h : RelAt P T w0 M N ρ s a w) {d : Nat} (hd : d < s.n) (hb : s.blk d = none) {t : TypeId} {x : Operand}
    (hc : (∃ b, s.ev x = .str b) ∨ (∃ e l, s.ev x = .slv e l) ∨ (∃ e l, s.ev x = .slr e l) ∨ (∃ e g, s.ev x = .cloB e g) ∨ (∃ e e' g, s.ev x = .cloL e e' g)) :
    Does P T w0 M N (.box t x) a w d ((s.setB d ⟨t, true, .vals [s.ev x]⟩).put d (.ptr d 0 t)) := by
  intro o ho
  have hx := h.ev x
  have key : BV P T w (FrOf s.blk ρ w) (s.ev x) (a.eval x) ∧ (a.eval x).cells = #[a.eval x] := by
    rcases hc with ⟨b, e⟩ | ⟨e', l, e⟩ | ⟨e', l, e⟩ | ⟨e', g, e⟩ | ⟨e', e'', g, e⟩
    · rw [e] at hx ⊢; have := hx.str_inv; rw [this]; exact ⟨.flat _ _ rfl, rfl⟩
    · rw [e] at hx ⊢; have := hx.slv_inv; refine ⟨.slv _ _ _ this, ?_⟩; obtain ⟨_, _, _, _, hu, _⟩ := this; rw [hu]; rfl
    · rw [e] at hx ⊢; have := hx.slr_inv; refine ⟨this, ?_⟩
      generalize a.eval x = u at this
      cases this with
      | flat _ _ h => exact h.elim
      | slr => rfl
    · rw [e] at hx ⊢; have := hx.cloB_inv; refine ⟨.cloB _ _ _ this, ?_⟩; obtain ⟨_, _, _, hu, _⟩ := this; rw [hu]; rfl
    · rw [e] at hx ⊢; have := hx.cloL_inv; refine ⟨.cloL _ _ _ _ this, ?_⟩; obtain ⟨_, _, _, hu, _⟩ := this; rw [hu]; rfl
  refine ⟨_, _, ?_, newVar_ptr (arr := (a.eval x).cells) h hd hb ?_ trivial⟩
  · simp only [execOp, ho]
    exact run_v rfl
  · intro j v hv
    cases j with
    | zero => simp at hv; subst hv; exact ⟨a.eval x, by rw [key.2]; rfl, key.1⟩
    | succ j => simp at hv

end Go.Ev
end

section
/- Slices that are made: literals, make; len, min, max. -/
namespace Go.Ev
open Go.RowKit (Below)

variable {P : Program} {T : Tab} {w0 w : World} {M : Nat → Prop} {ρ : Nat → Loc} {N : Nat → Loc × Blk} {s : St} {a : Act} {Fr : Nat → Prop} {blk : Nat → Option Blk}

theorem isSliceOf_eq {t e : TypeId} (h : isSliceOf T t e = true) : (T.at t).d = .slice e := by
  unfold isSliceOf at h
  split at h
  · rename_i e' he
    rw [he, Nat.eq_of_beq_eq_true h]
  · cases h

theorem isSliceD_eq {d : TyD} (h : isSliceD d = true) : ∃ e, d = .slice e := by
  cases d with
  | slice e => exact ⟨e, rfl⟩
  | _ => cases h

theorem isStrD_eq {d : TyD} (h : isStrD d = true) : d = .str := by
  cases d with
  | str => rfl
  | _ => cases h

/-- The cells of rows of zero values. -/
theorem rows_zero (hT : TabOK P T) {e : TypeId} (hf : isFlatTy T e = true) {ti : TypeInfo} {z : Value} (hi : P.info? e = some ti) (hz : ti.zero = some z) (N : Nat) :
    ∀ j, j < N → (madeCells z.cells N)[j]? = some ((kindAt (T.at e).ks j).val 0) := by
  obtain ⟨ti', z', h1, h2, h3, h4, h5⟩ := zero_cells hT hf
  rw [hi] at h1
  injection h1 with h1
  subst h1
  rw [hz] at h3
  injection h3 with h3
  subst h3
  have hpos := flat_pos hT hf
  have hk := flat_len hT hf
  intro j hj
  have hm : j % (T.at e).size < (T.at e).size := Nat.mod_lt _ hpos
  have hg := h5 _ hm
  have hsz : (madeCells z.cells N).size = N := size_madeCells _ _
  rw [Array.getElem?_eq_getElem (by omega)]
  simp only [madeCells, Array.getElem_map, Array.getElem_range]
  rw [h4]
  have : z.cells[j % (T.at e).size]! = (kindAt (T.at e).ks (j % (T.at e).size)).val (rd (zeros (T.at e)) (j % (T.at e).size)) := by
    rw [getElem!_def, hg]
  rw [this]
  have hr : rd (zeros (T.at e)) (j % (T.at e).size) = 0 := by
    simp [rd, zeros, hm]
  rw [hr]
  unfold kindAt
  rw [hk, Nat.mod_mod]

theorem run_buildSlice {t e : TypeId} {ti : TypeInfo} {z : Value} {n : Nat} {parts : Array (Nat × Value)} {cells : Array Value} (ht : P.underlying t = some (.slice e)) (hi : P.info? e = some ti) (hz : ti.zero = some z) (hn : n * ti.size ≤ 16777216)
    (hf : Instr.fill (fun i => some (i * ti.size, ti.size)) (madeCells z.cells (n * ti.size)) parts.toList = some cells) :
    (Instr.buildSlice t n parts).run P w = .ok (.slice (some ⟨w.heap.size, 0, none⟩) n n) (w.alloc (.cells cells e)) := by
  unfold Instr.buildSlice
  rw [Sem.run_bind, run_underlying ht, Result.andThen_ok]
  simp only []
  rw [Sem.run_bind, run_sizeOf hi, Result.andThen_ok]
  have hn' : ¬ (n * ti.size > 2 ^ 24) := by omega
  simp only [if_neg hn']
  by_cases h0 : n * ti.size = 0
  · have hm : madeCells z.cells (n * ti.size) = #[] := by rw [h0]; simp [madeCells]
    rw [hm] at hf
    simp only [if_pos h0, Sem.run_bind, Sem.run_pure, Result.andThen_ok]
    rw [h0]
    have hz' : (Array.range 0).map (fun x => (#[] : Array Value)[x % (#[] : Array Value).size]!) = #[] := by simp
    simp only [hz', hf, Sem.run_bind, newRow, run_newObj, Sem.run_pure, Result.andThen_ok]
    rfl
  · simp only [if_neg h0, Sem.run_bind, run_zeroValue hi hz, Sem.run_pure, Result.andThen_ok]
    simp only [madeCells] at hf
    simp only [hf, Sem.run_bind, newRow, run_newObj, Sem.run_pure, Result.andThen_ok]
    rfl

theorem newSlice (h : RelAt P T w0 M N ρ s a w) {d : Nat} (hd : d < s.n) (hb : s.blk d = none) {e : TypeId} {dd : D} {arr : Array Value} (hA : ArrOK P T w (FrOf s.blk ρ w) e dd arr 0) {n cap : Nat} (hn : dd.len = n * (T.at e).size) (hc : n ≤ cap) (hm : cap ≤ maxLen) (hs : cap * (T.at e).size ≤ arr.size) :
    Rel P T w0 M N ((s.setB d ⟨e, false, dd⟩).put d (.slw d e)) (a.put (some d) (.slice (some ⟨w.heap.size, 0, none⟩) n cap)) (w.alloc (.cells arr e)) :=
  newBlock h hd hb hA (.slw d e ⟨e, false, dd⟩ w.heap.size 0 arr.size n cap (blk_setB_self _ _ _) rfl rfl (upd_self _ _ _) hn hc hm (by omega))

theorem does_buildFlat (hT : TabOK P T) (h : RelAt P T w0 M N ρ s a w) {d : Nat} (hd : d < s.n) (hb : s.blk d = none) {t e : TypeId} {n : Nat} {ps : Array (Nat × Operand)} {l : List Int} (ht : (T.at t).d = .slice e) (hf : isFlatTy T e = true)
    (hn : n * (T.at e).size ≤ 16777216) (hp : placeAll T (fun i => some (i * (T.at e).size, e)) (List.replicate (n * (T.at e).size) 0) (partsOf s ps.toList) = some l) :
    Does P T w0 M N (.buildSlice t n ps) a w d ((s.setB d ⟨e, false, .ints l⟩).put d (.slw d e)) := by
  intro o ho
  have hde := (hT t).desc
  rw [ht] at hde
  obtain ⟨ti, z, z1, z2, z3, z4, z5⟩ := zero_cells hT hf
  have hku := flat_len hT hf
  have hpos := flat_pos hT hf
  have hfv : ∀ p ∈ ps.toList, ∀ m, (s.ev p.2).flat = some m → FV T (s.ev p.2) (a.eval p.2) := fun p _ m hm => flat_FV (h.ev p.2) hm
  rw [partsOf_map] at hp
  obtain ⟨cells, c1, c2, c3, c4⟩ := fill_sim hT (KS := kindAt (T.at e).ks) (placeC := fun i => some (i * ti.size, ti.size)) (N := n * (T.at e).size) (by
    intro i off u hi hu hle
    simp only [Option.some.injEq, Prod.mk.injEq] at hi
    obtain ⟨rfl, rfl⟩ := hi
    refine ⟨by rw [z2], fun j hj => ?_⟩
    rw [← hku]
    exact kindAt_add _ _) ps.toList s.ev a.eval _ l (madeCells z.cells (n * (T.at e).size)) (by simp) (size_madeCells _ _) (by
      intro j hj
      rw [rows_zero hT hf z1 z3 _ j hj]
      congr 2
      simp [rd, hj]) hfv hp
  refine ⟨_, _, ?_, newSlice (cap := n) (n := n) (e := e) (dd := .ints l) (arr := cells) h hd hb ⟨hf, intsIn_of fun j hj => c4 j (by rw [c3] at hj; exact hj)⟩ c3 (Nat.le_refl _) ?_ (by rw [c2]; exact Nat.le_refl _)⟩
  · simp only [execOp, ho]
    apply run_v
    refine run_buildSlice hde z1 z3 (by rw [z2]; exact hn) ?_
    rw [z2, show (ps.map fun (i, x) => (i, a.eval x)).toList = ps.toList.map fun p => (p.1, a.eval p.2) by simp]
    rw [z2] at c1
    exact c1
  · have : n ≤ n * (T.at e).size := Nat.le_mul_of_pos_right _ hpos
    simp only [maxLen]
    omega

theorem does_makeSlice (hT : TabOK P T) (h : RelAt P T w0 M N ρ s a w) {d : Nat} (hd : d < s.n) (hb : s.blk d = none) {t e : TypeId} {x y : Operand} {k j : IntKind} {n : Int} (ht : (T.at t).d = .slice e) (hf : isFlatTy T e = true)
    (hx : s.ev x = .int k n) (hy : s.ev y = .int j n) (h0 : 0 ≤ n) (h1 : n ≤ (bigLen : Int)) :
    Does P T w0 M N (.makeSlice t x y) a w d ((s.setB d ⟨e, false, .ints (List.replicate (n.toNat * (T.at e).size) 0)⟩).put d (.slw d e)) := by
  intro o ho
  have hde := (hT t).desc
  rw [ht] at hde
  have ex := h.ev x
  rw [hx] at ex
  have ey := h.ev y
  rw [hy] at ey
  obtain ⟨ti, z, z1, z2, z3, z4, z5, z6, _⟩ := hT.info' (flat_ne hT hf)
  have hb1 : (ti.bytes : Int) * n ≤ 281474976710656 := by
    have hq : (ti.bytes : Int) ≤ 1024 := by omega
    have : (ti.bytes : Int) * n ≤ 1024 * n := Int.mul_le_mul_of_nonneg_right hq h0
    simp only [bigLen] at h1
    omega
  have hrun := run_make (P := P) w t e ti z hde z1 z4 k j n n h0 (Int.le_refl _) hb1 (by simp only [bigLen] at h1; omega)
  refine ⟨_, _, ?_, newSlice (n := n.toNat) (cap := n.toNat) (e := e) (dd := .ints (List.replicate (n.toNat * (T.at e).size) 0)) h hd hb (arr := madeCells z.cells (n.toNat * ti.size)) ⟨hf, intsIn_of fun q hq => ?_⟩ (by simp [D.len]) (Nat.le_refl _) (by simp only [bigLen] at h1; simp only [maxLen]; omega) (by rw [size_madeCells, z2]; exact Nat.le_refl _)⟩
  · simp only [execOp, ho]
    apply run_v
    rw [ex.int_inv, ey.int_inv]
    exact hrun
  · have hq' : q < n.toNat * (T.at e).size := by simpa using hq
    rw [rows_zero hT hf z1 z4 _ q (by rw [z2]; exact hq')]
    congr 2
    simp [rd, hq']

theorem exec_builtin (b : Builtin) (c : Call) (o : Oper) (ho : o.op = .call c) (hc : c.callee = .builtin b) (ρ' : Operand → Value) (w : World) :
    (execOp ρ' o).run P w = (builtin b c.argTypes o.type (c.args.map fun | .const _ => true | _ => false) (c.args.map ρ')).run P w := by
  simp only [execOp, ho]
  rw [Sem.run_bind]
  unfold resolve
  rw [hc]
  rfl

theorem args_one {c : Call} {x : Operand} (h : c.args.toList = [x]) (f : Operand → Value) : c.args.map f = #[f x] := by
  obtain ⟨ce, ⟨l⟩, at_⟩ := c
  simp only at h
  subst h
  simp
theorem args_two {c : Call} {x y : Operand} (h : c.args.toList = [x, y]) (f : Operand → Value) : c.args.map f = #[f x, f y] := by
  obtain ⟨ce, ⟨l⟩, at_⟩ := c
  simp only at h
  subst h
  simp
theorem tys_one {c : Call} {x : TypeId} (h : c.argTypes.toList = [x]) : c.argTypes = #[x] := by
  obtain ⟨ce, l, ⟨q⟩⟩ := c
  simp only at h
  subst h
  rfl
theorem tys_two {c : Call} {x y : TypeId} (h : c.argTypes.toList = [x, y]) : c.argTypes = #[x, y] := by
  obtain ⟨ce, l, ⟨q⟩⟩ := c
  simp only at h
  subst h
  rfl

theorem does_lenStr (hT : TabOK P T) (h : RelAt P T w0 M N ρ s a w) {d : Nat} (hd : d < s.n) {c : Call} {x : Operand} {t : TypeId} {b : ByteArray} (hc : c.callee = .builtin .len) (ha : c.args.toList = [x]) (hty : c.argTypes.toList = [t]) (ht : (T.at t).d = .str)
    (hx : s.ev x = .str b) : Does P T w0 M N (.call c) a w d (s.put d (.int .i64 b.size)) := by
  intro o ho
  have hde := (hT t).desc
  rw [ht] at hde
  have ex := h.ev x
  rw [hx] at ex
  refine ⟨.int .i64 b.size, w, ?_, ρ, h.put hd (.ofInt _ _)⟩
  rw [exec_builtin _ c o ho hc, args_one ha, tys_one hty, ex.str_inv]
  apply run_v
  unfold Builtin.len_
  simp only [List.getElem?_toArray, List.getElem?_cons_zero]
  rw [Sem.run_bind, run_underlying hde]
  rfl

theorem does_len (hT : TabOK P T) (h : RelAt P T w0 M N ρ s a w) {d : Nat} (hd : d < s.n) {c : Call} {x : Operand} {t e : TypeId} {n : Nat} (hc : c.callee = .builtin .len) (ha : c.args.toList = [x]) (hty : c.argTypes.toList = [t]) (ht : (T.at t).d = .slice e)
    (hn : lenV T s (s.ev x) = some n) : Does P T w0 M N (.call c) a w d (s.put d (.int .i64 n)) := by
  intro o ho
  have hde := (hT t).desc
  rw [ht] at hde
  obtain ⟨ad, cap, hu⟩ := lenV_sound hT h (h.ev x) hn
  refine ⟨.int .i64 n, w, ?_, ρ, h.put hd (.ofInt _ _)⟩
  rw [exec_builtin _ c o ho hc, args_one ha, tys_one hty, hu]
  apply run_v
  have hpe : P.elem t = e := by simp [Program.elem, hde]
  exact run_len_slice w t o.type ad n cap (by rw [hpe]; exact hde)

theorem does_min (h : RelAt P T w0 M N ρ s a w) {d : Nat} (hd : d < s.n) {c : Call} {x y : Operand} {k j : IntKind} {p q : Int} (hc : c.callee = .builtin .min) (ha : c.args.toList = [x, y]) (hx : s.ev x = .int k p) (hy : s.ev y = .int j q) :
    Does P T w0 M N (.call c) a w d (s.put d (.int k (minI p q))) := by
  intro o ho
  have ex := h.ev x
  rw [hx] at ex
  have ey := h.ev y
  rw [hy] at ey
  refine ⟨.int k (minI p q), w, ?_, ρ, h.put hd (.ofInt _ _)⟩
  rw [exec_builtin _ c o ho hc, args_two ha, ex.int_inv, ey.int_inv]
  exact run_v rfl

theorem does_max (h : RelAt P T w0 M N ρ s a w) {d : Nat} (hd : d < s.n) {c : Call} {x y : Operand} {k j : IntKind} {p q : Int} (hc : c.callee = .builtin .max) (ha : c.args.toList = [x, y]) (hx : s.ev x = .int k p) (hy : s.ev y = .int j q) :
    Does P T w0 M N (.call c) a w d (s.put d (.int k (maxI p q))) := by
  intro o ho
  have ex := h.ev x
  rw [hx] at ex
  have ey := h.ev y
  rw [hy] at ey
  refine ⟨.int k (maxI p q), w, ?_, ρ, h.put hd (.ofInt _ _)⟩
  rw [exec_builtin _ c o ho hc, args_two ha, ex.int_inv, ey.int_inv]
  exact run_v rfl

end Go.Ev
end

section
/- Slices of slices that are made; stores; clear. -/
namespace Go.Ev
open Go.RowKit (Below)

variable {P : Program} {T : Tab} {w0 w : World} {M : Nat → Prop} {ρ : Nat → Loc} {N : Nat → Loc × Blk} {s : St} {a : Act} {Fr : Nat → Prop} {blk : Nat → Option Blk}

theorem SV.mono {Fr' : Nat → Prop} {e : TypeId} {l : List Int} {u : Value} (h : SV T w Fr e l u) (hF : ∀ b, Fr b → Fr' b) : SV T w Fr' e l u := h.later fun b hb => ⟨hF b hb, rfl⟩

/-- The blocks that a value leads to. -/
def Blocks (ρ : Nat → Loc) (blk : Nat → Option Blk) (x : V) (b : Nat) : Prop := ∃ k bk base lim, V.has k x = true ∧ blk k = some bk ∧ ρ k = some (b, base, lim)

theorem contents_SV (h : RelAt P T w0 M N ρ s a w) {x : V} {u : Value} {e : TypeId} {l : List Int} (hx : LV P T w (FrOf s.blk ρ w) s.blk ρ x u) (hc : contents T s x = some (e, .ints l)) :
    SV T w (fun b => FrOf s.blk ρ w b ∨ Blocks ρ s.blk x b) e l u := by
  cases x with
  | slv e' l' =>
    simp only [contents, Option.some.injEq, Prod.mk.injEq, D.ints.injEq] at hc
    obtain ⟨rfl, rfl⟩ := hc
    exact hx.slv_inv.mono fun b hb => .inl hb
  | slr e' l' => simp [contents] at hc
  | slw k e' =>
    simp only [contents] at hc
    cases hx with
    | bv _ _ h => cases h with
      | flat _ _ h => exact h.elim
    | slw k e' bk b base lim n cap h1 h2 h3 h4 h5 h6 h7 h8 =>
      simp only [h1, Option.some.injEq, Prod.mk.injEq] at hc
      obtain ⟨rfl, hd⟩ := hc
      have hO := h.ob k bk h1
      rw [h4] at hO
      obtain ⟨arr, g1, g2, g3⟩ := hO
      rw [hd] at g3 h5
      obtain ⟨g3, g4⟩ := g3
      rw [h2] at g3 g4
      refine ⟨g3, _, n, cap, rfl, h5, h6, ?_⟩
      refine .inr ⟨b, base, rfl, .inr ⟨k, bk, base, lim, by simp [V.has], h1, h4⟩, fun j hj => ?_⟩
      rw [rowCell g1, g4 j hj, Nat.zero_add]
    | slwNil k e' bk ad h1 h2 h3 h4 h5 =>
      simp only [h1, Option.some.injEq, Prod.mk.injEq] at hc
      obtain ⟨rfl, hd⟩ := hc
      have hO := h.ob k bk h1
      rw [h4] at hO
      obtain ⟨_, _, g3⟩ := hO
      rw [hd] at g3 h5
      rw [h2] at g3
      refine ⟨g3, _, 0, 0, rfl, by simpa [D.len] using h5, Nat.le_refl _, .inl rfl⟩
  | sl k off n e' =>
    simp only [contents] at hc
    cases hx with
    | bv _ _ h => cases h with
      | flat _ _ h => exact h.elim
    | sl k off n e' e0 r l0 ad cap h1 h2 h3 h4 h5 h5r h6 h7 h8 =>
      simp only [h1, Option.some.injEq, Prod.mk.injEq, D.ints.injEq] at hc
      obtain ⟨rfl, rfl⟩ := hc
      refine ⟨h3, ad, n, cap, rfl, win_length _ _ _ h4, h6, ?_⟩
      rcases h8 with h8 | ⟨b, base, lim, g1, g2, g3⟩
      · left; omega
      · have hO := h.ob k _ h1
        rw [g1] at hO
        obtain ⟨arr, o1, o2, o3⟩ := hO
        right
        refine ⟨b, base + off, g2, .inr ⟨k, _, base, lim, by simp [V.has], h1, g1⟩, fun j hj => ?_⟩
        rw [win_length _ _ _ h4] at hj
        rw [rowCell o1, Nat.add_assoc, o3.2 (off + j) (by omega), h5 j hj, Nat.zero_add, rd_win _ _ _ _ hj]
  | _ => simp [contents] at hc

theorem dropAll_rel : ∀ (ks : List Nat) (s : St), RelAt P T w0 M N ρ s a w → RelAt P T w0 M N ρ (dropAll s ks) a w ∧ (∀ b, FrOf s.blk ρ w b → FrOf (dropAll s ks).blk ρ w b) ∧
    (∀ k ∈ ks, ∀ bk b base lim, s.blk k = some bk → ρ k = some (b, base, lim) → FrOf (dropAll s ks).blk ρ w b) ∧ (dropAll s ks).n = s.n := by
  intro ks
  induction ks with
  | nil => intro s h; exact ⟨h, fun b hb => hb, fun k hk => by simp at hk, rfl⟩
  | cons k ks ih =>
    intro s h
    have h1 := (h.kill k).dropB (k := k) (noRef_kill s k)
    obtain ⟨r1, r2, r3, r4⟩ := ih ((s.kill k).drop k) h1
    have hsub : ∀ j bj, ((s.kill k).drop k).blk j = some bj → j ≠ k ∧ s.blk j = some bj := by
      intro j bj hj
      have e : j ≠ k := fun e => by subst e; rw [blk_drop_self] at hj; cases hj
      rw [blk_drop_ne _ (Ne.symm e)] at hj
      exact ⟨e, hj⟩
    have hF : ∀ b, FrOf s.blk ρ w b → FrOf ((s.kill k).drop k).blk ρ w b := fun b hb => ⟨hb.1, fun j bj base lim hj => hb.2 j bj base lim (hsub j bj hj).2⟩
    have hk : ∀ bk b base lim, s.blk k = some bk → ρ k = some (b, base, lim) → FrOf ((s.kill k).drop k).blk ρ w b := by
      intro bk b base lim hb hρ
      refine ⟨(h.loc k bk b base lim hb hρ).1, fun j bj base' lim' hj hρj => ?_⟩
      obtain ⟨e1, e2⟩ := hsub j bj hj
      exact e1 (h.inj j k bj bk b base' base lim' lim e2 hb hρj hρ)
    refine ⟨r1, fun b hb => r2 b (hF b hb), ?_, r4⟩
    intro j hj bk b base lim hb hρ
    by_cases e : j = k
    · subst e; exact r2 b (hk bk b base lim hb hρ)
    · rcases List.mem_cons.1 hj with hj | hj
      · exact absurd hj e
      · exact r3 j hj bk b base lim (by rw [blk_drop_ne _ (Ne.symm e)]; exact hb) hρ

theorem rowsOf_spec {e' : TypeId} : ∀ (ps : List (Nat × Operand)) (j : Nat) (q : List (List Int)) (ks : List Nat), rowsOf T s e' ps j = some (q, ks) →
    q.length = ps.length ∧ ∀ i p, ps[i]? = some p → p.1 = j + i ∧ contents T s (s.ev p.2) = some (e', .ints (rdr q i)) ∧ ∀ k, V.has k (s.ev p.2) = true → k ∈ ks := by
  intro ps
  induction ps with
  | nil =>
    intro j q ks h
    simp only [rowsOf, Option.some.injEq, Prod.mk.injEq] at h
    obtain ⟨rfl, rfl⟩ := h
    exact ⟨rfl, fun i p hp => by simp at hp⟩
  | cons p ps ih =>
    intro j q ks h
    obtain ⟨i0, x⟩ := p
    simp only [rowsOf] at h
    obtain ⟨hij, h1⟩ := cond_some h
    have hij := Nat.eq_of_beq_eq_true hij
    subst hij
    split at h1
    · rename_i e1 l q' ks' hc hr
      obtain ⟨he, h2⟩ := cond_some h1
      have he := Nat.eq_of_beq_eq_true he
      subst he
      simp only [Option.some.injEq, Prod.mk.injEq] at h2
      obtain ⟨rfl, hks⟩ := h2
      obtain ⟨r1, r2⟩ := ih (i0 + 1) q' ks' hr
      have hsub : ∀ k, k ∈ ks' → k ∈ ks := by
        intro k hk
        rw [← hks]
        split <;> first | exact List.mem_cons_of_mem _ hk | exact hk
      refine ⟨by simp [r1], fun i p hp => ?_⟩
      cases i with
      | zero =>
        simp only [List.getElem?_cons_zero, Option.some.injEq] at hp
        subst hp
        refine ⟨rfl, hc, fun k hk => ?_⟩
        rw [← hks]
        cases hev : s.ev x with
        | slw k' e => rw [hev] at hk; simp only [V.has] at hk; rw [Nat.eq_of_beq_eq_true hk]; exact List.mem_cons_self
        | sl k' off n e => rw [hev] at hk; simp only [V.has] at hk; rw [Nat.eq_of_beq_eq_true hk]; exact List.mem_cons_self
        | slv e l => rw [hev] at hk; simp [V.has] at hk
        | slr e l => rw [hev] at hk; simp [V.has] at hk
        | _ => rw [hev] at hc; simp [contents] at hc
      | succ i =>
        obtain ⟨t1, t2, t3⟩ := r2 i p (by simpa using hp)
        exact ⟨by rw [t1]; omega, t2, fun k hk => hsub k (t3 k hk)⟩
    · cases h1

theorem fill_one : ∀ (vs : List (Nat × Value)) (j : Nat) (cells : Array Value), (∀ i p, vs[i]? = some p → p.1 = j + i ∧ p.2.cells = #[p.2]) → j + vs.length ≤ cells.size →
    ∃ cells', Instr.fill (fun i => some (i * 1, 1)) cells vs = some cells' ∧ cells'.size = cells.size ∧ ∀ i, cells'[i]? = if j ≤ i ∧ i < j + vs.length then (vs[i - j]?).map (·.2) else cells[i]? := by
  intro vs
  induction vs with
  | nil => intro j cells _ h; exact ⟨cells, rfl, rfl, fun i => by rw [if_neg (by simp only [List.length_nil]; omega)]⟩
  | cons p vs ih =>
    intro j cells hp h
    simp only [List.length_cons] at h
    obtain ⟨i0, v⟩ := p
    obtain ⟨e1, e2⟩ := hp 0 (i0, v) rfl
    simp only [Nat.add_zero] at e1 e2
    subst e1
    obtain ⟨cells', g1, g2, g3⟩ := ih (i0 + 1) (cells.setIfInBounds i0 v) (fun i q hq => by
      obtain ⟨t1, t2⟩ := hp (i + 1) q (by simpa using hq)
      exact ⟨by rw [t1]; omega, t2⟩) (by simp; omega)
    refine ⟨cells', ?_, g2.trans (by simp), fun i => ?_⟩
    · simp only [Instr.fill, e2]
      rw [if_neg (by simp; omega)]
      have hfold : (#[v] : Array Value).zipIdx.foldl (fun cs (c, j) => cs.setIfInBounds (i0 * 1 + j) c) cells = cells.setIfInBounds i0 v := by
        rw [← Array.foldl_toList, Array.toList_zipIdx]
        simp
      rw [hfold]
      exact g1
    · rw [g3 i]
      by_cases c1 : i0 + 1 ≤ i ∧ i < i0 + 1 + vs.length
      · rw [if_pos c1, if_pos (by simp only [List.length_cons]; omega), show i - i0 = (i - (i0 + 1)) + 1 by omega, List.getElem?_cons_succ]
      · rw [if_neg c1]
        by_cases c2 : i0 = i
        · subst c2
          rw [if_pos (by simp only [List.length_cons]; omega)]
          have : i0 < cells.size := by omega
          simp [this]
        · rw [if_neg (by simp only [List.length_cons]; omega), Array.getElem?_setIfInBounds_ne c2]

theorem does_buildRows (hT : TabOK P T) (h : RelAt P T w0 M N ρ s a w) {d : Nat} (hd : d < s.n) {t e e' : TypeId} {n : Nat} {ps : Array (Nat × Operand)} {q : List (List Int)} {ks : List Nat} (ht : (T.at t).d = .slice e) (he : (T.at e).d = .slice e') (hnf : isFlatTy T e = false)
    (hs1 : (T.at e).size = 1) (hn : n * (T.at e).size ≤ 16777216) (hr : rowsOf T s e' ps.toList 0 = some (q, ks)) (hq : q.length = n) (hb : (dropAll s ks).blk d = none) :
    Does P T w0 M N (.buildSlice t n ps) a w d (((dropAll s ks).setB d ⟨e, false, .rows q⟩).put d (.slw d e)) := by
  intro o ho
  have hde := (hT t).desc
  rw [ht] at hde
  obtain ⟨ti, z, z1, z2, z3, z4, z5, z6, z7, z8, z9⟩ := hT.info' (t := e) (by rw [he]; simp)
  obtain ⟨r1, r2⟩ := rowsOf_spec _ _ _ _ hr
  obtain ⟨d1, d2, d3, d4⟩ := dropAll_rel ks s h
  have hSV : ∀ i p, ps.toList[i]? = some p → SV T w (FrOf (dropAll s ks).blk ρ w) e' (rdr q i) (a.eval p.2) := by
    intro i p hp
    obtain ⟨t1, t2, t3⟩ := r2 i p hp
    refine (contents_SV h (h.ev p.2) t2).mono ?_
    rintro b (hb | ⟨k, bk, base, lim, g1, g2, g3⟩)
    · exact d2 b hb
    · exact d3 k (t3 k g1) bk b base lim g2 g3
  have hps : (ps.map fun (i, x) => (i, a.eval x)).toList = ps.toList.map fun p => (p.1, a.eval p.2) := by simp
  have hlen : ps.toList.length = n := by rw [← r1, hq]
  obtain ⟨cells, c1, c2, c3⟩ := fill_one (ps.toList.map fun p => (p.1, a.eval p.2)) 0 (madeCells z.cells (n * ti.size)) (by
    intro i p hp
    simp only [List.getElem?_map, Option.map_eq_some_iff] at hp
    obtain ⟨p0, hp0, rfl⟩ := hp
    obtain ⟨t1, _, _⟩ := r2 i p0 hp0
    obtain ⟨_, ad, m, cap, hu, _⟩ := hSV i p0 hp0
    refine ⟨t1, ?_⟩
    simp only
    rw [hu]; rfl) (by rw [size_madeCells, z2, hs1]; simp only [List.length_map, hlen]; omega)
  refine ⟨_, _, ?_, newSlice (s := dropAll s ks) (n := n) (cap := n) (e := e) (dd := .rows q) (arr := cells) d1 (by rw [d4]; exact hd) hb ⟨hnf, hs1, e', he, fun j hj => ?_⟩ (by rw [hs1, Nat.mul_one]; exact hq) (Nat.le_refl _) (by rw [hs1] at hn; simp only [maxLen]; omega) (by rw [c2, size_madeCells, z2]; exact Nat.le_refl _)⟩
  · simp only [execOp, ho]
    apply run_v
    refine run_buildSlice hde z1 z4 (by rw [z2]; exact hn) ?_
    rw [z2, hs1, hps]
    rw [z2, hs1] at c1
    exact c1
  · have hjn : j < ps.toList.length := by omega
    obtain ⟨p, hp⟩ : ∃ p, ps.toList[j]? = some p := ⟨_, List.getElem?_eq_getElem hjn⟩
    refine ⟨a.eval p.2, ?_, hSV j p hp⟩
    rw [Nat.zero_add, c3 j, if_pos (by simp only [List.length_map]; omega)]
    simp [hp]

/-! ## Stores -/

theorem rd_append_lt {x y : List Int} {j : Nat} (h : j < x.length) : rd (x ++ y) j = rd x j := by
  simp only [rd, List.getD_eq_getElem?_getD]; rw [List.getElem?_append_left h]
theorem rd_append_ge {x y : List Int} {j : Nat} (h : x.length ≤ j) : rd (x ++ y) j = rd y (j - x.length) := by
  simp only [rd, List.getD_eq_getElem?_getD]; rw [List.getElem?_append_right h]
theorem rd_take {x : List Int} {n j : Nat} (h : j < n) : rd (x.take n) j = rd x j := by
  simp only [rd, List.getD_eq_getElem?_getD]; rw [List.getElem?_take, if_pos h]
theorem rd_drop {x : List Int} {n j : Nat} : rd (x.drop n) j = rd x (n + j) := by
  simp only [rd, List.getD_eq_getElem?_getD]; rw [List.getElem?_drop]

theorem setWin_spec {l m : List Int} {off n : Nat} (hl : off + n ≤ l.length) (hm : m.length = n) :
    (setWin l off n m).length = l.length ∧ ∀ j, j < l.length → rd (setWin l off n m) j = if off ≤ j ∧ j < off + n then rd m (j - off) else rd l j := by
  constructor
  · simp [setWin]; omega
  · intro j hj
    unfold setWin
    have ht : (l.take off).length = off := by simp; omega
    by_cases c1 : j < off
    · rw [rd_append_lt (by omega), rd_take c1, if_neg (by omega)]
    · rw [rd_append_ge (by omega), ht]
      by_cases c2 : j < off + n
      · rw [rd_append_lt (by omega), if_pos (by omega)]
      · rw [rd_append_ge (by omega), rd_drop, if_neg (by omega)]
        congr 1
        omega

theorem storeI_spec {ti : TyI} {t : TypeId} {t0 : Option TypeId} {l m : List Int} {off : Nat} (hl : off + ti.size ≤ l.length) (hm : m.length = ti.size) (hr : t0 = some t → off = 0 → l.length = ti.size) (hs : ∀ k, ti.d = .sc k → ti.size = 1) :
    (storeI ti t t0 l off m).length = l.length ∧ ∀ j, j < l.length → rd (storeI ti t t0 l off m) j = if off ≤ j ∧ j < off + ti.size then rd m (j - off) else rd l j := by
  have hgen : (cond (rootEq t0 t off) m (setWin l off ti.size m)).length = l.length ∧ ∀ j, j < l.length → rd (cond (rootEq t0 t off) m (setWin l off ti.size m)) j = if off ≤ j ∧ j < off + ti.size then rd m (j - off) else rd l j := by
    cases h2 : rootEq t0 t off with
    | true =>
      obtain ⟨e1, e2⟩ := rootEq_true h2
      have := hr e1 e2
      refine ⟨by rw [cond_true]; omega, fun j hj => ?_⟩
      rw [cond_true, if_pos (by omega), e2, Nat.sub_zero]
    | false => exact setWin_spec hl hm
  cases hd : ti.d with
  | sc k =>
    have h1 := hs k hd
    unfold storeI
    simp only [hd]
    refine ⟨by simp, fun j hj => ?_⟩
    rw [rd_set _ _ _ _ (by omega)]
    by_cases e : off = j
    · rw [if_pos e, if_pos (by omega), show j - off = 0 by omega]
    · rw [if_neg e, if_neg (by omega)]
  | _ => unfold storeI; simp only [hd]; exact hgen

def DoesN (P : Program) (T : Tab) (w0 : World) (M : Nat → Prop) (N : Nat → Loc × Blk) (op : Op) (a : Act) (w : World) (s' : St) : Prop :=
  ∀ o : Oper, o.op = op → ∃ n w', (execOp a.eval o).run P w = .ok n w' ∧ (n = .skip ∨ ∃ v, n = .value v) ∧ Rel P T w0 M N s' a w'

theorem heap_setRow_ne (w : World) {g k : Nat} (cs : Array Value) (h : k ≠ g) : (w.setRow g cs).heap[k]? = w.heap[k]? := by
  simp only [World.setRow, Array.getElem?_modify]
  rw [if_neg (by omega)]

/-- A block's cells are written, in place. -/
theorem writeBlock (h : RelAt P T w0 M N ρ s a w) {k : Nat} {e : TypeId} {r : Bool} {l l' : List Int} {b base lim : Nat} {arr arr' : Array Value} (hk : s.blk k = some ⟨e, r, .ints l⟩) (hρ : ρ k = some (b, base, lim)) (hh : w.heap[b]? = some (.cells arr e (0, 0)))
    (hl : l'.length = l.length) (hsz : arr'.size = arr.size) (hlim : arr.size = lim) (hA : isFlatTy T e = true ∧ IntsIn (T.at e).ks l' arr' base) : Rel P T w0 M N (s.setB k ⟨e, r, .ints l'⟩) a (w.setRow b arr') := by
  refine ⟨_, h.change (bk' := ⟨e, r, .ints l'⟩) (loc' := ρ k) hk rfl rfl rfl (by simp) ?_ ?_ ?_ (.inr ⟨⟨rfl, rfl, hl.symm⟩, rfl⟩)⟩
  · intro b' _ hne
    exact heap_setRow_ne w arr' fun e' => hne base lim (by rw [e']; exact hρ)
  · intro b' base' lim' e'
    rw [hρ] at e'
    simp only [Option.some.injEq, Prod.mk.injEq] at e'
    obtain ⟨rfl, rfl, rfl⟩ := e'
    exact ⟨by simpa using (h.loc k _ b base lim hk hρ).1, .inl ⟨base, lim, hρ⟩⟩
  · intro _
    rw [hρ]
    exact ⟨arr', setRow_heap w b arr arr' e (0, 0) hh, by omega, hA⟩

theorem storeCells_run (P : Program) {w : World} {b o : Nat} {vs : List Value} {arr : Array Value} {e : TypeId} (hh : w.heap[b]? = some (.cells arr e (0, 0))) (hfit : o + vs.length ≤ arr.size) (h1 : ∀ v ∈ vs, v.oneCell' = true) :
    ∃ arr', (storeCells ⟨b, o, none⟩ vs).run P w = .ok () (w.setRow b arr') ∧ arr'.size = arr.size ∧ ∀ j : Nat, arr'[j]? = if o ≤ j ∧ j < o + vs.length then vs[j - o]? else arr[j]? := by
  have := run_storeCells_at P b o e vs 0 arr w hh (by omega) h1
  refine ⟨_, this, ?_, fun j => ?_⟩
  · simp; omega
  · simp only [Nat.add_zero, List.getElem?_toArray]
    have ht : (arr.toList.take o).length = o := by simp; omega
    by_cases c1 : j < o
    · rw [if_neg (by omega), List.append_assoc, List.getElem?_append_left (by omega), List.getElem?_take, if_pos c1, Array.getElem?_toList]
    · rw [List.append_assoc, List.getElem?_append_right (by omega), ht]
      by_cases c2 : j < o + vs.length
      · rw [List.getElem?_append_left (by omega), if_pos (by omega)]
      · rw [List.getElem?_append_right (by omega), List.getElem?_drop, if_neg (by omega), Array.getElem?_toList]
        congr 1
        omega

theorem does_store (hT : TabOK P T) (h : RelAt P T w0 M N ρ s a w) {t : TypeId} {p x : Operand} {k off : Nat} {t0 : TypeId} {r : Bool} {l m : List Int} (hp : s.ev p = .ptr k off t) (hf : isFlatTy T t = true) (hk : s.blk k = some ⟨t0, r, .ints l⟩)
    (hx : (s.ev x).flat = some m) (hfit : fits T t (s.ev x) = true) : DoesN P T w0 M N (.store t p x) a w (s.setB k ⟨t0, r, .ints (storeI (T.at t) t (Blk.root ⟨t0, r, .ints l⟩) l off m)⟩) := by
  intro o ho
  have hv := h.ev p
  rw [hp] at hv
  obtain ⟨bk, b, base, lim, h1, h2, h3, hu⟩ := hv.ptr_inv
  rw [hk] at h1
  injection h1 with h1
  subst h1
  simp only [TyAt] at h3
  obtain ⟨g1, g2, g3, g4, g5⟩ := h3
  have hO := h.ob k _ hk
  rw [h2] at hO
  obtain ⟨arr, o1, o2, o3⟩ := hO
  obtain ⟨q1, q2, q3, _⟩ := fits_cells hT hfit hf (flat_FV (h.ev x) hx) hx
  have hks := (hT t).flat hf
  have hpos := flat_pos hT hf
  obtain ⟨s1, s2⟩ := storeI_spec (ti := T.at t) (t := t) (t0 := Blk.root ⟨t0, r, .ints l⟩) (l := l) (m := m) (off := off) g3 q2 (by
    intro e _
    cases r with
    | false => simp [Blk.root] at e
    | true => simp [Blk.root] at e; rw [g5 rfl, e]) (by intro k hd; rw [hd] at hks; rw [← hks.1, hks.2]; rfl)
  have hlim : base + l.length ≤ arr.size := by
    have := o3.2 (l.length - 1) (by omega)
    have h9 : base + (l.length - 1) < arr.size := by
      rcases Nat.lt_or_ge (base + (l.length - 1)) arr.size with hh | hh
      · exact hh
      · rw [Array.getElem?_eq_none hh] at this; cases this
    omega
  have hvl : (a.eval x).cells.toList.length = (T.at t).size := by rw [q1, zipV_length _ _ (by rw [hks.1, q2]), q2]
  obtain ⟨arr', a1, a2, a3⟩ := storeCells_run P (o := base + off) (vs := (a.eval x).cells.toList) o1 (by omega) q3
  refine ⟨.skip, _, ?_, .inl rfl, writeBlock h hk h2 o1 s1 a2 o2 ⟨o3.1, fun j hj => ?_⟩⟩
  · simp only [execOp, ho]
    rw [Sem.run_bind]
    unfold Instr.storeAt
    rw [hu]
    simp only [Instr.sureAddr]
    rw [Sem.run_bind]
    show Result.andThen (Result.andThen (Result.ok _ w) _) _ = _
    rw [Result.andThen_ok]
    unfold storeVar
    rw [Sem.run_bind, TabOK.size hT (flat_ne hT hf), Result.andThen_ok]
    have hne : ¬ ((a.eval x).cells.size ≠ (T.at t).size) := by rw [← Array.length_toList]; simp [hvl]
    simp only [if_neg hne]
    rw [a1]
    rfl
  · rw [s1] at hj
    rw [a3, s2 j hj, hvl]
    by_cases c : off ≤ j ∧ j < off + (T.at t).size
    · rw [if_pos (by omega), if_pos c, q1, zipV_getElem? _ _ _ (by rw [hks.1, q2]) (by omega)]
      have := g4 (j - off) (by omega)
      rw [show off + (j - off) = j by omega] at this
      rw [this, kindAt_lt (by omega), show base + j - (base + off) = j - off by omega]
    · rw [if_neg (by omega), if_neg c]
      exact o3.2 j hj

end Go.Ev
end

section
/- append, clear. -/
namespace Go.Ev
open Go.RowKit (Below)

variable {P : Program} {T : Tab} {w0 w : World} {M : Nat → Prop} {ρ : Nat → Loc} {N : Nat → Loc × Blk} {s : St} {a : Act} {Fr : Nat → Prop} {blk : Nat → Option Blk}

theorem ArrOK.mono {Fr' : Nat → Prop} {e : TypeId} {d : D} {arr : Array Value} {base : Nat} (h : ArrOK P T w Fr e d arr base) (hF : ∀ b, Fr b → Fr' b) : ArrOK P T w Fr' e d arr base := h.later fun b hb => ⟨hF b hb, rfl⟩

def D.plain : D → Prop
  | .vals _ => False
  | _ => True

theorem D.cat_plain {x y z : D} (h : x.cat y = some z) : x.plain ∧ y.plain := by
  cases x <;> cases y <;> first | exact ⟨trivial, trivial⟩ | (simp [D.cat] at h)

/-- What is asked of the cells of a slice's contents; no vals. -/
def CellsOK (P : Program) (T : Tab) (w : World) (Fr : Nat → Prop) (e : TypeId) (d : D) (cells : List Value) : Prop :=
  cells.length = d.len ∧ (∀ v ∈ cells, v.oneCell' = true) ∧ ArrOK P T w Fr e d cells.toArray 0 ∧ d.plain

theorem SK.val_one (k : SK) (n : Int) : (k.val n).oneCell' = true := by cases k <;> rfl

theorem cellsOK_ints {e : TypeId} {l : List Int} (hf : isFlatTy T e = true) : CellsOK P T w Fr e (.ints l) ((List.range l.length).map fun j => (kindAt (T.at e).ks j).val (rd l j)) := by
  refine ⟨by simp [D.len], ?_, ⟨hf, fun j hj => ?_⟩, trivial⟩
  · intro v hv
    simp only [List.mem_map] at hv
    obtain ⟨j, _, rfl⟩ := hv
    exact SK.val_one _ _
  · rw [Nat.zero_add, List.getElem?_toArray]
    simp [hj]

theorem firstCells_of {n size cap : Nat} {ad : Option Addr} {cells : List Value} (hn : cells.length = n * size) (h : n = 0 ∨ ∃ b o, ad = some ⟨b, o, none⟩ ∧ ∀ j v, cells[j]? = some v → w.cell? ⟨b, o + j, none⟩ = some v) (w' : World) (hw : w'.heap = w.heap) :
    (Builtin.firstCells size n (.slice ad n cap)).run P w' = .ok cells.toArray w' := by
  rcases h with rfl | ⟨b, o, rfl, hc⟩
  · have : cells = [] := List.eq_nil_of_length_eq_zero (by omega)
    subst this
    cases ad with
    | none => exact run_firstCells_none w' size 0 0 cap
    | some x => exact run_firstCells_some w' size 0 x 0 cap [] (by simp) (by intro j v hv; simp at hv)
  · refine run_firstCells_some w' size n ⟨b, o, none⟩ n cap cells hn fun j v hv => ?_
    rw [addr_add]
    have := hc j v hv
    simpa [World.cell?, hw] using this

/-- The contents of a slice, as the cells that are copied. -/
theorem contents_cells (h : RelAt P T w0 M N ρ s a w) {x : V} {u : Value} {e : TypeId} {d : D} (hx : LV P T w (FrOf s.blk ρ w) s.blk ρ x u) (hc : contents T s x = some (e, d)) (hnv : d.plain) :
    ∃ ad n cap cells, u = .slice ad n cap ∧ d.len = n * (T.at e).size ∧ CellsOK P T w (FrOf s.blk ρ w) e d cells ∧ ∀ w', w'.heap = w.heap → (Builtin.firstCells (T.at e).size n u).run P w' = .ok cells.toArray w' := by
  cases d with
  | ints l =>
    obtain ⟨hf, ad, n, cap, hu, hl, _, hcell⟩ := contents_SV h hx hc
    refine ⟨ad, n, cap, _, hu, hl, cellsOK_ints hf, fun w' hw => ?_⟩
    rw [hu]
    refine firstCells_of (w := w) (by simpa using hl) (hcell.imp id ?_) w' hw
    rintro ⟨b, o, h1, _, h3⟩
    refine ⟨b, o, h1, fun j v hv => ?_⟩
    have hj : j < l.length := by
      rcases Nat.lt_or_ge j l.length with hj | hj
      · exact hj
      · rw [List.getElem?_eq_none (by simp; omega)] at hv; cases hv
    simp [hj] at hv
    rw [h3 j hj, ← hv, Nat.zero_add]
  | rows xss =>
    cases x with
    | slr e' l' =>
      simp only [contents, Option.some.injEq, Prod.mk.injEq, D.rows.injEq] at hc
      obtain ⟨rfl, rfl⟩ := hc
      have := hx.slr_inv
      cases this with
      | flat _ _ h => exact h.elim
      | slr e e' xss ad m cap us b o h1 h2 h3 h4 h5 =>
        refine ⟨ad, m, cap, (List.range m).map us, rfl, by simp [D.len, h3, h4], ⟨by simp [D.len, h4], ?_, ⟨h2, h3, e', h1, ?_⟩, trivial⟩, ?_⟩
        · intro v hv
          simp only [List.mem_map, List.mem_range] at hv
          obtain ⟨j, hj, rfl⟩ := hv
          rcases h5 with h5 | ⟨_, _, _, h8⟩
          · omega
          · obtain ⟨_, _, _, _, hu, _⟩ := h8 j hj
            rw [hu]; rfl
        · intro j hj
          rcases h5 with h5 | ⟨_, _, _, h8⟩
          · omega
          · refine ⟨us j, ?_, h8 j (by omega)⟩
            have hj' : j < m := by rw [h4]; exact hj
            rw [Nat.zero_add, List.getElem?_toArray]
            simp [hj']
        · intro w' hw
          refine firstCells_of (w := w) (by simp [h3]) (h5.imp id ?_) w' hw
          rintro ⟨h6, _, h7, _⟩
          refine ⟨b, o, h6, fun j v hv => ?_⟩
          have hj : j < m := by
            rcases Nat.lt_or_ge j m with hj | hj
            · exact hj
            · rw [List.getElem?_eq_none (by simp; omega)] at hv; cases hv
          simp [hj] at hv
          rw [← hv]
          exact h7 j hj
    | slw k e' =>
      simp only [contents] at hc
      cases hx with
      | bv _ _ h => cases h with
        | flat _ _ h => exact h.elim
      | slw k e' bk b base lim n cap h1 h2 h3 h4 h5 h6 h7 h8 =>
        simp only [h1, Option.some.injEq, Prod.mk.injEq] at hc
        obtain ⟨rfl, hd⟩ := hc
        have hO := h.ob k bk h1
        rw [h4] at hO
        obtain ⟨arr, g1, g2, g3⟩ := hO
        rw [hd] at g3 h5
        obtain ⟨g3, g4, e2, g5, g6⟩ := g3
        rw [h2] at g3 g4 g5
        simp only [D.len] at h5
        have hval : ∀ j, j < n → ∃ u, arr[base + j]? = some u ∧ SV T w (FrOf s.blk ρ w) e2 (rdr xss j) u := fun j hj => g6 j (by rw [h5, g4]; omega)
        refine ⟨_, n, cap, (List.range n).map fun j => arr.getD (base + j) undef, rfl, h5, ⟨by simp [D.len, h5, g4], ?_, ⟨g3, g4, e2, g5, ?_⟩, trivial⟩, ?_⟩
        · intro v hv
          simp only [List.mem_map, List.mem_range] at hv
          obtain ⟨j, hj, rfl⟩ := hv
          obtain ⟨u, hu1, hu2⟩ := hval j hj
          obtain ⟨_, _, _, _, hu3, _⟩ := hu2
          rw [Array.getD_eq_getD_getElem?, hu1, Option.getD_some, hu3]; rfl
        · intro j hj
          rw [h5, g4] at hj
          obtain ⟨u, hu1, hu2⟩ := hval j (by omega)
          refine ⟨u, ?_, hu2⟩
          rw [Nat.zero_add, List.getElem?_toArray]
          simp [show j < n by omega, hu1]
        · intro w' hw
          refine firstCells_of (w := w) (by simp [g4]) (.inr ⟨b, base, rfl, fun j v hv => ?_⟩) w' hw
          have hj : j < n := by
            rcases Nat.lt_or_ge j n with hj | hj
            · exact hj
            · rw [List.getElem?_eq_none (by simp; omega)] at hv; cases hv
          simp [hj] at hv
          obtain ⟨u, hu1, _⟩ := hval j hj
          rw [rowCell g1, hu1, ← hv, hu1]
          rfl
      | slwNil k e' bk ad h1 h2 h3 h4 h5 =>
        simp only [h1, Option.some.injEq, Prod.mk.injEq] at hc
        obtain ⟨rfl, hd⟩ := hc
        have hO := h.ob k bk h1
        rw [h4] at hO
        obtain ⟨_, _, g3⟩ := hO
        rw [hd] at g3 h5
        rw [h2] at g3
        obtain ⟨q1, q2, e2, q3⟩ := g3
        simp only [D.len] at h5
        have hnil : xss = [] := List.eq_nil_of_length_eq_zero h5
        subst hnil
        refine ⟨_, 0, 0, [], rfl, by simp [D.len], ⟨rfl, by simp, ⟨q1, q2, e2, q3, fun j hj => by simp at hj⟩, trivial⟩, fun w' hw => firstCells_of (w := w) (by simp) (.inl rfl) w' hw⟩
    | sl k off n e' =>
      simp only [contents] at hc
      split at hc <;> simp at hc
    | slv e' l' => simp [contents] at hc
    | _ => simp [contents] at hc
  | vals vs => exact hnv.elim

/-- Cells put behind cells. -/
theorem ArrOK.cat (hT : TabOK P T) {e : TypeId} {d1 d2 d3 : D} {arr arr' : Array Value} {cells : List Value} {base n : Nat} (h1 : ArrOK P T w Fr e d1 arr base) (h2 : CellsOK P T w Fr e d2 cells) (hn : d1.len = n * (T.at e).size) (hcat : d1.cat d2 = some d3)
    (hold : ∀ j, j < d1.len → arr'[base + j]? = arr[base + j]?) (hnew : ∀ j, j < d2.len → arr'[base + d1.len + j]? = cells[j]?) : ArrOK P T w Fr e d3 arr' base ∧ d3.len = d1.len + d2.len := by
  obtain ⟨c1, c2, c3, c4⟩ := h2
  cases d1 with
  | ints l =>
    cases d2 with
    | ints m =>
      simp only [D.cat, Option.some.injEq] at hcat
      subst hcat
      simp only [D.len] at *
      refine ⟨⟨h1.1, fun j hj => ?_⟩, by simp⟩
      have hk := flat_len hT h1.1
      by_cases hjl : j < l.length
      · rw [hold j hjl, h1.2 j hjl, rd_append_lt hjl]
      · have h3 := c3.2 (j - l.length) (by simp at hj; omega)
        rw [Nat.zero_add, List.getElem?_toArray] at h3
        have h4 := hnew (j - l.length) (by simp at hj; omega)
        rw [show base + l.length + (j - l.length) = base + j by omega, h3] at h4
        rw [h4, rd_append_ge (by omega)]
        have : kindAt (T.at e).ks j = kindAt (T.at e).ks (j - l.length) := by
          have hh : j = n * (T.at e).ks.length + (j - l.length) := by rw [hk, ← hn]; omega
          rw [hh, kindAt_add]
          congr 1
          rw [hk, ← hn]
          omega
        rw [this]
    | _ => simp [D.cat] at hcat
  | rows xs =>
    cases d2 with
    | rows ys =>
      simp only [D.cat, Option.some.injEq] at hcat
      subst hcat
      simp only [D.len] at *
      obtain ⟨g1, g2, e', g3, g4⟩ := h1
      obtain ⟨k1, k2, e2, k3, k4⟩ := c3
      rw [g3] at k3
      injection k3 with k3
      subst k3
      refine ⟨⟨g1, g2, e', g3, fun j hj => ?_⟩, by simp⟩
      by_cases hjl : j < xs.length
      · obtain ⟨u, hu1, hu2⟩ := g4 j hjl
        refine ⟨u, (hold j hjl).trans hu1, ?_⟩
        have : rdr (xs ++ ys) j = rdr xs j := by simp only [rdr, List.getD_eq_getElem?_getD]; rw [List.getElem?_append_left hjl]
        rw [this]; exact hu2
      · obtain ⟨u, hu1, hu2⟩ := k4 (j - xs.length) (by simp at hj; omega)
        rw [Nat.zero_add, List.getElem?_toArray] at hu1
        have h4 := hnew (j - xs.length) (by simp at hj; omega)
        rw [show base + xs.length + (j - xs.length) = base + j by omega, hu1] at h4
        refine ⟨u, h4, ?_⟩
        have : rdr (xs ++ ys) j = rdr ys (j - xs.length) := by simp only [rdr, List.getD_eq_getElem?_getD]; rw [List.getElem?_append_right (by omega)]
        rw [this]; exact hu2
    | _ => simp [D.cat] at hcat
  | vals vs => simp [D.cat] at hcat

theorem run_append_room' {t u ty e e2 : TypeId} {i : TypeInfo} (ht : P.underlying t = some (.slice e)) (hu : P.underlying u = some (.slice e2)) (hi : P.info? e = some i) {ad ax : Option Addr} {n cap m c : Nat} {news : List Value}
    (hroom : n + m ≤ cap) (hnew : (Builtin.firstCells i.size m (.slice ax m c)).run P w = .ok news.toArray w) :
    (Builtin.append_ #[t, u] ty #[.slice ad n cap, .slice ax m c]).run P w = match ad with
      | some x => ((storeCells (x.add (n * i.size)) news).run P w).andThen fun _ w' => .ok (.slice ad (n + m) cap) w'
      | none => .ok (.slice ad (n + m) cap) w := by
  cases ad with
  | none => simp [Builtin.append_, run_underlying ht, run_underlying hu, sizeOf, typeInfo, hi, Builtin.lenOf, hroom, hnew]
  | some x => simp [Builtin.append_, run_underlying ht, run_underlying hu, sizeOf, typeInfo, hi, Builtin.lenOf, hroom, hnew]

theorem run_append_more {t u ty e e2 : TypeId} {i : TypeInfo} {z : Value} (ht : P.underlying t = some (.slice e)) (hu : P.underlying u = some (.slice e2)) (hi : P.info? e = some i) (hz : i.zero = some z) {ad ax : Option Addr} {n cap m c : Nat} {olds news : List Value}
    (hgrow : cap < n + m) (hbig : n + m ≤ bigLen) (hby : i.bytes ≤ 1024) (hold : (Builtin.firstCells i.size n (.slice ad n cap)).run P w.drew = .ok olds.toArray w.drew) (hnew : (Builtin.firstCells i.size m (.slice ax m c)).run P w.drew = .ok news.toArray w.drew) :
    (Builtin.append_ #[t, u] ty #[.slice ad n cap, .slice ax m c]).run P w = .ok (.slice (some ⟨w.heap.size, 0, none⟩) (n + m) (grownCap w (n + m) cap e))
      (w.drew.alloc (.cells (olds.toArray ++ news.toArray ++ Builtin.zeroCells z.cells (grownCap w (n + m) cap e - (n + m))) e)) := by
  have h1 : ¬ (n + m ≤ cap) := by omega
  have hq : (n + m) * i.bytes ≤ 140737488355328 := by
    have : (n + m) * i.bytes ≤ bigLen * 1024 := Nat.mul_le_mul hbig hby
    simp only [bigLen] at this
    omega
  have h63' : ¬ (9223372036854775807 < ((n : Int) + (m : Int))) := by simp only [bigLen] at hbig; omega
  have h48' : ¬ (281474976710656 < Builtin.nextslicecap (n + m) cap * i.bytes) := by
    have := growslice_fits (need := n + m) (old := cap) (bytes := i.bytes) (by omega) hq
    omega
  simp [Builtin.append_, run_underlying ht, run_underlying hu, sizeOf, typeInfo, zeroValue, hi, hz, Builtin.lenOf, h1, h63', h48', Question.forced, hold, hnew, newRow, grownCap]
  congr 2
  apply Array.ext'
  simp [List.append_assoc]
end Go.Ev
end

section
/- append, clear: what they do to the state. -/
namespace Go.Ev
open Go.RowKit (Below)

variable {P : Program} {T : Tab} {w0 w : World} {M : Nat → Prop} {ρ : Nat → Loc} {N : Nat → Loc × Blk} {s : St} {a : Act} {Fr : Nat → Prop} {blk : Nat → Option Blk}

theorem D.cat_len {x y z : D} (h : x.cat y = some z) : z.len = x.len + y.len := by
  cases x <;> cases y <;> simp only [D.cat, Option.some.injEq, reduceCtorEq] at h <;> subst h <;> simp [D.len]

theorem contents_known (hT : TabOK P T) {e : TypeId} {d : D} {cells : List Value} (h : CellsOK P T w Fr e d cells) : known T e = true := by
  obtain ⟨_, _, h3, h4⟩ := h
  cases d with
  | ints l => exact flat_known hT h3.1
  | rows l => obtain ⟨_, _, e', h5, _⟩ := h3; unfold known; rw [h5]
  | vals l => exact h4.elim

theorem obNil {e : TypeId} {d d3 : D} {cells : List Value} {y : D} (h : CellsOK P T w Fr e d cells) (hcat : d.cat y = some d3) (h0 : d3.len = 0) {Fr' : Nat → Prop} {w' : World} : OB P T w' Fr' ⟨e, false, d3⟩ none := by
  obtain ⟨_, _, h3, h4⟩ := h
  refine ⟨rfl, h0, ?_⟩
  cases d with
  | ints l =>
    cases y <;> simp only [D.cat, Option.some.injEq, reduceCtorEq] at hcat
    subst hcat
    exact h3.1
  | rows l =>
    cases y <;> simp only [D.cat, Option.some.injEq, reduceCtorEq] at hcat
    subst hcat
    obtain ⟨q1, q2, e', q3, _⟩ := h3
    exact ⟨q1, q2, e', q3⟩
  | vals l => exact h4.elim

theorem does_append (hT : TabOK P T) (h : RelAt P T w0 M N ρ s a w) {d : Nat} (hd : d < s.n) {c : Call} {x y : Operand} {t u e e2 : TypeId} (hc : c.callee = .builtin .append) (ha : c.args.toList = [x, y]) (hty : c.argTypes.toList = [t, u])
    (ht : (T.at t).d = .slice e) (hu : (T.at u).d = .slice e2) {k : Nat} (hkk : k < s.n) {bk : Blk} (hk : s.blk k = some bk) (hbe : bk.e = e) {d1 d2 d3 : D} (hcx : contents T s (s.ev x) = some (e, d1)) (hcy : contents T s (s.ev y) = some (e, d2)) (hcat : d1.cat d2 = some d3)
    (hbig : d1.len + d2.len ≤ bigLen) (hx : s.ev x = .slw k e ∨ ∃ off n, s.ev x = .sl k off n e) : Does P T w0 M N (.call c) a w d (((s.kill k).setB k ⟨e, false, d3⟩).put d (.slw k e)) := by
  intro o ho
  have hdt := (hT t).desc
  rw [ht] at hdt
  have hdu := (hT u).desc
  rw [hu] at hdu
  obtain ⟨hv1, hv2⟩ := D.cat_plain hcat
  obtain ⟨ad, n, cap, olds, hux, hn, hco, hfo⟩ := contents_cells h (h.ev x) hcx hv1
  obtain ⟨ax, m, cx, news, huy, hm, hcn, hfn⟩ := contents_cells h (h.ev y) hcy hv2
  have hkn := contents_known hT hco
  obtain ⟨ti, z, z1, z2, z3, z4, z5, z6, _⟩ := hT.info' (known_ne hkn)
  have hlen := D.cat_len hcat
  have hsum : n + m ≤ bigLen := by
    rw [hn, hm, ← Nat.add_mul] at hbig
    exact Nat.le_trans (Nat.le_mul_of_pos_right _ z6) hbig
  have hlen3 : d3.len = (n + m) * (T.at e).size := by rw [hlen, hn, hm, ← Nat.add_mul]
  -- where the slice lies
  have hloc : n ≤ cap ∧ cap ≤ maxLen ∧ (cap = 0 ∨ ∃ b base base' lim, ρ k = some (b, base, lim) ∧ ad = some ⟨b, base', none⟩ ∧ base' + cap * (T.at e).size ≤ lim ∧ ∀ arr, w.heap[b]? = some (.cells arr e (0, 0)) → ArrOK P T w (FrOf s.blk ρ w) e d1 arr base') := by
    have hv := h.ev x
    rw [hux] at hv
    rcases hx with hx | ⟨off, n', hx⟩
    · rw [hx] at hv hcx
      simp only [contents, hk, Option.some.injEq, Prod.mk.injEq, true_and] at hcx
      cases hv with
      | bv _ _ h => cases h with
        | flat _ _ h => exact h.elim
      | slw _ _ bk' b base lim n cap h1 h2 h3 h4 h5 h6 h7 h8 =>
        rw [hk] at h1
        injection h1 with h1
        subst h1
        refine ⟨h6, h7, .inr ⟨b, base, base, lim, h4, rfl, h8, fun arr harr => ?_⟩⟩
        have hO := h.ob k _ hk
        rw [h4] at hO
        obtain ⟨arr', g1, g2, g3⟩ := hO
        rw [hbe] at g1 g3
        rw [harr] at g1
        simp only [Option.some.injEq, Obj.cells.injEq, true_and] at g1
        rw [g1.1, ← hcx]
        exact g3
      | slwNil _ _ bk' ad h1 h2 h3 h4 h5 => exact ⟨Nat.le_refl _, Nat.zero_le _, .inl rfl⟩
    · rw [hx] at hv hcx
      cases hv with
      | bv _ _ h => cases h with
        | flat _ _ h => exact h.elim
      | sl _ _ _ _ e0 r l ad cap h1 h2 h3 h4 h5 h5r h6 h7 h8 =>
        simp only [contents, h1, Option.some.injEq, Prod.mk.injEq, true_and] at hcx
        subst hcx
        refine ⟨h6, h7, h8.imp id ?_⟩
        rintro ⟨b, base, lim, g1, g2, g3⟩
        refine ⟨b, base, base + off, lim, g1, g2, g3, fun arr harr => ⟨h3, fun j hj => ?_⟩⟩
        rw [win_length _ _ _ h4] at hj
        have hO := h.ob k _ h1
        rw [g1] at hO
        obtain ⟨arr', q1, q2, q3⟩ := hO
        rw [hk] at h1
        injection h1 with h1
        rw [h1] at hbe
        simp only at hbe
        subst hbe
        simp only at q1
        rw [harr] at q1
        simp only [Option.some.injEq, Obj.cells.injEq, true_and] at q1
        rw [q1.1, Nat.add_assoc, q3.2 (off + j) (by omega), h5 j hj, rd_win _ _ _ _ hj]
  obtain ⟨hncap, hmax, hloc⟩ := hloc
  have hexec : (execOp a.eval o).run P w = ((Builtin.append_ #[t, u] o.type #[.slice ad n cap, .slice ax m cx]).run P w).andThen fun v w' => .ok (.value v) w' := by
    rw [exec_builtin _ c o ho hc, args_two ha, tys_two hty, hux, huy]
    unfold builtin
    simp only
    rw [Sem.run_bind]
    rfl
  have hK := h.kill k
  have hno : (∀ t, V.has k ((s.kill k).get t) = false) ∧ k < (s.kill k).n := ⟨noRef_kill s k, hkk⟩
  by_cases hroom : n + m ≤ cap
  · have hnew0 := hfn w rfl
    rw [huy, ← z2] at hnew0
    have hrun := run_append_room' (ty := o.type) (w := w) hdt hdu z1 (ad := ad) (n := n) hroom hnew0
    rcases hloc with hcap | ⟨b, base, base', lim, l1, l2, l3, l4⟩
    · have hn0 : n = 0 := by omega
      have hm0 : m = 0 := by omega
      subst hn0 hm0 hcap
      have hnews : news = [] := List.eq_nil_of_length_eq_zero (by rw [hcn.1, hm]; omega)
      subst hnews
      have hres : (execOp a.eval o).run P w = .ok (.value (.slice ad 0 0)) w := by
        rw [hexec, hrun]
        cases ad <;> rfl
      have h0 : d3.len = 0 := by rw [hlen3]; omega
      have hrel := hK.change (bk' := ⟨e, false, d3⟩) (loc' := none) (w' := w) (by rw [blk_kill]; exact hk) rfl rfl rfl (Nat.le_refl _) (fun _ _ _ => rfl) (by intro b base lim e'; cases e') (fun _ => obNil hco hcat h0) (.inl hno)
      exact ⟨_, w, hres, _, hrel.put (by exact hd) (.slwNil k e ⟨e, false, d3⟩ ad (blk_setB_self _ _ _) rfl rfl (upd_self _ _ _) h0)⟩
    · have hO := h.ob k bk hk
      rw [l1, ] at hO
      obtain ⟨arr, g1, g2, g3⟩ := hO
      rw [hbe] at g1
      obtain ⟨arr', a1, a2, a3⟩ := storeCells_run P (o := base' + n * (T.at e).size) (vs := news) g1 (by
        rw [hcn.1, hm, Nat.add_assoc, ← Nat.add_mul]
        have : (n + m) * (T.at e).size ≤ cap * (T.at e).size := Nat.mul_le_mul_right _ hroom
        omega) hcn.2.1
      have hres : (execOp a.eval o).run P w = .ok (.value (.slice ad (n + m) cap)) (w.setRow b arr') := by
        rw [hexec, hrun, l2]
        simp only [addr_add, z2]
        rw [a1]
        rfl
      have hrel := hK.change (bk' := ⟨e, false, d3⟩) (loc' := some (b, base', lim)) (w' := w.setRow b arr') (by rw [blk_kill]; exact hk) rfl rfl rfl (by simp) (by
          intro b' _ hne
          exact heap_setRow_ne w arr' fun e' => hne base lim (by rw [e']; exact l1)) (by
          intro b1 base1 lim1 e'
          simp only [Option.some.injEq, Prod.mk.injEq] at e'
          obtain ⟨rfl, rfl, rfl⟩ := e'
          exact ⟨by simpa using (h.loc k bk b base lim hk l1).1, .inl ⟨base, lim, l1⟩⟩) (by
          intro hl
          refine ⟨arr', setRow_heap w b arr arr' e (0, 0) g1, by omega, ?_⟩
          refine ArrOK.later ?_ hl
          rw [blk_kill]
          refine (ArrOK.cat hT (l4 arr g1) hcn hn hcat (fun j hj => ?_) (fun j hj => ?_)).1
          · rw [a3, if_neg (by rw [hn] at hj; omega)]
          · rw [a3, if_pos (by rw [hcn.1, hn]; omega)]
            congr 1
            rw [hn]
            omega) (.inl hno)
      refine ⟨_, _, hres, _, hrel.put (by exact hd) ?_⟩
      rw [l2]
      exact .slw k e ⟨e, false, d3⟩ b base' lim (n + m) cap (blk_setB_self _ _ _) rfl rfl (upd_self _ _ _) hlen3 hroom hmax l3
  · have hold0 := hfo w.drew rfl
    rw [hux, ← z2] at hold0
    have hnew0 := hfn w.drew rfl
    rw [huy, ← z2] at hnew0
    have hrun := run_append_more (ty := o.type) (w := w) hdt hdu z1 z4 (by omega) hsum z3 hold0 hnew0
    have hneed : n + m ≤ maxLen := by simp only [bigLen] at hsum; simp only [maxLen]; omega
    have hge := grownCap_ge w (n + m) cap e
    have hle := grownCap_le_maxLen w (n + m) cap e hneed
    generalize hN : grownCap w (n + m) cap e = N at *
    have hres : (execOp a.eval o).run P w = .ok (.value (.slice (some ⟨w.heap.size, 0, none⟩) (n + m) N)) (w.drew.alloc (.cells (olds.toArray ++ news.toArray ++ Builtin.zeroCells z.cells (N - (n + m))) e)) := by
      rw [hexec, hrun]
      rfl
    generalize hA : olds.toArray ++ news.toArray ++ Builtin.zeroCells z.cells (N - (n + m)) = A at *
    have hAsz : A.size = N * (T.at e).size := by
      rw [← hA]
      simp only [Array.size_append, List.size_toArray, size_zeroCells, z5]
      rw [hco.1, hcn.1, hn, hm, ← Nat.add_mul, ← Nat.add_mul]
      congr 1
      omega
    have hB : Below w.heap.size w (w.drew.alloc (.cells A e)) := ((Below.refl w.heap.size w).drew).alloc (Nat.le_refl _) _
    have hrel := hK.change (bk' := ⟨e, false, d3⟩) (loc' := some (w.heap.size, 0, A.size)) (w' := w.drew.alloc (.cells A e)) (by rw [blk_kill]; exact hk) rfl rfl rfl (by simp) (fun b' hb' _ => hB.block b' hb') (by
        intro b1 base1 lim1 e'
        simp only [Option.some.injEq, Prod.mk.injEq] at e'
        obtain ⟨rfl, rfl, rfl⟩ := e'
        exact ⟨by simp, .inr (Nat.le_refl _)⟩) (by
        intro hl
        refine ⟨A, heap_alloc_new w.drew _, rfl, ?_⟩
        refine ArrOK.later ?_ hl
        rw [blk_kill]
        refine (ArrOK.cat hT hco.2.2.1 hcn hn hcat (fun j hj => ?_) (fun j hj => ?_)).1
        · rw [← hA, Array.append_assoc, Array.getElem?_append_left (by simp [hco.1]; omega)]
        · rw [← hA, Nat.zero_add, Array.append_assoc, Array.getElem?_append_right (by simp [hco.1])]
          rw [Array.getElem?_append_left (by simp [hco.1, hcn.1]; omega)]
          simp [hco.1]) (.inl hno)
    exact ⟨_, _, hres, _, hrel.put (by exact hd) (.slw k e ⟨e, false, d3⟩ w.heap.size 0 A.size (n + m) N (blk_setB_self _ _ _) rfl rfl (upd_self _ _ _) hlen3 hge hle (by rw [hAsz]; omega))⟩

theorem does_clear (hT : TabOK P T) (h : RelAt P T w0 M N ρ s a w) {c : Call} {x : Operand} {t e : TypeId} (hc : c.callee = .builtin .clear) (ha : c.args.toList = [x]) (hty : c.argTypes.toList = [t]) (ht : (T.at t).d = .slice e)
    {k off n : Nat} {t0 : TypeId} {r : Bool} {l : List Int} (hx : s.ev x = .sl k off n e) (hk : s.blk k = some ⟨t0, r, .ints l⟩) :
    DoesN P T w0 M N (.call c) a w (s.setB k ⟨t0, r, .ints (setWin l off (n * (T.at e).size) (List.replicate (n * (T.at e).size) 0))⟩) := by
  intro o ho
  have hdt := (hT t).desc
  rw [ht] at hdt
  have hv := h.ev x
  rw [hx] at hv
  generalize hu : a.eval x = u at hv
  cases hv with
  | bv _ _ h => cases h with
    | flat _ _ h => exact h.elim
  | sl _ _ _ _ e0 r0 l0 ad cap h1 h2 h3 h4 h5 h5r h6 h7 h8 =>
    rw [hk] at h1
    injection h1 with h1
    injection h1 with e1 e2 e3
    subst e1 e2
    injection e3 with e3
    subst e3
    obtain ⟨s1, s2⟩ := setWin_spec (l := l) (m := List.replicate (n * (T.at e).size) 0) h4 (by simp)
    have hexec : (execOp a.eval o).run P w = ((Builtin.clear_ #[t] o.type #[.slice ad n cap]).run P w).andThen fun v w' => .ok (.value v) w' := by
      rw [exec_builtin _ c o ho hc, args_one ha, tys_one hty, hu]
      unfold builtin
      simp only
      rw [Sem.run_bind]
      rfl
    by_cases hn0 : n = 0
    · subst hn0
      have hsame : setWin l off (0 * (T.at e).size) (List.replicate (0 * (T.at e).size) 0) = l := by simp [setWin]
      refine ⟨.value (.tuple #[]), w, ?_, .inr ⟨_, rfl⟩, ?_⟩
      · rw [hexec]
        unfold Builtin.clear_
        simp only [List.getElem?_toArray, List.getElem?_cons_zero]
        rw [Sem.run_bind, run_underlying hdt]
        cases ad <;> rfl
      · rw [hsame]
        refine ⟨_, h.change (bk' := ⟨t0, r, .ints l⟩) (loc' := ρ k) hk rfl rfl rfl (Nat.le_refl _) (fun _ _ _ => rfl) (fun b base lim e' => ⟨(h.loc k _ b base lim hk e').1, .inl ⟨base, lim, e'⟩⟩) (fun hl => ?_) (.inr ⟨⟨rfl, rfl, rfl⟩, rfl⟩)⟩
        have hO := h.ob k _ hk
        cases hρ : ρ k with
        | none => rw [hρ] at hO; exact hO
        | some q =>
          obtain ⟨b, base, lim⟩ := q
          rw [hρ] at hO
          obtain ⟨arr, g1, g2, g3⟩ := hO
          exact ⟨arr, g1, g2, g3.later (by rw [hρ] at hl; exact hl)⟩
    · rcases h8 with h8 | ⟨b, base, lim, g1, g2, g3⟩
      · omega
      · have hO := h.ob k _ hk
        rw [g1] at hO
        obtain ⟨arr, o1, o2, o3⟩ := hO
        obtain ⟨ti, z, z1, z2, z3, z4, z5⟩ := zero_cells hT h3
        obtain ⟨ti', z', y1, y2, y3, y4, y5, y6, y7, _⟩ := hT.info' (flat_ne hT h3)
        rw [z1] at y1
        injection y1 with y1
        subst y1
        rw [z3] at y4
        injection y4 with y4
        subst y4
        have hzc : (Builtin.zeroCells z.cells n).toList.length = n * (T.at e).size := by simp [size_zeroCells, z4]
        have hpos := flat_pos hT h3
        have hku := flat_len hT h3
        have hnc : n * (T.at e).size ≤ cap * (T.at e).size := Nat.mul_le_mul_right _ h6
        have hzget : ∀ j, j < n * (T.at e).size → (Builtin.zeroCells z.cells n).toList[j]? = some ((kindAt (T.at e).ks j).val 0) := by
          intro j hj
          have hh := rows_zero hT h3 z1 z3 (n * (T.at e).size) j hj
          rw [Array.getElem?_toList]
          simp only [madeCells, Builtin.zeroCells, z4] at hh ⊢
          exact hh
        obtain ⟨arr', a1, a2, a3⟩ := storeCells_run P (o := base + off) (vs := (Builtin.zeroCells z.cells n).toList) o1 (by rw [hzc]; omega) (by
          intro v hv
          obtain ⟨j, hj⟩ := List.getElem?_of_mem hv
          have hjl : j < n * (T.at e).size := by
            rcases Nat.lt_or_ge j (n * (T.at e).size) with hh | hh
            · exact hh
            · rw [List.getElem?_eq_none (by rw [hzc]; exact hh)] at hj; cases hj
          rw [hzget j hjl] at hj
          injection hj with hj
          rw [← hj]
          exact SK.val_one _ _)
        refine ⟨.value (.tuple #[]), _, ?_, .inr ⟨_, rfl⟩, writeBlock h hk g1 o1 s1 a2 o2 ⟨h2, fun j hj => ?_⟩⟩
        · rw [hexec]
          unfold Builtin.clear_
          simp only [List.getElem?_toArray, List.getElem?_cons_zero]
          rw [Sem.run_bind, run_underlying hdt, g2]
          cases n with
          | zero => omega
          | succ n' =>
            simp only [Result.andThen_ok]
            rw [Sem.run_bind, run_zeroValue z1 z3, Result.andThen_ok, Sem.run_bind, a1]
            rfl
        · rw [s1] at hj
          rw [a3, s2 j hj, hzc]
          by_cases c1 : off ≤ j ∧ j < off + n * (T.at e).size
          · rw [if_pos (by omega), if_pos c1, hzget _ (by omega)]
            have := h5 (j - off) (by omega)
            rw [show off + (j - off) = j by omega] at this
            rw [this, show base + j - (base + off) = j - off by omega]
            congr 2
            simp [rd, show j - off < n * (T.at e).size by omega]
          · rw [if_neg (by omega), if_neg c1]
            exact o3.2 j hj

theorem run_copy {t u ty e e2 : TypeId} {i : TypeInfo} (ht : P.underlying t = some (.slice e)) (hi : P.info? e = some i) {ad ax : Option Addr} {n cap m c : Nat} {news : List Value}
    (hnew : (Builtin.firstCells i.size (Nat.min m n) (.slice ax m c)).run P w = .ok news.toArray w) :
    (Builtin.copy_ #[t, u] ty #[.slice ad n cap, .slice ax m c]).run P w = match ad with
      | some x => ((storeCells x news).run P w).andThen fun _ w' => .ok (.int .i64 ((Nat.min m n : Nat) : Int)) w'
      | none => .ok (.int .i64 ((Nat.min m n : Nat) : Int)) w := by
  cases ad with
  | none => simp [Builtin.copy_, run_underlying ht, sizeOf, typeInfo, hi, Builtin.lenOf, hnew, goInt]
  | some x => simp [Builtin.copy_, run_underlying ht, sizeOf, typeInfo, hi, Builtin.lenOf, hnew, goInt]

theorem does_copy (hT : TabOK P T) (h : RelAt P T w0 M N ρ s a w) {d : Nat} (hd : d < s.n) {c : Call} {x y : Operand} {t u e e2 : TypeId} (hc : c.callee = .builtin .copy) (ha : c.args.toList = [x, y]) (hty : c.argTypes.toList = [t, u])
    (ht : (T.at t).d = .slice e) (_hu : (T.at u).d = .slice e2) {k off n : Nat} {t0 : TypeId} {r : Bool} {l q : List Int} (hk : s.blk k = some ⟨t0, r, .ints l⟩) (hq : contents T s (s.ev y) = some (e, .ints q))
    (hx : s.ev x = .sl k off n e ∨ (s.ev x = .slw k e ∧ off = 0 ∧ t0 = e ∧ n = cnt (T.at e).size l)) :
    Does P T w0 M N (.call c) a w d ((s.setB k ⟨t0, r, .ints (copyI (T.at e).size l off n q)⟩).put d (.int .i64 (min (cnt (T.at e).size q) n : Nat))) := by
  intro o ho
  have hdt := (hT t).desc
  rw [ht] at hdt
  obtain ⟨hfe, ax, m, cx, huy, hlq, _, hcell⟩ := contents_SV h (h.ev y) hq
  have hpos := flat_pos hT hfe
  have hcq : cnt (T.at e).size q = m := by unfold cnt; rw [hlq]; exact Nat.mul_div_cancel _ hpos
  obtain ⟨ti, z, z1, z2, z3, z4, z5, z6, _⟩ := hT.info' (flat_ne hT hfe)
  -- where it goes
  have hdst : ∃ ad cap, a.eval x = .slice ad n cap ∧ isFlatTy T t0 = true ∧ off + n * (T.at e).size ≤ l.length ∧ (∀ j, j < n * (T.at e).size → kindAt (T.at t0).ks (off + j) = kindAt (T.at e).ks j) ∧
      (n = 0 ∨ ∃ b base lim, ρ k = some (b, base, lim) ∧ ad = some ⟨b, base + off, none⟩) := by
    have hv := h.ev x
    rcases hx with hx | ⟨hx, h0, hte, hn⟩
    · rw [hx] at hv
      generalize a.eval x = ux at hv
      cases hv with
      | bv _ _ h => cases h with
        | flat _ _ h => exact h.elim
      | sl _ _ _ _ e0 r0 l0 ad cap h1 h2 h3 h4 h5 h5r h6 h7 h8 =>
        rw [hk] at h1
        injection h1 with h1
        injection h1 with e1 e2 e3
        injection e3 with e3
        subst e1 e2 e3
        refine ⟨ad, cap, rfl, h2, h4, h5, ?_⟩
        rcases h8 with h8 | ⟨b, base, lim, g1, g2, _⟩
        · exact .inl (by omega)
        · exact .inr ⟨b, base, lim, g1, g2⟩
    · subst h0 hte
      rw [hx] at hv
      generalize a.eval x = ux at hv
      have hO := h.ob k _ hk
      cases hv with
      | bv _ _ h => cases h with
        | flat _ _ h => exact h.elim
      | slw _ _ bk b base lim n' cap h1 h2 h3 h4 h5 h6 h7 h8 =>
        rw [hk] at h1
        injection h1 with h1
        subst h1
        have h5 : l.length = n' * (T.at t0).size := h5
        have hnn : n = n' := by rw [hn]; unfold cnt; rw [h5]; exact Nat.mul_div_cancel _ hpos
        subst hnn
        exact ⟨_, cap, rfl, hfe, by omega, fun j _ => by rw [Nat.zero_add], .inr ⟨b, base, lim, h4, by rw [Nat.add_zero]⟩⟩
      | slwNil _ _ bk ad h1 h2 h3 h4 h5 =>
        rw [hk] at h1
        injection h1 with h1
        subst h1
        have h5 : l.length = 0 := h5
        have hnn : n = 0 := by rw [hn]; unfold cnt; rw [h5]; exact Nat.zero_div _
        subst hnn
        exact ⟨ad, 0, rfl, hfe, by omega, fun j hj => by omega, .inl rfl⟩
  obtain ⟨ad, cap, hux, hft0, hfit, hkinds, hloc⟩ := hdst
  -- what is copied
  have hmm : min (cnt (T.at e).size q) n = Nat.min m n := by rw [hcq]
  have hmm' : Nat.min m n ≤ m ∧ Nat.min m n ≤ n := ⟨Nat.min_le_left _ _, Nat.min_le_right _ _⟩
  generalize hN : Nat.min m n = mm at hmm hmm'
  have hmq : mm * (T.at e).size ≤ q.length := by rw [hlq]; exact Nat.mul_le_mul_right _ hmm'.1
  have hmn : mm * (T.at e).size ≤ n * (T.at e).size := Nat.mul_le_mul_right _ hmm'.2
  have hlen : (q.take (mm * (T.at e).size)).length = mm * (T.at e).size := by rw [List.length_take]; omega
  let news : List Value := (List.range (mm * (T.at e).size)).map fun j => (kindAt (T.at e).ks j).val (rd q j)
  have hnl : news.length = mm * (T.at e).size := by simp [news]
  have hng : ∀ j, j < mm * (T.at e).size → news[j]? = some ((kindAt (T.at e).ks j).val (rd q j)) := by intro j hj; simp [news, hj]
  have hfirst : (Builtin.firstCells ti.size mm (.slice ax m cx)).run P w = .ok news.toArray w := by
    rw [z2]
    rcases hcell with hm0 | ⟨b, o', h1, _, h3⟩
    · have hmm0 : mm = 0 := by omega
      subst hmm0
      have hnil : news = [] := List.eq_nil_of_length_eq_zero (by rw [hnl]; omega)
      rw [hnil]
      cases ax with
      | none => exact run_firstCells_none w _ _ _ _
      | some x0 => exact run_firstCells_some w _ 0 x0 m cx [] (by simp) (by intro j v hv; simp at hv)
    · rw [h1]
      refine run_firstCells_some w _ mm ⟨b, o', none⟩ m cx news hnl fun j v hv => ?_
      rw [addr_add]
      have hj : j < mm * (T.at e).size := by
        rcases Nat.lt_or_ge j (mm * (T.at e).size) with hj | hj
        · exact hj
        · rw [List.getElem?_eq_none (by rw [hnl]; exact hj)] at hv; cases hv
      rw [hng j hj] at hv
      injection hv with hv
      rw [← hv]
      have := h3 j (by omega)
      rw [Nat.zero_add] at this
      exact this
  have hexec : (execOp a.eval o).run P w = ((Builtin.copy_ #[t, u] o.type #[.slice ad n cap, .slice ax m cx]).run P w).andThen fun v w' => .ok (.value v) w' := by
    rw [exec_builtin _ c o ho hc, args_two ha, tys_two hty, hux, huy]
    unfold builtin
    simp only
    rw [Sem.run_bind]
    rfl
  have hcopy := run_copy (P := P) (w := w) (u := u) (ty := o.type) (e2 := e2) hdt z1 (ad := ad) (ax := ax) (n := n) (cap := cap) (m := m) (c := cx) (news := news) (by rw [hN]; exact hfirst)
  rw [hN] at hcopy
  obtain ⟨s1, s2⟩ := setWin_spec (l := l) (m := q.take (mm * (T.at e).size)) (off := off) (n := mm * (T.at e).size) (by omega) hlen
  have hci : copyI (T.at e).size l off n q = setWin l off (mm * (T.at e).size) (q.take (mm * (T.at e).size)) := by unfold copyI; rw [hmm]
  rw [hci, hmm]
  have hput : ∀ {w' : World} {ρ' : Nat → Loc} {s1 : St}, RelAt P T w0 M N ρ' s1 a w' → d < s1.n → RelAt P T w0 M N ρ' (s1.put d (.int .i64 (mm : Int))) (a.put (some d) (.int .i64 (mm : Int))) w' := fun hr hlt => hr.put hlt (.flatV rfl)
  by_cases hmm0 : mm = 0
  · subst hmm0
    have hnil : news = [] := List.eq_nil_of_length_eq_zero (by rw [hnl]; omega)
    have hsame : setWin l off (0 * (T.at e).size) (q.take (0 * (T.at e).size)) = l := by simp [setWin]
    rw [hsame]
    refine ⟨.int .i64 ((0 : Nat) : Int), w, ?_, ρ, hput ?_ hd⟩
    · rw [hexec, hcopy, hnil]
      cases ad <;> rfl
    · exact h.ext rfl (fun _ => rfl) fun j => by
        by_cases ej : j = k
        · subst ej; rw [blk_setB_self]; exact hk.symm
        · rw [blk_setB_ne _ _ (Ne.symm ej)]
  · rcases hloc with hn0 | ⟨b, base, lim, g1, g2⟩
    · omega
    · have hO := h.ob k _ hk
      rw [g1] at hO
      obtain ⟨arr, o1, o2, o3⟩ := hO
      have hsz : off + mm * (T.at e).size ≤ l.length := by omega
      have hcov : base + l.length ≤ arr.size := by
        have hp : 0 < l.length := by
          have := Nat.mul_le_mul (Nat.one_le_iff_ne_zero.2 hmm0) hpos
          omega
        have := o3.2 (l.length - 1) (by omega)
        have hlt : base + (l.length - 1) < arr.size := by
          rcases Nat.lt_or_ge (base + (l.length - 1)) arr.size with hh | hh
          · exact hh
          · rw [Array.getElem?_eq_none hh] at this; cases this
        omega
      obtain ⟨arr', a1, a2, a3⟩ := storeCells_run P (o := base + off) (vs := news) o1 (by rw [hnl]; omega) (by
        intro v hv
        obtain ⟨j, hj⟩ := List.getElem?_of_mem hv
        have hjl : j < mm * (T.at e).size := by
          rcases Nat.lt_or_ge j (mm * (T.at e).size) with hh | hh
          · exact hh
          · rw [List.getElem?_eq_none (by rw [hnl]; exact hh)] at hj; cases hj
        rw [hng j hjl] at hj
        injection hj with hj
        rw [← hj]
        exact SK.val_one _ _)
      obtain ⟨ρ', hw⟩ := writeBlock h hk g1 o1 s1 a2 o2 ⟨hft0, fun j hj => by
        rw [s1] at hj
        rw [a3, s2 j hj, hnl]
        by_cases c1 : off ≤ j ∧ j < off + mm * (T.at e).size
        · rw [if_pos (by omega), if_pos c1, show base + j - (base + off) = j - off by omega, hng _ (by omega)]
          have := hkinds (j - off) (by omega)
          rw [show off + (j - off) = j by omega] at this
          rw [this]
          congr 2
          unfold rd
          rw [List.getD_eq_getElem?_getD, List.getD_eq_getElem?_getD, List.getElem?_take, if_pos (by omega)]
        · rw [if_neg (by omega), if_neg c1]
          exact o3.2 j hj⟩
      refine ⟨.int .i64 (mm : Int), _, ?_, ρ', hput hw hd⟩
      rw [hexec, hcopy, g2]
      simp only
      rw [a1]
      rfl

end Go.Ev
end

section
/- All operations that call nothing. -/
namespace Go.Ev
open Go.RowKit (Below)

variable {P : Program} {T : Tab} {w0 w : World} {M : Nat → Prop} {ρ : Nat → Loc} {N : Nat → Loc × Blk} {s : St} {a : Act}

theorem opR_sound (hT : TabOK P T) (hE : EqTabOK P T) (h : RelAt P T w0 M N ρ s a w) {d : Nat} (hd : d < s.n) {op : Op} {s' : St} (hop : opR T s d op = .ok true s') : Does P T w0 M N op a w d s' := by
  cases op with
  | move x =>
    obtain ⟨_, rfl⟩ := putOk_inv hop
    exact does_move h hd x
  | assign x =>
    obtain ⟨_, rfl⟩ := putOk_inv hop
    exact does_assign h hd x
  | alloc t =>
    simp only [opR] at hop
    cases hf : isFlatTy T t with
    | true =>
      rw [hf] at hop
      obtain ⟨h1, _, rfl⟩ := allocB_inv hop
      exact does_alloc hT h hd h1 (.inl ⟨hf, rfl⟩)
    | false =>
      rw [hf] at hop
      simp only [cond_false] at hop
      split at hop
      · rename_i ht
        obtain ⟨h1, _, rfl⟩ := allocB_inv hop
        exact does_alloc hT h hd h1 (.inr (.inl ⟨ht, rfl⟩))
      · rename_i e ht
        obtain ⟨h1, _, rfl⟩ := allocB_inv hop
        exact does_alloc hT h hd h1 (.inr (.inr ⟨e, ht, rfl⟩))
      · cases hop
  | build t ps =>
    simp only [opR] at hop
    split at hop
    · rename_i fs ht
      obtain ⟨hf, h1⟩ := cond_ok hop
      split at h1
      · rename_i l hl
        obtain ⟨_, rfl⟩ := putOk_inv h1
        exact does_build hT h hd hf (.inl ⟨fs, ht, hl⟩)
      · cases h1
    · rename_i n e ht
      obtain ⟨hf, h1⟩ := cond_ok hop
      split at h1
      · rename_i l hl
        obtain ⟨_, rfl⟩ := putOk_inv h1
        exact does_build hT h hd hf (.inr ⟨n, e, ht, hl⟩)
      · cases h1
    · cases hop
  | load t p =>
    simp only [opR] at hop
    split at hop
    · rename_i v hv
      obtain ⟨_, rfl⟩ := putOk_inv hop
      exact does_load hT h hd hv
    · cases hop
  | nilCheck x =>
    simp only [opR] at hop
    split at hop
    · rename_i k off t he
      obtain ⟨_, rfl⟩ := putOk_inv hop
      rw [← he]
      exact does_nilCheck h hd (.inl ⟨k, off, t, he⟩)
    · rename_i t0 l off t he
      obtain ⟨_, rfl⟩ := putOk_inv hop
      rw [← he]
      exact does_nilCheck h hd (.inr (.inl ⟨t0, l, off, t, he⟩))
    · rename_i vs off t he
      obtain ⟨_, rfl⟩ := putOk_inv hop
      rw [← he]
      exact does_nilCheck h hd (.inr (.inr ⟨vs, off, t, he⟩))
    · cases hop
  | binOp op t x y t' =>
    simp only [opR] at hop
    split at hop
    · rename_i b v hv
      obtain ⟨hb, rfl⟩ := putOk_inv hop
      rw [← hb] at hv
      exact does_binOp hT hE h hd hv
    · cases hop
  | unOp op t x =>
    simp only [opR] at hop
    split at hop
    · rename_i k n he
      obtain ⟨_, rfl⟩ := putOk_inv hop
      exact does_neg h hd he
    · rename_i b he
      obtain ⟨_, rfl⟩ := putOk_inv hop
      exact does_not h hd he
    · cases hop
  | convert u t x =>
    simp only [opR] at hop
    split at hop
    · rename_i k j n ht he
      obtain ⟨hk, h1⟩ := cond_ok hop
      obtain ⟨_, rfl⟩ := putOk_inv h1
      exact does_convert hT h hd hk ht he
    · cases hop
  | makeFunc fn first cap =>
    cases fn with
    | func f =>
      obtain ⟨_, rfl⟩ := putOk_inv hop
      exact does_makeFunc h hd f first cap
    | _ => simp [opR] at hop
  | makeSlice t n c =>
    simp only [opR] at hop
    split at hop
    · rename_i e k i j q ht hn hc
      obtain ⟨hf, h1⟩ := cond_ok hop
      split at h1
      · cases h1
      · rename_i hb
        simp only [Out.ok.injEq, Bool.and_eq_true, decide_eq_true_eq, beq_iff_eq] at h1
        obtain ⟨⟨g1, g2, rfl⟩, rfl⟩ := h1
        exact does_makeSlice hT h hd hb ht hf hn hc g1 g2
    · cases hop
  | slice t x lo hi mx =>
    cases mx with
    | some m => simp [opR] at hop
    | none =>
      simp only [opR] at hop
      split at hop
      · rename_i b he
        split at hop
        · rename_i c l m ht hb
          obtain ⟨hc, rfl⟩ := putOk_inv hop
          rw [← hc] at hb
          exact does_sliceStr hT h hd ht he hb
        · cases hop
      · rename_i e l he
        obtain ⟨hs, h1⟩ := cond_ok hop
        split at h1
        · rename_i c p m hb
          obtain ⟨hc, rfl⟩ := putOk_inv h1
          rw [← hc] at hb
          exact does_sliceSlv hT h hd (isSliceOf_eq hs) he hb
        · cases h1
      · rename_i k e he
        obtain ⟨hs, h1⟩ := cond_ok hop
        obtain ⟨hs1, hs2⟩ := and_true hs
        split at h1
        · rename_i n e0 r q hn hk
          split at h1
          · rename_i c p m hb
            obtain ⟨hc, rfl⟩ := putOk_inv h1
            rw [← hc] at hb
            exact does_sliceSlw hT h hd (isSliceOf_eq hs1) he hn hk hs2 hb
          · cases h1
        · cases h1
      · rename_i k off n e he
        obtain ⟨hs, h1⟩ := cond_ok hop
        split at h1
        · rename_i c p m hb
          obtain ⟨hc, rfl⟩ := putOk_inv h1
          rw [← hc] at hb
          exact does_sliceSl hT h hd (isSliceOf_eq hs) he hb
        · cases h1
      · rename_i k off u he
        obtain ⟨hs, h1⟩ := cond_ok hop
        obtain ⟨hs1, hs2⟩ := and_true hs
        have hs1 := Nat.eq_of_beq_eq_true hs1
        subst hs1
        split at h1
        · rename_i n e e0 r q ht hk
          split at h1
          · rename_i c p m hb
            obtain ⟨hn, h2⟩ := cond_ok h1
            obtain ⟨hc, rfl⟩ := putOk_inv h2
            rw [← hc] at hb
            have hn := Nat.le_of_ble_eq_true hn
            exact does_slicePtr hT h hd ht hs2 he ⟨e0, r, q, hk⟩ (by simp only [bigLen] at hn; simp only [maxLen]; omega) hb
          · cases h1
        · cases h1
      · cases hop
  | fieldAddr t x i =>
    simp only [opR] at hop
    split at hop
    · rename_i fs ht
      split at hop
      · rename_i o u hf
        obtain ⟨hk, h1⟩ := cond_ok hop
        split at h1
        · rename_i k off t' he
          obtain ⟨hq, h2⟩ := cond_ok h1
          have hq := Nat.eq_of_beq_eq_true hq
          subst hq
          obtain ⟨_, rfl⟩ := putOk_inv h2
          exact does_fieldAddr hT h hd ht hf hk (.inl ⟨k, off, he, rfl⟩)
        · rename_i t0 l off t' he
          obtain ⟨hq, h2⟩ := cond_ok h1
          have hq := Nat.eq_of_beq_eq_true hq
          subst hq
          obtain ⟨_, rfl⟩ := putOk_inv h2
          exact does_fieldAddr hT h hd ht hf hk (.inr (.inl ⟨t0, l, off, he, rfl⟩))
        · rename_i vs off t' he
          obtain ⟨hq, h2⟩ := cond_ok h1
          have hq := Nat.eq_of_beq_eq_true hq
          subst hq
          obtain ⟨_, rfl⟩ := putOk_inv h2
          exact does_fieldAddr hT h hd ht hf hk (.inr (.inr ⟨vs, off, he, rfl⟩))
        · cases h1
      · cases hop
    · cases hop
  | field t x i =>
    simp only [opR] at hop
    split at hop
    · rename_i fs ht
      split at hop
      · rename_i o u hf
        split at hop
        · rename_i t' l he
          obtain ⟨hq, h2⟩ := cond_ok hop
          obtain ⟨hq, _⟩ := and_true hq
          have hq := Nat.eq_of_beq_eq_true hq
          subst hq
          obtain ⟨_, rfl⟩ := putOk_inv h2
          exact does_field hT h hd ht hf he
        · cases hop
      · cases hop
    · cases hop
  | indexAddr t x i =>
    simp only [opR] at hop
    split at hop
    · rename_i k n hi
      split at hop
      · rename_i b v hv
        obtain ⟨hb, rfl⟩ := putOk_inv hop
        rw [← hb] at hv
        exact does_indexAddr hT h hd hi hv
      · cases hop
    · cases hop
  | index t x i =>
    simp only [opR] at hop
    split at hop
    · rename_i k n hi
      split at hop
      · rename_i t' l he
        obtain ⟨hq, h1⟩ := cond_ok hop
        have hq := Nat.eq_of_beq_eq_true hq
        subst hq
        split at h1
        · rename_i m e ht
          obtain ⟨hf, h2⟩ := cond_ok h1
          obtain ⟨hb, rfl⟩ := putOk_inv h2
          have hb := hb.symm
          simp only [Bool.and_eq_true, decide_eq_true_eq] at hb
          exact does_indexArr hT h hd ht he hi hb
        · cases h1
      · rename_i b he
        obtain ⟨hf, h2⟩ := cond_ok hop
        obtain ⟨hb, rfl⟩ := putOk_inv h2
        have hb := hb.symm
        simp only [Bool.and_eq_true, decide_eq_true_eq] at hb
        exact does_indexStr hT h hd (isStrD_eq hf) he hi hb
      · cases hop
    · cases hop
  | extract x i =>
    simp only [opR] at hop
    split at hop
    · rename_i vs he
      split at hop
      · rename_i v hv
        obtain ⟨_, rfl⟩ := putOk_inv hop
        exact does_extract h hd he hv
      · cases hop
    · cases hop
  | box t x =>
    simp only [opR] at hop
    split at hop
    · rename_i b he
      obtain ⟨h1, h2⟩ : _ ∧ allocB s d ⟨t, true, .vals [.str b]⟩ (.ptr d 0 t) = .ok true s' := by
        cases hq : (!known T t || (T.at t).d.isAgg) with
        | true => rw [hq] at hop; cases hop
        | false => rw [hq] at hop; exact ⟨hq, hop⟩
      obtain ⟨h3, _, rfl⟩ := allocB_inv h2
      rw [← he]
      exact does_box_val h hd h3 (.inl ⟨b, he⟩)
    · rename_i e l he
      obtain ⟨h1, h2⟩ : _ ∧ allocB s d ⟨t, true, .vals [.slv e l]⟩ (.ptr d 0 t) = .ok true s' := by
        cases hq : (!known T t || (T.at t).d.isAgg) with
        | true => rw [hq] at hop; cases hop
        | false => rw [hq] at hop; exact ⟨hq, hop⟩
      obtain ⟨h3, _, rfl⟩ := allocB_inv h2
      rw [← he]
      exact does_box_val h hd h3 (.inr (.inl ⟨e, l, he⟩))
    · rename_i e l he
      obtain ⟨h1, h2⟩ : _ ∧ allocB s d ⟨t, true, .vals [.slr e l]⟩ (.ptr d 0 t) = .ok true s' := by
        cases hq : (!known T t || (T.at t).d.isAgg) with
        | true => rw [hq] at hop; cases hop
        | false => rw [hq] at hop; exact ⟨hq, hop⟩
      obtain ⟨h3, _, rfl⟩ := allocB_inv h2
      rw [← he]
      exact does_box_val h hd h3 (.inr (.inr (.inl ⟨e, l, he⟩)))
    · rename_i e g he
      obtain ⟨h1, h2⟩ : _ ∧ allocB s d ⟨t, true, .vals [.cloB e g]⟩ (.ptr d 0 t) = .ok true s' := by
        cases hq : (!known T t || (T.at t).d.isAgg) with
        | true => rw [hq] at hop; cases hop
        | false => rw [hq] at hop; exact ⟨hq, hop⟩
      obtain ⟨h3, _, rfl⟩ := allocB_inv h2
      rw [← he]
      exact does_box_val h hd h3 (.inr (.inr (.inr (.inl ⟨e, g, he⟩))))
    · rename_i e e' g he
      obtain ⟨h1, h2⟩ : _ ∧ allocB s d ⟨t, true, .vals [.cloL e e' g]⟩ (.ptr d 0 t) = .ok true s' := by
        cases hq : (!known T t || (T.at t).d.isAgg) with
        | true => rw [hq] at hop; cases hop
        | false => rw [hq] at hop; exact ⟨hq, hop⟩
      obtain ⟨h3, _, rfl⟩ := allocB_inv h2
      rw [← he]
      exact does_box_val h hd h3 (.inr (.inr (.inr (.inr ⟨e, e', g, he⟩))))
    · obtain ⟨hq, h1⟩ := cond_ok hop
      obtain ⟨q1, q2⟩ := and_true hq
      split at h1
      · rename_i l hl
        obtain ⟨h3, _, rfl⟩ := allocB_inv h1
        exact does_box_flat hT h hd h3 q1 q2 hl
      · cases h1
  | buildSlice t n ps =>
    simp only [opR] at hop
    split at hop
    · rename_i e ht
      cases hf : isFlatTy T e with
      | true =>
        rw [hf] at hop
        simp only [cond_true] at hop
        split at hop
        · rename_i l hl
          obtain ⟨hn, h1⟩ := cond_ok hop
          obtain ⟨h3, _, rfl⟩ := allocB_inv h1
          exact does_buildFlat hT h hd h3 ht hf (Nat.le_of_ble_eq_true hn) hl
        · cases hop
      | false =>
        rw [hf] at hop
        simp only [cond_false] at hop
        split at hop
        · rename_i e' he
          split at hop
          · rename_i q ks hr
            obtain ⟨hq, h1⟩ := cond_ok hop
            obtain ⟨q1, q2⟩ := and_true hq
            obtain ⟨q2, q3⟩ := and_true q2
            obtain ⟨q3, q4⟩ := and_true q3
            obtain ⟨h3, _, rfl⟩ := allocB_inv h1
            exact does_buildRows hT h hd ht he hf (Nat.eq_of_beq_eq_true q4) (Nat.le_of_ble_eq_true q3) hr (Nat.eq_of_beq_eq_true q1) h3
          · cases hop
        · cases hop
    · cases hop
  | call c =>
    simp only [opR] at hop
    split at hop
    · rename_i x t hc ha hty
      split at hop
      · rename_i b he
        obtain ⟨hq, h1⟩ := cond_ok hop
        obtain ⟨_, rfl⟩ := putOk_inv h1
        exact does_lenStr hT h hd hc ha hty (isStrD_eq hq) he
      · obtain ⟨hq, h1⟩ := cond_ok hop
        obtain ⟨e, he⟩ := isSliceD_eq hq
        split at h1
        · rename_i n hn
          obtain ⟨_, rfl⟩ := putOk_inv h1
          exact does_len hT h hd hc ha hty he hn
        · cases h1
    · rename_i x y hc ha
      split at hop
      · rename_i k p j q hx hy
        obtain ⟨_, rfl⟩ := putOk_inv hop
        exact does_min h hd hc ha hx hy
      · cases hop
    · rename_i x y hc ha
      split at hop
      · rename_i k p j q hx hy
        obtain ⟨_, rfl⟩ := putOk_inv hop
        exact does_max h hd hc ha hx hy
      · cases hop
    · rename_i x y t u hc ha hty
      split at hop
      · cases hop
      · rename_i e' m hm
        split at hop
        · rename_i k e he
          obtain ⟨hq, h1⟩ := cond_ok hop
          obtain ⟨qk, hq⟩ := and_true hq
          have qk : k < s.n := Nat.le_of_ble_eq_true qk
          obtain ⟨q1, q2⟩ := and_true hq
          obtain ⟨_, q2⟩ := and_true q2
          obtain ⟨q2, q3⟩ := and_true q2
          have q1 := Nat.eq_of_beq_eq_true q1
          subst q1
          obtain ⟨e2, he2⟩ := isSliceD_eq q3
          split at h1
          · rename_i e0 r0 b hk
            obtain ⟨g1, h2⟩ := cond_ok h1
            obtain ⟨g1, _⟩ := and_true g1
            have g1 := Nat.eq_of_beq_eq_true g1
            subst g1
            split at h2
            · rename_i r hcat
              simp only [Out.ok.injEq, decide_eq_true_eq] at h2
              obtain ⟨hbig, rfl⟩ := h2
              exact does_append hT h hd hc ha hty (isSliceOf_eq q2) he2 qk hk rfl (by rw [he]; simp only [contents, hk]) hm hcat hbig (.inl he)
            · cases h2
          · cases h1
        · rename_i k off n e he
          obtain ⟨hq, h1⟩ := cond_ok hop
          obtain ⟨qk, hq⟩ := and_true hq
          have qk : k < s.n := Nat.le_of_ble_eq_true qk
          obtain ⟨q1, q2⟩ := and_true hq
          obtain ⟨_, q2⟩ := and_true q2
          obtain ⟨q2, q3⟩ := and_true q2
          have q1 := Nat.eq_of_beq_eq_true q1
          subst q1
          obtain ⟨e2, he2⟩ := isSliceD_eq q3
          split at h1
          · rename_i e0 r0 l r hk
            obtain ⟨g1, h2⟩ := cond_ok h1
            obtain ⟨g1, _⟩ := and_true g1
            have g1 := Nat.eq_of_beq_eq_true g1
            subst g1
            simp only [Out.ok.injEq, decide_eq_true_eq] at h2
            obtain ⟨hbig, rfl⟩ := h2
            refine does_append (d1 := .ints (win l off (n * (T.at e0).size))) hT h hd hc ha hty (isSliceOf_eq q2) he2 qk hk rfl (by rw [he]; simp only [contents, hk]) hm rfl ?_ (.inr ⟨off, n, he⟩)
            have hv := h.ev x
            rw [he] at hv
            generalize a.eval x = u at hv
            cases hv with
            | bv _ _ h => cases h with
              | flat _ _ h => exact h.elim
            | sl _ _ _ _ e1 r1 l1 ad cap g1 g2 g3 g4 =>
              rw [hk] at g1
              injection g1 with g1
              injection g1 with _ _ g1
              injection g1 with g1
              subst g1
              simp only [D.len]
              rw [win_length _ _ _ g4]
              exact hbig
          · cases h1
        · cases hop
    · rename_i x y t u hc ha hty
      split at hop
      · rename_i e' q hq
        split at hop
        · rename_i k e he
          obtain ⟨hh, h1⟩ := cond_ok hop
          obtain ⟨q1, q2⟩ := and_true hh
          obtain ⟨q2, q3⟩ := and_true q2
          have q1 := Nat.eq_of_beq_eq_true q1
          subst q1
          obtain ⟨e2, he2⟩ := isSliceD_eq q3
          split at h1
          · rename_i t0 r l hk
            obtain ⟨g1, h2⟩ := cond_ok h1
            have g1 := Nat.eq_of_beq_eq_true g1
            simp only [Out.ok.injEq, true_and] at h2
            subst h2
            exact does_copy hT h hd hc ha hty (isSliceOf_eq q2) he2 hk hq (.inr ⟨he, rfl, g1, rfl⟩)
          · cases h1
        · rename_i k off n e he
          obtain ⟨hh, h1⟩ := cond_ok hop
          obtain ⟨q1, q2⟩ := and_true hh
          obtain ⟨q2, q3⟩ := and_true q2
          have q1 := Nat.eq_of_beq_eq_true q1
          subst q1
          obtain ⟨e2, he2⟩ := isSliceD_eq q3
          split at h1
          · rename_i t0 r l hk
            simp only [Out.ok.injEq, true_and] at h1
            subst h1
            exact does_copy hT h hd hc ha hty (isSliceOf_eq q2) he2 hk hq (.inl he)
          · cases h1
        · cases hop
      · cases hop
    · cases hop
  | _ => simp [opR] at hop

theorem opN_sound (hT : TabOK P T) (h : RelAt P T w0 M N ρ s a w) {op : Op} {s' : St} (hop : opN T s op = .ok true s') : DoesN P T w0 M N op a w s' := by
  cases op with
  | store t p x =>
    simp only [opN] at hop
    split at hop
    · rename_i k off u hp
      obtain ⟨hq, h1⟩ := cond_ok hop
      obtain ⟨q1, q2⟩ := and_true hq
      have q1 := Nat.eq_of_beq_eq_true q1
      subst q1
      split at h1
      · rename_i t0 r l m hk hm
        obtain ⟨hf, h2⟩ := cond_ok h1
        simp only [Out.ok.injEq, true_and] at h2
        subst h2
        exact does_store hT h hp q2 hk hm hf
      · cases h1
    · cases hop
  | call c =>
    simp only [opN] at hop
    split at hop
    · rename_i x t hc ha hty
      split at hop
      · rename_i k off n e he
        obtain ⟨hq, h1⟩ := cond_ok hop
        split at h1
        · rename_i t0 r l hk
          simp only [Out.ok.injEq, true_and] at h1
          subst h1
          exact does_clear hT h hc ha hty (isSliceOf_eq hq) he hk
        · cases h1
      · cases hop
    · cases hop
  | _ => simp [opN] at hop
end Go.Ev
end

