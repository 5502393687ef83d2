import Derived.Test.YtkdpdmfkomnalaaE3
import Derived.DeepKeys3
import Derived.ChangeMaps5
set_option linter.unusedVariables false
set_option linter.unusedSimpArgs false
section
/- Maps: keys, look-ups, entries. -/
namespace Go.Ev
open Go.RowKit (Below)

variable {P : Program} {T : Tab} {w0 w : World} {M : Mo} {ρ : Nat → Loc} {N : Nat → Loc × Blk} {s : St} {a : Act} {Fr : Nat → Prop} {blk : Nat → Option Blk}

/-- A value of type t whose cells are told by l. -/
def KV (T : Tab) (t : TypeId) (l : List Int) (x : Value) : Prop :=
  l.length = (T.at t).size ∧ ((T.at t).d.isAgg = true → ∃ arr : Array Value, x = .agg arr ∧ arr.toList = zipV (T.at t).ks l) ∧ (∀ sk, (T.at t).d = .sc sk → ∃ n, l = [n] ∧ x = sk.val n)

theorem win_eq_payI {T : Tab} {u : TypeId} {l : List Int} {off : Nat} (h : off + (T.at u).size ≤ l.length) : payI (T.at u) u none l off = win l off (T.at u).size := by
  obtain ⟨p1, p2⟩ := payI_spec (ti := T.at u) (t := u) (t0 := none) (l := l) (off := off) h (by simp)
  apply List.ext_getElem?
  intro j
  have hlw := win_length l off (T.at u).size h
  by_cases hj : j < (T.at u).size
  · have q1 := p2 j hj
    have q2 := rd_win l off _ j hj
    rw [← q2] at q1
    simp only [rd, List.getD_eq_getElem?_getD] at q1
    rw [List.getElem?_eq_getElem (by omega), List.getElem?_eq_getElem (by omega)] at q1 ⊢
    simpa using q1
  · rw [List.getElem?_eq_none (by omega), List.getElem?_eq_none (by omega)]

theorem part_KV (hT : TabOK P T) {t u : TypeId} {l : List Int} {off : Nat} {arr : Array Value} (hfl : isFlatTy T t = true) (hfu : isFlatTy T u = true) (harr : arr.toList = zipV (T.at t).ks l) (hl : l.length = (T.at t).size)
    (ho : off + (T.at u).size ≤ (T.at t).size) (hk : ∀ j, j < (T.at u).size → (T.at t).ks[off + j]? = (T.at u).ks[j]?) (w : World) : ∃ x, (part u arr off).run P w = .ok x w ∧ KV T u (win l off (T.at u).size) x := by
  obtain ⟨x, h1, h2⟩ := part_run hT hfl hfu harr hl ho hk w
  refine ⟨x, h1, win_length _ _ _ (by omega), ?_, ?_⟩
  · intro ha
    have hld : loadI (T.at u) u none l off = .agg u (win l off (T.at u).size) := by
      rw [← win_eq_payI (by omega)]
      unfold loadI payI
      cases hdd : (T.at u).d with
      | sc sk => rw [hdd] at ha; cases ha
      | _ => rfl
    rw [hld] at h2
    obtain ⟨_, _, _, arr', q1, q2⟩ := h2
    exact ⟨arr', q1, q2⟩
  · intro sk hd
    have hks := ((hT u).flat hfu)
    rw [hd] at hks
    have hs : (T.at u).size = 1 := by rw [← hks.1, hks.2]; rfl
    refine ⟨rd l off, ?_, ?_⟩
    · rw [hs]
      apply List.ext_getElem?
      intro j
      cases j with
      | zero => simp [win, rd, List.getElem?_eq_getElem (show off < l.length by omega)]
      | succ j => simp [win]; omega
    · have : loadI (T.at u) u none l off = sk.mk (rd l off) := by unfold loadI; rw [hd]
      rw [this] at h2
      cases sk with
      | int k => exact h2
      | bool => exact h2

theorem keyTy_flat {n : Nat} {t : TypeId} (h : keyTy T n t = true) (ha : (T.at t).d.isAgg = true) : isFlatTy T t = true := by
  cases n with
  | zero => cases h
  | succ n =>
    unfold keyTy at h
    cases hd : (T.at t).d with
    | struct fs => rw [hd] at h; simp only [Bool.and_eq_true] at h; exact h.1
    | arr m e => rw [hd] at h; simp only [Bool.and_eq_true] at h; exact h.1
    | _ => rw [hd] at ha; cases ha

theorem win_drop (l : List Int) (off n : Nat) : l.drop off = win l off n ++ l.drop (off + n) := by
  rw [win, ← List.drop_drop, List.take_append_drop]

/-- Keys are compared cell by cell, and may be keys. -/
theorem key_run (hT : TabOK P T) (hE : EqTabOK P T) : ∀ (n : Nat) (t : TypeId), keyTy T n t = true → ∀ (d : Nat), n ≤ d → ∀ (l m : List Int) (x y : Value) (w : World), KV T t l x → KV T t m y →
    (Op.equalIn d t x y).run P w = .ok (eqL l m) w ∧ ∀ em, (Instr.checkKey em d t x).run P w = .ok () w := by
  intro n
  induction n with
  | zero => intro t h; cases h
  | succ n ih =>
    intro t ht d hd l m x y w hx hy
    obtain ⟨d, rfl⟩ : ∃ d', d = d' + 1 := ⟨d - 1, by omega⟩
    have hd : n ≤ d := by omega
    unfold keyTy at ht
    cases hdt : (T.at t).d with
    | sc sk =>
      rw [hdt] at ht
      cases sk with
      | bool => cases ht
      | int k =>
        obtain ⟨p, rfl, rfl⟩ := hx.2.2 _ hdt
        obtain ⟨q, rfl, rfl⟩ := hy.2.2 _ hdt
        have hdf := (hT t).desc
        rw [hdt] at hdf
        refine ⟨?_, fun em => ?_⟩
        · rw [eqL_one]
          exact run_equalIn_int w d t k k _ _ hdf
        · rw [Instr.checkKey]
          simp only [Sem.run_bind, run_underlying hdf, Result.andThen_ok]
          rfl
    | struct fs =>
      rw [hdt] at ht
      simp only [Bool.and_eq_true] at ht
      obtain ⟨hfl, hall⟩ := ht
      have hag : (T.at t).d.isAgg = true := by rw [hdt]; rfl
      obtain ⟨xs, rfl, hxs⟩ := hx.2.1 hag
      obtain ⟨ys, rfl, hys⟩ := hy.2.1 hag
      have hl := hx.1
      have hm := hy.1
      have hde := (hT t).desc
      rw [hdt] at hde
      obtain ⟨F, hF, hFs⟩ := hde
      have hfo : P.fieldsOf t = F := by simp [Program.fieldsOf, hF]
      have hq := hE t fs hfl hdt
      have hnames := hq.names F hF
      obtain ⟨c, c1, c2, c3⟩ := hq.run fs hdt
      have hkeys : ∀ f ∈ F.toList, keyTy T n f.type = true := by
        intro f hf
        exact List.all_eq_true.1 hall (f.offset, f.type) (by rw [← hFs]; exact List.mem_map.2 ⟨f, hf, rfl⟩)
      have key : ∀ (L : List Field) (off : Nat), (∀ f ∈ L, f.name ≠ "_") → (∀ f ∈ L, keyTy T n f.type = true) → c (L.map fun f => (f.offset, f.type)) off → off ≤ (T.at t).size →
          (Op.eqFields d xs ys L).run P w = .ok (eqL (l.drop off) (m.drop off)) w ∧ ∀ f ∈ L, ∃ x, (part f.type xs f.offset).run P w = .ok x w ∧ ∀ em, (Instr.checkKey em d f.type x).run P w = .ok () w := by
        intro L
        induction L with
        | nil =>
          intro off _ _ hc _
          have := c2 off hc
          rw [List.drop_of_length_le (by omega), List.drop_of_length_le (by omega)]
          exact ⟨rfl, fun f hf => by cases hf⟩
        | cons f L ihL =>
          intro off h1 h2 hc hoff
          obtain ⟨e1, e2, e3, e4, e5⟩ := c3 _ _ _ hc
          simp only at e1 e2 e3 e4 e5
          obtain ⟨x, hx1, hx2⟩ := part_KV hT (u := f.type) (off := f.offset) hfl e3 hxs hl (by omega) (by rw [e1]; exact e5) w
          obtain ⟨y, hy1, hy2⟩ := part_KV hT (u := f.type) (off := f.offset) hfl e3 hys hm (by omega) (by rw [e1]; exact e5) w
          obtain ⟨r1, r2⟩ := ihL (off + (T.at f.type).size) (fun g hg => h1 g (List.mem_cons_of_mem _ hg)) (fun g hg => h2 g (List.mem_cons_of_mem _ hg)) e4 e2
          obtain ⟨g1, g2⟩ := ih f.type (h2 f List.mem_cons_self) d hd _ _ x y w hx2 hy2
          have hn := h1 f List.mem_cons_self
          constructor
          · rw [win_drop l off (T.at f.type).size, win_drop m off (T.at f.type).size, eqL_append _ _ _ _ (by rw [win_length _ _ _ (by omega), win_length _ _ _ (by omega)])]
            rw [e1] at g1
            simp only [Op.eqFields, hn, ne_eq, not_false_eq_true, if_true, Sem.run_bind, hx1, hy1, Result.andThen_ok, g1]
            cases eqL (win l off (T.at f.type).size) (win m off (T.at f.type).size) with
            | true => simpa using r1
            | false => rfl
          · intro g hg
            rcases List.mem_cons.1 hg with rfl | hg
            · exact ⟨x, hx1, g2⟩
            · exact r2 g hg
      obtain ⟨k1, k2⟩ := key F.toList 0 hnames hkeys (by rw [hFs]; exact c1) (Nat.zero_le _)
      refine ⟨?_, fun em => ?_⟩
      · rw [run_equalIn_struct w d t xs ys (by rw [hfo]; exact hF) hq.held, hfo]
        simpa using k1
      · rw [Instr.checkKey]
        simp only [Sem.run_bind, run_underlying hF, Result.andThen_ok]
        rw [← Array.forIn_toList]
        clear key k1 hkeys hfo
        generalize F.toList = L at k2 hnames
        induction L with
        | nil => simp
        | cons f L ihL =>
          obtain ⟨v, v1, v2⟩ := k2 f (by simp)
          have hn := hnames f (by simp)
          simp only [List.forIn_cons, Sem.run_bind, hn, ne_eq, not_false_eq_true, if_true, Result.andThen_ok, v1, v2 em, Sem.run_pure]
          exact ihL (fun g hg => k2 g (by simp [hg])) (fun g hg => hnames g (by simp [hg]))
    | arr k e =>
      rw [hdt] at ht
      simp only [Bool.and_eq_true] at ht
      obtain ⟨hfl, hke⟩ := ht
      have hag : (T.at t).d.isAgg = true := by rw [hdt]; rfl
      obtain ⟨xs, rfl, hxs⟩ := hx.2.1 hag
      obtain ⟨ys, rfl, hys⟩ := hy.2.1 hag
      have hl := hx.1
      have hm := hy.1
      have hde := (hT t).desc
      rw [hdt] at hde
      have hks := ((hT t).flat hfl).2
      rw [hdt] at hks
      obtain ⟨q1, q2, q3⟩ := hks
      obtain ⟨ti, z, i1, i2, _⟩ := hT.info' (flat_ne hT q1)
      have key : ∀ (r j : Nat), j + r = k → (forIn (List.range' j r) ((none : Option Bool), PUnit.unit) (fun i _ => (do
            if !(← Op.equalIn d e (← part e xs (i * (T.at e).size)) (← part e ys (i * (T.at e).size))) then pure (ForInStep.done ((some false : Option Bool), PUnit.unit)) else pure (ForInStep.yield ((none : Option Bool), PUnit.unit)) : Sem (ForInStep (Option Bool × PUnit))))).run P w = .ok (if eqL (l.drop (j * (T.at e).size)) (m.drop (j * (T.at e).size)) then none else some false, PUnit.unit) w ∧
          ∀ i ∈ List.range' j r, ∃ x, (part e xs (i * (T.at e).size)).run P w = .ok x w ∧ ∀ em, (Instr.checkKey em d e x).run P w = .ok () w := by
        intro r
        induction r with
        | zero =>
          intro j hj
          have : j = k := by omega
          subst this
          rw [List.drop_of_length_le (by omega), List.drop_of_length_le (by omega)]
          exact ⟨by simp [eqL], fun i hi => by simp at hi⟩
        | succ r ihr =>
          intro j hj
          have hle : j * (T.at e).size + (T.at e).size ≤ (T.at t).size := by
            rw [q2, ← Nat.succ_mul]; exact Nat.mul_le_mul_right _ (by omega)
          obtain ⟨x, hx1, hx2⟩ := part_KV hT (u := e) (off := j * (T.at e).size) hfl q1 hxs hl hle (fun i hi => q3 j i (by omega) hi) w
          obtain ⟨y, hy1, hy2⟩ := part_KV hT (u := e) (off := j * (T.at e).size) hfl q1 hys hm hle (fun i hi => q3 j i (by omega) hi) w
          obtain ⟨r1, r2⟩ := ihr (j + 1) (by omega)
          obtain ⟨g1, g2⟩ := ih e hke d hd _ _ x y w hx2 hy2
          rw [Nat.succ_mul] at r1
          constructor
          · rw [win_drop l _ (T.at e).size, win_drop m _ (T.at e).size, eqL_append _ _ _ _ (by rw [win_length _ _ _ (by omega), win_length _ _ _ (by omega)])]
            simp only [List.range'_succ, List.forIn_cons, Sem.run_bind, hx1, hy1, g1, Result.andThen_ok]
            cases eqL (win l (j * (T.at e).size) (T.at e).size) (win m (j * (T.at e).size) (T.at e).size) with
            | true =>
              simp only [Bool.not_true, Bool.true_and]
              simpa using r1
            | false => simp
          · intro i hi
            rw [List.range'_succ] at hi
            rcases List.mem_cons.1 hi with rfl | hi
            · exact ⟨x, hx1, g2⟩
            · exact r2 i hi
      obtain ⟨k1, k2⟩ := key k 0 (by omega)
      simp only [Nat.zero_mul, List.drop_zero] at k1
      refine ⟨?_, fun em => ?_⟩
      · rw [Op.equalIn]
        simp only [Sem.run_bind, run_underlying hde, Result.andThen_ok, run_sizeOf i1, i2]
        simp only [Std.Legacy.Range.forIn_eq_forIn_range', Std.Legacy.Range.size, Nat.sub_zero, Nat.add_one_sub_one, Nat.div_one]
        rw [k1]
        cases eqL l m <;> rfl
      · rw [Instr.checkKey]
        simp only [Sem.run_bind, run_underlying hde, Result.andThen_ok]
        simp only [Std.Legacy.Range.forIn_eq_forIn_range', Std.Legacy.Range.size, Nat.sub_zero, Nat.add_one_sub_one, Nat.div_one]
        clear k1 key
        generalize List.range' 0 k = L at k2
        induction L with
        | nil => simp
        | cons j L ihL =>
          obtain ⟨v, v1, v2⟩ := k2 j (by simp)
          simp only [List.forIn_cons, Sem.run_bind, run_sizeOf i1, i2, Result.andThen_ok, v1, v2 em, Sem.run_pure]
          exact ihL (fun g hg => k2 g (by simp [hg]))
    | _ => rw [hdt] at ht; cases ht

end Go.Ev
end

section
/- Maps: what is found, what is put. -/
namespace Go.Ev
open Go.RowKit (Below)
open Go.ChangeMaps (setBlock heap_setBlock_same heap_setBlock_other)

variable {P : Program} {T : Tab} {w0 w : World} {M : Mo} {ρ : Nat → Loc} {N : Nat → Loc × Blk} {s : St} {a : Act} {Fr : Nat → Prop} {blk : Nat → Option Blk}

def idxK {α : Type} : List (List Int × α) → List Int → Option Nat
  | [], _ => none
  | (k, _) :: r, q => cond (eqL q k) (some 0) ((idxK r q).map (· + 1))

theorem eqL_eq : ∀ {a b : List Int}, eqL a b = true → a = b := by
  intro a
  induction a with
  | nil => intro b h; cases b with
    | nil => rfl
    | cons _ _ => cases h
  | cons x a ih =>
    intro b h
    cases b with
    | nil => cases h
    | cons y b =>
      simp only [eqL, Bool.and_eq_true, beq_iff_eq] at h
      rw [h.1, ih h.2]

theorem idxK_some {α : Type} {d : α} : ∀ {es : List (List Int × α)} {q : List Int} {i : Nat}, idxK es q = some i → (∃ v, es[i]? = some (q, v) ∧ lookK d es q = v) ∧ hasK es q = true ∧ (∀ v, putK es q v = es.set i (q, v)) := by
  intro es
  induction es with
  | nil => intro q i h; cases h
  | cons e r ih =>
    intro q i h
    obtain ⟨k, x⟩ := e
    simp only [idxK] at h
    cases hb : eqL q k with
    | true =>
      rw [hb] at h
      injection h with h
      subst h
      have := eqL_eq hb
      subst this
      exact ⟨⟨x, rfl, by simp [lookK, hb]⟩, by simp [hasK, hb], fun v => by simp [putK, hb]⟩
    | false =>
      rw [hb] at h
      simp only [cond_false, Option.map_eq_some_iff] at h
      obtain ⟨j, h1, h2⟩ := h
      subst h2
      obtain ⟨⟨v, g1, g2⟩, g3, g4⟩ := ih h1
      exact ⟨⟨v, by simpa using g1, by simp [lookK, hb, g2]⟩, by simp [hasK, hb, g3], fun v => by simp [putK, hb, g4]⟩

theorem idxK_none {α : Type} {d : α} : ∀ {es : List (List Int × α)} {q : List Int}, idxK es q = none → lookK d es q = d ∧ hasK es q = false ∧ ∀ v, putK es q v = es ++ [(q, v)] := by
  intro es
  induction es with
  | nil => intro q _; exact ⟨rfl, rfl, fun v => rfl⟩
  | cons e r ih =>
    intro q h
    obtain ⟨k, x⟩ := e
    simp only [idxK] at h
    cases hb : eqL q k with
    | true => rw [hb] at h; cases h
    | false =>
      rw [hb] at h
      simp only [cond_false, Option.map_eq_none_iff] at h
      obtain ⟨g1, g2, g3⟩ := ih h
      exact ⟨by simp [lookK, hb, g1], by simp [hasK, hb, g2], fun v => by simp [putK, hb, g3]⟩

/-- Entries, as told. -/
def Ents (T : Tab) (kt : TypeId) {α : Type} (f : α → Value) (es : List (List Int × α)) (ents : Array MapEntry) : Prop :=
  ents.size = es.length ∧ ∀ (i : Nat) (k : List Int) (n : α), es[i]? = some (k, n) → ∃ e : MapEntry, ents[i]? = some e ∧ e.val = f n ∧ FV T (.agg kt k) e.key

theorem fv_kv {kt : TypeId} {k : List Int} {x : Value} (h : FV T (.agg kt k) x) : KV T kt k x := by
  obtain ⟨h1, h2, h3, arr, h4, h5⟩ := h
  exact ⟨h3, fun _ => ⟨arr, h4, h5⟩, fun sk hd => by rw [hd] at h1; cases h1⟩

theorem find_run (hT : TabOK P T) (hE : EqTabOK P T) {kt : TypeId} (hk : keyTy T 5 kt = true) {q : List Int} {x : Value} (hx : FV T (.agg kt q) x) {α : Type} {f : α → Value} : ∀ (es : List (List Int × α)) (L : List MapEntry) (i : Nat), L.length = es.length →
    (∀ (j : Nat) (k : List Int) (n : α), es[j]? = some (k, n) → ∃ e : MapEntry, L[j]? = some e ∧ e.val = f n ∧ FV T (.agg kt k) e.key) →
    ∃ r, (Instr.findAsking kt x L i).run P w = .ok r w ∧ match idxK es q with
      | some j => ∃ v, es[j]? = some (q, v) ∧ r = some (i + j, f v)
      | none => r = none := by
  intro es
  induction es with
  | nil =>
    intro L i hl _
    have : L = [] := List.eq_nil_of_length_eq_zero hl
    subst this
    exact ⟨none, rfl, rfl⟩
  | cons e r ih =>
    intro L i hl hL
    obtain ⟨k, n⟩ := e
    cases L with
    | nil => cases hl
    | cons m L =>
      obtain ⟨e', g1, g2, g3⟩ := hL 0 k n rfl
      simp only [List.getElem?_cons_zero, Option.some.injEq] at g1
      subst g1
      obtain ⟨r1, _⟩ := key_run hT hE 5 kt hk Op.maxDepth (by decide) q k x m.key w (fv_kv hx) (fv_kv g3)
      have r1 : (Op.equal kt x m.key).run P w = .ok (eqL q k) w := r1
      simp only [idxK]
      cases hb : eqL q k with
      | true =>
        have := eqL_eq hb
        subst this
        refine ⟨some (i, m.val), ?_, n, rfl, by rw [g2]; rfl⟩
        simp only [Instr.findAsking, Sem.run_bind, r1, hb, Result.andThen_ok, if_true]
        rfl
      | false =>
        obtain ⟨r', q1, q2⟩ := ih L (i + 1) (by simpa using hl) fun j k n hj => by
          obtain ⟨e, c1, c2, c3⟩ := hL (j + 1) k n (by simpa using hj)
          exact ⟨e, by simpa using c1, c2, c3⟩
        refine ⟨r', ?_, ?_⟩
        · simp only [Instr.findAsking, Sem.run_bind, r1, hb, Result.andThen_ok, Bool.false_eq_true, if_false]
          exact q1
        · simp only [cond_false]
          cases hi : idxK r q with
          | none => rw [hi] at q2; exact q2
          | some j =>
            rw [hi] at q2
            obtain ⟨v, c1, c2⟩ := q2
            exact ⟨v, by simpa using c1, by rw [c2]; show some (i + 1 + j, f v) = some (i + (j + 1), f v); congr 2; omega⟩

theorem findKey_asking (hT : TabOK P T) {kt : TypeId} (ha : (T.at kt).d.isAgg = true) (x : Value) (L : List MapEntry) (w : World) : (Instr.findKey kt x L).run P w = (Instr.findAsking kt x L).run P w := by
  refine run_findKey_eq w ?_ x L
  have hd := (hT kt).desc
  cases hdt : (T.at kt).d with
  | struct fs => rw [hdt] at hd; obtain ⟨F, hF, _⟩ := hd; rw [hF]
  | arr n e => rw [hdt] at hd; rw [hd]
  | _ => rw [hdt] at ha; cases ha

theorem lookup_run (hT : TabOK P T) (hE : EqTabOK P T) {t kt et : TypeId} (ht : (T.at t).d = .map kt et) (hk : keyTy T 5 kt = true) {q : List Int} {x : Value} (hx : FV T (.agg kt q) x) {α : Type} {f : α → Value} {d : α} {es : List (List Int × α)} {ents : Array MapEntry} {clock b : Nat}
    (hb : w.heap[b]? = some (.map ents clock)) (hents : Ents T kt f es ents) (hz : (zeroValue et).run P w = .ok (f d) w) (ok : Bool) :
    (Instr.lookup t (.map (some b)) x ok).run P w = .ok (if ok then .tuple #[f (lookK d es q), .bool (hasK es q)] else f (lookK d es q)) w := by
  have hdt := (hT t).desc
  rw [ht] at hdt
  obtain ⟨_, hc⟩ := key_run hT hE 5 kt hk 10000 (by decide) q q x x w (fv_kv hx) (fv_kv hx)
  obtain ⟨r, h1, h2⟩ := find_run (w := w) hT hE hk hx es ents.toList 0 (by simpa using hents.1) fun j k n hj => by
    obtain ⟨e, c1, c2, c3⟩ := hents.2 j k n hj
    exact ⟨e, by rw [Array.getElem?_toList]; exact c1, c2, c3⟩
  rw [← findKey_asking hT hx.1] at h1
  simp only [Instr.lookup, Sem.run_bind, run_underlying hdt, Result.andThen_ok, MapKept.run_getObj_map hb, Sem.run_pure, hc, h1]
  cases hi : idxK es q with
  | none =>
    rw [hi] at h2
    obtain ⟨g1, g2, _⟩ := idxK_none (d := d) hi
    subst h2
    simp only [Sem.run_bind, hz, Result.andThen_ok]
    rw [g1, g2]
    cases ok <;> rfl
  | some j =>
    rw [hi] at h2
    obtain ⟨v, c1, c2⟩ := h2
    obtain ⟨⟨v', g1, g2⟩, g3, _⟩ := idxK_some (d := d) hi
    rw [c1] at g1
    injection g1 with g1
    injection g1 with _ g1
    subst g1
    subst c2
    simp only [Sem.run_pure, Result.andThen_ok]
    rw [g2, g3]
    cases ok <;> rfl

theorem sameBits_zip : ∀ (ks : List SK) (l : List Int) (n : Nat), ((zipV ks l).zip (zipV ks l)).all (fun (x, y) => Instr.sameBits n x y) = true := by
  intro ks
  induction ks with
  | nil => intro l n; cases l <;> rfl
  | cons k ks ih =>
    intro l n
    cases l with
    | nil => rfl
    | cons m l =>
      simp only [zipV, List.zip_cons_cons, List.all_cons, Bool.and_eq_true]
      refine ⟨?_, ih l n⟩
      cases k <;> simp [SK.val, Instr.sameBits]

theorem stays_run {kt : TypeId} {q : List Int} {x y : Value} (hx : FV T (.agg kt q) x) (hy : FV T (.agg kt q) y) : (Instr.keyThatStays x y).run P w = .ok y w := by
  obtain ⟨_, _, _, xs, rfl, hxs⟩ := hx
  obtain ⟨_, _, _, ys, rfl, hys⟩ := hy
  have : Instr.sameBits 10000 (.agg xs) (.agg ys) = true := by
    have e : xs = ys := Array.toList_inj.1 (hxs.trans hys.symm)
    subst e
    have := sameBits_zip (T.at kt).ks q 9999
    simp only [Instr.sameBits, beq_self_eq_true, Bool.true_and]
    rw [hxs]
    exact this
  simp [Instr.keyThatStays, this]

/-- An entry is put. -/
theorem update_run (hT : TabOK P T) (hE : EqTabOK P T) {t kt et : TypeId} (ht : (T.at t).d = .map kt et) (hk : keyTy T 5 kt = true) {q : List Int} {x : Value} (hx : FV T (.agg kt q) x) {α : Type} {f : α → Value} {es : List (List Int × α)} {ents : Array MapEntry} {clock b : Nat}
    (hb : w.heap[b]? = some (.map ents clock)) (hents : Ents T kt f es ents) (n : α) : ∃ ents' clock', (Instr.mapUpdate t (.map (some b)) x (f n)).run P w = .ok () (setBlock w b (.map ents' clock')) ∧ Ents T kt f (putK es q n) ents' := by
  have hdt := (hT t).desc
  rw [ht] at hdt
  obtain ⟨_, hc⟩ := key_run hT hE 5 kt hk 10000 (by decide) q q x x w (fv_kv hx) (fv_kv hx)
  obtain ⟨r, h1, h2⟩ := find_run (w := w) hT hE hk hx es ents.toList 0 (by simpa using hents.1) fun j k n hj => by
    obtain ⟨e, c1, c2, c3⟩ := hents.2 j k n hj
    exact ⟨e, by rw [Array.getElem?_toList]; exact c1, c2, c3⟩
  rw [← findKey_asking hT hx.1] at h1
  cases hi : idxK es q with
  | none =>
    rw [hi] at h2
    obtain ⟨_, _, g3⟩ := idxK_none (d := n) hi
    subst h2
    refine ⟨ents.push { key := x, val := f n, born := clock }, clock + 1, ?_, ?_⟩
    · simp only [Instr.mapUpdate, Sem.run_bind, run_underlying hdt, Result.andThen_ok, MapKept.run_getObj_map hb, hc, h1]
      rw [MapKept.run_setObj_map _ hb]
      rfl
    · rw [g3]
      refine ⟨by simp [hents.1], fun j k m hj => ?_⟩
      by_cases c : j < es.length
      · rw [List.getElem?_append_left c] at hj
        obtain ⟨e, c1, c2, c3⟩ := hents.2 j k m hj
        refine ⟨e, ?_, c2, c3⟩
        rw [Array.getElem?_push, if_neg (by rw [hents.1]; omega)]
        exact c1
      · rw [List.getElem?_append_right (by omega)] at hj
        have hj0 : j - es.length = 0 := by
          rcases Nat.eq_zero_or_pos (j - es.length) with h | h
          · exact h
          · rw [List.getElem?_eq_none (by simp; omega)] at hj; cases hj
        rw [hj0] at hj
        simp only [List.getElem?_cons_zero, Option.some.injEq, Prod.mk.injEq] at hj
        obtain ⟨rfl, rfl⟩ := hj
        refine ⟨{ key := x, val := f n, born := clock }, ?_, rfl, hx⟩
        rw [Array.getElem?_push, if_pos (by rw [hents.1]; omega)]
  | some j =>
    rw [hi] at h2
    obtain ⟨v, c1, c2⟩ := h2
    obtain ⟨_, _, g4⟩ := idxK_some (d := n) hi
    obtain ⟨e0, d1, d2, d3⟩ := hents.2 j q v c1
    subst c2
    have hst := stays_run (P := P) (w := w) d3 hx
    refine ⟨ents.modify j fun e => { e with key := x, val := f n }, clock, ?_, ?_⟩
    · simp only [Instr.mapUpdate, Sem.run_bind, run_underlying hdt, Result.andThen_ok, MapKept.run_getObj_map hb, hc, h1, Nat.zero_add, d1, Option.map_some, Option.getD_some, hst]
      rw [MapKept.run_setObj_map _ hb]
      rfl
    · rw [g4]
      refine ⟨by simp [hents.1], fun i k m hi' => ?_⟩
      by_cases c : i = j
      · subst c
        have hlt : i < es.length := by
          rcases Nat.lt_or_ge i es.length with h | h
          · exact h
          · rw [List.getElem?_eq_none h] at c1; cases c1
        rw [List.getElem?_set_self hlt] at hi'
        injection hi' with hi'
        injection hi' with e1 e2
        subst e1 e2
        refine ⟨{ e0 with key := x, val := f n }, ?_, rfl, hx⟩
        rw [Array.getElem?_modify, if_pos rfl, d1]
        rfl
      · rw [List.getElem?_set_ne (Ne.symm c)] at hi'
        obtain ⟨e, q1, q2, q3⟩ := hents.2 i k m hi'
        refine ⟨e, ?_, q2, q3⟩
        rw [Array.getElem?_modify, if_neg (Ne.symm c)]
        exact q1

theorem mapI_ents {b : Nat} {t : TypeId} {es : List (List Int × Int)} (h : MapI T w b t es) : ∃ kt et sk ents clock, (T.at t).d = .map kt et ∧ (T.at et).d = .sc sk ∧ w.heap[b]? = some (.map ents clock) ∧ Ents T kt sk.val es ents := by
  obtain ⟨kt, et, sk, ents, clock, h1, h2, h3, h4, h5⟩ := h
  exact ⟨kt, et, sk, ents, clock, h1, h2, h3, h4, h5⟩

theorem mapS_ents {b : Nat} {t : TypeId} {es : List (List Int × ByteArray)} (h : MapS T w b t es) : ∃ kt et ents clock, (T.at t).d = .map kt et ∧ (T.at et).d = .str ∧ w.heap[b]? = some (.map ents clock) ∧ Ents T kt Value.string es ents := by
  obtain ⟨kt, et, ents, clock, h1, h2, h3, h4, h5⟩ := h
  exact ⟨kt, et, ents, clock, h1, h2, h3, h4, h5⟩

/-- Where a map lies that the evaluator has in hand. -/
theorem mapOf_sound (h : RelAt P T w0 M N ρ s a w) {x : V} {u : Value} {t : TypeId} {c : D} (hx : LV P T w (FrOf M.a s.blk ρ w) s.blk ρ x u) (hm : mapOf s x = some (t, c)) : ∃ b, u = .map (some b) ∧ match c with
    | .mapI es => MapI T w b t es
    | .mapS es => MapS T w b t es
    | _ => False := by
  cases x with
  | mapk k t' =>
    obtain ⟨bk, b, base, lim, h1, h2, h3, h4, rfl⟩ := hx.mapk_inv
    obtain ⟨be, br, bd⟩ := bk
    simp only at h2
    subst h2
    have hO := h.ob k _ h1
    rw [h4] at hO
    simp only [mapOf, h1] at hm
    cases bd with
    | mapI es =>
      simp only [Option.some.injEq, Prod.mk.injEq] at hm
      obtain ⟨rfl, rfl⟩ := hm
      exact ⟨b, rfl, hO⟩
    | mapS es =>
      simp only [Option.some.injEq, Prod.mk.injEq] at hm
      obtain ⟨rfl, rfl⟩ := hm
      exact ⟨b, rfl, hO⟩
    | _ => cases h3
  | mapc k i t' =>
    obtain ⟨bk, cs, es, b0, base, b, lim, q, h1, h2, h3, h4, h5, rfl⟩ := hx.mapc_inv
    obtain ⟨be, br, bd⟩ := bk
    simp only at h2
    subst h2
    have hO := h.ob k _ h1
    rw [h4] at hO
    obtain ⟨arr, g1, g2, g3, _⟩ := hO
    obtain ⟨u, q1, q2, b', q', q3, q4, q5⟩ := g3 i _ h3
    rw [h5] at q3
    injection q3 with q3
    injection q3 with e1 e2
    subst e1
    have hrdo : rdo cs i = .m t' es := by unfold rdo; rw [List.getD_eq_getElem?_getD, h3]; rfl
    simp only [mapOf, h1, hrdo, Option.some.injEq, Prod.mk.injEq] at hm
    obtain ⟨rfl, rfl⟩ := hm
    exact ⟨b, rfl, q5⟩
  | mapv t' es =>
    obtain ⟨b, h1, h2, rfl⟩ := hx.mapv_inv
    simp only [mapOf, Option.some.injEq, Prod.mk.injEq] at hm
    obtain ⟨rfl, rfl⟩ := hm
    exact ⟨b, rfl, h2⟩
  | _ => simp [mapOf] at hm

theorem keyL_sound {kt : TypeId} {v : V} {q : List Int} {u : Value} {Fr : Nat → Prop} (hv : LV P T w Fr blk ρ v u) (hq : keyL T kt v = some q) : keyTy T 5 kt = true ∧ FV T (.agg kt q) u := by
  unfold keyL at hq
  obtain ⟨h1, hq⟩ := cond_some hq
  cases v with
  | agg t l =>
    simp only at hq
    obtain ⟨h2, hq⟩ := cond_some hq
    injection hq with hq
    subst hq
    have h3 := (and_true h1).1
    simp only [fits] at h3
    have := Nat.eq_of_beq_eq_true h3
    subst this
    exact ⟨h2, hv.agg_inv⟩
  | _ => simp at hq

end Go.Ev
end

section
/- Variables whose cells are of many kinds: built, written to. -/
namespace Go.Ev
open Go.RowKit (Below)

variable {P : Program} {T : Tab} {w0 w : World} {M : Mo} {ρ : Nat → Loc} {N : Nat → Loc × Blk} {s : St} {a : Act} {Fr : Nat → Prop} {blk : Nat → Option Blk}

/-- Cells told one by one. -/
def OCs (T : Tab) (w : World) (Fr : Nat → Prop) (m : List OC) (arr : Array Value) : Prop :=
  ∀ (j : Nat) (oc : OC), m[j]? = some oc → ∃ y, arr[j]? = some y ∧ y.oneCell' = true ∧ OCB T w Fr oc y ∧ noMap oc = true

theorem ocMk_ok (k : SK) (n : Int) : OCB T w Fr (ocMk k n) (k.val n) ∧ noMap (ocMk k n) = true := by
  cases k <;> exact ⟨rfl, rfl⟩

theorem ocMks_get : ∀ (ks : List SK) (l : List Int) (j : Nat) (oc : OC), (ocMks ks l)[j]? = some oc → ∃ k n, ks[j]? = some k ∧ (zipV ks l)[j]? = some (k.val n) ∧ oc = ocMk k n := by
  intro ks
  induction ks with
  | nil => intro l j oc h; cases l <;> simp [ocMks] at h
  | cons k ks ih =>
    intro l j oc h
    cases l with
    | nil => simp [ocMks] at h
    | cons n l =>
      cases j with
      | zero => simp [ocMks] at h; exact ⟨k, n, rfl, rfl, h.symm⟩
      | succ j => simp only [ocMks, List.getElem?_cons_succ] at h; simpa [zipV] using ih l j oc h

theorem ocMks_length : ∀ (ks : List SK) (l : List Int), (ocMks ks l).length = (zipV ks l).length := by
  intro ks
  induction ks with
  | nil => intro l; cases l <;> rfl
  | cons k ks ih =>
    intro l
    cases l with
    | nil => rfl
    | cons n l => simp [ocMks, zipV, ih]

theorem ocs_one {oc : OC} {x : Value} (h1 : x.oneCell' = true) (h2 : OCB T w Fr oc x) (h3 : noMap oc = true) : OCs T w Fr [oc] #[x] := by
  intro j o hj
  cases j with
  | zero => simp at hj; subst hj; exact ⟨x, rfl, h1, h2, h3⟩
  | succ j => simp at hj

theorem ocOf_cells (hT : TabOK P T) {u : TypeId} {v : V} {x : Value} {m : List OC} (hv : LV P T w Fr blk ρ v x) (h : ocOf T u v = some m) :
    (T.at u).d ≠ .other ∧ m.length = x.cells.size ∧ OCs T w Fr m x.cells := by
  unfold ocOf at h
  split at h
  · split at h
    · rename_i b hd
      injection h with h
      subst h
      rw [hv.str_inv]
      exact ⟨by rw [hd]; simp, rfl, ocs_one rfl rfl rfl⟩
    · cases h
  · split at h
    · rename_i e l e' hd
      obtain ⟨hc, h⟩ := cond_some h
      injection h with h
      subst h
      have hs := hv.slv_inv
      obtain ⟨_, _, _, _, hu, _⟩ := id hs
      subst hu
      exact ⟨by rw [hd]; simp, rfl, ocs_one rfl hs rfl⟩
    · cases h
  · split at h
    · rename_i e' hd
      obtain ⟨hc, h⟩ := cond_some h
      injection h with h
      subst h
      rw [hv.nil_inv]
      exact ⟨by rw [hd]; simp, rfl, ocs_one rfl ⟨hc, none, 0, 0, rfl, by simp, Nat.le_refl _, .inl rfl⟩ rfl⟩
    · cases h
  · rename_i t cs
    obtain ⟨hc, h⟩ := cond_some h
    injection h with h
    subst h
    obtain ⟨c1, c2⟩ := and_true hc
    have c1 := Nat.eq_of_beq_eq_true c1
    subst c1
    obtain ⟨arr, hu, g0, g1, g2, g3⟩ := hv.reco_inv
    subst hu
    refine ⟨?_, g2.symm, g3⟩
    intro e
    rw [e] at g0
    cases g0
  · obtain ⟨hc, h⟩ := cond_some h
    obtain ⟨c1, c2⟩ := and_true hc
    split at h
    · rename_i l hl
      injection h with h
      subst h
      obtain ⟨q1, q2, q3, _⟩ := fits_cells hT c1 c2 (flat_FV hv hl) hl
      refine ⟨flat_ne hT c2, by rw [ocMks_length, ← q1, Array.length_toList], fun j oc hj => ?_⟩
      obtain ⟨k, n, g1, g2, g3⟩ := ocMks_get _ _ _ _ hj
      subst g3
      rw [← q1, Array.getElem?_toList] at g2
      refine ⟨_, g2, q3 _ (Array.mem_toList_iff.2 (Array.mem_of_getElem? g2)), ocMk_ok k n⟩
    · cases h

theorem setO_length : ∀ (m l : List OC) (off : Nat), (setO l off m).length = l.length := by
  intro m
  induction m with
  | nil => intro l off; rfl
  | cons x m ih => intro l off; rw [setO, ih]; simp

theorem setO_get : ∀ (m l : List OC) (off j : Nat), off + m.length ≤ l.length → (setO l off m)[j]? = if off ≤ j ∧ j < off + m.length then m[j - off]? else l[j]? := by
  intro m
  induction m with
  | nil => intro l off j h; rw [if_neg (by simp only [List.length_nil]; omega)]; rfl
  | cons x m ih =>
    intro l off j h
    simp only [List.length_cons] at h
    rw [setO, ih _ _ _ (by simp; omega)]
    by_cases h1 : off + 1 ≤ j ∧ j < off + 1 + m.length
    · rw [if_pos h1, if_pos (by simp only [List.length_cons]; omega), show j - off = (j - (off + 1)) + 1 by omega, List.getElem?_cons_succ]
    · rw [if_neg h1]
      by_cases h2 : off = j
      · subst h2
        rw [if_pos (by simp only [List.length_cons]; omega), List.getElem?_set_self (by omega)]
        simp
      · rw [if_neg (by simp only [List.length_cons]; omega), List.getElem?_set_ne h2]

/-- The kit's filling of cells, and the evaluator's. -/
theorem fillO_sim (hT : TabOK P T) {place : Nat → Option (Nat × TypeId)} {placeC : Nat → Option (Nat × Nat)} {n : Nat}
    (hpl : ∀ i off u, place i = some (off, u) → placeC i = some (off, (T.at u).size)) :
    ∀ (ps : List (Nat × Operand)) (f : Operand → V) (g : Operand → Value) (l l' : List OC) (cells : Array Value), l.length = n → cells.size = n → OCs T w Fr l cells →
      (∀ p ∈ ps, LV P T w Fr blk ρ (f p.2) (g p.2)) → placeO T place l (ps.map fun p => (p.1, f p.2)) = some l' →
      ∃ cells', Instr.fill placeC cells (ps.map fun p => (p.1, g p.2)) = some cells' ∧ cells'.size = n ∧ l'.length = n ∧ OCs T w Fr l' cells' := by
  intro ps
  induction ps with
  | nil =>
    intro f g l l' cells hl hc hcell _ h
    simp only [List.map_nil, placeO, Option.some.injEq] at h
    subst h
    exact ⟨cells, rfl, hc, hl, hcell⟩
  | cons p ps ih =>
    intro f g l l' cells hl hc hcell hlv h
    obtain ⟨i, x⟩ := p
    simp only [List.map_cons, placeO] at h
    split at h
    · rename_i off u hpi
      split at h
      · rename_i m hm
        obtain ⟨hcond, h⟩ := cond_some h
        obtain ⟨c1, c3⟩ := and_true hcond
        have c1 := Nat.eq_of_beq_eq_true c1
        have c3 := Nat.le_of_ble_eq_true c3
        obtain ⟨q0, q1, q2⟩ := ocOf_cells hT (hlv (i, x) List.mem_cons_self) hm
        have r1 := hpl i off u hpi
        have hsz : (g x).cells.size = (T.at u).size := by rw [← q1, c1]
        obtain ⟨f1, f2⟩ := putCells_fold off (g x).cells.toList 0 cells (by rw [Array.length_toList, hsz]; omega)
        have hfold : (g x).cells.zipIdx.foldl (fun cs (c, j) => cs.setIfInBounds (off + j) c) cells = ((g x).cells.toList.zipIdx 0).foldl (putCells off) cells := by
          rw [← Array.foldl_toList, Array.toList_zipIdx]
          rfl
        obtain ⟨cells', g1, g2, g3, g4⟩ := ih f g (setO l off m) l' (((g x).cells.toList.zipIdx 0).foldl (putCells off) cells) (by rw [setO_length, hl]) (f1.trans hc) (by
          intro j oc hj
          rw [setO_get _ _ _ _ (by omega)] at hj
          rw [f2 j]
          simp only [Nat.add_zero, Array.length_toList, hsz]
          rw [c1] at hj
          by_cases hin : off ≤ j ∧ j < off + (T.at u).size
          · rw [if_pos hin] at hj ⊢
            rw [Array.getElem?_toList]
            exact q2 _ _ hj
          · rw [if_neg hin] at hj ⊢
            exact hcell j oc hj) (fun p hp => hlv p (List.mem_cons_of_mem _ hp)) h
        refine ⟨cells', ?_, g2, g3, g4⟩
        simp only [List.map_cons, Instr.fill, r1]
        rw [if_neg (by rw [hsz, hc]; simp; omega), hfold]
        exact g1
      · cases h
    · cases h

theorem zeroCell_ocb {oc : OC} {u : Value} (h : zeroCell T oc u = true) : OCB T w Fr oc u ∧ noMap oc = true := by
  have := zeroCell_oco (w := w) (Fr := Fr) (c := fun _ => none) (j := 0) h
  cases oc with
  | m t es => simp [zeroCell] at h
  | _ => exact ⟨this, rfl⟩

theorem does_buildReco (hT : TabOK P T) (h : RelAt P T w0 M N ρ s a w) {d : Nat} (hd : d < s.n) {t : TypeId} {ps : Array (Nat × Operand)} {l : List OC} (hf : isFlatTy T t = false) {fs : List (Nat × TypeId)} (ht : (T.at t).d = .struct fs)
    (hl : (zeroFs T fs).length = (T.at t).size) (hk : fs.all (fun f => known T f.2) = true) (hp : placeO T (fieldOf fs) (zeroFs T fs) (partsOf s ps.toList) = some l) :
    Does P T w0 M N (.build t ps) a w d (s.put d (.reco t l)) := by
  intro o ho
  have hde := (hT t).desc
  rw [ht] at hde
  obtain ⟨F, hF, hFs⟩ := hde
  subst hFs
  have hknown : ∀ f ∈ F.toList, known T f.type = true := by
    intro f hfm
    rw [List.all_eq_true] at hk
    exact hk _ (List.mem_map_of_mem hfm)
  obtain ⟨places, p1, p2⟩ := fieldOf_places hT F.toList hknown
  rcases (hT t).zeroc with h0 | h0 | ⟨ti, z, z1, z2, z3, z4⟩
  · rw [ht] at h0; simp at h0
  · rw [hf] at h0; cases h0
  obtain ⟨ti', z', g1, g2, g3, g4, g5, g6, _⟩ := hT.info' (t := t) (by rw [ht]; simp)
  rw [z1] at g1
  injection g1 with g1
  subst g1
  rw [z2] at g4
  injection g4 with g4
  subst g4
  rw [partsOf_map] at hp
  obtain ⟨cells, c1, c2, c3, c4⟩ := fillO_sim (w := w) (Fr := FrOf M.a s.blk ρ w) (blk := s.blk) (ρ := ρ) hT (placeC := fun i => places.toArray[i]?) (n := (T.at t).size) (by
    intro i off u hi
    obtain ⟨f, f1, f2, f3⟩ := fieldOf_some _ _ _ hi
    simp only at f2 f3
    subst f2 f3
    simp [p2 i, f1]) ps.toList s.ev a.eval _ l z.cells hl g5 (by
      intro j oc hj
      obtain ⟨u, q1, q2⟩ := z4 _ ht hl j oc hj
      obtain ⟨q3, q4⟩ := zeroCell_ocb (w := w) (Fr := FrOf M.a s.blk ρ w) q2
      exact ⟨u, q1, z3 u (Array.mem_toList_iff.2 (Array.mem_of_getElem? q1)), q3, q4⟩) (fun p _ => h.ev p.2) hp
  refine ⟨.agg cells, w, ?_, ρ, h.put hd (.bv _ _ (.reco t l cells (by rw [ht]; rfl) c3 (by omega) c4))⟩
  simp only [execOp, ho]
  apply run_v
  apply run_build
  rw [show (ps.map fun (i, x) => (i, a.eval x)).toList = ps.toList.map fun p => (p.1, a.eval p.2) by simp]
  unfold Program.built
  simp only [z1, hF, z2, p1]
  exact c1

theorem rdos_noMap {cs : List OC} {off n : Nat} (h : (rdos cs off 0 n).all noMap = true) {j : Nat} (hj : off ≤ j ∧ j < off + n) : noMap (rdo cs j) = true := by
  rw [List.all_eq_true] at h
  refine h _ (List.mem_of_getElem? (i := j - off) ?_)
  rw [rdos_get _ _ _ _ _ (by omega)]
  congr 2
  omega

theorem mc_noMap {oc : OC} (h : isMc oc = true) : noMap oc = false := by cases oc <;> first | rfl | cases h

theorem rdo_get {cs : List OC} {j : Nat} {oc : OC} (h : cs[j]? = some oc) : rdo cs j = oc := by simp [rdo, h]

theorem OCO.laterK {w' : World} {Fr' : Nat → Prop} {c : Nat → Option (Nat × Nat × Nat)} {j : Nat} {oc : OC} {u : Value} (h : OCO T w Fr c j oc u) (hl : Later w Fr w' Fr') (hc : ∀ b q, isMc oc = true → c j = some (b, q) → w'.heap[b]? = w.heap[b]?) : OCO T w' Fr' c j oc u := by
  cases oc with
  | m t es =>
    obtain ⟨b, q, h1, h2, h3⟩ := h
    exact ⟨b, q, h1, h2, h3.of_heap (hc b q rfl h1)⟩
  | sl e l => exact SV.later h hl
  | _ => exact h

/-- What a cell leads to is no row of cells. -/
theorem oco_main {c : Nat → Option (Nat × Nat × Nat)} {j : Nat} {oc : OC} {u : Value} (h : OCO T w Fr c j oc u) (hm : isMc oc = true) {b : Nat} {q : Nat × Nat} (hc : c j = some (b, q)) {arr : Array Value} {e : TypeId} (hh : w.heap[b]? = some (.cells arr e (0, 0))) : False := by
  cases oc with
  | m t es =>
    obtain ⟨b', q', h1, h2, kt, et, sk, ents, clock, _, _, h5, _⟩ := h
    rw [hc] at h1
    injection h1 with h1
    injection h1 with h1
    subst h1
    rw [hh] at h5
    cases h5
  | _ => cases hm

theorem does_storeO (hT : TabOK P T) (h : RelAt P T w0 M N ρ s a w) {t : TypeId} {p x : Operand} {k off : Nat} {t0 : TypeId} {r : Bool} {cs m : List OC} (hp : s.ev p = .ptr k off t) (hk : s.blk k = some ⟨t0, r, .obj cs⟩)
    (hm : ocOf T t (s.ev x) = some m) (h1 : m.length = (T.at t).size) (h2 : off + (T.at t).size ≤ cs.length) (h3 : (rdos cs off 0 (T.at t).size).all noMap = true) :
    DoesN P T w0 M N (.store t p x) a w (s.setB k ⟨t0, r, .obj (setO cs off m)⟩) := by
  intro o ho
  have hv := h.ev p
  rw [hp] at hv
  obtain ⟨bk, b, base, lim, g1, g2, g3, hu⟩ := hv.ptr_inv
  rw [hk] at g1
  injection g1 with g1
  subst g1
  have hO := h.ob k _ hk
  rw [g2] at hO
  obtain ⟨arr, o1, o2, o3, o4⟩ := hO
  obtain ⟨q0, q1, q2⟩ := ocOf_cells hT (h.ev x) hm
  have hvl : (a.eval x).cells.toList.length = (T.at t).size := by rw [Array.length_toList, ← q1, h1]
  obtain ⟨ti, z, _, _, _, _, _, hpos, _⟩ := hT.info' q0
  have hlim : base + cs.length ≤ arr.size := by
    have hlt : cs.length - 1 < cs.length := by omega
    obtain ⟨u, w1, _⟩ := o3 (cs.length - 1) cs[cs.length - 1] (List.getElem?_eq_getElem hlt)
    have h9 : base + (cs.length - 1) < arr.size := by
      rcases Nat.lt_or_ge (base + (cs.length - 1)) arr.size with hh | hh
      · exact hh
      · rw [Array.getElem?_eq_none hh] at w1; cases w1
    omega
  have hone : ∀ y ∈ (a.eval x).cells.toList, y.oneCell' = true := by
    intro y hy
    obtain ⟨j, hj⟩ := List.getElem?_of_mem hy
    have hjl : j < m.length := by
      rcases Nat.lt_or_ge j m.length with hh | hh
      · exact hh
      · rw [List.getElem?_eq_none (by omega)] at hj; cases hj
    obtain ⟨y', e1, e2, _⟩ := q2 j m[j] (List.getElem?_eq_getElem hjl)
    rw [Array.getElem?_toList, e1] at hj
    injection hj with hj
    subst hj
    exact e2
  obtain ⟨arr', a1, a2, a3⟩ := storeCells_run P (o := base + off) (vs := (a.eval x).cells.toList) o1 (by omega) hone
  have hmc : ∀ j, isMc (rdo (setO cs off m) j) = true → ∃ tt es, cs[j]? = some (.m tt es) := by
    intro j hj
    have hmm : ∀ oc, (setO cs off m)[j]? = some oc → isMc oc = true → ∃ tt es, cs[j]? = some (.m tt es) := by
      intro oc ho hoc
      rw [setO_get _ _ _ _ (by omega)] at ho
      by_cases c : off ≤ j ∧ j < off + m.length
      · rw [if_pos c] at ho
        obtain ⟨_, _, _, _, hn⟩ := q2 _ _ ho
        rw [mc_noMap hoc] at hn
        cases hn
      · rw [if_neg c] at ho
        cases oc with
        | m tt es => exact ⟨tt, es, ho⟩
        | _ => cases hoc
    cases hq : (setO cs off m)[j]? with
    | none => rw [show rdo (setO cs off m) j = .u by simp [rdo, hq]] at hj; cases hj
    | some oc => rw [rdo_get hq] at hj; exact hmm oc hq hj
  refine ⟨.skip, w.setRow b arr', ?_, .inl rfl, _, h.change (bk' := ⟨t0, r, .obj (setO cs off m)⟩) (loc' := ρ k) hk rfl rfl rfl (by simp) ?_ ?_ ?_ (.inr ⟨⟨rfl, rfl, (setO_length _ _ _).symm, fun i tt es hi => ⟨es, ?_⟩⟩, rfl⟩)⟩
  · simp only [execOp, ho]
    rw [Sem.run_bind]
    unfold Instr.storeAt
    rw [hu]
    simp only [Instr.sureAddr]
    rw [Sem.run_bind]
    show Result.andThen (Result.andThen (Result.ok _ w) _) _ = _
    rw [Result.andThen_ok]
    unfold storeVar
    rw [Sem.run_bind, TabOK.size hT q0, Result.andThen_ok]
    have hne : ¬ ((a.eval x).cells.size ≠ (T.at t).size) := by rw [← Array.length_toList]; simp [hvl]
    simp only [if_neg hne]
    rw [a1]
    rfl
  · intro b' _ hne
    exact heap_setRow_ne w arr' fun e' => hne (by rw [e']; exact owns_main g2)
  · intro b' e'
    exact ⟨by simpa using (h.own k _ b' hk e').1, .inl e'⟩
  · intro hl
    rw [g2] at hl ⊢
    refine ⟨arr', setRow_heap w b arr arr' t0 (0, 0) o1, by omega, fun j oc hj => ?_, fun i j b' q q' hi hj => ?_⟩
    · rw [setO_get _ _ _ _ (by omega), h1] at hj
      rw [a3, hvl]
      by_cases c : off ≤ j ∧ j < off + (T.at t).size
      · rw [if_pos c] at hj
        rw [if_pos (by omega), Array.getElem?_toList, show base + j - (base + off) = j - off by omega]
        obtain ⟨y, e1, e2, e3, e4⟩ := q2 _ _ hj
        exact ⟨y, e1, e2, oco_of_ocb (e3.later hl) e4⟩
      · rw [if_neg c] at hj
        rw [if_neg (by omega)]
        obtain ⟨u, e1, e2, e3⟩ := o3 j oc hj
        refine ⟨u, e1, e2, e3.laterK hl fun b' q hmc hq => heap_setRow_ne w arr' fun e' => ?_⟩
        subst e'
        exact oco_main e3 hmc hq o1
    · obtain ⟨t1, e1, c1⟩ := hmc i hi
      obtain ⟨t2, e2, c2⟩ := hmc j hj
      exact o4 i j b' q q' (by rw [rdo_get c1]; rfl) (by rw [rdo_get c2]; rfl)
  · rw [setO_get _ _ _ _ (by omega), if_neg]
    · exact hi
    · intro c
      rw [h1] at c
      have := rdos_noMap h3 c
      rw [rdo_get hi] at this
      cases this

end Go.Ev
end

section
/- Maps: made, read, written, put into cells. -/
namespace Go.Ev
open Go.RowKit (Below)
open Go.ChangeMaps (setBlock)

variable {P : Program} {T : Tab} {w0 w : World} {M : Mo} {ρ : Nat → Loc} {N : Nat → Loc × Blk} {s : St} {a : Act} {Fr : Nat → Prop} {blk : Nat → Option Blk}

theorem lt_of_heap' {w : World} {b : Nat} {o : Obj} (h : w.heap[b]? = some o) : b < w.heap.size := (Array.getElem?_eq_some_iff.1 h).1

theorem does_makeMap (h : RelAt P T w0 M N ρ s a w) {d : Nat} (hd : d < s.n) {t : TypeId} {s' : St} (hop : makeMapV T s d t = .ok true s') : Does P T w0 M N (.makeMap t none) a w d s' := by
  have key : ∀ (dd : D), dd.isMap = true → OB P T (w.alloc (.map #[] 0)) (FrOf M.a (s.setB d ⟨t, false, dd⟩).blk (upd ρ d (some (w.heap.size, 0, leaf 0))) (w.alloc (.map #[] 0))) ⟨t, false, dd⟩ (some (w.heap.size, 0, leaf 0)) → s.blk d = none →
      Does P T w0 M N (.makeMap t none) a w d ((s.setB d ⟨t, false, dd⟩).put d (.mapk d t)) := by
    intro dd hm hO hb o ho
    have hB : Below w.heap.size w (w.alloc (.map #[] 0)) := (Below.refl _ _).alloc (Nat.le_refl _) _
    have h1 := h.adopt (bk := ⟨t, false, dd⟩) (loc' := some (w.heap.size, 0, leaf 0)) hb hd hB (by
      intro b hh
      have := owns_leaf hh
      subst this
      exact ⟨by simp, Nat.le_refl _⟩) (fun _ => hO)
    refine ⟨_, _, ?_, _, h1.put (by exact hd) (.mapk d t ⟨t, false, dd⟩ w.heap.size 0 (leaf 0) (blk_setB_self _ _ _) rfl hm (upd_self _ _ _))⟩
    simp only [execOp, ho]
    exact run_v rfl
  unfold makeMapV at hop
  split at hop
  · rename_i kt et ht
    obtain ⟨hq, hop⟩ := cond_ok hop
    split at hop
    · rename_i sk he
      obtain ⟨h1, _, rfl⟩ := allocB_inv hop
      exact key _ rfl ⟨kt, et, sk, #[], 0, ht, he, heap_alloc_new w _, rfl, fun i k n hi => by simp at hi⟩ h1
    · rename_i he
      obtain ⟨h1, _, rfl⟩ := allocB_inv hop
      exact key _ rfl ⟨kt, et, #[], 0, ht, he, heap_alloc_new w _, rfl, fun i k n hi => by simp at hi⟩ h1
    · cases hop
  · cases hop

theorem isMapD_eq {d : TyD} (h : isMapD d = true) : ∃ k e, d = .map k e := by
  cases d <;> first | exact ⟨_, _, rfl⟩ | cases h

theorem does_lenMap (hT : TabOK P T) (h : RelAt P T w0 M N ρ s a w) {d : Nat} (hd : d < s.n) {c : Call} {x : Operand} {t : TypeId} {s' : St} (hc : c.callee = .builtin .len) (ha : c.args.toList = [x]) (hty : c.argTypes.toList = [t])
    (hop : lenMap T s d t (s.ev x) = .ok true s') : Does P T w0 M N (.call c) a w d s' := by
  unfold lenMap at hop
  obtain ⟨hm, hop⟩ := cond_ok hop
  obtain ⟨kt, et, ht⟩ := isMapD_eq hm
  have hde := (hT t).desc
  rw [ht] at hde
  have key : ∀ (b : Nat) (ents : Array MapEntry) (clock n : Nat), a.eval x = .map (some b) → w.heap[b]? = some (.map ents clock) → ents.size = n → Does P T w0 M N (.call c) a w d (s.put d (.int .i64 n)) := by
    intro b ents clock n hu hb hn o ho
    refine ⟨.int .i64 n, w, ?_, ρ, h.put hd (.ofInt _ _)⟩
    rw [exec_builtin _ c o ho hc, args_one ha, tys_one hty, hu]
    apply run_v
    unfold Builtin.len_
    simp only [List.getElem?_toArray, List.getElem?_cons_zero]
    rw [Sem.run_bind, run_underlying hde]
    simp only [Result.andThen_ok, Sem.run_bind, MapKept.run_getObj_map hb]
    subst hn
    rfl
  split at hop
  · rename_i t' es hmo
    obtain ⟨_, rfl⟩ := putOk_inv hop
    obtain ⟨b, hu, kt', et', sk, ents, clock, _, _, h3, h4, _⟩ := mapOf_sound h (h.ev x) hmo
    exact key b ents clock _ hu h3 h4
  · rename_i t' es hmo
    obtain ⟨_, rfl⟩ := putOk_inv hop
    obtain ⟨b, hu, kt', et', ents, clock, _, _, h3, h4, _⟩ := mapOf_sound h (h.ev x) hmo
    exact key b ents clock _ hu h3 h4
  · cases hop

theorem does_lookup (hT : TabOK P T) (hE : EqTabOK P T) (h : RelAt P T w0 M N ρ s a w) {d : Nat} (hd : d < s.n) {t : TypeId} {m x : Operand} {ok : Bool} {s' : St} (hop : lookupV T s d t (s.ev m) (s.ev x) ok = .ok true s') : Does P T w0 M N (.lookup t m x ok) a w d s' := by
  have key : ∀ {α : Type} (v : α → V) (f : α → Value) (r : α) (b : Bool), (∀ r, FV T (v r) (f r)) → (Instr.lookup t (a.eval m) (a.eval x) ok).run P w = .ok (if ok then .tuple #[f r, .bool b] else f r) w →
      Does P T w0 M N (.lookup t m x ok) a w d (s.put d (cond ok (.tup [v r, .bool b]) (v r))) := by
    intro α v f r b hv hrun o ho
    refine ⟨_, w, ?_, ρ, h.put hd (u := if ok then .tuple #[f r, .bool b] else f r) ?_⟩
    · simp only [execOp, ho]
      exact run_v hrun
    · cases ok with
      | false => exact .flatV (hv r)
      | true =>
        refine .tup _ _ rfl fun i y hy => ?_
        match i, hy with
        | 0, hy => simp at hy; subst hy; exact .flatV (hv r)
        | 1, hy => simp at hy; subst hy; exact .ofBool b
  unfold lookupV at hop
  split at hop
  · rename_i kt et u c ht hmo
    obtain ⟨hu, hop2⟩ := cond_ok hop
    clear hop
    have hu := Nat.eq_of_beq_eq_true hu
    subst hu
    split at hop2
    · rename_i k hk
      obtain ⟨k1, k2⟩ := keyL_sound (h.ev x) hk
      obtain ⟨b, hu, hc⟩ := mapOf_sound h (h.ev m) hmo
      split at hop2
      · rename_i es
        obtain ⟨kt', et', sk, ents, clock, e1, e2, e3, e4⟩ := mapI_ents hc
        rw [ht] at e1
        injection e1 with e1 e1'
        subst e1 e1'
        rw [e2] at hop2
        simp only at hop2
        obtain ⟨_, rfl⟩ := putOk_inv hop2
        obtain ⟨ti, z1, z2⟩ := (hT et).zsc sk e2
        refine key sk.mk sk.val _ _ (fun r => mk_FV sk r) ?_
        rw [hu]
        exact lookup_run hT hE ht k1 k2 e3 e4 (run_zeroValue z1 z2 w) ok
      · rename_i es
        obtain ⟨kt', et', ents, clock, e1, e2, e3, e4⟩ := mapS_ents hc
        rw [ht] at e1
        injection e1 with e1 e1'
        subst e1 e1'
        rw [e2] at hop2
        simp only at hop2
        obtain ⟨_, rfl⟩ := putOk_inv hop2
        obtain ⟨ti, z, z1, z2, z3, z4, z5, z6, z7, z8, _⟩ := hT.info' (t := et) (by rw [e2]; simp)
        have hz := z8 (by rw [e2])
        subst hz
        refine key V.str Value.string _ _ (fun r => rfl) ?_
        rw [hu]
        exact lookup_run hT hE ht k1 k2 e3 e4 (run_zeroValue z1 z4 w) ok
      · cases hop2
    · cases hop2
  · cases hop

/-- A number or bool as it lies in a map. -/
theorem fits_val {et : TypeId} {v : V} {u : Value} (hv : LV P T w Fr blk ρ v u) (hf : fits T et v = true) {sk : SK} (hd : (T.at et).d = .sc sk) : (∀ k n, v = .int k n → u = sk.val n) ∧ (∀ b, v = .bool b → u = sk.val (cond b 1 0)) := by
  constructor
  · rintro k n rfl
    simp only [fits, hd] at hf
    rw [hv.int_inv]
    cases sk with
    | int j => rw [sameKind_eq hf]; rfl
    | bool => cases hf
  · rintro b rfl
    simp only [fits, hd] at hf
    rw [hv.bool_inv]
    cases sk with
    | int j => cases hf
    | bool => cases b <;> rfl

theorem setBlock_size (w : World) (b : Nat) (o : Obj) : (setBlock w b o).heap.size = w.heap.size := by simp [setBlock]

theorem sb_other {w : World} {b k : Nat} (o : Obj) (h : k ≠ b) : (setBlock w b o).heap[k]? = w.heap[k]? := by
  simp only [setBlock]
  first | exact Array.getElem?_setIfInBounds_ne (Ne.symm h) | (rw [Array.getElem?_modify, if_neg (Ne.symm h)])
theorem sb_same {w : World} {b : Nat} (o : Obj) (h : b < w.heap.size) : (setBlock w b o).heap[b]? = some o := by
  simp [setBlock, h]

/-- A map's entries are changed: a block of its own. -/
theorem map_change (h : RelAt P T w0 M N ρ s a w) {k : Nat} {e : TypeId} {r : Bool} {d0 d1 : D} {b base : Nat} {lim : Lim} {o' : Obj} (hk : s.blk k = some ⟨e, r, d0⟩) (hρ : ρ k = some (b, base, lim)) (ha : d0.alike d1)
    (hO : ∀ Fr', OB P T (setBlock w b o') Fr' ⟨e, r, d1⟩ (some (b, base, lim))) : Rel P T w0 M N (s.setB k ⟨e, r, d1⟩) a (setBlock w b o') := by
  refine ⟨_, h.change (bk' := ⟨e, r, d1⟩) (loc' := ρ k) hk rfl rfl rfl (by rw [setBlock_size]; exact Nat.le_refl _) ?_ ?_ ?_ (.inr ⟨⟨rfl, rfl, ha⟩, rfl⟩)⟩
  · intro b' _ hne
    exact sb_other _ fun e' => hne (by rw [e']; exact owns_main hρ)
  · intro b' hb'
    exact ⟨by rw [setBlock_size]; exact (h.own k _ b' hk hb').1, .inl hb'⟩
  · intro _
    rw [hρ]
    exact hO _

theorem run_u {S : Sem Unit} {w' : World} (h : S.run P w = .ok () w') : (do S; pure Next.skip : Sem Next).run P w = .ok .skip w' := by
  rw [Sem.run_bind, h]; rfl

/-- A map in a cell: its entries are changed. -/
theorem mapc_change (h : RelAt P T w0 M N ρ s a w) {k i : Nat} {t t0 : TypeId} {r : Bool} {cs : List OC} {es es' : List (List Int × Int)} {b0 base b : Nat} {lim : Lim} {q : Nat × Nat} {o' : Obj} (hk : s.blk k = some ⟨t0, r, .obj cs⟩) (hi : cs[i]? = some (.m t es))
    (hρ : ρ k = some (b0, base, lim)) (hc : lim.c i = some (b, q)) (hM : MapI T (setBlock w b o') b t es') : Rel P T w0 M N (s.setB k ⟨t0, r, .obj (cs.set i (.m t es'))⟩) a (setBlock w b o') := by
  have hO := h.ob k _ hk
  rw [hρ] at hO
  obtain ⟨arr, o1, o2, o3, o4⟩ := hO
  obtain ⟨u0, u1, u2, u3⟩ := o3 i _ hi
  have hb0 : b0 ≠ b := fun e => by subst e; exact oco_main u3 rfl hc o1
  have hil : i < cs.length := by
    rcases Nat.lt_or_ge i cs.length with hh | hh
    · exact hh
    · rw [List.getElem?_eq_none hh] at hi; cases hi
  have hget : ∀ j, (cs.set i (.m t es'))[j]? = if i = j then some (.m t es') else cs[j]? := fun j => by
    by_cases e : i = j
    · subst e; rw [List.getElem?_set_self hil, if_pos rfl]
    · rw [List.getElem?_set_ne e, if_neg e]
  have hmc : ∀ j, isMc (rdo (cs.set i (.m t es')) j) = true → isMc (rdo cs j) = true := by
    intro j hj
    by_cases e : i = j
    · subst e; rw [rdo_get hi]; rfl
    · have : rdo (cs.set i (.m t es')) j = rdo cs j := by unfold rdo; rw [List.getD_eq_getElem?_getD, List.getD_eq_getElem?_getD, hget, if_neg e]
      rw [this] at hj
      exact hj
  refine ⟨_, h.change (bk' := ⟨t0, r, .obj (cs.set i (.m t es'))⟩) (loc' := ρ k) hk rfl rfl rfl (by rw [setBlock_size]; exact Nat.le_refl _) ?_ ?_ ?_ (.inr ⟨⟨rfl, rfl, by simp, fun j tt ee hj => ?_⟩, rfl⟩)⟩
  · intro b' _ hne
    exact sb_other _ fun e' => hne (by rw [e']; exact owns_kid hρ hc)
  · intro b' hb'
    exact ⟨by rw [setBlock_size]; exact (h.own k _ b' hk hb').1, .inl hb'⟩
  · intro hl
    rw [hρ] at hl ⊢
    refine ⟨arr, (sb_other _ hb0).trans o1, o2, fun j oc hj => ?_, fun i' j b' q1 q2 h1 h2 => o4 i' j b' q1 q2 (hmc _ h1) (hmc _ h2)⟩
    rw [hget] at hj
    by_cases e : i = j
    · subst e
      rw [if_pos rfl] at hj
      injection hj with hj
      subst hj
      obtain ⟨b1, q1, c1, c2, c3⟩ := u3
      rw [hc] at c1
      injection c1 with c1
      injection c1 with c1 _
      subst c1
      exact ⟨u0, u1, u2, b, q, hc, c2, hM⟩
    · rw [if_neg e] at hj
      obtain ⟨x, x1, x2, x3⟩ := o3 j oc hj
      refine ⟨x, x1, x2, x3.laterK hl fun b' q' hm hcj => sb_other _ fun e' => ?_⟩
      subst e'
      exact e (o4 i j b' q q' (by rw [rdo_get hi]; rfl) (by rw [rdo_get hj]; exact hm) hc hcj)
  · rw [hget]
    by_cases e : i = j
    · subst e
      rw [hi] at hj
      injection hj with hj
      injection hj with hj _
      subst hj
      exact ⟨es', by rw [if_pos rfl]⟩
    · exact ⟨ee, by rw [if_neg e]; exact hj⟩

theorem does_putMap (hT : TabOK P T) (hE : EqTabOK P T) (h : RelAt P T w0 M N ρ s a w) {t : TypeId} {m x v : Operand} {s' : St} (hop : putMap T s t (s.ev m) (s.ev x) (s.ev v) = .ok true s') :
    ∀ o : Oper, (o.op = .mapUpdate t m x v ∨ o.op = .insert t m x v) → ∃ n w', (execOp a.eval o).run P w = .ok n w' ∧ (n = .skip ∨ ∃ v, n = .value v) ∧ Rel P T w0 M N s' a w' := by
  have fin : ∀ {s2 : St} {w2 : World}, (Instr.mapUpdate t (a.eval m) (a.eval x) (a.eval v)).run P w = .ok () w2 → Rel P T w0 M N s2 a w2 → ∀ o : Oper, (o.op = .mapUpdate t m x v ∨ o.op = .insert t m x v) → ∃ n w', (execOp a.eval o).run P w = .ok n w' ∧ (n = .skip ∨ ∃ v, n = .value v) ∧ Rel P T w0 M N s2 a w' := by
    intro s2 w2 hrun hr o ho
    refine ⟨.skip, w2, ?_, .inl rfl, hr⟩
    rcases ho with ho | ho <;> (simp only [execOp, ho]; exact run_u hrun)
  have hm := h.ev m
  have hv := h.ev v
  unfold putMap at hop
  split at hop
  · rename_i kt et ht
    split at hop
    · rename_i q hq
      obtain ⟨k1, k2⟩ := keyL_sound (h.ev x) hq
      split at hop
      · rename_i k u hmv
        rw [hmv] at hm
        obtain ⟨bk, b, base, lim, g1, g2, g3, g4, hu⟩ := hm.mapk_inv
        cases hfit : (Nat.beq u t && fits T et (s.ev v)) with
        | true =>
          rw [hfit] at hop
          simp only [cond_true] at hop
          obtain ⟨f1, f2⟩ := and_true hfit
          have f1 := Nat.eq_of_beq_eq_true f1
          subst f1
          have put : ∀ (t0 : TypeId) (r : Bool) (es : List (List Int × Int)) (n : Int), s.blk k = some ⟨t0, r, .mapI es⟩ → (∀ sk, (T.at et).d = .sc sk → a.eval v = sk.val n) → ∀ o : Oper, (o.op = .mapUpdate u m x v ∨ o.op = .insert u m x v) → ∃ n' w', (execOp a.eval o).run P w = .ok n' w' ∧ (n' = .skip ∨ ∃ v, n' = .value v) ∧ Rel P T w0 M N (s.setB k ⟨t0, r, .mapI (putK es q n)⟩) a w' := by
            intro t0 r es n hk hn
            rw [hk] at g1
            injection g1 with g1
            subst g1
            simp only at g2
            subst g2
            have hO := h.ob k _ hk
            rw [g4] at hO
            obtain ⟨kt', et', sk, ents, clock, e1, e2, e3, e4⟩ := mapI_ents hO
            rw [ht] at e1
            injection e1 with e1 e1'
            subst e1 e1'
            obtain ⟨ents', clock', r1, r2⟩ := update_run hT hE ht k1 k2 e3 e4 n
            refine fin (by rw [hu, hn sk e2]; exact r1) (map_change h hk g4 trivial fun Fr' => ⟨kt, et, sk, ents', clock', ht, e2, ?_, r2.1, fun i kk nn hi => r2.2 i kk nn hi⟩)
            exact sb_same _ (lt_of_heap' e3)
          split at hop
          · rename_i t0 r es kd n hk hvv
            simp only [Out.ok.injEq, true_and] at hop
            subst hop
            exact put t0 r es n hk fun sk hsk => (fits_val hv f2 hsk).1 kd n hvv
          · rename_i t0 r es bb hk hvv
            simp only [Out.ok.injEq, true_and] at hop
            subst hop
            exact put t0 r es (cond bb 1 0) hk fun sk hsk => (fits_val hv f2 hsk).2 bb hvv
          · cases hop
        | false =>
          rw [hfit] at hop
          simp only [cond_false] at hop
          split at hop
          · rename_i t0 r es bb hk hvv het
            obtain ⟨f1, hop2⟩ := cond_ok hop
            clear hop
            have f1 := Nat.eq_of_beq_eq_true f1
            subst f1
            simp only [Out.ok.injEq, true_and] at hop2
            subst hop2
            rw [hk] at g1
            injection g1 with g1
            subst g1
            simp only at g2
            subst g2
            have hO := h.ob k _ hk
            rw [g4] at hO
            obtain ⟨kt', et', ents, clock, e1, e2, e3, e4⟩ := mapS_ents hO
            rw [ht] at e1
            injection e1 with e1 e1'
            subst e1 e1'
            rw [hvv] at hv
            obtain ⟨ents', clock', r1, r2⟩ := update_run hT hE ht k1 k2 e3 e4 bb
            refine fin (by rw [hu, hv.str_inv]; exact r1) (map_change h hk g4 trivial fun Fr' => ⟨kt, et, ents', clock', ht, e2, ?_, r2.1, fun i kk nn hi => r2.2 i kk nn hi⟩)
            exact sb_same _ (lt_of_heap' e3)
          · cases hop
      · rename_i k i u hmv
        rw [hmv] at hm
        obtain ⟨bk, cs, es, b0, base, b, lim, q', g1, g2, g3, g4, g5, hu⟩ := hm.mapc_inv
        obtain ⟨hfit, hop2⟩ := cond_ok hop
        clear hop
        obtain ⟨f1, f2⟩ := and_true hfit
        have f1 := Nat.eq_of_beq_eq_true f1
        subst f1
        obtain ⟨t0, r, dd⟩ := bk
        simp only at g2
        subst g2
        rw [g1] at hop2
        simp only [rdo_get g3] at hop2
        have put : ∀ (n : Int), (∀ sk, (T.at et).d = .sc sk → a.eval v = sk.val n) → ∀ o : Oper, (o.op = .mapUpdate u m x v ∨ o.op = .insert u m x v) → ∃ n' w', (execOp a.eval o).run P w = .ok n' w' ∧ (n' = .skip ∨ ∃ v, n' = .value v) ∧ Rel P T w0 M N (s.setB k ⟨t0, r, .obj (cs.set i (.m u (putK es q n)))⟩) a w' := by
          intro n hn
          have hO := h.ob k _ g1
          rw [g4] at hO
          obtain ⟨arr, o1, o2, o3, o4⟩ := hO
          obtain ⟨u0, u1, u2, b1, q1, c1, c2, c3⟩ := o3 i _ g3
          rw [g5] at c1
          injection c1 with c1
          injection c1 with c1 _
          subst c1
          obtain ⟨kt', et', sk, ents, clock, e1, e2, e3, e4⟩ := mapI_ents c3
          rw [ht] at e1
          injection e1 with e1 e1'
          subst e1 e1'
          obtain ⟨ents', clock', r1, r2⟩ := update_run hT hE ht k1 k2 e3 e4 n
          refine fin (by rw [hu, hn sk e2]; exact r1) (mapc_change h g1 g3 g4 g5 ⟨kt, et, sk, ents', clock', ht, e2, sb_same _ (lt_of_heap' e3), r2.1, fun i kk nn hi => r2.2 i kk nn hi⟩)
        split at hop2
        · rename_i u' es' kd n hmm hvv
          injection hmm with e1 e2
          subst e1 e2
          simp only [Out.ok.injEq, true_and] at hop2
          subst hop2
          exact put n fun sk hsk => (fits_val hv f2 hsk).1 kd n hvv
        · rename_i u' es' bb hmm hvv
          injection hmm with e1 e2
          subst e1 e2
          simp only [Out.ok.injEq, true_and] at hop2
          subst hop2
          exact put (cond bb 1 0) fun sk hsk => (fits_val hv f2 hsk).2 bb hvv
        · cases hop2
      · cases hop
    · cases hop
  · cases hop

end Go.Ev
end

section
/- Rows of one's own: built, put together. -/
namespace Go.Ev
open Go.RowKit (Below)

variable {P : Program} {T : Tab} {w0 w w' : World} {M : Mo} {ρ : Nat → Loc} {N : Nat → Loc × Blk} {s : St} {a : Act} {Fr : Nat → Prop} {blk : Nat → Option Blk}

def kids : Loc → Nat → Option (Nat × Nat × Nat)
  | some (_, _, lim) => lim.c
  | none => fun _ => none

theorem kids_owns {l : Loc} {i b : Nat} {q : Nat × Nat} (h : kids l i = some (b, q)) : l.owns b := by
  cases l with
  | none => cases h
  | some x => obtain ⟨b0, base, lim⟩ := x; exact owns_kid rfl h

theorem RowAt.congr {c c' : Nat → Option (Nat × Nat × Nat)} {j j' : Nat} {e : TypeId} {l : List Int} {u : Value} (h : RowAt T w c j e l u) (he : c' j' = c j) : RowAt T w c' j' e l u := by
  obtain ⟨ad, n, cap, h1, h2, h3, h4, h5⟩ := h
  refine ⟨ad, n, cap, h1, h2, h3, h4, ?_⟩
  rcases h5 with ⟨q1, q2, q3⟩ | ⟨b, o, lim, arr, q1, q2⟩
  · exact .inl ⟨q1, q2, he.trans q3⟩
  · exact .inr ⟨b, o, lim, arr, he.trans q1, q2⟩

theorem RowAt.heap {w' : World} {c : Nat → Option (Nat × Nat × Nat)} {j : Nat} {e : TypeId} {l : List Int} {u : Value} (h : RowAt T w c j e l u) (hc : ∀ b q, c j = some (b, q) → w'.heap[b]? = w.heap[b]?) : RowAt T w' c j e l u := by
  obtain ⟨ad, n, cap, h1, h2, h3, h4, h5⟩ := h
  refine ⟨ad, n, cap, h1, h2, h3, h4, h5.imp id ?_⟩
  rintro ⟨b, o, lim, arr, g1, g2, g3, g4, g5⟩
  exact ⟨b, o, lim, arr, g1, g2, g3, (hc b _ g1).trans g4, g5⟩

theorem RowAt.one {c : Nat → Option (Nat × Nat × Nat)} {j : Nat} {e : TypeId} {l : List Int} {u : Value} (h : RowAt T w c j e l u) : u.oneCell' = true := by
  obtain ⟨_, _, _, rfl, _⟩ := h
  rfl

/-- A row's block is no block of rows. -/
theorem rowAt_main {c : Nat → Option (Nat × Nat × Nat)} {j : Nat} {e e1 : TypeId} {l : List Int} {u : Value} (h : RowAt T w c j e1 l u) {b : Nat} {q : Nat × Nat} (hc : c j = some (b, q)) {arr : Array Value} (hh : w.heap[b]? = some (.cells arr e (0, 0))) (h1 : isFlatTy T e = false) (h2 : isFlatTy T e1 = true) : False := by
  obtain ⟨_, _, _, _, _, _, _, h5⟩ := h
  rcases h5 with ⟨_, _, h5⟩ | ⟨b', o, lim, arr', g1, _, _, g4, _⟩
  · rw [hc] at h5; cases h5
  · rw [hc] at g1
    injection g1 with g1
    injection g1 with g1 _
    subst g1
    rw [hh] at g4
    simp only [Option.some.injEq, Obj.cells.injEq] at g4
    rw [g4.2.1, h2] at h1
    cases h1

/-- What is known of a slice of rows of one's own. -/
structure OView (P : Program) (T : Tab) (w : World) (e e1 : TypeId) (xs : List (List Int)) (l : Loc) (u : Value) (ad : Option Addr) (n cap : Nat) (cells : List Value) : Prop where
  hu : u = .slice ad n cap
  hn : n = xs.length
  hcap : n ≤ cap ∧ cap ≤ maxLen
  len : cells.length = n
  ty : isFlatTy T e = false ∧ (T.at e).size = 1 ∧ (T.at e).d = .slice e1 ∧ isFlatTy T e1 = true
  row : ∀ j x, cells[j]? = some x → RowAt T w (kids l) j e1 (rdr xs j) x
  dist : ∀ i j b q q', i < n → j < n → kids l i = some (b, q) → kids l j = some (b, q') → i = j
  first : ∀ w', w'.heap = w.heap → (Builtin.firstCells (T.at e).size n u).run P w' = .ok cells.toArray w'
  at_ : (l = none ∧ n = 0 ∧ cap = 0) ∨ ∃ b base lim arr, l = some (b, base, lim) ∧ ad = some ⟨b, base, none⟩ ∧ base + cap ≤ lim.n ∧ w.heap[b]? = some (.cells arr e (0, 0)) ∧ arr.size = lim.n ∧ ∀ j, j < n → arr[base + j]? = cells[j]?

theorem oview (h : RelAt P T w0 M N ρ s a w) {k : Nat} {e e1 : TypeId} {xs : List (List Int)} {u : Value} (hk : s.blk k = some ⟨e, false, .orows e1 xs⟩) (hv : LV P T w (FrOf M.a s.blk ρ w) s.blk ρ (.slw k e) u) : ∃ ad n cap cells, OView P T w e e1 xs (ρ k) u ad n cap cells := by
  have hO := h.ob k _ hk
  cases hv with
  | bv _ _ h => cases h with
    | flat _ _ h => exact h.elim
  | slw k e bk b base lim n cap h1 h2 h3 h4 h5 h6 h7 h8 =>
    rw [hk] at h1
    injection h1 with h1
    subst h1
    rw [h4] at hO
    obtain ⟨arr, o1, o2, ⟨t1, t2, t3, t4⟩, o3, o4⟩ := hO
    have hn : n = xs.length := by simp only [D.len] at h5; rw [t2, Nat.mul_one] at h5; exact h5.symm
    rw [t2, Nat.mul_one] at h8
    refine ⟨some ⟨b, base, none⟩, n, cap, (List.range n).map fun j => arr.getD (base + j) undef, ?_⟩
    have hcell : ∀ j, j < n → ((List.range n).map fun j => arr.getD (base + j) undef)[j]? = arr[base + j]? := by
      intro j hj
      obtain ⟨x, hx, _⟩ := o3 j (hn ▸ hj)
      rw [List.getElem?_map, List.getElem?_range hj, hx]
      simp [Array.getD_eq_getD_getElem?, hx]
    refine ⟨rfl, hn, ⟨h6, h7⟩, by simp, ⟨t1, t2, t3, t4⟩, fun j x hx => ?_, fun i j b q q' hi hj => by rw [h4]; exact o4 i j b q q' (hn ▸ hi) (hn ▸ hj), fun w' hw => ?_, .inr ⟨b, base, lim, arr, h4, rfl, h8, o1, o2, fun j hj => (hcell j hj).symm⟩⟩
    · have hj : j < n := by
        rcases Nat.lt_or_ge j n with hh | hh
        · exact hh
        · rw [List.getElem?_eq_none (by simpa using hh)] at hx; cases hx
      obtain ⟨y, hy, hrow⟩ := o3 j (hn ▸ hj)
      rw [hcell j hj, hy] at hx
      injection hx with hx
      subst hx
      rw [h4]
      exact hrow
    · refine firstCells_of (by simp [t2]) (.inr ⟨b, base, rfl, fun j x hx => ?_⟩) w' hw
      have hj : j < n := by
        rcases Nat.lt_or_ge j n with hh | hh
        · exact hh
        · rw [List.getElem?_eq_none (by simpa using hh)] at hx; cases hx
      rw [hcell j hj] at hx
      rw [rowCell o1]
      exact hx
  | slwNil k e bk ad h1 h2 h3 h4 h5 =>
    rw [hk] at h1
    injection h1 with h1
    subst h1
    rw [h4] at hO
    obtain ⟨_, _, t1, t2, t3, t4⟩ := hO
    have hx : xs = [] := List.eq_nil_of_length_eq_zero h5
    subst hx
    refine ⟨ad, 0, 0, [], rfl, rfl, ⟨Nat.le_refl _, Nat.zero_le _⟩, rfl, ⟨t1, t2, t3, t4⟩, fun j x hx => by simp at hx, fun i j b q q' hi => by omega, fun w' hw => firstCells_of (by simp) (.inl rfl) w' hw, .inl ⟨h4, rfl, rfl⟩⟩

def kidsApp (n m : Nat) (c1 c2 : Nat → Option (Nat × Nat × Nat)) (j : Nat) : Option (Nat × Nat × Nat) := if j < n then c1 j else if j < n + m then c2 (j - n) else none

theorem rdr_app_lt {xs ys : List (List Int)} {j : Nat} (h : j < xs.length) : rdr (xs ++ ys) j = rdr xs j := by
  simp [rdr, List.getD_eq_getElem?_getD, List.getElem?_append_left h]
theorem rdr_app_ge {xs ys : List (List Int)} {j : Nat} (h : xs.length ≤ j) : rdr (xs ++ ys) j = rdr ys (j - xs.length) := by
  simp [rdr, List.getD_eq_getElem?_getD, List.getElem?_append_right h]

theorem append_rel (h : RelAt P T w0 M N ρ s a w) {k k2 : Nat} {e e1 : TypeId} {xs ys : List (List Int)} {u u2 : Value} {ad ad2 : Option Addr} {n m cap cap2 : Nat} {c1 c2 : List Value} (hkn : k < s.n) (hkn2 : k2 < s.n) (hne : k ≠ k2)
    (hk : s.blk k = some ⟨e, false, .orows e1 xs⟩) (hk2 : s.blk k2 = some ⟨e, false, .orows e1 ys⟩) (V1 : OView P T w e e1 xs (ρ k) u ad n cap c1) (V2 : OView P T w e e1 ys (ρ k2) u2 ad2 m cap2 c2)
    {b' base' n' : Nat} {arr' : Array Value} (hos : w'.os = w.os) (htape : w'.tape = w.tape) (hout : w'.output = w.output) (hsz : w.heap.size ≤ w'.heap.size)
    (hheap : ∀ b, b < w.heap.size → ¬ (ρ k).owns b → w'.heap[b]? = w.heap[b]?) (hkid : ∀ i b q, i < n → kids (ρ k) i = some (b, q) → w'.heap[b]? = w.heap[b]?)
    (hmain : (ρ k).owns b' ∨ w.heap.size ≤ b') (hlt : b' < w'.heap.size) (harr : w'.heap[b']? = some (.cells arr' e (0, 0))) (hn' : arr'.size = n')
    (hc1 : ∀ j, j < n → arr'[base' + j]? = c1[j]?) (hc2 : ∀ j, j < m → arr'[base' + n + j]? = c2[j]?) :
    RelAt P T w0 M N (upd ρ k (some (b', base', ⟨n', kidsApp n m (kids (ρ k)) (kids (ρ k2))⟩))) ((((s.kill k2).drop k2).kill k).setB k ⟨e, false, .orows e1 (xs ++ ys)⟩) a w' := by
  have hblk : ∀ j bj, ((((s.kill k2).drop k2).kill k).setB k ⟨e, false, .orows e1 (xs ++ ys)⟩).blk j = some bj → (j = k ∧ bj = ⟨e, false, .orows e1 (xs ++ ys)⟩) ∨ (j ≠ k ∧ j ≠ k2 ∧ s.blk j = some bj) := by
    intro j bj hj
    by_cases ej : j = k
    · subst ej
      rw [blk_setB_self] at hj
      injection hj with hj
      exact .inl ⟨rfl, hj.symm⟩
    · rw [blk_setB_ne _ _ (Ne.symm ej)] at hj
      by_cases e2 : j = k2
      · subst e2; rw [blk_kill, blk_drop_self] at hj; cases hj
      · rw [blk_kill, blk_drop_ne _ (Ne.symm e2)] at hj
        exact .inr ⟨ej, e2, hj⟩
  have hown' : ∀ b, Loc.owns (some (b', base', ⟨n', kidsApp n m (kids (ρ k)) (kids (ρ k2))⟩)) b → b = b' ∨ (ρ k).owns b ∨ (ρ k2).owns b := by
    intro b hb
    rcases owns_some hb with hb | ⟨i, q, hb⟩
    · exact .inl hb
    · right
      simp only [kidsApp] at hb
      split at hb
      · exact .inl (kids_owns hb)
      · split at hb
        · exact .inr (kids_owns hb)
        · cases hb
  have hgetk : ∀ t, V.has k2 (((((s.kill k2).drop k2).kill k).setB k ⟨e, false, .orows e1 (xs ++ ys)⟩).get t) = false := by
    intro t
    show V.has k2 ((((s.kill k2).drop k2).kill k).get t) = false
    rw [get_kill]
    cases V.has k (((s.kill k2).drop k2).get t) with
    | true => rfl
    | false => exact noRef_kill s k2 t
  refine h.turn (fun j => j = k ∨ j = k2) rfl hos htape hout hsz ?_ ?_ ?_ ?_ ?_ ?_ ?_ ?_
  · intro t
    show (((s.kill k2).drop k2).kill k).get t = _ ∨ (((s.kill k2).drop k2).kill k).get t = _
    rw [get_kill]
    cases V.has k (((s.kill k2).drop k2).get t) with
    | true => exact .inr rfl
    | false =>
      show (s.kill k2).get t = _ ∨ (s.kill k2).get t = _
      rw [get_kill]
      cases V.has k2 (s.get t) with
      | true => exact .inr rfl
      | false => exact .inl rfl
  · intro j hj
    simp only [not_or] at hj
    exact ⟨by rw [blk_setB_ne _ _ (Ne.symm hj.1), blk_kill, blk_drop_ne _ (Ne.symm hj.2)]; rfl, upd_ne _ _ hj.1⟩
  · intro b hb hno
    exact hheap b hb (hno k _ (.inl rfl) hk)
  · intro j bj b hj hb ho
    rcases hblk j bj hb with ⟨rfl, rfl⟩ | ⟨q1, q2, _⟩
    · rw [upd_self] at ho
      rcases hown' b ho with rfl | ho | ho
      · exact ⟨hlt, hmain.imp (fun q => ⟨j, _, .inl rfl, hk, q⟩) id⟩
      · exact ⟨Nat.lt_of_lt_of_le (h.own j _ b hk ho).1 hsz, .inl ⟨j, _, .inl rfl, hk, ho⟩⟩
      · exact ⟨Nat.lt_of_lt_of_le (h.own k2 _ b hk2 ho).1 hsz, .inl ⟨k2, _, .inr rfl, hk2, ho⟩⟩
    · exact absurd hj (by simp [q1, q2])
  · intro i j bi bj b hi hj h1 h2 _ _
    rcases hblk i bi h1 with ⟨e1, _⟩ | ⟨q1, q2, _⟩
    · rcases hblk j bj h2 with ⟨e2, _⟩ | ⟨q1, q2, _⟩
      · exact e1.trans e2.symm
      · exact absurd hj (by simp [q1, q2])
    · exact absurd hi (by simp [q1, q2])
  · intro _ j bj hj hb
    rcases hblk j bj hb with ⟨rfl, rfl⟩ | ⟨q1, q2, _⟩
    · rw [upd_self]
      have hkid2 : ∀ i b q, kids (ρ k2) i = some (b, q) → w'.heap[b]? = w.heap[b]? := fun i b q hq => hheap b (h.own k2 _ b hk2 (kids_owns hq)).1 fun ho => hne (h.one j k2 _ _ b hk hk2 ho (kids_owns hq))
      refine ⟨arr', harr, hn', V1.ty, fun i hi => ?_, fun i i2 b q q' hi hi2 hq hq' => ?_⟩
      · rw [List.length_append, ← V1.hn, ← V2.hn] at hi
        by_cases c : i < n
        · have hlen : i < c1.length := by rw [V1.len]; exact c
          refine ⟨c1[i], by rw [hc1 i c, List.getElem?_eq_getElem hlen], ?_⟩
          rw [rdr_app_lt (by rw [← V1.hn]; exact c)]
          exact ((V1.row i _ (List.getElem?_eq_getElem hlen)).heap fun b q hq => hkid i b q c hq).congr (by simp only [kidsApp, if_pos c])
        · have hlen : i - n < c2.length := by rw [V2.len]; omega
          refine ⟨c2[i - n], by rw [show base' + i = base' + n + (i - n) by omega, hc2 (i - n) (by omega), List.getElem?_eq_getElem hlen], ?_⟩
          rw [rdr_app_ge (by rw [← V1.hn]; omega), ← V1.hn]
          exact ((V2.row (i - n) _ (List.getElem?_eq_getElem hlen)).heap fun b q hq => hkid2 _ b q hq).congr (by simp only [kidsApp, if_neg c, if_pos (show i < n + m by omega)])
      · rw [List.length_append, ← V1.hn, ← V2.hn] at hi hi2
        simp only [kidsApp] at hq hq'
        by_cases c : i < n <;> by_cases c' : i2 < n
        · rw [if_pos c] at hq; rw [if_pos c'] at hq'
          exact V1.dist i i2 b q q' c c' hq hq'
        · rw [if_pos c] at hq; rw [if_neg c', if_pos hi2] at hq'
          exact absurd (h.one j k2 _ _ b hk hk2 (kids_owns hq) (kids_owns hq')) hne
        · rw [if_neg c, if_pos hi] at hq; rw [if_pos c'] at hq'
          exact absurd (h.one j k2 _ _ b hk hk2 (kids_owns hq') (kids_owns hq)) hne
        · rw [if_neg c, if_pos hi] at hq; rw [if_neg c', if_pos hi2] at hq'
          have := V2.dist (i - n) (i2 - n) b q q' (by omega) (by omega) hq hq'
          omega
    · exact absurd hj (by simp [q1, q2])
  · intro t j bj hj hh hb
    rcases hj with rfl | rfl
    · have hh : V.has j ((((s.kill k2).drop k2).kill j).get t) = true := hh
      rw [noRef_kill] at hh
      cases hh
    · rw [hgetk t] at hh
      cases hh
  · intro j hj hn
    rcases hj with rfl | rfl
    · omega
    · omega

theorem does_appendO (hT : TabOK P T) (h : RelAt P T w0 M N ρ s a w) {d : Nat} (hd : d < s.n) {c : Call} {x y : Operand} {t u : TypeId} (hc : c.callee = .builtin .append) (ha : c.args.toList = [x, y]) (hty : c.argTypes.toList = [t, u]) {s' : St}
    (hop : appendO T s d t u (s.ev x) (s.ev y) = some (.ok true s')) : Does P T w0 M N (.call c) a w d s' := by
  unfold appendO at hop
  split at hop
  · rename_i k e k2 e2 hx hy
    split at hop
    · rename_i e0 e1 xs e3 e4 ys hk hk2
      injection hop with hop
      obtain ⟨hq, hop⟩ := cond_ok hop
      simp only [Bool.and_eq_true, Bool.not_eq_true'] at hq
      obtain ⟨q1, q2, q3, q4, q5, q6, q7, q8, q9⟩ := hq
      have q4 := Nat.eq_of_beq_eq_true q4
      have q5 := Nat.eq_of_beq_eq_true q5
      have q6 := Nat.eq_of_beq_eq_true q6
      have q7 := Nat.eq_of_beq_eq_true q7
      subst q4 q5 q6 q7
      have hne : k ≠ k2 := fun e => by subst e; rw [Nat.beq_refl] at q3; cases q3
      have q1 : k < s.n := Nat.le_of_ble_eq_true q1
      have q2 : k2 < s.n := Nat.le_of_ble_eq_true q2
      simp only [Out.ok.injEq, decide_eq_true_eq] at hop
      obtain ⟨hbig, rfl⟩ := hop
      intro o ho
      have hvx := h.ev x
      have hvy := h.ev y
      rw [hx] at hvx
      rw [hy] at hvy
      have hdt := (hT t).desc
      rw [isSliceOf_eq q8] at hdt
      have hdu := (hT u).desc
      rw [isSliceOf_eq q9] at hdu
      obtain ⟨ad, n, cap, c1, V1⟩ := oview h hk hvx
      obtain ⟨ad2, m, cap2, c2, V2⟩ := oview h hk2 hvy
      have hsum : n + m ≤ bigLen := by rw [V1.hn, V2.hn]; exact hbig
      have hs1 := V1.ty.2.1
      obtain ⟨ti, z, z1, z2, z3, z4, z5, z6, _⟩ := hT.info' (t := e3) (by rw [V1.ty.2.2.1]; simp)
      have hexec : (execOp a.eval o).run P w = ((Builtin.append_ #[t, u] o.type #[.slice ad n cap, .slice ad2 m cap2]).run P w).andThen fun v w' => .ok (.value v) w' := by
        rw [exec_builtin _ c o ho hc, args_two ha, tys_two hty, V1.hu, V2.hu]
        unfold builtin
        simp only
        rw [Sem.run_bind]
        rfl
      have hlen3 : D.len (.orows e4 (xs ++ ys)) = (n + m) * (T.at e3).size := by rw [hs1, Nat.mul_one, V1.hn, V2.hn]; simp [D.len]
      have hone : ∀ v ∈ c2, v.oneCell' = true := by
        intro v hv
        obtain ⟨j, hj⟩ := List.getElem?_of_mem hv
        exact (V2.row j v hj).one
      by_cases hroom : n + m ≤ cap
      · have hnew0 := V2.first w rfl
        rw [V2.hu, ← z2] at hnew0
        have hrun := run_append_room' (ty := o.type) (w := w) hdt hdu z1 (ad := ad) (n := n) hroom hnew0
        rcases V1.at_ with ⟨l1, l2, l3⟩ | ⟨b, base, lim, arr, l1, l2, l3, l4, l5, l6⟩
        · have hm0 : m = 0 := by omega
          subst l2 l3 hm0
          have hc2 : c2 = [] := List.eq_nil_of_length_eq_zero V2.len
          subst hc2
          have hxs : xs = [] := List.eq_nil_of_length_eq_zero V1.hn.symm
          have hys : ys = [] := List.eq_nil_of_length_eq_zero V2.hn.symm
          subst hxs hys
          have hres : (execOp a.eval o).run P w = .ok (.value (.slice ad 0 0)) w := by
            rw [hexec, hrun]
            cases ad <;> rfl
          have h1 := ((h.kill k2).dropB (k := k2) (noRef_kill s k2)).kill k
          have h2 := h1.ext (s' := (((s.kill k2).drop k2).kill k).setB k ⟨e3, false, .orows e4 ([] ++ [])⟩) rfl (fun _ => rfl) fun j => by
            by_cases ej : j = k
            · subst ej
              rw [blk_setB_self, blk_kill, blk_drop_ne _ (Ne.symm hne)]
              exact hk.symm
            · rw [blk_setB_ne _ _ (Ne.symm ej)]
          exact ⟨_, w, hres, _, h2.put (by exact hd) (.slwNil k e3 ⟨e3, false, .orows e4 ([] ++ [])⟩ ad (blk_setB_self _ _ _) rfl rfl l1 rfl)⟩
        · obtain ⟨arr', a1, a2, a3⟩ := storeCells_run P (o := base + n) (vs := c2) l4 (by rw [V2.len]; omega) hone
          have hres : (execOp a.eval o).run P w = .ok (.value (.slice ad (n + m) cap)) (w.setRow b arr') := by
            rw [hexec, hrun, l2]
            simp only [addr_add, z2, hs1, Nat.mul_one]
            rw [a1]
            rfl
          have hrel := append_rel h q1 q2 hne hk hk2 V1 V2 (w' := w.setRow b arr') (b' := b) (base' := base) (n' := lim.n) (arr' := arr') rfl rfl rfl (by simp) (fun b2 _ hno => heap_setRow_ne w arr' fun e' => hno (by rw [e', l1]; exact owns_main rfl)) (fun i b2 q hi hq => heap_setRow_ne w arr' fun e' => by
              subst e'
              have hlen : i < c1.length := by rw [V1.len]; exact hi
              exact rowAt_main (V1.row i _ (List.getElem?_eq_getElem hlen)) hq l4 V1.ty.1 V1.ty.2.2.2) (.inl (by rw [l1]; exact owns_main rfl)) (by simpa using lt_of_heap' l4) (setRow_heap w b arr arr' e3 (0, 0) l4) (by rw [a2, l5])
            (fun j hj => by rw [a3, if_neg (by omega)]; exact l6 j hj) (fun j hj => by rw [a3, if_pos (by rw [V2.len]; omega)]; congr 1; omega)
          refine ⟨_, _, hres, _, hrel.put (by exact hd) ?_⟩
          rw [l2]
          exact .slw k e3 ⟨e3, false, .orows e4 (xs ++ ys)⟩ b base _ (n + m) cap (blk_setB_self _ _ _) rfl rfl (upd_self _ _ _) hlen3 hroom V1.hcap.2 (by rw [hs1, Nat.mul_one]; exact l3)
      · have hold0 := V1.first w.drew rfl
        rw [V1.hu, ← z2] at hold0
        have hnew0 := V2.first w.drew rfl
        rw [V2.hu, ← z2] at hnew0
        have hrun := run_append_more (ty := o.type) (w := w) hdt hdu z1 z4 (by omega) hsum z3 hold0 hnew0
        have hneed : n + m ≤ maxLen := by simp only [bigLen] at hsum; simp only [maxLen]; omega
        have hge := grownCap_ge w (n + m) cap e3
        have hle := grownCap_le_maxLen w (n + m) cap e3 hneed
        generalize hN : grownCap w (n + m) cap e3 = NN at *
        have hres : (execOp a.eval o).run P w = .ok (.value (.slice (some ⟨w.heap.size, 0, none⟩) (n + m) NN)) (w.drew.alloc (.cells (c1.toArray ++ c2.toArray ++ Builtin.zeroCells z.cells (NN - (n + m))) e3)) := by
          rw [hexec, hrun]
          rfl
        generalize hA : c1.toArray ++ c2.toArray ++ Builtin.zeroCells z.cells (NN - (n + m)) = A at *
        have hAsz : A.size = NN := by
          rw [← hA]
          simp only [Array.size_append, List.size_toArray, size_zeroCells, z5, hs1, V1.len, V2.len, Nat.mul_one]
          omega
        have hB : Below w.heap.size w (w.drew.alloc (.cells A e3)) := ((Below.refl w.heap.size w).drew).alloc (Nat.le_refl _) _
        have hrel := append_rel h q1 q2 hne hk hk2 V1 V2 (w' := w.drew.alloc (.cells A e3)) (b' := w.heap.size) (base' := 0) (n' := A.size) (arr' := A) rfl rfl rfl (by simp) (fun b2 hb2 _ => hB.block b2 hb2) (fun i b2 q hi hq => hB.block b2 (h.own k _ b2 hk (kids_owns hq)).1) (.inr (Nat.le_refl _)) (by simp) (heap_alloc_new w.drew _) rfl
          (fun j hj => by rw [← hA, Nat.zero_add, Array.append_assoc, Array.getElem?_append_left (by simp [V1.len]; omega)]; simp)
          (fun j hj => by
            rw [← hA, Nat.zero_add, Array.append_assoc, Array.getElem?_append_right (by simp [V1.len])]
            rw [Array.getElem?_append_left (by simp [V1.len, V2.len]; omega)]
            simp [V1.len])
        exact ⟨_, _, hres, _, hrel.put (by exact hd) (.slw k e3 ⟨e3, false, .orows e4 (xs ++ ys)⟩ w.heap.size 0 _ (n + m) NN (blk_setB_self _ _ _) rfl rfl (upd_self _ _ _) hlen3 hge hle (by rw [hs1]; show 0 + NN * 1 ≤ A.size; omega))⟩
    · cases hop
  · cases hop

end Go.Ev
end

section
/- Rows of one's own: a literal; a map put into a cell. -/
namespace Go.Ev
open Go.RowKit (Below)

variable {P : Program} {T : Tab} {w0 w w' : World} {M : Mo} {ρ : Nat → Loc} {N : Nat → Loc × Blk} {s : St} {a : Act} {Fr : Nat → Prop} {blk : Nat → Option Blk}

theorem orowsOf_spec {e' : TypeId} : ∀ (ps : List (Nat × Operand)) (j : Nat) (q : List (List Int)) (ks : List Nat), orowsOf s e' ps j = some (q, ks) →
    q.length = ps.length ∧ ks.length = ps.length ∧ ∀ i p, ps[i]? = some p → p.1 = j + i ∧ ∃ k, ks[i]? = some k ∧ s.ev p.2 = .slw k e' ∧ s.blk k = some ⟨e', false, .ints (rdr q i)⟩ ∧ k < s.n := by
  intro ps
  induction ps with
  | nil =>
    intro j q ks h
    simp only [orowsOf, Option.some.injEq, Prod.mk.injEq] at h
    obtain ⟨rfl, rfl⟩ := h
    exact ⟨rfl, rfl, fun i p hp => by simp at hp⟩
  | cons p ps ih =>
    intro j q ks h
    obtain ⟨i0, x⟩ := p
    simp only [orowsOf] at h
    obtain ⟨hij, h1⟩ := cond_some h
    have hij := Nat.eq_of_beq_eq_true hij
    subst hij
    split at h1
    · rename_i k e1 hx
      split at h1
      · rename_i e0 l q' ks' hk hr
        obtain ⟨hc, h2⟩ := cond_some h1
        obtain ⟨c1, c2⟩ := and_true hc
        obtain ⟨c2, c3⟩ := and_true c2
        have c1 := Nat.eq_of_beq_eq_true c1
        have c2 := Nat.eq_of_beq_eq_true c2
        have c3 : k < s.n := Nat.le_of_ble_eq_true c3
        subst c1 c2
        injection h2 with h2
        injection h2 with e1 e2
        subst e1 e2
        obtain ⟨r1, r2, r3⟩ := ih (i0 + 1) q' ks' hr
        refine ⟨by simp [r1], by simp [r2], fun i p hp => ?_⟩
        cases i with
        | zero =>
          simp only [List.getElem?_cons_zero, Option.some.injEq] at hp
          subst hp
          exact ⟨rfl, k, rfl, hx, hk, c3⟩
        | succ i =>
          obtain ⟨t1, t2⟩ := r3 i p (by simpa using hp)
          exact ⟨by rw [t1]; omega, t2⟩
      · cases h1
    · cases h1

theorem get_dropAll : ∀ (ks : List Nat) (s : St) (t : Nat), (dropAll s ks).get t = s.get t ∨ (dropAll s ks).get t = .undef := by
  intro ks
  induction ks with
  | nil => intro s t; exact .inl rfl
  | cons k ks ih =>
    intro s t
    show (dropAll ((s.kill k).drop k) ks).get t = _ ∨ _
    rcases ih ((s.kill k).drop k) t with e | e
    · refine Or.imp (fun q => e.trans q) (fun q => e.trans q) ?_
      show (s.kill k).get t = _ ∨ (s.kill k).get t = _
      rw [get_kill]
      cases V.has k (s.get t) with
      | true => exact .inr rfl
      | false => exact .inl rfl
    · exact .inr e

theorem has_dropAll : ∀ (ks : List Nat) (s : St) (k t : Nat), (k ∈ ks ∨ V.has k (s.get t) = false) → V.has k ((dropAll s ks).get t) = false := by
  intro ks
  induction ks with
  | nil => intro s k t h; exact h.resolve_left (by simp)
  | cons k0 ks ih =>
    intro s k t h
    refine ih ((s.kill k0).drop k0) k t ?_
    by_cases e : k ∈ ks
    · exact .inl e
    · right
      show V.has k ((s.kill k0).get t) = false
      rcases h with h | h
      · rcases List.mem_cons.1 h with rfl | h
        · exact noRef_kill s k t
        · exact absurd h e
      · rw [get_kill]
        cases V.has k0 (s.get t) with
        | true => rfl
        | false => exact h

theorem blk_dropAll_mem : ∀ (ks : List Nat) (s : St) (k : Nat), (k ∈ ks ∨ s.blk k = none) → (dropAll s ks).blk k = none := by
  intro ks
  induction ks with
  | nil => intro s k h; exact h.resolve_left (by simp)
  | cons k0 ks ih =>
    intro s k h
    refine ih ((s.kill k0).drop k0) k ?_
    by_cases e : k = k0
    · subst e; right; exact blk_drop_self _ _
    · rcases h with h | h
      · rcases List.mem_cons.1 h with h | h
        · exact absurd h e
        · exact .inl h
      · right; rw [blk_drop_ne _ (Ne.symm e)]; exact h

theorem n_dropAll : ∀ (ks : List Nat) (s : St), (dropAll s ks).n = s.n := by
  intro ks
  induction ks with
  | nil => intro s; rfl
  | cons k ks ih => intro s; exact ih _

theorem distinct_idx : ∀ {ks : List Nat}, distinct ks = true → ∀ (i j k : Nat), ks[i]? = some k → ks[j]? = some k → i = j := by
  intro ks
  induction ks with
  | nil => intro _ i j k h; simp at h
  | cons x r ih =>
    intro h i j k h1 h2
    simp only [distinct, Bool.and_eq_true, Bool.not_eq_true'] at h
    have hx : ∀ i : Nat, r[i]? ≠ some x := by
      intro i hi
      have := h.1
      rw [List.any_eq_false] at this
      exact this x (List.mem_of_getElem? hi) (Nat.beq_refl x)
    cases i with
    | zero =>
      cases j with
      | zero => rfl
      | succ j =>
        simp only [List.getElem?_cons_zero, Option.some.injEq] at h1
        subst h1
        exact absurd (by simpa using h2) (hx j)
    | succ i =>
      cases j with
      | zero =>
        simp only [List.getElem?_cons_zero, Option.some.injEq] at h2
        subst h2
        exact absurd (by simpa using h1) (hx i)
      | succ j => rw [ih h.2 i j k (by simpa using h1) (by simpa using h2)]

/-- Where the block of row i lies. -/
def kidOf (ρ : Nat → Loc) (ks : List Nat) (i : Nat) : Option (Nat × Nat × Nat) :=
  match ks[i]? with
  | some k => match ρ k with
    | some (b, base, lim) => some (b, base, lim.n)
    | none => none
  | none => none

theorem kidOf_some {ks : List Nat} {i b : Nat} {q : Nat × Nat} (h : kidOf ρ ks i = some (b, q)) : ∃ k, ks[i]? = some k ∧ (ρ k).owns b := by
  unfold kidOf at h
  split at h
  · rename_i k hk
    split at h
    · rename_i b' base lim hρ
      injection h with h
      injection h with h _
      subst h
      exact ⟨k, hk, owns_main hρ⟩
    · cases h
  · cases h

theorem does_buildOrows (hT : TabOK P T) (h : RelAt P T w0 M N ρ s a w) {d : Nat} (hd : d < s.n) {t e e' : TypeId} {n : Nat} {ps : Array (Nat × Operand)} {q : List (List Int)} {ks : List Nat} (ht : (T.at t).d = .slice e) (he : (T.at e).d = .slice e') (hnf : isFlatTy T e = false)
    (hf' : isFlatTy T e' = true) (hs1 : (T.at e).size = 1) (hn : n * (T.at e).size ≤ 16777216) (hr : orowsOf s e' ps.toList 0 = some (q, ks)) (hdi : distinct ks = true) (hq : q.length = n) (hb : (dropAll s ks).blk d = none) :
    Does P T w0 M N (.buildSlice t n ps) a w d (((dropAll s ks).setB d ⟨e, false, .orows e' q⟩).put d (.slw d e)) := by
  intro o ho
  have hde := (hT t).desc
  rw [ht] at hde
  obtain ⟨ti, z, z1, z2, z3, z4, z5, z6, z7, z8, z9⟩ := hT.info' (t := e) (by rw [he]; simp)
  obtain ⟨r1, r2, r3⟩ := orowsOf_spec _ _ _ _ hr
  have hlen : ps.toList.length = n := by rw [← r1, hq]
  -- each row, where it lies
  have hrow : ∀ i p, ps.toList[i]? = some p → RowAt T w (kidOf ρ ks) i e' (rdr q i) (a.eval p.2) := by
    intro i p hp
    obtain ⟨_, k, t2, t3, t4, _⟩ := r3 i p hp
    have hv := h.ev p.2
    rw [t3] at hv
    have hO := h.ob k _ t4
    generalize a.eval p.2 = u at hv
    cases hv with
    | bv _ _ h => cases h with
      | flat _ _ h => exact h.elim
    | slw k e'' bk b base lim m cap h1 h2 h3 h4 h5 h6 h7 h8 =>
      rw [t4] at h1
      injection h1 with h1
      subst h1
      rw [h4] at hO
      obtain ⟨arr, o1, o2, o3, o4⟩ := hO
      exact ⟨_, m, cap, rfl, h5, h6, h7, .inr ⟨b, base, lim.n, arr, by unfold kidOf; rw [t2]; simp only [h4], rfl, h8, o1, o2, o4⟩⟩
    | slwNil k e'' bk ad h1 h2 h3 h4 h5 =>
      rw [t4] at h1
      injection h1 with h1
      subst h1
      exact ⟨ad, 0, 0, rfl, by simpa [D.len] using h5, Nat.le_refl _, Nat.zero_le _, .inl ⟨rfl, rfl, by unfold kidOf; rw [t2]; simp only [h4]⟩⟩
  have hps : (ps.map fun (i, x) => (i, a.eval x)).toList = ps.toList.map fun p => (p.1, a.eval p.2) := by simp
  obtain ⟨cells, c1, c2, c3⟩ := fill_one (ps.toList.map fun p => (p.1, a.eval p.2)) 0 (madeCells z.cells (n * ti.size)) (by
    intro i p hp
    simp only [List.getElem?_map, Option.map_eq_some_iff] at hp
    obtain ⟨p0, hp0, rfl⟩ := hp
    obtain ⟨t1, _⟩ := r3 i p0 hp0
    obtain ⟨ad, m, cap, hu, _⟩ := hrow i p0 hp0
    refine ⟨t1, ?_⟩
    simp only
    rw [hu]; rfl) (by rw [size_madeCells, z2, hs1]; simp only [List.length_map, hlen]; omega)
  have hcsz : cells.size = n := by rw [c2, size_madeCells, z2, hs1, Nat.mul_one]
  have hB : Below w.heap.size w (w.alloc (.cells cells e)) := (Below.refl _ _).alloc (Nat.le_refl _) _
  have hC : ∀ j bj, (j = d ∨ j ∈ ks) → ((dropAll s ks).setB d ⟨e, false, .orows e' q⟩).blk j = some bj → j = d ∧ bj = ⟨e, false, .orows e' q⟩ := by
    intro j bj hj hbj
    by_cases ej : j = d
    · subst ej
      rw [blk_setB_self] at hbj
      injection hbj with hbj
      exact ⟨rfl, hbj.symm⟩
    · rw [blk_setB_ne _ _ (Ne.symm ej), blk_dropAll_mem ks s j (.inl (hj.resolve_left ej))] at hbj
      cases hbj
  have hdb : s.blk d ≠ none → d ∈ ks := fun hne => by
    refine Classical.byContradiction fun hni => ?_
    rw [blk_dropAll ks s d hni] at hb
    exact hne hb
  have hsb : ∀ k ∈ ks, ∃ bk, s.blk k = some bk ∧ k < s.n := by
    intro k hk
    obtain ⟨i, hi⟩ := List.getElem?_of_mem hk
    have hil : i < ps.toList.length := by
      rcases Nat.lt_or_ge i ps.toList.length with hh | hh
      · exact hh
      · rw [List.getElem?_eq_none (by omega)] at hi; cases hi
    obtain ⟨_, k', t2, _, t4, t5⟩ := r3 i _ (List.getElem?_eq_getElem hil)
    rw [hi] at t2
    injection t2 with t2
    subst t2
    exact ⟨_, t4, t5⟩
  have hrel : RelAt P T w0 M N (upd ρ d (some (w.heap.size, 0, ⟨cells.size, kidOf ρ ks⟩))) ((dropAll s ks).setB d ⟨e, false, .orows e' q⟩) a (w.alloc (.cells cells e)) := by
    refine h.turn (fun j => j = d ∨ j ∈ ks) (n_dropAll ks s) rfl rfl rfl (by simp) (fun t => get_dropAll ks s t) ?_ (fun b hb' _ => hB.block b hb') ?_ ?_ ?_ ?_ ?_
    · intro j hj
      simp only [not_or] at hj
      exact ⟨by rw [blk_setB_ne _ _ (Ne.symm hj.1), blk_dropAll ks s j hj.2], upd_ne _ _ hj.1⟩
    · intro j bj b hj hbj hob
      obtain ⟨rfl, rfl⟩ := hC j bj hj hbj
      rw [upd_self] at hob
      rcases owns_some hob with rfl | ⟨i, q', hi⟩
      · exact ⟨by simp, .inr (Nat.le_refl _)⟩
      · obtain ⟨k, k1, k2⟩ := kidOf_some hi
        obtain ⟨bk, k3, _⟩ := hsb k (List.mem_of_getElem? k1)
        exact ⟨Nat.lt_of_lt_of_le (h.own k bk b k3 k2).1 (by simp), .inl ⟨k, bk, .inr (List.mem_of_getElem? k1), k3, k2⟩⟩
    · intro i j bi bj b hi hj h1 h2 _ _
      exact (hC i bi hi h1).1.trans (hC j bj hj h2).1.symm
    · intro _ j bj hj hbj
      obtain ⟨rfl, rfl⟩ := hC j bj hj hbj
      rw [upd_self]
      refine ⟨cells, heap_alloc_new w _, rfl, ⟨hnf, hs1, he, hf'⟩, fun i hi => ?_, fun i i2 b q' q'' hi hi2 g1 g2 => ?_⟩
      · have hil : i < ps.toList.length := by omega
        obtain ⟨p, hp⟩ : ∃ p, ps.toList[i]? = some p := ⟨_, List.getElem?_eq_getElem hil⟩
        refine ⟨a.eval p.2, ?_, (hrow i p hp).heap fun b q' hkid => ?_⟩
        · rw [Nat.zero_add, c3 i, if_pos (by simp only [List.length_map]; omega)]
          simp [hp]
        · obtain ⟨k, k1, k2⟩ := kidOf_some hkid
          obtain ⟨bk, k3, _⟩ := hsb k (List.mem_of_getElem? k1)
          exact hB.block b (h.own k bk b k3 k2).1
      · obtain ⟨k, k1, k2⟩ := kidOf_some g1
        obtain ⟨k', k1', k2'⟩ := kidOf_some g2
        obtain ⟨bk, k3, _⟩ := hsb k (List.mem_of_getElem? k1)
        obtain ⟨bk', k3', _⟩ := hsb k' (List.mem_of_getElem? k1')
        have := h.one k k' bk bk' b k3 k3' k2 k2'
        subst this
        exact distinct_idx hdi i i2 k k1 k1'
    · intro t j bj hj hh hbj
      have hjk : j ∈ ks := by
        rcases hj with rfl | hj
        · exact hdb (by rw [hbj]; simp)
        · exact hj
      have hh : V.has j ((dropAll s ks).get t) = true := hh
      rw [has_dropAll ks s j t (.inl hjk)] at hh
      cases hh
    · intro j hj hnj
      exfalso
      rcases hj with rfl | hj
      · omega
      · obtain ⟨_, _, k4⟩ := hsb j hj
        omega
  refine ⟨_, _, ?_, _, hrel.put (by rw [show ((dropAll s ks).setB d ⟨e, false, .orows e' q⟩).n = (dropAll s ks).n from rfl, n_dropAll]; exact hd) (.slw d e ⟨e, false, .orows e' q⟩ w.heap.size 0 ⟨cells.size, kidOf ρ ks⟩ n n (blk_setB_self _ _ _) rfl rfl (upd_self _ _ _) (by rw [hs1, Nat.mul_one]; exact hq) (Nat.le_refl _) (by rw [hs1] at hn; simp only [maxLen]; omega) (by rw [hs1]; show 0 + n * 1 ≤ cells.size; omega))⟩
  simp only [execOp, ho]
  apply run_v
  refine run_buildSlice hde z1 z4 (by rw [z2]; exact hn) ?_
  rw [z2, hs1, hps]
  rw [z2, hs1] at c1
  exact c1

theorem does_storeM (hT : TabOK P T) (h : RelAt P T w0 M N ρ s a w) {t : TypeId} {p x : Operand} {k off k' : Nat} {t0 : TypeId} {r : Bool} {cs : List OC} {es : List (List Int × Int)} (hp : s.ev p = .ptr k off t) (hx : s.ev x = .mapk k' t) (hk : s.blk k = some ⟨t0, r, .obj cs⟩)
    (hk' : s.blk k' = some ⟨t, false, .mapI es⟩) (hlt : off < cs.length) (hne : k' ≠ k) (hkn' : k' < s.n) (hkn : k < s.n) (hkt : known T t = true) (hs1 : (T.at t).size = 1) :
    DoesN P T w0 M N (.store t p x) a w ((((s.kill k').drop k').killD k).setB k ⟨t0, r, .obj (cs.set off (.m t es))⟩) := by
  intro o ho
  have hv := h.ev p
  rw [hp] at hv
  obtain ⟨bk, b0, base, lim, g1, g2, _, hup⟩ := hv.ptr_inv
  rw [hk] at g1
  injection g1 with g1
  subst g1
  have hvx := h.ev x
  rw [hx] at hvx
  obtain ⟨bk', b', base', lim', f1, f2, f3, f4, hux⟩ := hvx.mapk_inv
  rw [hk'] at f1
  injection f1 with f1
  subst f1
  have hM : MapI T w b' t es := by have := h.ob k' _ hk'; rw [f4] at this; exact this
  have hO := h.ob k _ hk
  rw [g2] at hO
  obtain ⟨arr, o1, o2, o3, o4⟩ := hO
  have hbne : b' ≠ b0 := fun e => by
    subst e
    exact hne (h.one k' k _ _ b' hk' hk (owns_main f4) (owns_main g2))
  have hlim : base + off < arr.size := by
    obtain ⟨u, w1, _⟩ := o3 off cs[off] (List.getElem?_eq_getElem hlt)
    rcases Nat.lt_or_ge (base + off) arr.size with hh | hh
    · exact hh
    · rw [Array.getElem?_eq_none hh] at w1; cases w1
  obtain ⟨arr', a1, a2, a3⟩ := storeCells_run P (o := base + off) (vs := [Value.map (some b')]) o1 (by simp only [List.length_cons, List.length_nil]; omega) (by intro v hv; simp at hv; subst hv; rfl)
  have hblk : ∀ j bj, ((((s.kill k').drop k').killD k).setB k ⟨t0, r, .obj (cs.set off (.m t es))⟩).blk j = some bj → (j = k ∧ bj = ⟨t0, r, .obj (cs.set off (.m t es))⟩) ∨ (j ≠ k ∧ j ≠ k' ∧ s.blk j = some bj) := by
    intro j bj hj
    by_cases ej : j = k
    · subst ej
      rw [blk_setB_self] at hj
      injection hj with hj
      exact .inl ⟨rfl, hj.symm⟩
    · rw [blk_setB_ne _ _ (Ne.symm ej)] at hj
      have hj : ((s.kill k').drop k').blk j = some bj := hj
      by_cases e2 : j = k'
      · subst e2; rw [blk_drop_self] at hj; cases hj
      · rw [blk_drop_ne _ (Ne.symm e2)] at hj
        exact .inr ⟨ej, e2, hj⟩
  let c' : Nat → Option (Nat × Nat × Nat) := fun j => if j = off then some (b', 0, 0) else lim.c j
  have hown' : ∀ b, Loc.owns (some (b0, base, ⟨lim.n, c'⟩)) b → b = b' ∨ (ρ k).owns b := by
    intro b hb
    rcases owns_some hb with hb | ⟨i, q, hb⟩
    · rw [hb]; exact .inr (owns_main g2)
    · simp only [c'] at hb
      split at hb
      · injection hb with hb
        injection hb with hb _
        exact .inl hb.symm
      · exact .inr (owns_kid g2 hb)
  have hget : ∀ t', (((s.kill k').drop k').killD k).get t' = s.get t' ∨ (((s.kill k').drop k').killD k).get t' = .undef := by
    intro t'
    rw [get_killD]
    cases V.deep k (((s.kill k').drop k').get t') with
    | true => exact .inr rfl
    | false =>
      show (s.kill k').get t' = _ ∨ (s.kill k').get t' = _
      rw [get_kill]
      cases V.has k' (s.get t') with
      | true => exact .inr rfl
      | false => exact .inl rfl
  have hcs : ∀ j, (cs.set off (.m t es))[j]? = if off = j then some (.m t es) else cs[j]? := fun j => by
    by_cases e : off = j
    · subst e; rw [List.getElem?_set_self hlt, if_pos rfl]
    · rw [List.getElem?_set_ne e, if_neg e]
  have hrdo : ∀ j, off ≠ j → rdo (cs.set off (.m t es)) j = rdo cs j := fun j e => by unfold rdo; rw [List.getD_eq_getElem?_getD, List.getD_eq_getElem?_getD, hcs, if_neg e]
  refine ⟨.skip, w.setRow b0 arr', ?_, .inl rfl, upd ρ k (some (b0, base, ⟨lim.n, c'⟩)), ?_⟩
  · simp only [execOp, ho]
    rw [Sem.run_bind]
    unfold Instr.storeAt
    rw [hup]
    simp only [Instr.sureAddr]
    rw [Sem.run_bind]
    show Result.andThen (Result.andThen (Result.ok _ w) _) _ = _
    rw [Result.andThen_ok]
    unfold storeVar
    rw [Sem.run_bind, TabOK.size hT (known_ne hkt), Result.andThen_ok, hux]
    have hne' : ¬ ((Value.map (some b')).cells.size ≠ (T.at t).size) := by rw [hs1]; simp [Value.cells]
    simp only [if_neg hne']
    have : (Value.map (some b')).cells.toList = [Value.map (some b')] := rfl
    rw [this, a1]
    rfl
  refine h.turn (fun j => j = k ∨ j = k') rfl rfl rfl rfl (by simp) hget ?_ ?_ ?_ ?_ ?_ ?_ ?_
  · intro j hj
    simp only [not_or] at hj
    refine ⟨?_, upd_ne _ _ hj.1⟩
    rw [blk_setB_ne _ _ (Ne.symm hj.1)]
    show ((s.kill k').drop k').blk j = _
    rw [blk_drop_ne _ (Ne.symm hj.2)]
    rfl
  · intro b hb hno
    exact heap_setRow_ne w arr' fun e => hno k _ (.inl rfl) hk (by rw [e]; exact owns_main g2)
  · intro j bj b hj hb ho
    rcases hblk j bj hb with ⟨rfl, rfl⟩ | ⟨q1, q2, _⟩
    · rw [upd_self] at ho
      rcases hown' b ho with rfl | ho
      · exact ⟨by simpa using (h.own k' _ b hk' (owns_main f4)).1, .inl ⟨k', _, .inr rfl, hk', owns_main f4⟩⟩
      · exact ⟨by simpa using (h.own j _ b hk ho).1, .inl ⟨j, _, .inl rfl, hk, ho⟩⟩
    · exact absurd hj (by simp [q1, q2])
  · intro i j bi bj b hi hj h1 h2 _ _
    rcases hblk i bi h1 with ⟨e1, _⟩ | ⟨q1, q2, _⟩
    · rcases hblk j bj h2 with ⟨e2, _⟩ | ⟨q1, q2, _⟩
      · exact e1.trans e2.symm
      · exact absurd hj (by simp [q1, q2])
    · exact absurd hi (by simp [q1, q2])
  · intro hl j bj hj hb
    rcases hblk j bj hb with ⟨rfl, rfl⟩ | ⟨q1, q2, _⟩
    · rw [upd_self]
      refine ⟨arr', setRow_heap w b0 arr arr' t0 (0, 0) o1, a2.trans o2, fun i oc hi => ?_, fun i i2 b q q' hi hi2 hq hq' => ?_⟩
      · rw [hcs] at hi
        by_cases e : off = i
        · subst e
          rw [if_pos rfl] at hi
          injection hi with hi
          subst hi
          refine ⟨.map (some b'), ?_, rfl, b', (0, 0), by simp [c'], rfl, hM.of_heap (heap_setRow_ne w arr' hbne)⟩
          rw [a3, if_pos (by simp only [List.length_cons, List.length_nil]; omega), Nat.sub_self]
          rfl
        · rw [if_neg e] at hi
          obtain ⟨u, u1, u2, u3⟩ := o3 i oc hi
          refine ⟨u, by rw [a3, if_neg (by simp only [List.length_cons, List.length_nil]; omega)]; exact u1, u2, ?_⟩
          have hci : c' i = lim.c i := by simp only [c']; rw [if_neg (Ne.symm e)]
          have h3 := u3.laterK hl fun b2 q hm hcq => heap_setRow_ne w arr' fun e' => by
            subst e'
            exact oco_main u3 hm hcq o1
          cases oc with
          | m tt ee =>
            obtain ⟨b2, q, r1, r2⟩ := h3
            exact ⟨b2, q, hci.trans r1, r2⟩
          | _ => exact h3
      · by_cases e : off = i <;> by_cases e2 : off = i2
        · exact e.symm.trans e2
        · exfalso
          simp only [c'] at hq hq'
          rw [if_pos e.symm] at hq
          rw [if_neg (Ne.symm e2)] at hq'
          injection hq with hq
          injection hq with hq _
          subst hq
          exact hne (h.one k' j _ _ b' hk' hk (owns_main f4) (owns_kid g2 hq'))
        · exfalso
          simp only [c'] at hq hq'
          rw [if_neg (Ne.symm e)] at hq
          rw [if_pos e2.symm] at hq'
          injection hq' with hq'
          injection hq' with hq' _
          subst hq'
          exact hne (h.one k' j _ _ b' hk' hk (owns_main f4) (owns_kid g2 hq))
        · simp only [c'] at hq hq'
          rw [if_neg (Ne.symm e)] at hq
          rw [if_neg (Ne.symm e2)] at hq'
          rw [hrdo i e] at hi
          rw [hrdo i2 e2] at hi2
          exact o4 i i2 b q q' hi hi2 hq hq'
    · exact absurd hj (by simp [q1, q2])
  · intro t' j bj hj hh hb
    rcases hj with rfl | rfl
    · rw [hk] at hb
      injection hb with hb
      subst hb
      refine ⟨_, blk_setB_self _ _ _, ⟨rfl, rfl, ?_, ?_, fun hdp => ?_⟩⟩
      · show cs.length = (cs.set off (.m t es)).length
        simp
      · rw [upd_self, g2]
        refine ⟨(by intro hc; cases hc), fun b base2 lim2 hq => ?_⟩
        injection hq with hq
        injection hq with e1 hq
        injection hq with e2 e3
        subst e1 e2 e3
        exact ⟨_, rfl, rfl⟩
      · have hdp : V.deep j ((((s.kill k').drop k').killD j).get t') = true := hdp
        rw [noDeep_killD] at hdp
        cases hdp
    · exfalso
      have hh : V.has j ((((s.kill j).drop j).killD k).get t') = true := hh
      rw [get_killD] at hh
      cases hdd : V.deep k (((s.kill j).drop j).get t') with
      | true => rw [hdd] at hh; cases hh
      | false =>
        rw [hdd] at hh
        have hh : V.has j ((s.kill j).get t') = true := hh
        rw [noRef_kill] at hh
        cases hh
  · intro j hj hnj
    rcases hj with rfl | rfl
    · have : j < s.n := hkn; omega
    · omega

end Go.Ev
end

section
/- All operations that call nothing. -/
namespace Go.Ev
open Go.RowKit (Below)

variable {P : Program} {T : Tab} {w0 w : World} {M : Mo} {ρ : Nat → Loc} {N : Nat → Loc × Blk} {s : St} {a : Act}

theorem opR_sound (hT : TabOK P T) (hE : EqTabOK P T) (h : RelAt P T w0 M N ρ s a w) {d : Nat} (hd : d < s.n) {op : Op} {s' : St} (hop : opR T s d op = .ok true s') : Does P T w0 M N op a w d s' := by
  cases op with
  | move x =>
    obtain ⟨_, rfl⟩ := putOk_inv hop
    exact does_move h hd x
  | assign x =>
    obtain ⟨_, rfl⟩ := putOk_inv hop
    exact does_assign h hd x
  | alloc t =>
    simp only [opR] at hop
    cases hf : isFlatTy T t with
    | true =>
      rw [hf] at hop
      obtain ⟨h1, _, rfl⟩ := allocB_inv hop
      exact does_alloc hT h hd h1 (.inl ⟨hf, rfl⟩)
    | false =>
      rw [hf] at hop
      simp only [cond_false] at hop
      split at hop
      · rename_i ht
        obtain ⟨h1, _, rfl⟩ := allocB_inv hop
        exact does_alloc hT h hd h1 (.inr (.inl ⟨ht, rfl⟩))
      · rename_i e ht
        obtain ⟨h1, _, rfl⟩ := allocB_inv hop
        exact does_alloc hT h hd h1 (.inr (.inr (.inl ⟨e, ht, rfl⟩)))
      · rename_i fs ht
        obtain ⟨hq, h0⟩ := cond_ok hop
        obtain ⟨h1, _, rfl⟩ := allocB_inv h0
        exact does_alloc hT h hd h1 (.inr (.inr (.inr (.inl ⟨hf, fs, ht, Nat.eq_of_beq_eq_true hq, rfl⟩))))
      · rename_i k e ht
        obtain ⟨h1, _, rfl⟩ := allocB_inv hop
        exact does_alloc hT h hd h1 (.inr (.inr (.inr (.inr ⟨hf, k, e, ht, rfl⟩))))
      · cases hop
  | build t ps =>
    simp only [opR] at hop
    split at hop
    · rename_i fs ht
      cases hf : isFlatTy T t with
      | true =>
        rw [hf] at hop
        simp only [cond_true] at hop
        split at hop
        · rename_i l hl
          obtain ⟨_, rfl⟩ := putOk_inv hop
          exact does_build hT h hd hf (.inl ⟨fs, ht, hl⟩)
        · cases hop
      | false =>
        rw [hf] at hop
        simp only [cond_false] at hop
        obtain ⟨hq, h0⟩ := cond_ok hop
        obtain ⟨q1, q2⟩ := and_true hq
        split at h0
        · rename_i l hl
          obtain ⟨_, rfl⟩ := putOk_inv h0
          exact does_buildReco hT h hd hf ht (Nat.eq_of_beq_eq_true q1) q2 hl
        · cases h0
    · rename_i n e ht
      obtain ⟨hf, h1⟩ := cond_ok hop
      split at h1
      · rename_i l hl
        obtain ⟨_, rfl⟩ := putOk_inv h1
        exact does_build hT h hd hf (.inr ⟨n, e, ht, hl⟩)
      · cases h1
    · cases hop
  | load t p =>
    simp only [opR] at hop
    split at hop
    · rename_i v hv
      obtain ⟨_, rfl⟩ := putOk_inv hop
      exact does_load hT h hd hv
    · cases hop
  | nilCheck x =>
    simp only [opR] at hop
    split at hop
    · rename_i k off t he
      obtain ⟨_, rfl⟩ := putOk_inv hop
      rw [← he]
      exact does_nilCheck h hd (.inl ⟨k, off, t, he⟩)
    · rename_i t0 l off t he
      obtain ⟨_, rfl⟩ := putOk_inv hop
      rw [← he]
      exact does_nilCheck h hd (.inr (.inl ⟨t0, l, off, t, he⟩))
    · rename_i vs off t he
      obtain ⟨_, rfl⟩ := putOk_inv hop
      rw [← he]
      exact does_nilCheck h hd (.inr (.inr (.inl ⟨vs, off, t, he⟩)))
    · rename_i cs off t he
      obtain ⟨_, rfl⟩ := putOk_inv hop
      rw [← he]
      exact does_nilCheck h hd (.inr (.inr (.inr ⟨cs, off, t, he⟩)))
    · cases hop
  | binOp op t x y t' =>
    simp only [opR] at hop
    split at hop
    · rename_i b v hv
      obtain ⟨hb, rfl⟩ := putOk_inv hop
      rw [← hb] at hv
      exact does_binOp hT hE h hd hv
    · cases hop
  | unOp op t x =>
    simp only [opR] at hop
    split at hop
    · rename_i k n he
      obtain ⟨_, rfl⟩ := putOk_inv hop
      exact does_neg h hd he
    · rename_i b he
      obtain ⟨_, rfl⟩ := putOk_inv hop
      exact does_not h hd he
    · cases hop
  | convert u t x =>
    simp only [opR] at hop
    split at hop
    · rename_i k j n ht he
      obtain ⟨hk, h1⟩ := cond_ok hop
      obtain ⟨_, rfl⟩ := putOk_inv h1
      exact does_convert hT h hd hk ht he
    · cases hop
  | makeFunc fn first cap =>
    cases fn with
    | func f =>
      obtain ⟨_, rfl⟩ := putOk_inv hop
      exact does_makeFunc h hd f first cap
    | _ => simp [opR] at hop
  | makeSlice t n c =>
    simp only [opR] at hop
    split at hop
    · rename_i e k i j q ht hn hc
      cases hf : isFlatTy T e with
      | true =>
        rw [hf] at hop
        simp only [cond_true] at hop
        split at hop
        · cases hop
        · rename_i hb
          simp only [Out.ok.injEq, Bool.and_eq_true, decide_eq_true_eq, beq_iff_eq] at hop
          obtain ⟨⟨g1, g2, rfl⟩, rfl⟩ := hop
          exact does_makeSlice hT h hd hb ht hf hn hc g1 g2
      | false =>
        rw [hf] at hop
        simp only [cond_false] at hop
        split at hop
        · rename_i e' he hb
          obtain ⟨hq, h1⟩ := cond_ok hop
          obtain ⟨q1, q2⟩ := and_true hq
          simp only [Out.ok.injEq, Bool.and_eq_true, decide_eq_true_eq, beq_iff_eq] at h1
          obtain ⟨⟨g1, g2, rfl⟩, rfl⟩ := h1
          exact does_makeRows hT h hd hb ht he hf q1 (Nat.eq_of_beq_eq_true q2) hn hc g1 g2
        · cases hop
    · cases hop
  | slice t x lo hi mx =>
    cases mx with
    | some m => simp [opR] at hop
    | none =>
      simp only [opR] at hop
      split at hop
      · rename_i b he
        split at hop
        · rename_i c l m ht hb
          obtain ⟨hc, rfl⟩ := putOk_inv hop
          rw [← hc] at hb
          exact does_sliceStr hT h hd ht he hb
        · cases hop
      · rename_i e l he
        obtain ⟨hs, h1⟩ := cond_ok hop
        split at h1
        · rename_i c p m hb
          obtain ⟨hc, rfl⟩ := putOk_inv h1
          rw [← hc] at hb
          exact does_sliceSlv hT h hd (isSliceOf_eq hs) he hb
        · cases h1
      · rename_i k e he
        obtain ⟨hs, h1⟩ := cond_ok hop
        obtain ⟨hs1, hs2⟩ := and_true hs
        split at h1
        · rename_i n e0 r q hn hk
          split at h1
          · rename_i c p m hb
            obtain ⟨hc, rfl⟩ := putOk_inv h1
            rw [← hc] at hb
            exact does_sliceSlw hT h hd (isSliceOf_eq hs1) he hn hk hs2 hb
          · cases h1
        · cases h1
      · rename_i k off n e he
        obtain ⟨hs, h1⟩ := cond_ok hop
        split at h1
        · rename_i c p m hb
          obtain ⟨hc, rfl⟩ := putOk_inv h1
          rw [← hc] at hb
          exact does_sliceSl hT h hd (isSliceOf_eq hs) he hb
        · cases h1
      · rename_i k off u he
        obtain ⟨hs, h1⟩ := cond_ok hop
        obtain ⟨hs1, hs2⟩ := and_true hs
        have hs1 := Nat.eq_of_beq_eq_true hs1
        subst hs1
        split at h1
        · rename_i n e e0 r q ht hk
          split at h1
          · rename_i c p m hb
            obtain ⟨hn, h2⟩ := cond_ok h1
            obtain ⟨hc, rfl⟩ := putOk_inv h2
            rw [← hc] at hb
            have hn := Nat.le_of_ble_eq_true hn
            exact does_slicePtr hT h hd ht hs2 he ⟨e0, r, q, hk⟩ (by simp only [bigLen] at hn; simp only [maxLen]; omega) hb
          · cases h1
        · cases h1
      · cases hop
  | fieldAddr t x i =>
    simp only [opR] at hop
    split at hop
    · rename_i fs ht
      split at hop
      · rename_i o u hf
        obtain ⟨hk, h1⟩ := cond_ok hop
        split at h1
        · rename_i k off t' he
          obtain ⟨hq, h2⟩ := cond_ok h1
          have hq := Nat.eq_of_beq_eq_true hq
          subst hq
          obtain ⟨_, rfl⟩ := putOk_inv h2
          exact does_fieldAddr hT h hd ht hf hk (.inl ⟨k, off, he, rfl⟩)
        · rename_i t0 l off t' he
          obtain ⟨hq, h2⟩ := cond_ok h1
          have hq := Nat.eq_of_beq_eq_true hq
          subst hq
          obtain ⟨_, rfl⟩ := putOk_inv h2
          exact does_fieldAddr hT h hd ht hf hk (.inr (.inl ⟨t0, l, off, he, rfl⟩))
        · rename_i vs off t' he
          obtain ⟨hq, h2⟩ := cond_ok h1
          have hq := Nat.eq_of_beq_eq_true hq
          subst hq
          obtain ⟨_, rfl⟩ := putOk_inv h2
          exact does_fieldAddr hT h hd ht hf hk (.inr (.inr (.inl ⟨vs, off, he, rfl⟩)))
        · rename_i cs off t' he
          obtain ⟨hq, h2⟩ := cond_ok h1
          have hq := Nat.eq_of_beq_eq_true hq
          subst hq
          obtain ⟨_, rfl⟩ := putOk_inv h2
          exact does_fieldAddr hT h hd ht hf hk (.inr (.inr (.inr (.inl ⟨cs, off, he, rfl⟩))))
        · rename_i k j off t' he
          obtain ⟨hq, h2⟩ := cond_ok h1
          have hq := Nat.eq_of_beq_eq_true hq
          subst hq
          obtain ⟨_, rfl⟩ := putOk_inv h2
          exact does_fieldAddr hT h hd ht hf hk (.inr (.inr (.inr (.inr ⟨k, j, off, he, rfl⟩))))
        · cases h1
      · cases hop
    · cases hop
  | field t x i =>
    simp only [opR] at hop
    split at hop
    · rename_i fs ht
      split at hop
      · rename_i o u hf
        split at hop
        · rename_i t' l he
          obtain ⟨hq, h2⟩ := cond_ok hop
          obtain ⟨hq, _⟩ := and_true hq
          have hq := Nat.eq_of_beq_eq_true hq
          subst hq
          obtain ⟨_, rfl⟩ := putOk_inv h2
          exact does_field hT h hd ht hf he
        · cases hop
      · cases hop
    · cases hop
  | indexAddr t x i =>
    simp only [opR] at hop
    split at hop
    · rename_i k n hi
      split at hop
      · rename_i b v hv
        obtain ⟨hb, rfl⟩ := putOk_inv hop
        rw [← hb] at hv
        exact does_indexAddr hT h hd hi hv
      · cases hop
    · cases hop
  | index t x i =>
    simp only [opR] at hop
    split at hop
    · rename_i k n hi
      split at hop
      · rename_i t' l he
        obtain ⟨hq, h1⟩ := cond_ok hop
        have hq := Nat.eq_of_beq_eq_true hq
        subst hq
        split at h1
        · rename_i m e ht
          obtain ⟨hf, h2⟩ := cond_ok h1
          obtain ⟨hb, rfl⟩ := putOk_inv h2
          have hb := hb.symm
          simp only [Bool.and_eq_true, decide_eq_true_eq] at hb
          exact does_indexArr hT h hd ht he hi hb
        · cases h1
      · rename_i b he
        obtain ⟨hf, h2⟩ := cond_ok hop
        obtain ⟨hb, rfl⟩ := putOk_inv h2
        have hb := hb.symm
        simp only [Bool.and_eq_true, decide_eq_true_eq] at hb
        exact does_indexStr hT h hd (isStrD_eq hf) he hi hb
      · cases hop
    · cases hop
  | extract x i =>
    simp only [opR] at hop
    split at hop
    · rename_i vs he
      split at hop
      · rename_i v hv
        obtain ⟨_, rfl⟩ := putOk_inv hop
        exact does_extract h hd he hv
      · cases hop
    · cases hop
  | box t x =>
    simp only [opR] at hop
    split at hop
    · rename_i b he
      obtain ⟨h1, h2⟩ : _ ∧ allocB s d ⟨t, true, .vals [.str b]⟩ (.ptr d 0 t) = .ok true s' := by
        cases hq : (!known T t || (T.at t).d.isAgg) with
        | true => rw [hq] at hop; cases hop
        | false => rw [hq] at hop; exact ⟨hq, hop⟩
      obtain ⟨h3, _, rfl⟩ := allocB_inv h2
      rw [← he]
      exact does_box_val h hd h3 (.inl ⟨b, he⟩)
    · rename_i e l he
      obtain ⟨h1, h2⟩ : _ ∧ allocB s d ⟨t, true, .vals [.slv e l]⟩ (.ptr d 0 t) = .ok true s' := by
        cases hq : (!known T t || (T.at t).d.isAgg) with
        | true => rw [hq] at hop; cases hop
        | false => rw [hq] at hop; exact ⟨hq, hop⟩
      obtain ⟨h3, _, rfl⟩ := allocB_inv h2
      rw [← he]
      exact does_box_val h hd h3 (.inr (.inl ⟨e, l, he⟩))
    · rename_i e l he
      obtain ⟨h1, h2⟩ : _ ∧ allocB s d ⟨t, true, .vals [.slr e l]⟩ (.ptr d 0 t) = .ok true s' := by
        cases hq : (!known T t || (T.at t).d.isAgg) with
        | true => rw [hq] at hop; cases hop
        | false => rw [hq] at hop; exact ⟨hq, hop⟩
      obtain ⟨h3, _, rfl⟩ := allocB_inv h2
      rw [← he]
      exact does_box_val h hd h3 (.inr (.inr (.inl ⟨e, l, he⟩)))
    · rename_i e g he
      obtain ⟨h1, h2⟩ : _ ∧ allocB s d ⟨t, true, .vals [.cloB e g]⟩ (.ptr d 0 t) = .ok true s' := by
        cases hq : (!known T t || (T.at t).d.isAgg) with
        | true => rw [hq] at hop; cases hop
        | false => rw [hq] at hop; exact ⟨hq, hop⟩
      obtain ⟨h3, _, rfl⟩ := allocB_inv h2
      rw [← he]
      exact does_box_val h hd h3 (.inr (.inr (.inr (.inl ⟨e, g, he⟩))))
    · rename_i e e' g he
      obtain ⟨h1, h2⟩ : _ ∧ allocB s d ⟨t, true, .vals [.cloL e e' g]⟩ (.ptr d 0 t) = .ok true s' := by
        cases hq : (!known T t || (T.at t).d.isAgg) with
        | true => rw [hq] at hop; cases hop
        | false => rw [hq] at hop; exact ⟨hq, hop⟩
      obtain ⟨h3, _, rfl⟩ := allocB_inv h2
      rw [← he]
      exact does_box_val h hd h3 (.inr (.inr (.inr (.inr ⟨e, e', g, he⟩))))
    · rename_i t' cs he
      obtain ⟨hq, h1⟩ := cond_ok hop
      obtain ⟨q1, _⟩ := and_true hq
      have q1 := Nat.eq_of_beq_eq_true q1
      subst q1
      obtain ⟨h3, _, rfl⟩ := allocB_inv h1
      exact does_box_reco h hd h3 he
    · obtain ⟨hq, h1⟩ := cond_ok hop
      obtain ⟨q1, q2⟩ := and_true hq
      split at h1
      · rename_i l hl
        obtain ⟨h3, _, rfl⟩ := allocB_inv h1
        exact does_box_flat hT h hd h3 q1 q2 hl
      · cases h1
  | buildSlice t n ps =>
    simp only [opR] at hop
    split at hop
    · rename_i e ht
      cases hf : isFlatTy T e with
      | true =>
        rw [hf] at hop
        simp only [cond_true] at hop
        split at hop
        · rename_i l hl
          obtain ⟨hn, h1⟩ := cond_ok hop
          obtain ⟨h3, _, rfl⟩ := allocB_inv h1
          exact does_buildFlat hT h hd h3 ht hf (Nat.le_of_ble_eq_true hn) hl
        · cases hop
      | false =>
        rw [hf] at hop
        simp only [cond_false] at hop
        split at hop
        · rename_i e' he
          split at hop
          · rename_i q ks hr
            obtain ⟨hq, h1⟩ := cond_ok hop
            obtain ⟨q1, q2⟩ := and_true hq
            obtain ⟨q2, q3⟩ := and_true q2
            obtain ⟨q3, q4⟩ := and_true q3
            obtain ⟨q4, q5⟩ := and_true q4
            obtain ⟨h3, _, rfl⟩ := allocB_inv h1
            exact does_buildOrows hT h hd ht he hf q3 (Nat.eq_of_beq_eq_true q5) (Nat.le_of_ble_eq_true q4) hr q2 (Nat.eq_of_beq_eq_true q1) h3
          · split at hop
            · rename_i q ks hr
              obtain ⟨hq, h1⟩ := cond_ok hop
              obtain ⟨q1, q2⟩ := and_true hq
              obtain ⟨q2, q3⟩ := and_true q2
              obtain ⟨q3, q4⟩ := and_true q3
              obtain ⟨h3, _, rfl⟩ := allocB_inv h1
              exact does_buildRows hT h hd ht he hf (Nat.eq_of_beq_eq_true q4) (Nat.le_of_ble_eq_true q3) hr (Nat.eq_of_beq_eq_true q1) h3
            · cases hop
        · cases hop
    · cases hop
  | call c =>
    simp only [opR] at hop
    split at hop
    · rename_i x t hc ha hty
      split at hop
      · rename_i b he
        obtain ⟨hq, h1⟩ := cond_ok hop
        obtain ⟨_, rfl⟩ := putOk_inv h1
        exact does_lenStr hT h hd hc ha hty (isStrD_eq hq) he
      · rename_i k u he
        rw [← he] at hop
        exact does_lenMap hT h hd hc ha hty hop
      · rename_i k i u he
        rw [← he] at hop
        exact does_lenMap hT h hd hc ha hty hop
      · rename_i u es he
        rw [← he] at hop
        exact does_lenMap hT h hd hc ha hty hop
      · obtain ⟨hq, h1⟩ := cond_ok hop
        obtain ⟨e, he⟩ := isSliceD_eq hq
        split at h1
        · rename_i n hn
          obtain ⟨_, rfl⟩ := putOk_inv h1
          exact does_len hT h hd hc ha hty he hn
        · cases h1
    · rename_i x y hc ha
      split at hop
      · rename_i k p j q hx hy
        obtain ⟨_, rfl⟩ := putOk_inv hop
        exact does_min h hd hc ha hx hy
      · cases hop
    · rename_i x y hc ha
      split at hop
      · rename_i k p j q hx hy
        obtain ⟨_, rfl⟩ := putOk_inv hop
        exact does_max h hd hc ha hx hy
      · cases hop
    · rename_i x y t u hc ha hty
      split at hop
      · rename_i o hO
        subst hop
        exact does_appendO hT h hd hc ha hty hO
      split at hop
      · cases hop
      · rename_i e' m hm
        split at hop
        · rename_i k e he
          obtain ⟨hq, h1⟩ := cond_ok hop
          obtain ⟨qk, hq⟩ := and_true hq
          have qk : k < s.n := Nat.le_of_ble_eq_true qk
          obtain ⟨q1, q2⟩ := and_true hq
          obtain ⟨_, q2⟩ := and_true q2
          obtain ⟨q2, q3⟩ := and_true q2
          have q1 := Nat.eq_of_beq_eq_true q1
          subst q1
          obtain ⟨e2, he2⟩ := isSliceD_eq q3
          split at h1
          · rename_i e0 r0 b hk
            obtain ⟨g1, h2⟩ := cond_ok h1
            obtain ⟨g1, _⟩ := and_true g1
            have g1 := Nat.eq_of_beq_eq_true g1
            subst g1
            split at h2
            · rename_i r hcat
              simp only [Out.ok.injEq, decide_eq_true_eq] at h2
              obtain ⟨hbig, rfl⟩ := h2
              exact does_append hT h hd hc ha hty (isSliceOf_eq q2) he2 qk hk rfl (by rw [he]; simp only [contents, hk]) hm hcat hbig (.inl he)
            · cases h2
          · cases h1
        · rename_i k off n e he
          obtain ⟨hq, h1⟩ := cond_ok hop
          obtain ⟨qk, hq⟩ := and_true hq
          have qk : k < s.n := Nat.le_of_ble_eq_true qk
          obtain ⟨q1, q2⟩ := and_true hq
          obtain ⟨_, q2⟩ := and_true q2
          obtain ⟨q2, q3⟩ := and_true q2
          have q1 := Nat.eq_of_beq_eq_true q1
          subst q1
          obtain ⟨e2, he2⟩ := isSliceD_eq q3
          split at h1
          · rename_i e0 r0 l r hk
            obtain ⟨g1, h2⟩ := cond_ok h1
            obtain ⟨g1, _⟩ := and_true g1
            have g1 := Nat.eq_of_beq_eq_true g1
            subst g1
            simp only [Out.ok.injEq, decide_eq_true_eq] at h2
            obtain ⟨hbig, rfl⟩ := h2
            refine does_append (d1 := .ints (win l off (n * (T.at e0).size))) hT h hd hc ha hty (isSliceOf_eq q2) he2 qk hk rfl (by rw [he]; simp only [contents, hk]) hm rfl ?_ (.inr ⟨off, n, he⟩)
            have hv := h.ev x
            rw [he] at hv
            generalize a.eval x = u at hv
            cases hv with
            | bv _ _ h => cases h with
              | flat _ _ h => exact h.elim
            | sl _ _ _ _ e1 r1 l1 ad cap g1 g2 g3 g4 =>
              rw [hk] at g1
              injection g1 with g1
              injection g1 with _ _ g1
              injection g1 with g1
              subst g1
              simp only [D.len]
              rw [win_length _ _ _ g4]
              exact hbig
          · cases h1
        · cases hop
    · rename_i x y t u hc ha hty
      split at hop
      · rename_i e' q hq
        split at hop
        · rename_i k e he
          obtain ⟨hh, h1⟩ := cond_ok hop
          obtain ⟨q1, q2⟩ := and_true hh
          obtain ⟨q2, q3⟩ := and_true q2
          have q1 := Nat.eq_of_beq_eq_true q1
          subst q1
          obtain ⟨e2, he2⟩ := isSliceD_eq q3
          split at h1
          · rename_i t0 r l hk
            obtain ⟨g1, h2⟩ := cond_ok h1
            have g1 := Nat.eq_of_beq_eq_true g1
            simp only [Out.ok.injEq, true_and] at h2
            subst h2
            exact does_copy hT h hd hc ha hty (isSliceOf_eq q2) he2 hk hq (.inr ⟨he, rfl, g1, rfl⟩)
          · cases h1
        · rename_i k off n e he
          obtain ⟨hh, h1⟩ := cond_ok hop
          obtain ⟨q1, q2⟩ := and_true hh
          obtain ⟨q2, q3⟩ := and_true q2
          have q1 := Nat.eq_of_beq_eq_true q1
          subst q1
          obtain ⟨e2, he2⟩ := isSliceD_eq q3
          split at h1
          · rename_i t0 r l hk
            simp only [Out.ok.injEq, true_and] at h1
            subst h1
            exact does_copy hT h hd hc ha hty (isSliceOf_eq q2) he2 hk hq (.inl he)
          · cases h1
        · cases hop
      · cases hop
    · cases hop
  | makeMap t hint =>
    cases hint with
    | none => exact does_makeMap h hd hop
    | some _ => simp [opR] at hop
  | lookup t m x ok => exact does_lookup hT hE h hd hop
  | _ => simp [opR] at hop

theorem opN_sound (hT : TabOK P T) (hE : EqTabOK P T) (h : RelAt P T w0 M N ρ s a w) {op : Op} {s' : St} (hop : opN T s op = .ok true s') : DoesN P T w0 M N op a w s' := by
  cases op with
  | store t p x =>
    simp only [opN] at hop
    split at hop
    · rename_i k off u hp
      obtain ⟨q1, h1⟩ := cond_ok hop
      simp [LATERstoreR] at h1
    · rename_i k off u hp
      obtain ⟨q1, h1⟩ := cond_ok hop
      have q1 := Nat.eq_of_beq_eq_true q1
      subst q1
      cases hO : isObjB (s.blk k) with
      | true =>
        rw [hO] at h1
        simp only [cond_true] at h1
        unfold storeO at h1
        split at h1
        · rename_i t0 r cs hk
          split at h1
          · rename_i k' u' hx
            unfold storeM at h1
            rw [hk] at h1
            simp only at h1
            split at h1
            · rename_i kt et t1 es ht hk' hu
              obtain ⟨hq, h2⟩ := cond_ok h1
              simp only [Bool.and_eq_true, Bool.not_eq_true'] at hq
              obtain ⟨⟨c1, _⟩, c2, c3, c4, c5, c6, c7⟩ := hq
              have c2 := Nat.eq_of_beq_eq_true c2
              have c3 := Nat.eq_of_beq_eq_true c3
              subst c2 c3
              simp only [Out.ok.injEq, true_and] at h2
              subst h2
              exact does_storeM hT h hp hx hk hk' (Nat.le_of_ble_eq_true c4) (fun e => by subst e; rw [Nat.beq_refl] at c5; cases c5) (Nat.le_of_ble_eq_true c6) (Nat.le_of_ble_eq_true c7) (by unfold known; rw [ht]) (Nat.eq_of_beq_eq_true c1)
            · cases h1
          · split at h1
            · rename_i m hm
              obtain ⟨hq, h2⟩ := cond_ok h1
              obtain ⟨c1, c2⟩ := and_true hq
              obtain ⟨c2, c3⟩ := and_true c2
              simp only [Out.ok.injEq, true_and] at h2
              subst h2
              exact does_storeO hT h hp hk hm (Nat.eq_of_beq_eq_true c1) (Nat.le_of_ble_eq_true c2) c3
            · cases h1
        · cases h1
      | false =>
        rw [hO] at h1
        simp only [cond_false] at h1
        cases hf : isFlatTy T u with
        | true =>
          rw [hf] at h1
          simp only [cond_true] at h1
          split at h1
          · rename_i t0 r l m hk hm
            obtain ⟨hfit, h2⟩ := cond_ok h1
            simp only [Out.ok.injEq, true_and] at h2
            subst h2
            exact does_store hT h hp hf hk hm hfit
          · cases h1
        | false =>
          rw [hf] at h1
          simp only [cond_false] at h1
          split at h1
          · simp [LATERstoreOrow] at h1
          · unfold storeRow at h1
            split at h1
            · rename_i e' t0 r xss e1 l ht hk hc
              obtain ⟨hq2, h2⟩ := cond_ok h1
              obtain ⟨c1, c2⟩ := and_true hq2
              have c1 := Nat.eq_of_beq_eq_true c1
              subst c1
              simp only [Out.ok.injEq, true_and] at h2
              subst h2
              exact does_storeRow hT h hp ht hk hc (by simpa using c2)
            · cases h1
    · cases hop
  | call c =>
    simp only [opN] at hop
    split at hop
    · rename_i x t hc ha hty
      split at hop
      · rename_i k off n e he
        obtain ⟨hq, h1⟩ := cond_ok hop
        split at h1
        · rename_i t0 r l hk
          simp only [Out.ok.injEq, true_and] at h1
          subst h1
          exact does_clear hT h hc ha hty (isSliceOf_eq hq) he hk
        · cases h1
      · cases hop
    · cases hop
  | mapUpdate t m k x => exact fun o ho => does_putMap hT hE h hop o (.inl ho)
  | insert t m k x => exact fun o ho => does_putMap hT hE h hop o (.inr ho)
  | _ => simp [opN] at hop
end Go.Ev
end

