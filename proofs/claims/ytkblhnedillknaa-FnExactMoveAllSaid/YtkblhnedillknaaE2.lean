import Derived.Test.YtkblhnedillknaaE1
import Derived.Laws.StructEq
set_option linter.unusedVariables false
set_option linter.unusedSimpArgs false
section
/- Operations, one by one. -/
namespace Go.Ev
open Go.RowKit (Below)

variable {P : Program} {T : Tab} {w0 w : World} {M : Nat → Prop} {ρ : Nat → Loc} {N : Nat → Loc × Blk} {s : St} {a : Act} {Fr : Nat → Prop} {blk : Nat → Option Blk}

theorem known_ne {t : TypeId} (h : known T t = true) : (T.at t).d ≠ .other := by
  intro e
  simp [known, e] at h

theorem and_true {x y : Bool} (h : (x && y) = true) : x = true ∧ y = true := by simpa using h

theorem cond_some {α : Type} {b : Bool} {x : Option α} {y : α} (h : cond b x none = some y) : b = true ∧ x = some y := by
  cases b with
  | true => exact ⟨rfl, h⟩
  | false => cases h

theorem cond_ok {b : Bool} {x : Out} {c : Bool} {y : St} (h : cond b x .bad = .ok c y) : b = true ∧ x = .ok c y := by
  cases b with
  | true => exact ⟨rfl, h⟩
  | false => cases h

theorem rowCell {w : World} {b o : Nat} {arr : Array Value} {e : TypeId} {fr : Nat × Nat} (h : w.heap[b]? = some (.cells arr e fr)) : w.cell? ⟨b, o, none⟩ = arr[o]? := cell_of_row w b o arr e fr h

theorem addr_add (b o j : Nat) : (⟨b, o, none⟩ : Addr).add j = ⟨b, o + j, none⟩ := by unfold Addr.add; split <;> simp_all

/-- The cells of an own block of flat payload, seen as type t. -/
theorem ob_cells {bk : Blk} {b base lim : Nat} (hO : OB P T w Fr bk (some (b, base, lim))) {l : List Int} (hd : bk.d = .ints l) {off : Nat} {t : TypeId} (hty : TyAt T bk off t) : CellsAt w b (base + off) (T.at t).ks l off (T.at t).size := by
  obtain ⟨arr, h1, h2, h3⟩ := hO
  rw [hd] at h3
  simp only [TyAt, hd] at hty
  obtain ⟨_, _, hl, hk, _⟩ := hty
  intro j hj
  rw [rowCell h1, Nat.add_assoc, h3.2 (off + j) (by omega), hk j hj]

theorem loadV_sound (hT : TabOK P T) (h : RelAt P T w0 M N ρ s a w) {t : TypeId} {p v : V} {u : Value} (hp : LV P T w (FrOf s.blk ρ w) s.blk ρ p u) (hv : loadV T s t p = some v) :
    ∃ ad x, u = .pointer (some ad) ∧ (loadVar t ad).run P w = .ok x w ∧ LV P T w (FrOf s.blk ρ w) s.blk ρ v x := by
  cases p with
  | ptr k off t' =>
    obtain ⟨bk, b, base, lim, h1, h2, h3, rfl⟩ := hp.ptr_inv
    simp only [loadV] at hv
    obtain ⟨ht, hv⟩ := cond_some hv
    have ht := Nat.eq_of_beq_eq_true ht
    subst ht
    rw [h1] at hv
    have hO := h.ob k bk h1
    rw [h2] at hO
    obtain ⟨e0, r, d⟩ := bk
    cases d with
    | ints l =>
      obtain ⟨hfl, hv⟩ := cond_some hv
      injection hv with hv
      subst hv
      have hty := h3
      simp only [TyAt] at h3
      obtain ⟨_, _, hl, _, hr⟩ := h3
      have hroot : Blk.root ⟨e0, r, .ints l⟩ = some t' → off = 0 → l.length = (T.at t').size := by
        intro e _
        cases r with
        | false => simp [Blk.root] at e
        | true =>
          simp [Blk.root] at e
          rw [hr rfl]
          exact congrArg (fun z => (T.at z).size) e
      obtain ⟨x, hx1, hx2⟩ := run_loadVar_flat (t0 := Blk.root ⟨e0, r, .ints l⟩) hT hfl hl hroot (ob_cells hO rfl hty)
      exact ⟨_, x, rfl, hx1, .flatV hx2⟩
    | rows l =>
      obtain ⟨arr, g1, g2, g3⟩ := hO
      simp only [ArrOK] at g3
      obtain ⟨_, _, e', g4, g5⟩ := g3
      simp only [TyAt] at h3
      obtain ⟨hlt, heq⟩ := h3
      subst heq
      simp only [g4, Option.some.injEq] at hv
      subst hv
      obtain ⟨x, hx1, hx2⟩ := g5 off hlt
      exact ⟨_, x, rfl, run_loadVar_one hT (by rw [g4]; simp) (by rw [g4]; rfl) (by rw [rowCell g1]; exact hx1), .bv _ _ (.slv _ _ _ hx2)⟩
    | vals vs =>
      obtain ⟨hk, hv⟩ := cond_some hv
      obtain ⟨hk1, hk2⟩ := and_true hk
      obtain ⟨arr, g1, g2, g3⟩ := hO
      obtain ⟨x, hx1, hx2⟩ := g3 off v hv
      exact ⟨_, x, rfl, run_loadVar_one hT (known_ne hk1) (by simpa using hk2) (by rw [rowCell g1]; exact hx1), .bv _ _ hx2⟩
  | pvi t0 l off t' =>
    obtain ⟨b, o, h1, h2, h3, h4, h5, rfl⟩ := hp.pvi_inv
    simp only [loadV] at hv
    obtain ⟨ht, hv⟩ := cond_some hv
    obtain ⟨ht, hfl⟩ := and_true ht
    have ht := Nat.eq_of_beq_eq_true ht
    subst ht
    injection hv with hv
    subst hv
    obtain ⟨x, hx1, hx2⟩ := run_loadVar_flat (t0 := t0) hT hfl h3 h5 h4
    exact ⟨_, x, rfl, hx1, .flatV hx2⟩
  | pvv vs off t' =>
    obtain ⟨b, o, us, h1, h2, h3, rfl⟩ := hp.pvv_inv
    simp only [loadV] at hv
    obtain ⟨ht, hv⟩ := cond_some hv
    obtain ⟨_, hk⟩ := and_true ht
    obtain ⟨hk1, hk2⟩ := and_true hk
    exact ⟨_, us 0, rfl, run_loadVar_one hT (known_ne hk1) (by simpa using hk2) (by simpa using h2 0 v (by simpa using hv)), .bv _ _ (h3 0 v (by simpa using hv))⟩
  | pvr e xss i =>
    obtain ⟨e', b, o, x, h1, h2, h3, h4, rfl⟩ := hp.pvr_inv
    simp only [loadV] at hv
    obtain ⟨ht, hv⟩ := cond_some hv
    have ht := Nat.eq_of_beq_eq_true ht
    subst ht
    simp only [h1, Option.some.injEq] at hv
    subst hv
    exact ⟨_, x, rfl, run_loadVar_one hT (by rw [h1]; simp) (by rw [h1]; rfl) h3, .bv _ _ (.slv _ _ _ h4)⟩
  | _ => simp [loadV] at hv

/-- What an operation with slot d does. -/
def Does (P : Program) (T : Tab) (w0 : World) (M : Nat → Prop) (N : Nat → Loc × Blk) (op : Op) (a : Act) (w : World) (d : Tmp) (s' : St) : Prop :=
  ∀ o : Oper, o.op = op → ∃ u w', (execOp a.eval o).run P w = .ok (.value u) w' ∧ Rel P T w0 M N s' (a.put (some d) u) w'

theorem run_v {S : Sem Value} {u : Value} {w' : World} (h : S.run P w = .ok u w') : (do pure (Next.value (← S)) : Sem Next).run P w = .ok (.value u) w' := by
  rw [Sem.run_bind, h]; rfl

theorem putOk_inv {b c : Bool} {d : Nat} {v : V} {s' : St} (h : putOk b s d v = .ok c s') : c = b ∧ s' = s.put d v := by
  simp only [putOk, Out.ok.injEq] at h
  exact ⟨h.1.symm, h.2.symm⟩

theorem does_move (h : RelAt P T w0 M N ρ s a w) {d : Nat} (hd : d < s.n) (x : Operand) : Does P T w0 M N (.move x) a w d (s.put d (s.ev x)) := by
  intro o ho
  exact ⟨a.eval x, w, by simp only [execOp, ho]; rfl, ρ, h.put hd (h.ev x)⟩

theorem does_assign (h : RelAt P T w0 M N ρ s a w) {d : Nat} (hd : d < s.n) (x : Operand) : Does P T w0 M N (.assign x) a w d (s.put d (s.ev x)) := by
  intro o ho
  exact ⟨a.eval x, w, by simp only [execOp, ho]; rfl, ρ, h.put hd (h.ev x)⟩

theorem does_load (hT : TabOK P T) (h : RelAt P T w0 M N ρ s a w) {d : Nat} (hd : d < s.n) {t : TypeId} {p : Operand} {v : V} (hv : loadV T s t (s.ev p) = some v) : Does P T w0 M N (.load t p) a w d (s.put d v) := by
  intro o ho
  obtain ⟨ad, x, h1, h2, h3⟩ := loadV_sound hT h (h.ev p) hv
  refine ⟨x, w, ?_, ρ, h.put hd h3⟩
  simp only [execOp, ho]
  apply run_v
  simp only [Instr.loadAt, h1, Instr.sureAddr]
  rw [Sem.run_bind]
  exact h2

theorem does_nilCheck (h : RelAt P T w0 M N ρ s a w) {d : Nat} (hd : d < s.n) {x : Operand} (hp : (∃ k off t, s.ev x = .ptr k off t) ∨ (∃ t0 l off t, s.ev x = .pvi t0 l off t) ∨ (∃ vs off t, s.ev x = .pvv vs off t)) :
    Does P T w0 M N (.nilCheck x) a w d (s.put d (s.ev x)) := by
  intro o ho
  have hx := h.ev x
  have key : ∃ ad, a.eval x = .pointer (some ad) := by
    rcases hp with ⟨k, off, t, e⟩ | ⟨t0, l, off, t, e⟩ | ⟨vs, off, t, e⟩
    · rw [e] at hx; obtain ⟨_, _, _, _, _, _, _, e'⟩ := hx.ptr_inv; exact ⟨_, e'⟩
    · rw [e] at hx; obtain ⟨_, _, _, _, _, _, _, e'⟩ := hx.pvi_inv; exact ⟨_, e'⟩
    · rw [e] at hx; obtain ⟨_, _, _, _, _, _, e'⟩ := hx.pvv_inv; exact ⟨_, e'⟩
  obtain ⟨ad, e⟩ := key
  refine ⟨a.eval x, w, ?_, ρ, h.put hd hx⟩
  simp only [execOp, ho, e]
  rfl

theorem does_extract (h : RelAt P T w0 M N ρ s a w) {d : Nat} (hd : d < s.n) {x : Operand} {i : Nat} {vs : List V} {v : V} (he : s.ev x = .tup vs) (hv : vs[i]? = some v) : Does P T w0 M N (.extract x i) a w d (s.put d v) := by
  intro o ho
  have hx := h.ev x
  rw [he] at hx
  obtain ⟨arr, h1, h2, h3⟩ := hx.tup_inv
  have hi : i < arr.size := by
    rw [h2]
    rcases Nat.lt_or_ge i vs.length with hh | hh
    · exact hh
    · rw [List.getElem?_eq_none hh] at hv; cases hv
  have hget : arr[i]? = some (arr.getD i undef) := by simp [hi]
  refine ⟨arr.getD i undef, w, ?_, ρ, h.put hd (h3 i v hv)⟩
  simp only [execOp, ho]
  apply run_v
  simp only [Instr.extract, h1, hget]
  rfl

theorem does_makeFunc (h : RelAt P T w0 M N ρ s a w) {d : Nat} (hd : d < s.n) (f : FuncId) (first cap : Array Operand) :
    Does P T w0 M N (.makeFunc (.func f) first cap) a w d (s.put d (.fn f (first.toList.map s.ev) (cap.toList.map s.ev))) := by
  intro o ho
  have key : ∀ (xs : Array Operand) (i : Nat) (v : V), (xs.toList.map s.ev)[i]? = some v → LV P T w (FrOf s.blk ρ w) s.blk ρ v ((xs.map a.eval).getD i undef) := by
    intro xs i v hv
    simp only [List.getElem?_map, Option.map_eq_some_iff] at hv
    obtain ⟨x, hx, rfl⟩ := hv
    rw [Array.getElem?_toList] at hx
    have : (xs.map a.eval).getD i undef = a.eval x := by simp [hx]
    rw [this]
    exact h.ev x
  refine ⟨.func (.func f) (first.map a.eval) (cap.map a.eval), w, ?_, ρ, h.put hd (.fn f _ _ _ _ (by simp) (by simp) (key first) (key cap))⟩
  simp only [execOp, ho]
  exact run_v rfl

end Go.Ev
end

section
/- Numbers, tests, parts of values, addresses. -/
namespace Go.Ev
open Go.RowKit (Below)

variable {P : Program} {T : Tab} {w0 w : World} {M : Nat → Prop} {ρ : Nat → Loc} {N : Nat → Loc × Blk} {s : St} {a : Act} {Fr : Nat → Prop} {blk : Nat → Option Blk}

theorem sameKind_eq {j k : IntKind} (h : sameKind j k = true) : j = k := by cases j <;> cases k <;> first | rfl | (cases h)

theorem arith_run {op : BinOp} {k : IntKind} {x y : Int} {v : V} (h : arith op k x y = some (true, v)) (t : TypeId) (w : World) : ∃ u, (binOp op t (.int k x) (.int k y)).run P w = .ok u w ∧ FV T v u := by
  cases op <;> simp only [arith, Option.some.injEq, Prod.mk.injEq, true_and, reduceCtorEq] at h
  case quo =>
    obtain ⟨h1, rfl⟩ := h
    have h1 : y ≠ 0 := by simpa using h1
    exact ⟨_, by rw [binOp_quo, Op.intDiv, if_neg h1]; rfl, rfl⟩
  case rem =>
    obtain ⟨h1, rfl⟩ := h
    have h1 : y ≠ 0 := by simpa using h1
    exact ⟨_, by rw [binOp_rem, Op.intDiv, if_neg h1]; rfl, rfl⟩
  all_goals subst h
  case add => exact ⟨_, by rw [binOp_add]; rfl, rfl⟩
  case sub => exact ⟨_, by rw [binOp_sub]; rfl, rfl⟩
  case mul => exact ⟨_, by rw [binOp_mul]; rfl, rfl⟩
  case and => exact ⟨_, by rw [binOp_and]; rfl, rfl⟩
  case or => exact ⟨_, by rw [binOp_or]; rfl, rfl⟩
  case xor => exact ⟨_, by rw [binOp_xor]; rfl, rfl⟩
  case andNot => exact ⟨_, by rw [binOp_andNot]; rfl, rfl⟩
  case eql => exact ⟨_, by rw [binOp_eql]; rfl, rfl⟩
  case neq => exact ⟨_, by rw [binOp_neq]; rfl, rfl⟩
  case lss => exact ⟨_, by rw [binOp_lss]; rfl, rfl⟩
  case leq => exact ⟨_, by rw [binOp_leq]; rfl, rfl⟩
  case gtr => exact ⟨_, by rw [binOp_gtr]; rfl, rfl⟩
  case geq => exact ⟨_, by rw [binOp_geq]; rfl, rfl⟩

theorem shift_run {op : BinOp} {k j : IntKind} {x y : Int} {v : V} (h : shiftV op k x y = some (true, v)) (t : TypeId) (w : World) : ∃ u, (binOp op t (.int k x) (.int j y)).run P w = .ok u w ∧ FV T v u := by
  cases op <;> simp only [shiftV, Option.some.injEq, Prod.mk.injEq, reduceCtorEq, decide_eq_true_eq] at h
  case shl =>
    obtain ⟨h1, rfl⟩ := h
    refine ⟨_, ?_, rfl⟩
    rw [binOp_shl, Op.shift, if_neg (by omega)]
    rfl
  case shr =>
    obtain ⟨h1, rfl⟩ := h
    refine ⟨_, ?_, rfl⟩
    rw [binOp_shr, Op.shift, if_neg (by omega)]
    rfl

theorem eqL_append : ∀ (a b c d : List Int), a.length = c.length → eqL (a ++ b) (c ++ d) = (eqL a c && eqL b d) := by
  intro a
  induction a with
  | nil => intro b c d h; cases c with | nil => simp [eqL] | cons _ _ => simp at h
  | cons x a ih =>
    intro b c d h
    cases c with
    | nil => simp at h
    | cons y c => simp only [List.cons_append, eqL]; rw [ih b c d (by simpa using h), Bool.and_assoc]

/-- What comparing values of a struct type asks of the program's tables. -/
structure EqOK (P : Program) (T : Tab) (t : TypeId) : Prop where
  guard : P.eqGuardType P.depth t = false
  held : P.stoodInHeld t = false
  names : ∀ F, P.underlying t = some (.struct F) → ∀ f ∈ F.toList, f.name ≠ "_"
  run : ∀ fs, (T.at t).d = .struct fs → ∃ c : List (Nat × TypeId) → Nat → Prop, c fs 0 ∧ (∀ off, c [] off → off = (T.at t).size) ∧ ∀ f r off, c (f :: r) off → f.1 = off ∧ off + (T.at f.2).size ≤ (T.at t).size ∧ isFlatTy T f.2 = true ∧ c r (off + (T.at f.2).size) ∧
    ∀ j, j < (T.at f.2).size → (T.at t).ks[off + j]? = (T.at f.2).ks[j]?

def EqTabOK (P : Program) (T : Tab) : Prop := ∀ t fs, isFlatTy T t = true → (T.at t).d = .struct fs → EqOK P T t

theorem part_run (hT : TabOK P T) {t u : TypeId} {l : List Int} {off : Nat} {arr : Array Value} (hfl : isFlatTy T t = true) (hfu : isFlatTy T u = true) (harr : arr.toList = zipV (T.at t).ks l) (hl : l.length = (T.at t).size)
    (ho : off + (T.at u).size ≤ (T.at t).size) (hk : ∀ j, j < (T.at u).size → (T.at t).ks[off + j]? = (T.at u).ks[j]?) (w : World) :
    ∃ x, (part u arr off).run P w = .ok x w ∧ FV T (loadI (T.at u) u none l off) x := by
  have hne := flat_ne hT hfu
  have hkt := flat_len hT hfl
  have hku := flat_len hT hfu
  have hget : ∀ j, j < (T.at u).size → arr[off + j]? = some ((kindAt (T.at u).ks j).val (rd l (off + j))) := by
    intro j hj
    rw [← Array.getElem?_toList, harr, zipV_getElem? _ _ _ (by omega) (by omega), kindAt_lt (by omega), getD_of_getElem? (hk j hj)]
  obtain ⟨f1, f2⟩ := loadI_FV hT (t := u) (t0 := none) (l := l) (off := off) hfu (by omega) (by simp)
  cases ha : (T.at u).d.isAgg with
  | false =>
    obtain ⟨sk, e1, e2, e3⟩ := f1 ha
    refine ⟨_, ?_, e3⟩
    have hs : (T.at u).size = 1 := by rw [← hku, e1]; rfl
    have h0 := hget 0 (by omega)
    rw [e1] at h0
    simp only [Nat.add_zero, kindAt, List.length_singleton, Nat.mod_one, List.getD_cons_zero] at h0
    unfold part
    rw [Sem.run_bind, TabOK.isAgg hT hne, ha]
    simp only [Result.andThen_ok, Bool.false_eq_true, if_false, h0]
    rfl
  | true =>
    refine ⟨.agg (arr.extract off (off + (T.at u).size)), ?_, f2 ha _ ?_ ?_⟩
    · unfold part
      rw [Sem.run_bind, TabOK.isAgg hT hne, ha]
      simp only [Result.andThen_ok, if_true]
      rw [Sem.run_bind, TabOK.size hT hne]
      rfl
    · have hs : arr.size = (T.at t).size := by rw [← Array.length_toList, harr, zipV_length _ _ (by omega), hl]
      simp; omega
    · intro j hj
      have hs : arr.size = (T.at t).size := by rw [← Array.length_toList, harr, zipV_length _ _ (by omega), hl]
      rw [Array.getElem?_extract, if_pos (by omega)]
      exact hget j hj

theorem eqL_one (x y : Int) : eqL [x] [y] = (x == y) := by simp [eqL]

theorem eqTy_run (hT : TabOK P T) (hE : EqTabOK P T) : ∀ (n : Nat) (t : TypeId), eqTy T n t = true → isFlatTy T t = true → (T.at t).d.isAgg = true → ∀ (d : Nat), n ≤ d + 1 → ∀ (l m : List Int) (xs ys : Array Value) (w : World),
    xs.toList = zipV (T.at t).ks l → ys.toList = zipV (T.at t).ks m → l.length = (T.at t).size → m.length = (T.at t).size → (Op.equalIn (d + 1) t (.agg xs) (.agg ys)).run P w = .ok (eqL l m) w := by
  intro n
  induction n with
  | zero => intro t h; cases h
  | succ n ih =>
    intro t ht hfl hag d hd l m xs ys w hx hy hl hm
    cases hdt : (T.at t).d with
    | struct fs =>
      have hde := (hT t).desc
      rw [hdt] at hde
      obtain ⟨F, hF, hFs⟩ := hde
      have hfo : P.fieldsOf t = F := by simp [Program.fieldsOf, hF]
      have hq := hE t fs hfl hdt
      rw [run_equalIn_struct w d t xs ys (by rw [hfo]; exact hF) hq.held, hfo]
      have hnames := hq.names F hF
      obtain ⟨c, c1, c2, c3⟩ := hq.run fs hdt
      simp only [eqTy, hdt, Bool.and_eq_true] at ht
      have hall : ∀ f ∈ F.toList, eqTy T n f.type = true := by
        intro f hf
        have := List.all_eq_true.1 ht.2 (f.offset, f.type) (by rw [← hFs]; exact List.mem_map.2 ⟨f, hf, rfl⟩)
        exact this
      have key : ∀ (L : List Field) (off : Nat), (∀ f ∈ L, f.name ≠ "_") → (∀ f ∈ L, eqTy T n f.type = true) → c (L.map fun f => (f.offset, f.type)) off → off ≤ (T.at t).size →
          (Op.eqFields d xs ys L).run P w = .ok (eqL (l.drop off) (m.drop off)) w := by
        intro L
        induction L with
        | nil =>
          intro off _ _ hc _
          have := c2 off hc
          rw [List.drop_of_length_le (by omega), List.drop_of_length_le (by omega)]
          rfl
        | cons f L ihL =>
          intro off h1 h2 hc hoff
          obtain ⟨e1, e2, e3, e4, e5⟩ := c3 _ _ _ hc
          simp only at e1 e2 e3 e4 e5
          obtain ⟨x, hx1, hx2⟩ := part_run hT (u := f.type) (off := f.offset) hfl e3 hx hl (by omega) (by rw [e1]; exact e5) w
          obtain ⟨y, hy1, hy2⟩ := part_run hT (u := f.type) (off := f.offset) hfl e3 hy hm (by omega) (by rw [e1]; exact e5) w
          have hrest := ihL (off + (T.at f.type).size) (fun g hg => h1 g (List.mem_cons_of_mem _ hg)) (fun g hg => h2 g (List.mem_cons_of_mem _ hg)) e4 e2
          have hsplit : ∀ (z : List Int), z.length = (T.at t).size → z.drop off = win z off (T.at f.type).size ++ z.drop (off + (T.at f.type).size) := by
            intro z hz
            rw [win, ← List.drop_drop, List.take_append_drop]
          have hmain : (Op.equalIn d f.type x y).run P w = .ok (eqL (win l off (T.at f.type).size) (win m off (T.at f.type).size)) w := by
            have hd1 : ∃ d', d = d' + 1 := by
              cases d with
              | zero =>
                have hn : n = 0 := by omega
                have := h2 f (List.mem_cons_self)
                rw [hn] at this
                cases this
              | succ d' => exact ⟨d', rfl⟩
            obtain ⟨d', rfl⟩ := hd1
            have hpay : ∀ z : List Int, z.length = (T.at t).size → payI (T.at f.type) f.type none z off = win z off (T.at f.type).size := by
              intro z hz
              obtain ⟨p1, p2⟩ := payI_spec (ti := T.at f.type) (t := f.type) (t0 := none) (l := z) (off := off) (by omega) (by simp)
              apply List.ext_getElem?
              intro j
              have hlw := win_length z off (T.at f.type).size (by omega)
              by_cases hj : j < (T.at f.type).size
              · have q1 := p2 j hj
                have q2 := rd_win z off _ j hj
                rw [← q2] at q1
                simp only [rd, List.getD_eq_getElem?_getD] at q1
                rw [List.getElem?_eq_getElem (by omega), List.getElem?_eq_getElem (by omega)] at q1 ⊢
                simpa using q1
              · rw [List.getElem?_eq_none (by omega), List.getElem?_eq_none (by omega)]
            cases hag' : (T.at f.type).d.isAgg with
            | true =>
              have hld : ∀ z : List Int, z.length = (T.at t).size → loadI (T.at f.type) f.type none z f.offset = .agg f.type (win z off (T.at f.type).size) := by
                intro z hz
                rw [← hpay z hz, e1]
                unfold loadI payI
                cases hdd : (T.at f.type).d with
                | sc sk => rw [hdd] at hag'; cases hag'
                | _ => rfl
              rw [hld l hl] at hx2
              rw [hld m hm] at hy2
              obtain ⟨_, _, q1, xa, rfl, q2⟩ := hx2
              obtain ⟨_, _, q3, ya, rfl, q4⟩ := hy2
              exact ih f.type (h2 f List.mem_cons_self) e3 hag' d' (by omega) _ _ xa ya w q2 q4 q1 q3
            | false =>
              obtain ⟨f1, _⟩ := loadI_FV hT (t := f.type) (t0 := none) (l := l) (off := f.offset) e3 (by omega) (by simp)
              obtain ⟨g1, _⟩ := loadI_FV hT (t := f.type) (t0 := none) (l := m) (off := f.offset) e3 (by omega) (by simp)
              obtain ⟨sk, s1, s2, s3⟩ := f1 hag'
              obtain ⟨sk', s1', s2', s3'⟩ := g1 hag'
              have hsk : sk' = sk := by rw [s1] at s1'; injection s1' with hh; exact hh.symm
              subst hsk
              have hsz : (T.at f.type).size = 1 := by rw [← flat_len hT e3, s1]; rfl
              have hw1 : ∀ z : List Int, z.length = (T.at t).size → win z off 1 = [rd z off] := by
                intro z hz
                apply List.ext_getElem?
                intro j
                cases j with
                | zero => simp [win, rd, List.getElem?_eq_getElem (show off < z.length by omega)]
                | succ j => simp [win]; omega
              have huni : ∀ (v : V) (p q : Value), (∃ k n, v = V.int k n) ∨ (∃ b, v = V.bool b) → FV T v p → FV T v q → p = q := by
                rintro v p q (⟨k, n, rfl⟩ | ⟨b, rfl⟩) hp hq
                · simp only [FV] at hp hq; rw [hp, hq]
                · simp only [FV] at hp hq; rw [hp, hq]
              have hform : ∀ z : List Int, (∃ k n, loadI (T.at f.type) f.type none z f.offset = V.int k n) ∨ (∃ b, loadI (T.at f.type) f.type none z f.offset = V.bool b) := by
                intro z
                unfold loadI
                rw [s2]
                cases sk' with
                | int k => exact .inl ⟨_, _, rfl⟩
                | bool => exact .inr ⟨_, rfl⟩
              have hx3 := huni _ _ _ (hform l) hx2 s3
              have hy3 := huni _ _ _ (hform m) hy2 s3'
              rw [hx3, hy3, hsz, hw1 l hl, hw1 m hm, eqL_one, e1]
              have hdf := (hT f.type).desc
              rw [s2] at hdf
              cases sk' with
              | int k => exact run_equalIn_int w d' f.type k k _ _ hdf
              | bool =>
                have hh := h2 f List.mem_cons_self
                cases n with
                | zero => cases hh
                | succ n => simp [eqTy, s2] at hh
          rw [hsplit l hl, hsplit m hm, eqL_append _ _ _ _ (by rw [win_length _ _ _ (by omega), win_length _ _ _ (by omega)])]
          simp only [Op.eqFields, h1 f List.mem_cons_self, ne_eq, not_false_eq_true, if_true, Sem.run_bind, hx1, hy1, Result.andThen_ok, hmain]
          cases eqL (win l off (T.at f.type).size) (win m off (T.at f.type).size) with
          | true => simpa using hrest
          | false => rfl
      have := key F.toList 0 hnames hall (by rw [hFs]; exact c1) (Nat.zero_le _)
      simpa using this
    | arr k e => simp [eqTy, hdt] at ht
    | _ => rw [hdt] at hag; cases hag
end Go.Ev
end

section
/- Operators, fields, elements, slices of slices. -/
namespace Go.Ev
open Go.RowKit (Below)

variable {P : Program} {T : Tab} {w0 w : World} {M : Nat → Prop} {ρ : Nat → Loc} {N : Nat → Loc × Blk} {s : St} {a : Act} {Fr : Nat → Prop} {blk : Nat → Option Blk}

theorem isBoolD_eq {d : TyD} (h : isBoolD d = true) : d = .sc .bool := by
  cases d with
  | sc k => cases k with
    | bool => rfl
    | int k => cases h
  | _ => cases h

theorem does_binOp (hT : TabOK P T) (hE : EqTabOK P T) (h : RelAt P T w0 M N ρ s a w) {d : Nat} (hd : d < s.n) {op : BinOp} {t t' : TypeId} {x y : Operand} {v : V} (hv : binV T t op (s.ev x) (s.ev y) = some (true, v)) :
    Does P T w0 M N (.binOp op t x y t') a w d (s.put d v) := by
  intro o ho
  have hx := h.ev x
  have hy := h.ev y
  suffices hs : ∃ u, (do eqGuard op t x y (a.eval x) (a.eval y); binOp op t (a.eval x) (a.eval y) : Sem Value).run P w = .ok u w ∧ FV T v u by
    obtain ⟨u, h1, h2⟩ := hs
    refine ⟨u, w, ?_, ρ, h.put hd (.flatV h2)⟩
    simp only [execOp, ho]
    exact run_v h1
  cases ex : s.ev x with
  | int k p =>
    cases ey : s.ev y with
    | int j q =>
      rw [ex] at hx hv
      rw [ey] at hy hv
      rw [hx.int_inv, hy.int_inv, eqGuard_at_int, Sem.run_bind]
      simp only [Sem.run_pure, Result.andThen_ok]
      simp only [binV] at hv
      cases op
      case shl => exact shift_run hv t w
      case shr => exact shift_run hv t w
      all_goals
        dsimp only at hv
        obtain ⟨hk, hv'⟩ := cond_some hv
        have := sameKind_eq hk
        subst this
        exact arith_run hv' t w
    | _ => rw [ex, ey] at hv; simp [binV] at hv
  | bool p =>
    cases ey : s.ev y with
    | bool q =>
      rw [ex] at hx hv
      rw [ey] at hy hv
      rw [hx.bool_inv, hy.bool_inv, eqGuard_at_bool, Sem.run_bind]
      simp only [Sem.run_pure, Result.andThen_ok]
      simp only [binV] at hv
      obtain ⟨hk, hv2⟩ := cond_some hv
      clear hv
      have hv := hv2
      have hde := (hT t).desc
      rw [isBoolD_eq hk] at hde
      have heq : (Op.equal t (.bool p) (.bool q)).run P w = .ok (p == q) w := run_equalIn_bool w 9999 t p q hde
      cases op <;> simp only [Option.some.injEq, Prod.mk.injEq, true_and, reduceCtorEq] at hv
      case eql =>
        subst hv
        refine ⟨.bool (p == q), ?_, rfl⟩
        simp only [binOp]
        rw [Sem.run_bind, heq]
        rfl
      case neq =>
        subst hv
        refine ⟨.bool (!(p == q)), ?_, rfl⟩
        simp only [binOp]
        rw [Sem.run_bind, heq]
        rfl
    | _ => rw [ex, ey] at hv; simp [binV] at hv
  | str p =>
    cases ey : s.ev y with
    | str q =>
      rw [ex] at hx hv
      rw [ey] at hy hv
      rw [hx.str_inv, hy.str_inv, eqGuard_at_string, Sem.run_bind]
      simp only [Sem.run_pure, Result.andThen_ok]
      simp only [binV] at hv
      cases op <;> simp only [Option.some.injEq, Prod.mk.injEq, true_and, reduceCtorEq, decide_eq_true_eq] at hv
      case eql => subst hv; exact ⟨_, rfl, rfl⟩
      case neq => subst hv; exact ⟨_, rfl, rfl⟩
      case add =>
        obtain ⟨hb, rfl⟩ := hv
        refine ⟨.string (p ++ q), ?_, rfl⟩
        have hb' : ¬ (((p.size + q.size : Nat) : Int) > IntKind.i64.max) := by
          rw [IntKind.max_i64]
          simp only [bigLen] at hb
          omega
        simp only [binOp, Op.stringOp, if_neg hb']
        rfl
    | _ => rw [ex, ey] at hv; simp [binV] at hv
  | agg t1 p =>
    cases ey : s.ev y with
    | agg t2 q =>
      rw [ex] at hx hv
      rw [ey] at hy hv
      simp only [binV] at hv
      obtain ⟨hk, hv2⟩ := cond_some hv
      clear hv
      obtain ⟨k1, k2⟩ := and_true hk
      obtain ⟨k2, k3⟩ := and_true k2
      have k1 := Nat.eq_of_beq_eq_true k1
      have k2 := Nat.eq_of_beq_eq_true k2
      subst k1
      subst k2
      obtain ⟨x1, x2, x3, xs, x4, x5⟩ := hx.agg_inv
      obtain ⟨y1, y2, y3, ys, y4, y5⟩ := hy.agg_inv
      have heq := eqTy_run hT hE 5 _ k3 x2 x1 9999 (by omega) p q xs ys w x5 y5 x3 y3
      have hst : ∃ fs, (T.at t2).d = .struct fs := by
        cases hdd : (T.at t2).d with
        | struct fs => exact ⟨fs, rfl⟩
        | arr n e => simp [eqTy, hdd] at k3
        | _ => rw [hdd] at x1; cases x1
      obtain ⟨fs, hfs⟩ := hst
      have hg := (hE t2 fs x2 hfs).guard
      rw [x4, y4, Sem.run_bind, run_eqGuard_agg w op t2 x y xs ys hg]
      simp only [Result.andThen_ok]
      cases op <;> simp only [Option.some.injEq, Prod.mk.injEq, true_and, reduceCtorEq] at hv2
      case eql => subst hv2; exact ⟨_, by rw [run_eql_struct, heq]; rfl, rfl⟩
      case neq => subst hv2; exact ⟨_, by rw [run_neq_struct, heq]; rfl, rfl⟩
    | _ => rw [ex, ey] at hv; simp [binV] at hv
  | _ => rw [ex] at hv; simp [binV] at hv

theorem does_neg (h : RelAt P T w0 M N ρ s a w) {d : Nat} (hd : d < s.n) {t : TypeId} {x : Operand} {k : IntKind} {n : Int} (hx : s.ev x = .int k n) : Does P T w0 M N (.unOp .neg t x) a w d (s.put d (.int k (k.wrap (0 - n)))) := by
  intro o ho
  have := h.ev x
  rw [hx] at this
  refine ⟨_, w, ?_, ρ, h.put hd (.ofInt _ _)⟩
  simp only [execOp, ho, this.int_inv]
  exact run_v rfl

theorem does_not (h : RelAt P T w0 M N ρ s a w) {d : Nat} (hd : d < s.n) {t : TypeId} {x : Operand} {b : Bool} (hx : s.ev x = .bool b) : Does P T w0 M N (.unOp .not t x) a w d (s.put d (.bool (!b))) := by
  intro o ho
  have := h.ev x
  rw [hx] at this
  refine ⟨_, w, ?_, ρ, h.put hd (.ofBool _)⟩
  simp only [execOp, ho, this.bool_inv]
  exact run_v rfl

theorem underlying_known (hT : TabOK P T) {t : TypeId} (h : known T t = true) : ∃ d, P.underlying t = some d := by
  have hd := (hT t).desc
  cases hh : (T.at t).d with
  | sc k => cases k <;> (rw [hh] at hd; exact ⟨_, hd⟩)
  | struct fs => rw [hh] at hd; obtain ⟨F, hd, _⟩ := hd; exact ⟨_, hd⟩
  | fnB e => rw [hh] at hd; obtain ⟨x, y, z, hd⟩ := hd; exact ⟨_, hd⟩
  | fnL e e' => rw [hh] at hd; obtain ⟨x, y, z, hd⟩ := hd; exact ⟨_, hd⟩
  | other => simp [known, hh] at h
  | _ => rw [hh] at hd; exact ⟨_, hd⟩

theorem does_convert (hT : TabOK P T) (h : RelAt P T w0 M N ρ s a w) {d : Nat} (hd : d < s.n) {u t : TypeId} {x : Operand} {k j : IntKind} {n : Int} (hk : known T u = true) (ht : (T.at t).d = .sc (.int k)) (hx : s.ev x = .int j n) :
    Does P T w0 M N (.convert u t x) a w d (s.put d (.int k (k.wrap n))) := by
  intro o ho
  have := h.ev x
  rw [hx] at this
  obtain ⟨du, hu⟩ := underlying_known hT hk
  have hde := (hT t).desc
  rw [ht] at hde
  refine ⟨_, w, ?_, ρ, h.put hd (.ofInt _ _)⟩
  simp only [execOp, ho, this.int_inv]
  apply run_v
  simp only [convert, Sem.run_bind, run_underlying hu, run_underlying hde, Result.andThen_ok]
  cases du <;> rfl

theorem fieldOf_some : ∀ (F : List Field) (i : Nat) (x : Nat × TypeId), fieldOf (F.map fun f => (f.offset, f.type)) i = some x → ∃ f, F[i]? = some f ∧ f.offset = x.1 ∧ f.type = x.2 := by
  intro F
  induction F with
  | nil => intro i x h; cases i <;> simp [fieldOf] at h
  | cons f F ih =>
    intro i x h
    cases i with
    | zero =>
      simp only [List.map_cons, fieldOf, Option.some.injEq] at h
      subst h
      exact ⟨f, rfl, rfl, rfl⟩
    | succ i => exact ih i x h

theorem fieldPlace_run (hT : TabOK P T) {u : TypeId} (hk : known T u = true) {f : Field} (hf : f.type = u) (b o : Nat) (w : World) : (fieldPlace ⟨b, o, none⟩ f).run P w = .ok ⟨b, o + f.offset, none⟩ w := by
  obtain ⟨ti, z, h1, h2, _, _, _, h0, _⟩ := hT.info' (known_ne hk)
  unfold fieldPlace
  rw [Sem.run_bind, hf, TabOK.size hT (known_ne hk)]
  simp only [Result.andThen_ok, if_neg (Nat.ne_of_gt h0), addr_add]
  rfl

theorem does_fieldAddr (hT : TabOK P T) (h : RelAt P T w0 M N ρ s a w) {d : Nat} (hd : d < s.n) {t : TypeId} {x : Operand} {i : Nat} {fs : List (Nat × TypeId)} {o' : Nat} {u : TypeId} (ht : (T.at t).d = .struct fs) (hf : fieldOf fs i = some (o', u)) (hk : known T u = true)
    {v : V} (hv : (∃ k off, s.ev x = .ptr k off t ∧ v = .ptr k (off + o') u) ∨ (∃ t0 l off, s.ev x = .pvi t0 l off t ∧ v = .pvi none l (off + o') u) ∨ (∃ vs off, s.ev x = .pvv vs off t ∧ v = .pvv vs (off + o') u)) :
    Does P T w0 M N (.fieldAddr t x i) a w d (s.put d v) := by
  intro o ho
  have hde := (hT t).desc
  rw [ht] at hde
  obtain ⟨F, hF, hFs⟩ := hde
  subst hFs
  obtain ⟨f, hf1, hf2, hf3⟩ := fieldOf_some _ _ _ hf
  simp only at hf2 hf3
  have hFi : F[i]? = some f := by rw [← Array.getElem?_toList]; exact hf1
  have hx := h.ev x
  suffices hs : ∃ b p, a.eval x = .pointer (some ⟨b, p, none⟩) ∧ LV P T w (FrOf s.blk ρ w) s.blk ρ v (.pointer (some ⟨b, p + o', none⟩)) by
    obtain ⟨b, p, h1, h2⟩ := hs
    refine ⟨_, w, ?_, ρ, h.put hd h2⟩
    simp only [execOp, ho]
    apply run_v
    simp only [Instr.fieldAt, Sem.run_bind, run_underlying hF, Result.andThen_ok, hFi, h1, Instr.sureAddr, Sem.run_pure]
    rw [fieldPlace_run hT hk hf3]
    simp [hf2]
  rcases hv with ⟨k, off, e, rfl⟩ | ⟨t0, l, off, e, rfl⟩ | ⟨vs, off, e, rfl⟩
  · rw [e] at hx
    obtain ⟨bk, b, base, lim, h1, h2, h3, h4⟩ := hx.ptr_inv
    refine ⟨b, base + off, h4, ?_⟩
    rw [Nat.add_assoc]
    refine .ptr k (off + o') u bk b base lim h1 h2 ?_
    obtain ⟨e0, r, dd⟩ := bk
    cases dd with
    | ints l =>
      simp only [TyAt] at h3 ⊢
      obtain ⟨g1, g2, g3, g4, g5⟩ := h3
      have hks := (hT t).flat g1
      rw [ht] at hks
      obtain ⟨q1, q2, q3⟩ := hks.2 i o' u hf
      have hku := flat_len hT q1
      refine ⟨q1, g2, by omega, fun j hj => ?_, g5⟩
      have := g4 (o' + j) (by omega)
      rw [Nat.add_assoc, this, kindAt_lt (by omega), kindAt_lt (by omega), getD_of_getElem? (q3 j hj)]
    | rows xss =>
      simp only [TyAt] at h3
      exfalso
      obtain ⟨_, rfl⟩ := h3
      have hO := h.ob k _ h1
      rw [h2] at hO
      obtain ⟨arr, _, _, g⟩ := hO
      obtain ⟨_, _, e', g4, _⟩ := g
      rw [ht] at g4
      cases g4
    | vals vs => trivial
  · rw [e] at hx
    obtain ⟨b, p, h1, h2, h3, h4, h5, h6⟩ := hx.pvi_inv
    have hks := (hT t).flat h2
    rw [ht] at hks
    obtain ⟨q1, q2, q3⟩ := hks.2 i o' u hf
    have hku := flat_len hT q1
    refine ⟨b, p, h6, .bv _ _ (.pvi none l (off + o') u b (p + o') h1 q1 (by omega) (fun j hj => ?_) (by simp))⟩
    have := h4 (o' + j) (by omega)
    rw [Nat.add_assoc, this, Nat.add_assoc, kindAt_lt (by omega), kindAt_lt (by omega), getD_of_getElem? (q3 j hj)]
  · rw [e] at hx
    obtain ⟨b, p, us, h1, h2, h3, h4⟩ := hx.pvv_inv
    refine ⟨b, p, h4, .bv _ _ (.pvv vs (off + o') u b (p + o') (fun j => us (o' + j)) h1 (fun j v hj => ?_) (fun j v hj => h3 (o' + j) v (by rw [← Nat.add_assoc]; exact hj)))⟩
    rw [Nat.add_assoc]
    exact h2 (o' + j) v (by rw [← Nat.add_assoc]; exact hj)

theorem does_field (hT : TabOK P T) (h : RelAt P T w0 M N ρ s a w) {d : Nat} (hd : d < s.n) {t : TypeId} {x : Operand} {i : Nat} {fs : List (Nat × TypeId)} {o' : Nat} {u : TypeId} {l : List Int} (ht : (T.at t).d = .struct fs) (hf : fieldOf fs i = some (o', u))
    (hx : s.ev x = .agg t l) : Does P T w0 M N (.field t x i) a w d (s.put d (loadI (T.at u) u none l o')) := by
  intro o ho
  have hde := (hT t).desc
  rw [ht] at hde
  obtain ⟨F, hF, hFs⟩ := hde
  subst hFs
  obtain ⟨f, hf1, hf2, hf3⟩ := fieldOf_some _ _ _ hf
  simp only at hf2 hf3
  have hFi : F[i]? = some f := by rw [← Array.getElem?_toList]; exact hf1
  have hv := h.ev x
  rw [hx] at hv
  obtain ⟨x1, x2, x3, arr, x4, x5⟩ := hv.agg_inv
  have hks := (hT t).flat x2
  rw [ht] at hks
  obtain ⟨q1, q2, q3⟩ := hks.2 i o' u hf
  obtain ⟨y, hy1, hy2⟩ := part_run hT x2 q1 x5 x3 q2 q3 w
  refine ⟨y, w, ?_, ρ, h.put hd (.flatV hy2)⟩
  simp only [execOp, ho]
  apply run_v
  simp only [Instr.field, Sem.run_bind, run_underlying hF, Result.andThen_ok, hFi, x4, asAgg, Sem.run_pure, hf2, hf3]
  exact hy1

theorem does_indexArr (hT : TabOK P T) (h : RelAt P T w0 M N ρ s a w) {d : Nat} (hd : d < s.n) {t : TypeId} {x i : Operand} {m : Nat} {e : TypeId} {l : List Int} {k : IntKind} {n : Int} (ht : (T.at t).d = .arr m e)
    (hx : s.ev x = .agg t l) (hi : s.ev i = .int k n) (hn : 0 ≤ n ∧ n < (m : Int)) : Does P T w0 M N (.index t x i) a w d (s.put d (loadI (T.at e) e none l (n.toNat * (T.at e).size))) := by
  intro o ho
  have hde := (hT t).desc
  rw [ht] at hde
  have hv := h.ev x
  rw [hx] at hv
  have hj := h.ev i
  rw [hi] at hj
  obtain ⟨x1, x2, x3, arr, x4, x5⟩ := hv.agg_inv
  have hks := (hT t).flat x2
  rw [ht] at hks
  obtain ⟨q1, q2, q3⟩ := hks.2
  have hlt : n.toNat < m := by omega
  have hle : n.toNat * (T.at e).size + (T.at e).size ≤ (T.at t).size := by
    rw [q2, ← Nat.succ_mul]
    exact Nat.mul_le_mul_right _ hlt
  obtain ⟨y, hy1, hy2⟩ := part_run hT x2 q1 x5 x3 hle (fun j hj => q3 _ j hlt hj) w
  refine ⟨y, w, ?_, ρ, h.put hd (.flatV hy2)⟩
  simp only [execOp, ho]
  apply run_v
  simp only [Instr.index, x4, hj.int_inv, asIntOf, Sem.run_bind, Sem.run_pure, Result.andThen_ok, run_underlying hde]
  rw [if_pos hn, Sem.run_bind, TabOK.size hT (flat_ne hT q1)]
  exact hy1

theorem does_indexStr (hT : TabOK P T) (h : RelAt P T w0 M N ρ s a w) {d : Nat} (hd : d < s.n) {t : TypeId} {x i : Operand} {b : ByteArray} {k : IntKind} {n : Int} (ht : (T.at t).d = .str)
    (hx : s.ev x = .str b) (hi : s.ev i = .int k n) (hn : 0 ≤ n ∧ n < (b.size : Int)) : Does P T w0 M N (.index t x i) a w d (s.put d (.int .u8 (b.data.toList.getD n.toNat 0).toNat)) := by
  intro o ho
  have hde := (hT t).desc
  rw [ht] at hde
  have hv := h.ev x
  rw [hx] at hv
  have hj := h.ev i
  rw [hi] at hj
  have hlt : n.toNat < b.size := by omega
  refine ⟨.int .u8 (b.data.toList.getD n.toNat 0).toNat, w, ?_, ρ, h.put hd (.ofInt _ _)⟩
  simp only [execOp, ho]
  apply run_v
  have hg : b[n.toNat]? = some (b.data.toList.getD n.toNat 0) := by
    have h1 : n.toNat < b.data.toList.length := by rw [Array.length_toList]; exact hlt
    rw [getElem?_pos b n.toNat hlt]
    simp only [List.getD_eq_getElem?_getD, List.getElem?_eq_getElem h1, Option.getD_some, Option.some.injEq]
    rfl
  rw [hv.str_inv, hj.int_inv]
  unfold Instr.index
  rw [Sem.run_bind]
  show Result.andThen (Result.ok (k, n) w) _ = _
  rw [Result.andThen_ok, Sem.run_bind, run_underlying hde, Result.andThen_ok]
  simp only []
  rw [if_pos hn.1, hg]
  rfl

end Go.Ev
end

section
/- Addresses of elements; slices of slices; lengths. -/
namespace Go.Ev
open Go.RowKit (Below)

variable {P : Program} {T : Tab} {w0 w : World} {M : Nat → Prop} {ρ : Nat → Loc} {N : Nat → Loc × Blk} {s : St} {a : Act} {Fr : Nat → Prop} {blk : Nat → Option Blk}

theorem cnt_of {sz n : Nat} {l : List Int} (h : l.length = n * sz) (h0 : 0 < sz) : cnt sz l = n := by
  unfold cnt; rw [h, Nat.mul_div_cancel _ h0]

/-- What the evaluator takes for a slice's length is the slice's length. -/
theorem lenV_sound (hT : TabOK P T) (h : RelAt P T w0 M N ρ s a w) {x : V} {u : Value} (hx : LV P T w (FrOf s.blk ρ w) s.blk ρ x u) {n : Nat} (hn : lenV T s x = some n) : ∃ ad cap, u = .slice ad n cap := by
  cases x with
  | sl k off len e =>
    simp only [lenV, Option.some.injEq] at hn
    subst hn
    cases hx with
    | bv _ _ h => cases h with
      | flat _ _ h => exact h.elim
    | sl k off n e e0 r l a cap => exact ⟨_, _, rfl⟩
  | nil =>
    simp only [lenV, Option.some.injEq] at hn
    subst hn
    exact ⟨_, _, hx.nil_inv⟩
  | slv e l =>
    simp only [lenV, contents, Option.some.injEq] at hn
    obtain ⟨hf, ad, m, cap, hu, hl, _, _⟩ := hx.slv_inv
    rw [cnt_of hl (flat_pos hT hf)] at hn
    subst hn
    exact ⟨_, _, hu⟩
  | slr e l =>
    simp only [lenV, contents, Option.some.injEq] at hn
    subst hn
    have := hx.slr_inv
    cases this with
    | flat _ _ h => exact h.elim
    | slr e e' xss ad m cap us b o h1 h2 h3 h4 h5 => subst h4; exact ⟨_, _, rfl⟩
  | slw k e =>
    cases hx with
    | bv _ _ h => cases h with
      | flat _ _ h => exact h.elim
    | slw k e bk b base lim m cap h1 h2 h3 h4 h5 h6 h7 h8 =>
      simp only [lenV, contents, h1] at hn
      have hO := h.ob k bk h1
      rw [h4] at hO
      obtain ⟨arr, g1, g2, g3⟩ := hO
      cases hd : bk.d with
      | ints l =>
        rw [hd] at hn h5 g3
        simp only [Option.some.injEq] at hn
        have hf := g3.1
        rw [h2] at hf
        rw [cnt_of h5 (flat_pos hT hf)] at hn
        subst hn
        exact ⟨_, _, rfl⟩
      | rows l =>
        rw [hd] at hn h5 g3
        simp only [Option.some.injEq] at hn
        obtain ⟨q1, q2, _⟩ := g3
        rw [h2] at q2
        rw [q2, Nat.mul_one] at h5
        simp only [D.len] at h5
        subst hn
        rw [h5]
        exact ⟨_, _, rfl⟩
      | vals l => rw [hd] at hn; simp at hn
    | slwNil k e bk ad h1 h2 h3 h4 h5 =>
      simp only [lenV, contents, h1] at hn
      cases hd : bk.d with
      | ints l =>
        rw [hd] at hn h5
        simp only [Option.some.injEq] at hn
        simp only [D.len] at h5
        simp only [cnt, h5, Nat.zero_div] at hn
        subst hn
        exact ⟨_, _, rfl⟩
      | rows l =>
        rw [hd] at hn h5
        simp only [Option.some.injEq] at hn
        simp only [D.len] at h5
        rw [h5] at hn
        subst hn
        exact ⟨_, _, rfl⟩
      | vals l => rw [hd] at hn; simp at hn
  | _ => simp [lenV, contents] at hn

theorem cellsAt_part {b o : Nat} {ks : List SK} {l : List Int} {off n : Nat} (hc : CellsAt w b o ks l off n) {e : TypeId} {i : Nat} (hi : i * (T.at e).size + (T.at e).size ≤ n)
    (hk : ∀ j, j < (T.at e).size → kindAt ks (i * (T.at e).size + j) = kindAt (T.at e).ks j) : CellsAt w b (o + i * (T.at e).size) (T.at e).ks l (off + i * (T.at e).size) (T.at e).size := by
  intro j hj
  rw [Nat.add_assoc, hc (i * (T.at e).size + j) (by omega), hk j hj, Nat.add_assoc]

theorem addrOf_sound (hT : TabOK P T) (h : RelAt P T w0 M N ρ s a w) {t : TypeId} {x v : V} {u : Value} {n : Int} {k : IntKind} (hx : LV P T w (FrOf s.blk ρ w) s.blk ρ x u) (hv : addrOf T s t x n = some (true, v)) :
    ∃ y, (Instr.indexAt t u (.int k n)).run P w = .ok y w ∧ LV P T w (FrOf s.blk ρ w) s.blk ρ v y := by
  cases hdt : (T.at t).d with
  | arr m e =>
    simp only [addrOf, hdt] at hv
    obtain ⟨hke, hv1⟩ := cond_some hv
    clear hv
    have hde := (hT t).desc
    rw [hdt] at hde
    have hrun : ∀ b p, u = .pointer (some ⟨b, p, none⟩) → (0 ≤ n ∧ n < (m : Int)) → (Instr.indexAt t u (.int k n)).run P w = .ok (.pointer (some ⟨b, p + n.toNat * (T.at e).size, none⟩)) w := by
      intro b p hu hn
      rw [hu]
      have hpe : P.elem t = e := by simp [Program.elem, hde]
      have hpl : P.arrayLen t = m := by simp [Program.arrayLen, hde]
      rw [run_indexAt_array w t ⟨b, p, none⟩ k n (by rw [hpe, hpl]; exact hde), hpl, hpe, if_pos hn, TabOK.size hT (known_ne hke)]
      simp only [Result.andThen_ok, addr_add]
    have hsize : isFlatTy T t = true → isFlatTy T e = true ∧ (T.at t).size = m * (T.at e).size ∧ ∀ i j, i < m → j < (T.at e).size → (T.at t).ks[i * (T.at e).size + j]? = (T.at e).ks[j]? := by
      intro hf
      have := ((hT t).flat hf).2
      rw [hdt] at this
      exact this
    cases x with
    | ptr k' off t' =>
      obtain ⟨ht, hv⟩ := cond_some hv1
      clear hv1
      have ht := Nat.eq_of_beq_eq_true ht
      subst ht
      simp only [Option.some.injEq, Prod.mk.injEq, Bool.and_eq_true, decide_eq_true_eq] at hv
      obtain ⟨hn, rfl⟩ := hv
      obtain ⟨bk, b, base, lim, h1, h2, h3, h4⟩ := hx.ptr_inv
      refine ⟨_, hrun _ _ h4 hn, ?_⟩
      rw [Nat.add_assoc]
      refine .ptr k' _ e bk b base lim h1 h2 ?_
      obtain ⟨e0, r, dd⟩ := bk
      cases dd with
      | ints l =>
        simp only [TyAt] at h3 ⊢
        obtain ⟨g1, g2, g3, g4, g5⟩ := h3
        obtain ⟨q1, q2, q3⟩ := hsize g1
        have hlt : n.toNat < m := by omega
        have hle : n.toNat * (T.at e).size + (T.at e).size ≤ (T.at t').size := by
          rw [q2, ← Nat.succ_mul]; exact Nat.mul_le_mul_right _ hlt
        have hkt := flat_len hT g1
        have hku := flat_len hT q1
        refine ⟨q1, g2, by omega, fun j hj => ?_, g5⟩
        have := g4 (n.toNat * (T.at e).size + j) (by omega)
        rw [Nat.add_assoc, this, kindAt_lt (by omega), kindAt_lt (by omega), getD_of_getElem? (q3 _ j hlt hj)]
      | rows xss =>
        exfalso
        simp only [TyAt] at h3
        obtain ⟨_, rfl⟩ := h3
        have hO := h.ob k' _ h1
        rw [h2] at hO
        obtain ⟨arr, _, _, g⟩ := hO
        obtain ⟨_, _, e', g4, _⟩ := g
        rw [hdt] at g4
        cases g4
      | vals vs => trivial
    | pvi t0 l off t' =>
      obtain ⟨ht, hv⟩ := cond_some hv1
      clear hv1
      have ht := Nat.eq_of_beq_eq_true ht
      subst ht
      simp only [Option.some.injEq, Prod.mk.injEq, Bool.and_eq_true, decide_eq_true_eq] at hv
      obtain ⟨hn, rfl⟩ := hv
      obtain ⟨b, p, h1, h2, h3, h4, h5, h6⟩ := hx.pvi_inv
      obtain ⟨q1, q2, q3⟩ := hsize h2
      have hlt : n.toNat < m := by omega
      have hle : n.toNat * (T.at e).size + (T.at e).size ≤ (T.at t').size := by
        rw [q2, ← Nat.succ_mul]; exact Nat.mul_le_mul_right _ hlt
      have hkt := flat_len hT h2
      have hku := flat_len hT q1
      refine ⟨_, hrun _ _ h6 hn, .bv _ _ (.pvi none l _ e b _ h1 q1 (by omega) (cellsAt_part h4 hle fun j hj => ?_) (by simp))⟩
      rw [kindAt_lt (by omega), kindAt_lt (by omega), getD_of_getElem? (q3 _ j hlt hj)]
    | _ => simp at hv1
  | slice e =>
    simp only [addrOf, hdt] at hv
    have hde := (hT t).desc
    rw [hdt] at hde
    cases hl : lenV T s x with
    | none => rw [hl] at hv; cases hv
    | some m =>
      rw [hl] at hv
      obtain ⟨ad, cap, hu⟩ := lenV_sound hT h hx hl
      try simp only at hv
      obtain ⟨hke, hv1⟩ := cond_some hv
      clear hv
      have hpe : P.elem t = e := by simp [Program.elem, hde]
      have hrun : ∀ b p, ad = some ⟨b, p, none⟩ → (0 ≤ n ∧ n < (m : Int)) → (Instr.indexAt t u (.int k n)).run P w = .ok (.pointer (some ⟨b, p + n.toNat * (T.at e).size, none⟩)) w := by
        intro b p hb hn
        rw [hu, hb, run_indexAt_slice w t ⟨b, p, none⟩ m cap k n (by rw [hpe]; exact hde), if_pos hn, hpe, TabOK.size hT (known_ne hke)]
        simp only [Result.andThen_ok, addr_add]
      cases x with
      | slv u' l =>
        obtain ⟨ht, hv⟩ := cond_some hv1
        clear hv1
        have ht := Nat.eq_of_beq_eq_true ht
        subst ht
        simp only [Option.some.injEq, Prod.mk.injEq, Bool.and_eq_true, decide_eq_true_eq] at hv
        obtain ⟨hn, rfl⟩ := hv
        obtain ⟨hf, ad', m', cap', hu', hlen, _, hc⟩ := hx.slv_inv
        rw [hu] at hu'
        injection hu' with e1 e2 e3
        subst e1 e2
        rcases hc with hc | ⟨b, p, hb, hF, hc⟩
        · omega
        · have hlt : n.toNat < m := by omega
          have hle : n.toNat * (T.at u').size + (T.at u').size ≤ l.length := by
            rw [hlen, ← Nat.succ_mul]; exact Nat.mul_le_mul_right _ hlt
          have hku := flat_len hT hf
          refine ⟨_, hrun _ _ hb hn, .bv _ _ (.pvi none l _ u' b _ hF hf hle ?_ (by simp))⟩
          have := cellsAt_part (w := w) (off := 0) hc hle (fun j hj => by rw [← hku]; exact kindAt_add _ _)
          simpa using this
      | slr u' l =>
        obtain ⟨ht, hv⟩ := cond_some hv1
        clear hv1
        have ht := Nat.eq_of_beq_eq_true ht
        subst ht
        simp only [Option.some.injEq, Prod.mk.injEq, Bool.and_eq_true, decide_eq_true_eq] at hv
        obtain ⟨hn, rfl⟩ := hv
        have hb := hx.slr_inv
        rw [hu] at hb
        cases hb with
        | flat _ _ h => exact h.elim
        | slr e e' xss ad m cap us b o h1 h2 h3 h4 h5 =>
          rcases h5 with h5 | ⟨h5, h6, h7, h8⟩
          · omega
          · have hlt : n.toNat < m := by omega
            refine ⟨_, hrun _ _ h5 hn, ?_⟩
            rw [h3, Nat.mul_one]
            exact .bv _ _ (.pvr u' e' l _ b _ (us n.toNat) h1 h6 (h7 _ hlt) (h8 _ hlt))
      | slw k' u' =>
        obtain ⟨ht, hv⟩ := cond_some hv1
        clear hv1
        have ht := Nat.eq_of_beq_eq_true ht
        subst ht
        simp only [Option.some.injEq, Prod.mk.injEq, Bool.and_eq_true, decide_eq_true_eq] at hv
        obtain ⟨hn, rfl⟩ := hv
        rw [hu] at hx
        cases hx with
        | bv _ _ h => cases h with
          | flat _ _ h => exact h.elim
        | slwNil => omega
        | slw k e bk b base lim m cap h1 h2 h3 h4 h5 h6 h7 h8 =>
          have hlt : n.toNat < m := by omega
          refine ⟨_, hrun _ _ rfl hn, .ptr k' _ u' bk b base lim h1 h4 ?_⟩
          have hO := h.ob k' bk h1
          rw [h4] at hO
          obtain ⟨arr, g1, g2, g3⟩ := hO
          obtain ⟨e0, r, dd⟩ := bk
          simp only at h2 h3 h5 g3
          subst h2 h3
          have hle : n.toNat * (T.at e0).size + (T.at e0).size ≤ m * (T.at e0).size := by
            rw [← Nat.succ_mul]; exact Nat.mul_le_mul_right _ hlt
          cases dd with
          | ints l =>
            have hf := g3.1
            have hku := flat_len hT hf
            simp only [D.len] at h5
            refine ⟨hf, hf, by (try simp only); omega, fun j hj => ?_, fun hr => by cases hr⟩
            try simp only
            rw [← hku]
            exact kindAt_add _ _
          | rows l =>
            obtain ⟨q1, q2, _⟩ := g3
            simp only [D.len] at h5
            rw [q2, Nat.mul_one] at h5
            exact ⟨by (try simp only); rw [q2]; omega, rfl⟩
          | vals l => trivial
      | sl k' off len u' =>
        obtain ⟨ht, hv⟩ := cond_some hv1
        clear hv1
        have ht := Nat.eq_of_beq_eq_true ht
        subst ht
        simp only [Option.some.injEq, Prod.mk.injEq, Bool.and_eq_true, decide_eq_true_eq] at hv
        obtain ⟨hn, rfl⟩ := hv
        rw [hu] at hx
        cases hx with
        | bv _ _ h => cases h with
          | flat _ _ h => exact h.elim
        | sl k off m e e0 r l ad cap h1 h2 h3 h4 h5 h5r h6 h7 h8 =>
          have hlt : n.toNat < m := by omega
          rcases h8 with h8 | ⟨b, base, lim, g1, g2, g3⟩
          · omega
          · refine ⟨_, hrun _ _ g2 hn, ?_⟩
            rw [Nat.add_assoc]
            refine .ptr k' _ u' _ b base lim h1 g1 ?_
            have hle : n.toNat * (T.at u').size + (T.at u').size ≤ m * (T.at u').size := by
              rw [← Nat.succ_mul]; exact Nat.mul_le_mul_right _ hlt
            have hku := flat_len hT h3
            refine ⟨h3, h2, by (try simp only); omega, fun j hj => ?_, h5r⟩
            · try simp only
              rw [Nat.add_assoc, h5 _ (by omega), ← hku]
              exact kindAt_add _ _
      | _ => simp at hv1
  | _ => simp [addrOf, hdt] at hv
end Go.Ev
end

section
/- Slices of slices, of strings, of arrays; lengths, min, max. -/
namespace Go.Ev
open Go.RowKit (Below)

variable {P : Program} {T : Tab} {w0 w : World} {M : Nat → Prop} {ρ : Nat → Loc} {N : Nat → Loc × Blk} {s : St} {a : Act} {Fr : Nat → Prop} {blk : Nat → Option Blk}

theorem does_indexAddr (hT : TabOK P T) (h : RelAt P T w0 M N ρ s a w) {d : Nat} (hd : d < s.n) {t : TypeId} {x i : Operand} {k : IntKind} {n : Int} {v : V} (hi : s.ev i = .int k n) (hv : addrOf T s t (s.ev x) n = some (true, v)) :
    Does P T w0 M N (.indexAddr t x i) a w d (s.put d v) := by
  intro o ho
  have hj := h.ev i
  rw [hi] at hj
  obtain ⟨y, h1, h2⟩ := addrOf_sound (k := k) hT h (h.ev x) hv
  refine ⟨y, w, ?_, ρ, h.put hd h2⟩
  simp only [execOp, ho]
  apply run_v
  rw [hj.int_inv]
  exact h1

theorem sliceBound_run {k : IntKind} {i : Int} {y : Nat} {c : BoundsCode} (h : 0 ≤ i ∧ i ≤ (y : Int)) (w : World) : (Instr.sliceBound (.int k i) y c).run P w = .ok i.toNat w := by
  unfold Instr.sliceBound
  rw [Sem.run_bind]
  show Result.andThen (Result.ok (k, i) w) _ = _
  rw [Result.andThen_ok]
  simp only []
  rw [if_pos h]
  rfl

def hiRun (n cap : Nat) (isS : Bool) (hi : Option Value) : Sem Nat :=
  match hi with
  | some v => Instr.sliceBound v cap (if isS then .sliceAcap else .sliceAlen)
  | none => pure n

theorem hiB_run (h : RelAt P T w0 M N ρ s a w) {n cap m : Nat} {hi : Option Operand} (hb : hiB s n hi = some (true, m)) (hcap : n ≤ cap) (isS : Bool) : m ≤ n ∧ (hiRun n cap isS (hi.map a.eval)).run P w = .ok m w := by
  cases hi with
  | none =>
    simp only [hiB, Option.some.injEq, Prod.mk.injEq, true_and] at hb
    subst hb
    exact ⟨Nat.le_refl _, rfl⟩
  | some x =>
    have hx := h.ev x
    simp only [hiB] at hb
    split at hb
    · rename_i k i ex
      rw [ex] at hx
      simp only [Option.some.injEq, Prod.mk.injEq, Bool.and_eq_true, decide_eq_true_eq] at hb
      obtain ⟨h1, rfl⟩ := hb
      refine ⟨by omega, ?_⟩
      simp only [Option.map_some, hx.int_inv, hiRun]
      exact sliceBound_run ⟨h1.1, by omega⟩ w
    · cases hb

theorem sliceBounds_eq (isS : Bool) (n cap : Nat) (lo hi : Option Value) (w : World) :
    (Instr.sliceBounds isS n cap lo hi none).run P w = ((hiRun n cap isS hi).run P w).andThen fun h w' => ((match lo with | some v => Instr.sliceBound v h .sliceB | none => pure 0 : Sem Nat).run P w').andThen fun l w'' => .ok (l, h, cap) w'' := by
  unfold Instr.sliceBounds hiRun
  cases hi <;> cases lo <;> simp only [Sem.run_bind, Sem.run_pure, Result.andThen_ok, Option.isSome_none, Bool.false_eq_true, if_false]

theorem bounds_run (h : RelAt P T w0 M N ρ s a w) {n cap l m : Nat} {lo hi : Option Operand} (hb : bounds s n lo hi = some (true, l, m)) (hcap : n ≤ cap) (isS : Bool) :
    (Instr.sliceBounds isS n cap (lo.map a.eval) (hi.map a.eval) none).run P w = .ok (l, m, cap) w ∧ l ≤ m ∧ m ≤ n := by
  unfold bounds at hb
  split at hb
  · cases hb
  · rename_i c m' hh
    split at hb
    · simp only [Option.some.injEq, Prod.mk.injEq] at hb
      obtain ⟨rfl, rfl, rfl⟩ := hb
      obtain ⟨g1, g2⟩ := hiB_run h hh hcap isS
      refine ⟨?_, Nat.zero_le _, g1⟩
      rw [sliceBounds_eq, g2]
      rfl
    · rename_i x
      have hx := h.ev x
      split at hb
      · rename_i k i ex
        rw [ex] at hx
        simp only [Option.some.injEq, Prod.mk.injEq, Bool.and_eq_true, decide_eq_true_eq] at hb
        obtain ⟨⟨rfl, h1, h2⟩, rfl, rfl⟩ := hb
        obtain ⟨g1, g2⟩ := hiB_run h hh hcap isS
        refine ⟨?_, by omega, g1⟩
        rw [sliceBounds_eq, g2, Result.andThen_ok]
        simp only [Option.map_some, hx.int_inv]
        rw [sliceBound_run ⟨h1, h2⟩]
        rfl
      · cases hb

theorem does_sliceStr (hT : TabOK P T) (h : RelAt P T w0 M N ρ s a w) {d : Nat} (hd : d < s.n) {t : TypeId} {x : Operand} {lo hi : Option Operand} {b : ByteArray} {l m : Nat} (ht : (T.at t).d = .str) (hx : s.ev x = .str b) (hb : bounds s b.size lo hi = some (true, l, m)) :
    Does P T w0 M N (.slice t x lo hi none) a w d (s.put d (.str (b.extract l m))) := by
  intro o ho
  have hv := h.ev x
  rw [hx] at hv
  have hde := (hT t).desc
  rw [ht] at hde
  obtain ⟨hr, _, _⟩ := bounds_run h hb (Nat.le_refl _) false
  refine ⟨.string (b.extract l m), w, ?_, ρ, h.put hd (.ofStr _)⟩
  simp only [execOp, ho]
  apply run_v
  rw [hv.str_inv]
  unfold Instr.sliceAt
  rw [Sem.run_bind, run_underlying hde, Result.andThen_ok]
  simp only []
  unfold Instr.slice
  rw [Sem.run_bind, run_underlying hde, Result.andThen_ok]
  simp only [Option.map_none, Option.isSome_none, Bool.false_eq_true, if_false]
  rw [Sem.run_bind, hr]
  rfl

theorem slice_run (hT : TabOK P T) (h : RelAt P T w0 M N ρ s a w) {t e : TypeId} (ht : (T.at t).d = .slice e) (hk : known T e = true) {lo hi : Option Operand} {ad : Option Addr} {n cap l m : Nat} (hb : bounds s n lo hi = some (true, l, m)) (hcap : n ≤ cap) :
    (Instr.sliceAt t (.slice ad n cap) (lo.map a.eval) (hi.map a.eval) none).run P w = .ok (.slice (if cap = l then ad else ad.map (·.add (l * (T.at e).size))) (m - l) (cap - l)) w := by
  have hde := (hT t).desc
  rw [ht] at hde
  obtain ⟨hr, _, _⟩ := bounds_run h hb hcap true
  unfold Instr.sliceAt
  rw [Sem.run_bind, run_underlying hde, Result.andThen_ok]
  simp only []
  unfold Instr.slice
  rw [Sem.run_bind, run_underlying hde, Result.andThen_ok]
  simp only []
  rw [Sem.run_bind, hr, Result.andThen_ok]
  simp only []
  rw [Sem.run_bind, TabOK.size hT (known_ne hk)]
  rfl

theorem flat_known (hT : TabOK P T) {e : TypeId} (hf : isFlatTy T e = true) : known T e = true := by
  have := flat_ne hT hf
  unfold known
  cases hh : (T.at e).d <;> simp_all

theorem win_sub (l : List Int) (off n : Nat) : ∀ j, j < n → rd (win l off n) j = rd l (off + j) := fun j hj => rd_win l off n j hj

theorem does_sliceSlv (hT : TabOK P T) (h : RelAt P T w0 M N ρ s a w) {d : Nat} (hd : d < s.n) {t e : TypeId} {x : Operand} {lo hi : Option Operand} {q : List Int} {l m : Nat} (ht : (T.at t).d = .slice e) (hx : s.ev x = .slv e q)
    (hb : bounds s (cnt (T.at e).size q) lo hi = some (true, l, m)) : Does P T w0 M N (.slice t x lo hi none) a w d (s.put d (.slv e (win q (l * (T.at e).size) ((m - l) * (T.at e).size)))) := by
  intro o ho
  have hv := h.ev x
  rw [hx] at hv
  obtain ⟨hf, ad, n, cap, hu, hlen, hn, hc⟩ := hv.slv_inv
  have hpos := flat_pos hT hf
  rw [cnt_of hlen hpos] at hb
  obtain ⟨_, hlm, hmn⟩ := bounds_run h hb hn true
  refine ⟨.slice (if cap = l then ad else ad.map (·.add (l * (T.at e).size))) (m - l) (cap - l), w, ?_, ρ, h.put hd (.bv _ _ (.slv _ _ _ ⟨hf, _, m - l, cap - l, rfl, ?_, ?_, ?_⟩))⟩
  · simp only [execOp, ho]
    apply run_v
    rw [hu]
    exact slice_run hT h ht (flat_known hT hf) hb hn
  · rw [win_length]
    rw [hlen, ← Nat.add_mul]
    exact Nat.mul_le_mul_right _ (by omega)
  · omega
  · rcases hc with hc | ⟨b, p, hb1, hF, hcell⟩
    · left; omega
    · by_cases e1 : cap = l
      · left; omega
      · right
        refine ⟨b, p + l * (T.at e).size, by rw [if_neg e1, hb1]; simp [addr_add], hF, ?_⟩
        have hle : l * (T.at e).size + (m - l) * (T.at e).size ≤ q.length := by
          rw [hlen, ← Nat.add_mul]
          exact Nat.mul_le_mul_right _ (by omega)
        have hwl := win_length q _ _ hle
        intro j hj
        rw [hwl] at hj
        have := hcell (l * (T.at e).size + j) (by omega)
        rw [Nat.add_assoc, this, Nat.zero_add, Nat.zero_add, rd_win _ _ _ _ hj]
        have hku := flat_len hT hf
        rw [← hku, kindAt_add]

theorem does_sliceSlw (hT : TabOK P T) (h : RelAt P T w0 M N ρ s a w) {d : Nat} (hd : d < s.n) {t e : TypeId} {x : Operand} {lo hi : Option Operand} {k n l m : Nat} {e0 : TypeId} {r : Bool} {q : List Int} (ht : (T.at t).d = .slice e) (hx : s.ev x = .slw k e)
    (hn : lenV T s (.slw k e) = some n) (hbk : s.blk k = some ⟨e0, r, .ints q⟩) (hfl : isFlatTy T e = true) (hb : bounds s n lo hi = some (true, l, m)) :
    Does P T w0 M N (.slice t x lo hi none) a w d (s.put d (.sl k (l * (T.at e).size) (m - l) e)) := by
  intro o ho
  have hv := h.ev x
  rw [hx] at hv
  have hku := flat_len hT hfl
  obtain ⟨ad, cap, hu⟩ := lenV_sound hT h hv hn
  rw [hu] at hv
  have main : e0 = e → r = false → q.length = n * (T.at e).size → n ≤ cap → cap ≤ maxLen → (cap = 0 ∨ ∃ b base lim, ρ k = some (b, base, lim) ∧ ad = some ⟨b, base, none⟩ ∧ base + cap * (T.at e).size ≤ lim) →
      ∃ u w', (execOp a.eval o).run P w = .ok (.value u) w' ∧ Rel P T w0 M N (s.put d (.sl k (l * (T.at e).size) (m - l) e)) (a.put (some d) u) w' := by
    rintro rfl rfl hlen hncap hmax hloc
    obtain ⟨_, hlm, hmn⟩ := bounds_run h hb hncap true
    refine ⟨_, w, ?_, ρ, h.put hd (.sl k _ (m - l) e0 e0 false q (if cap = l then ad else ad.map (·.add (l * (T.at e0).size))) (cap - l) hbk hfl hfl ?_ ?_ (by simp) ?_ ?_ ?_)⟩
    · simp only [execOp, ho]
      apply run_v
      rw [hu]
      exact slice_run hT h ht (flat_known hT hfl) hb hncap
    · rw [hlen, ← Nat.add_mul]
      exact Nat.mul_le_mul_right _ (by omega)
    · intro j _
      rw [← hku]
      exact kindAt_add _ _
    · omega
    · omega
    · rcases hloc with hloc | ⟨b, base, lim, g1, g2, g3⟩
      · left; omega
      · by_cases e1 : cap = l
        · left; omega
        · right
          refine ⟨b, base, lim, g1, by rw [if_neg e1, g2]; simp [addr_add], ?_⟩
          rw [Nat.add_assoc, ← Nat.add_mul, show l + (cap - l) = cap by omega]
          exact g3
  cases hv with
  | bv _ _ h => cases h with
    | flat _ _ h => exact h.elim
  | slw k e bk b base lim n cap h1 h2 h3 h4 h5 h6 h7 h8 =>
    rw [hbk] at h1
    injection h1 with h1
    subst h1
    exact main h2 h3 h5 h6 h7 (.inr ⟨b, base, lim, h4, rfl, h8⟩)
  | slwNil k e bk ad h1 h2 h3 h4 h5 =>
    rw [hbk] at h1
    injection h1 with h1
    subst h1
    exact main h2 h3 (by simpa [D.len] using h5) (Nat.le_refl _) (Nat.zero_le _) (.inl rfl)

theorem does_sliceSl (hT : TabOK P T) (h : RelAt P T w0 M N ρ s a w) {d : Nat} (hd : d < s.n) {t e : TypeId} {x : Operand} {lo hi : Option Operand} {k off n l m : Nat} (ht : (T.at t).d = .slice e) (hx : s.ev x = .sl k off n e)
    (hb : bounds s n lo hi = some (true, l, m)) : Does P T w0 M N (.slice t x lo hi none) a w d (s.put d (.sl k (off + l * (T.at e).size) (m - l) e)) := by
  intro o ho
  have hv := h.ev x
  rw [hx] at hv
  generalize hu : a.eval x = u at hv
  cases hv with
  | bv _ _ h => cases h with
    | flat _ _ h => exact h.elim
  | sl k off n e e0 r q ad cap h1 h2 h3 h4 h5 h5r h6 h7 h8 =>
    have hku := flat_len hT h3
    obtain ⟨_, hlm, hmn⟩ := bounds_run h hb h6 true
    refine ⟨_, w, ?_, ρ, h.put hd (.sl k _ (m - l) e e0 r q (if cap = l then ad else ad.map (·.add (l * (T.at e).size))) (cap - l) h1 h2 h3 ?_ ?_ h5r ?_ ?_ ?_)⟩
    · simp only [execOp, ho]
      apply run_v
      rw [hu]
      exact slice_run hT h ht (flat_known hT h3) hb h6
    · have : l * (T.at e).size + (m - l) * (T.at e).size ≤ n * (T.at e).size := by
        rw [← Nat.add_mul]; exact Nat.mul_le_mul_right _ (by omega)
      omega
    · intro j hj
      have : l * (T.at e).size + (m - l) * (T.at e).size ≤ n * (T.at e).size := by
        rw [← Nat.add_mul]; exact Nat.mul_le_mul_right _ (by omega)
      rw [Nat.add_assoc, h5 _ (by omega), ← hku]
      exact kindAt_add _ _
    · omega
    · omega
    · rcases h8 with h8 | ⟨b, base, lim, g1, g2, g3⟩
      · left; omega
      · by_cases e1 : cap = l
        · left; omega
        · right
          refine ⟨b, base, lim, g1, by rw [if_neg e1, g2]; simp [addr_add, Nat.add_assoc], ?_⟩
          have : l * (T.at e).size + (cap - l) * (T.at e).size = cap * (T.at e).size := by rw [← Nat.add_mul, show l + (cap - l) = cap by omega]
          omega

theorem does_slicePtr (hT : TabOK P T) (h : RelAt P T w0 M N ρ s a w) {d : Nat} (hd : d < s.n) {t e : TypeId} {x : Operand} {lo hi : Option Operand} {k off n l m : Nat} (ht : (T.at t).d = .arr n e) (hft : isFlatTy T t = true) (hx : s.ev x = .ptr k off t)
    (hint : ∃ e0 r q, s.blk k = some ⟨e0, r, .ints q⟩) (hmax : n ≤ maxLen)
    (hb : bounds s n lo hi = some (true, l, m)) : Does P T w0 M N (.slice t x lo hi none) a w d (s.put d (.sl k (off + l * (T.at e).size) (m - l) e)) := by
  intro o ho
  have hv := h.ev x
  rw [hx] at hv
  obtain ⟨bk, b, base, lim, h1, h2, h3, hu⟩ := hv.ptr_inv
  obtain ⟨e0, r, q, hbk⟩ := hint
  rw [hbk] at h1
  injection h1 with h1
  subst h1
  simp only [TyAt] at h3
  obtain ⟨g1, g2, g3, g4, g5⟩ := h3
  have hde := (hT t).desc
  rw [ht] at hde
  have hks := ((hT t).flat hft).2
  rw [ht] at hks
  obtain ⟨q1, q2, q3⟩ := hks
  have hku := flat_len hT q1
  have hkt := flat_len hT hft
  obtain ⟨hr, hlm, hmn⟩ := bounds_run h hb (Nat.le_refl n) false
  have hO := h.ob k _ hbk
  rw [h2] at hO
  obtain ⟨arr, o1, o2, o3⟩ := hO
  have hlim : base + q.length ≤ lim := by
    rcases Nat.eq_zero_or_pos q.length with hz | hp
    · have := flat_pos hT hft; omega
    · have := o3.2 (q.length - 1) (by omega)
      have h9 : base + (q.length - 1) < arr.size := by
        rcases Nat.lt_or_ge (base + (q.length - 1)) arr.size with hh | hh
        · exact hh
        · rw [Array.getElem?_eq_none hh] at this; cases this
      omega
  refine ⟨.slice (some (if n = l then ⟨b, base + off, none⟩ else (⟨b, base + off, none⟩ : Addr).add (l * (T.at e).size))) (m - l) (n - l), w, ?_, ρ, h.put hd (.sl k _ (m - l) e e0 r q _ (n - l) hbk g2 q1 ?_ ?_ g5 ?_ ?_ ?_)⟩
  · simp only [execOp, ho]
    apply run_v
    rw [hu]
    unfold Instr.sliceAt
    rw [Sem.run_bind, run_underlying hde, Result.andThen_ok]
    simp only []
    rw [Sem.run_bind]
    show Result.andThen (Result.ok _ w) _ = _
    rw [Result.andThen_ok]
    simp only [Option.map_none]
    rw [Sem.run_bind, hr, Result.andThen_ok]
    simp only []
    rw [Sem.run_bind, TabOK.size hT (flat_ne hT q1)]
    rfl
  · have : l * (T.at e).size + (m - l) * (T.at e).size ≤ n * (T.at e).size := by
      rw [← Nat.add_mul]; exact Nat.mul_le_mul_right _ (by omega)
    omega
  · intro j hj
    have hle : l * (T.at e).size + (m - l) * (T.at e).size ≤ n * (T.at e).size := by
      rw [← Nat.add_mul]; exact Nat.mul_le_mul_right _ (by omega)
    have hlt : l * (T.at e).size + j < n * (T.at e).size := by omega
    rw [Nat.add_assoc, g4 _ (by omega)]
    have hp := flat_pos hT q1
    have hi : (l * (T.at e).size + j) / (T.at e).size < n := (Nat.div_lt_iff_lt_mul hp).2 hlt
    have hx := q3 _ ((l * (T.at e).size + j) % (T.at e).size) hi (Nat.mod_lt _ hp)
    have hsplit : (l * (T.at e).size + j) / (T.at e).size * (T.at e).size + (l * (T.at e).size + j) % (T.at e).size = l * (T.at e).size + j := Nat.div_add_mod' _ _
    rw [hsplit] at hx
    rw [kindAt_lt (by omega), getD_of_getElem? hx]
    unfold kindAt
    rw [hku, Nat.add_comm (l * (T.at e).size) j, Nat.add_mul_mod_self_right]
  · omega
  · omega
  · by_cases e1 : n = l
    · left; omega
    · right
      refine ⟨b, base, lim, h2, by rw [if_neg e1]; simp [addr_add, Nat.add_assoc], ?_⟩
      have : l * (T.at e).size + (n - l) * (T.at e).size = n * (T.at e).size := by rw [← Nat.add_mul, show l + (n - l) = n by omega]
      omega
end Go.Ev
end

