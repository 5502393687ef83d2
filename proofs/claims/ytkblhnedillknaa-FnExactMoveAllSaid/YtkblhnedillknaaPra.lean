/- The code is what the functions in plain Lean say. -/
import Derived.Test.YtkblhnedillknaaTab
import Derived.Test.YtkblhnedillknaaSh
import Derived.Test.YtkblhnedillknaaExt
import Derived.Test.YtkblhnedillknaaE6
set_option linter.unusedVariables false
set_option linter.unusedSimpArgs false
set_option linter.unusedVariables false
namespace Go.Proofs.Ytkblhnedillknaa.Tt
open Go.Ev Go
set_option maxRecDepth 100000


def mvs : List Nat := [131, 29, 36, 100, 2000100, 110, 1000110, 3000110]

def dec_illl (ps : List Pay) : Option (Int × (List Int) × (List Int) × (List Int)) := match ps with
  | [.i x1, .l x2, .l x3, .l x4] => some (x1, x2, x3, x4)
  | _ => none
def enc_illl (p : Int × (List Int) × (List Int) × (List Int)) : List Pay := [.i p.1, .l p.2.1, .l p.2.2.1, .l p.2.2.2]
theorem dec_enc_illl : ∀ (ps : List Pay) (p : Int × (List Int) × (List Int) × (List Int)), dec_illl ps = some p → ps = enc_illl p := by
  intro ps p h
  unfold dec_illl at h
  split at h
  · injection h with h
    subst h
    rfl
  · cases h

def dec_l (ps : List Pay) : Option ((List Int)) := match ps with
  | [.l x1] => some x1
  | _ => none
def enc_l (p : (List Int)) : List Pay := [.l p]
theorem dec_enc_l : ∀ (ps : List Pay) (p : (List Int)), dec_l ps = some p → ps = enc_l p := by
  intro ps p h
  unfold dec_l at h
  split at h
  · injection h with h
    subst h
    rfl
  · cases h

def laws_toByteA10_t0 : StTm := ⟨15, [(1, .ptr 1 0 23), (2, .ptr 2 0 23), (3, .ptr 3 0 23), (4, .int .i64)], [(1, 23, true, .ints), (2, 23, true, .ints), (3, 23, true, .ints)]⟩
def laws_toByteA10_t0_1 : StTm := ⟨15, [(2, .ptr 2 0 23), (3, .ptr 3 0 23)], [(2, 23, true, .ints), (3, 23, true, .ints)]⟩
def laws_toByteA10_w0 (k : Nat) (R : Type) (K : Ex → St → Option R) (rec : Int × (List Int) × (List Int) × (List Int) → Option R) (p : Int × (List Int) × (List Int) × (List Int)) : Option R := laws_toByteA10_s0 k (fun y1 y2 => K (.exit 0) (fSt laws_toByteA10_t0_1 [.l y1, .l y2])) (fun h1 h2 h3 h4 => rec (h1, h2, h3, h4)) p.1 p.2.1 p.2.2.1 p.2.2.2
def laws_toByteA10_c0 (k : Nat) : Lcall := lcallOf tab laws_toByteA10_t0 dec_illl [1, 2, 3, 4] k (laws_toByteA10_w0 k)
def laws_toByteA10_C (k : Nat) : Cfg := ⟨tab, mvs, oraOf [], loOf [(0, laws_toByteA10_c0 k)]⟩
theorem laws_toByteA10_es (k : Nat) : ∀ e ∈ ([] : List Ent), EntOK Try.prog tab mvs e := by
  intro e he
  simp at he
theorem laws_toByteA10_step0 (k : Nat) (R : Type) (K : Ex → St → Option R) (g : St → Option R) (p : Int × (List Int) × (List Int) × (List Int)) : evCode (laws_toByteA10_C k) (loopP [0] (0, codeOf Try.f124)).2 (loopP [0] (0, codeOf Try.f124)).1 (fSt laws_toByteA10_t0 (enc_illl p)) (loopK tab [1, 2, 3, 4] [2, 3] [2] g K) = laws_toByteA10_w0 k R K (fun p => g (fSt laws_toByteA10_t0 (enc_illl p))) p := by
  kernel_rfl
theorem laws_toByteA10_lok0 (k : Nat) : LoopOK Try.prog tab (laws_toByteA10_C k).lo (loopP [0] (0, codeOf Try.f124)).1 (loopP [0] (0, codeOf Try.f124)).2 :=
  loopOK_of (C := laws_toByteA10_C k) tabOK eqTabOK (oraOf_ok (laws_toByteA10_es k)) (oraOf_nat (laws_toByteA10_es k)) follows (forall_getD _ 0 (0, Code.skip) (by kernel_rfl) fun i hi => by
      omega)
    (tm := laws_toByteA10_t0) (dec := dec_illl) (enc := enc_illl) (ksIn := [1, 2, 3, 4]) (ksOut := [2, 3]) (ksRet := [2]) (k := k) (step := laws_toByteA10_w0 k) dec_enc_illl (fun p => by kernel_rfl) (fun s R K => by kernel_rfl) (laws_toByteA10_step0 k)
def laws_toByteA10_e (k : Nat) : Ent := (124, callOf [.agg 23] dec_l fun (p : (List Int)) R K => (laws_toByteA10 k p).bind fun (b : (List Int)) => K ((fV (.agg 23) (enc_l b)).1, none))
theorem laws_toByteA10_run (k : Nat) (p : (List Int)) : runF (laws_toByteA10_C k) Try.f124 false (fL [.agg 23] (enc_l p)).1 (resK (.agg 23) dec_l) = laws_toByteA10 k p := by
  kernel_rfl
theorem laws_toByteA10_ok (k : Nat) : EntOK Try.prog tab mvs (laws_toByteA10_e k) :=
  fn_ok (C := laws_toByteA10_C k) tabOK eqTabOK (laws_toByteA10_es k) rfl follows Try.func124 (by kernel_rfl) (by kernel_rfl) rfl (forall_getD _ 1 (0, Code.skip) (by kernel_rfl) fun i hi => by
      match i, hi with
      | 0, _ => exact laws_toByteA10_lok0 k
      | n + 1, h => omega)
    dec_enc_l dec_enc_l (laws_toByteA10_run k)

def laws_toByteA10A10_t0 : StTm := ⟨16, [(1, .ptr 1 0 24), (2, .ptr 2 0 24), (3, .ptr 3 0 24), (4, .int .i64)], [(1, 24, true, .ints), (2, 24, true, .ints), (3, 24, true, .ints)]⟩
def laws_toByteA10A10_t0_1 : StTm := ⟨16, [(2, .ptr 2 0 24), (3, .ptr 3 0 24)], [(2, 24, true, .ints), (3, 24, true, .ints)]⟩
def laws_toByteA10A10_w0 (k : Nat) (R : Type) (K : Ex → St → Option R) (rec : Int × (List Int) × (List Int) × (List Int) → Option R) (p : Int × (List Int) × (List Int) × (List Int)) : Option R := laws_toByteA10A10_s0 k (fun y1 y2 => K (.exit 0) (fSt laws_toByteA10A10_t0_1 [.l y1, .l y2])) (fun h1 h2 h3 h4 => rec (h1, h2, h3, h4)) p.1 p.2.1 p.2.2.1 p.2.2.2
def laws_toByteA10A10_c0 (k : Nat) : Lcall := lcallOf tab laws_toByteA10A10_t0 dec_illl [1, 2, 3, 4] k (laws_toByteA10A10_w0 k)
def laws_toByteA10A10_C (k : Nat) : Cfg := ⟨tab, mvs, oraOf [laws_toByteA10_e k], loOf [(0, laws_toByteA10A10_c0 k)]⟩
theorem laws_toByteA10A10_es (k : Nat) : ∀ e ∈ ([laws_toByteA10_e k] : List Ent), EntOK Try.prog tab mvs e := by
  intro e he
  simp only [List.mem_cons, List.not_mem_nil, or_false] at he
  rcases he with rfl
  · exact laws_toByteA10_ok k
theorem laws_toByteA10A10_step0 (k : Nat) (R : Type) (K : Ex → St → Option R) (g : St → Option R) (p : Int × (List Int) × (List Int) × (List Int)) : evCode (laws_toByteA10A10_C k) (loopP [0] (0, codeOf Try.f60)).2 (loopP [0] (0, codeOf Try.f60)).1 (fSt laws_toByteA10A10_t0 (enc_illl p)) (loopK tab [1, 2, 3, 4] [2, 3] [2] g K) = laws_toByteA10A10_w0 k R K (fun p => g (fSt laws_toByteA10A10_t0 (enc_illl p))) p := by
  kernel_rfl
theorem laws_toByteA10A10_lok0 (k : Nat) : LoopOK Try.prog tab (laws_toByteA10A10_C k).lo (loopP [0] (0, codeOf Try.f60)).1 (loopP [0] (0, codeOf Try.f60)).2 :=
  loopOK_of (C := laws_toByteA10A10_C k) tabOK eqTabOK (oraOf_ok (laws_toByteA10A10_es k)) (oraOf_nat (laws_toByteA10A10_es k)) follows (forall_getD _ 0 (0, Code.skip) (by kernel_rfl) fun i hi => by
      omega)
    (tm := laws_toByteA10A10_t0) (dec := dec_illl) (enc := enc_illl) (ksIn := [1, 2, 3, 4]) (ksOut := [2, 3]) (ksRet := [2]) (k := k) (step := laws_toByteA10A10_w0 k) dec_enc_illl (fun p => by kernel_rfl) (fun s R K => by kernel_rfl) (laws_toByteA10A10_step0 k)
def laws_toByteA10A10_e (k : Nat) : Ent := (60, callOf [.agg 24] dec_l fun (p : (List Int)) R K => (laws_toByteA10A10 k p).bind fun (b : (List Int)) => K ((fV (.agg 24) (enc_l b)).1, none))
theorem laws_toByteA10A10_run (k : Nat) (p : (List Int)) : runF (laws_toByteA10A10_C k) Try.f60 false (fL [.agg 24] (enc_l p)).1 (resK (.agg 24) dec_l) = laws_toByteA10A10 k p := by
  kernel_rfl
theorem laws_toByteA10A10_ok (k : Nat) : EntOK Try.prog tab mvs (laws_toByteA10A10_e k) :=
  fn_ok (C := laws_toByteA10A10_C k) tabOK eqTabOK (laws_toByteA10A10_es k) rfl follows Try.func60 (by kernel_rfl) (by kernel_rfl) rfl (forall_getD _ 1 (0, Code.skip) (by kernel_rfl) fun i hi => by
      match i, hi with
      | 0, _ => exact laws_toByteA10A10_lok0 k
      | n + 1, h => omega)
    dec_enc_l dec_enc_l (laws_toByteA10A10_run k)

def laws_toLawn_C (k : Nat) : Cfg := ⟨tab, mvs, oraOf [laws_toByteA10A10_e k], loOf []⟩
theorem laws_toLawn_es (k : Nat) : ∀ e ∈ ([laws_toByteA10A10_e k] : List Ent), EntOK Try.prog tab mvs e := by
  intro e he
  simp only [List.mem_cons, List.not_mem_nil, or_false] at he
  rcases he with rfl
  · exact laws_toByteA10A10_ok k
def laws_toLawn_e (k : Nat) : Ent := (16, callOf [.agg 26] dec_l fun (p : (List Int)) R K => (laws_toLawn k p).bind fun (b : (List Int)) => K ((fV (.agg 32) (enc_l b)).1, none))
theorem laws_toLawn_run (k : Nat) (p : (List Int)) : runF (laws_toLawn_C k) Try.f16 false (fL [.agg 26] (enc_l p)).1 (resK (.agg 32) dec_l) = laws_toLawn k p := by
  kernel_rfl
theorem laws_toLawn_ok (k : Nat) : EntOK Try.prog tab mvs (laws_toLawn_e k) :=
  fn_ok (C := laws_toLawn_C k) tabOK eqTabOK (laws_toLawn_es k) rfl follows Try.func16 (by kernel_rfl) (by kernel_rfl) rfl (forall_getD _ 0 (0, Code.skip) (by kernel_rfl) fun i hi => by
      omega)
    dec_enc_l dec_enc_l (laws_toLawn_run k)

def laws_toInt8A10_t0 : StTm := ⟨15, [(1, .ptr 1 0 37), (2, .ptr 2 0 37), (3, .ptr 3 0 37), (4, .int .i64)], [(1, 37, true, .ints), (2, 37, true, .ints), (3, 37, true, .ints)]⟩
def laws_toInt8A10_t0_1 : StTm := ⟨15, [(2, .ptr 2 0 37), (3, .ptr 3 0 37)], [(2, 37, true, .ints), (3, 37, true, .ints)]⟩
def laws_toInt8A10_w0 (k : Nat) (R : Type) (K : Ex → St → Option R) (rec : Int × (List Int) × (List Int) × (List Int) → Option R) (p : Int × (List Int) × (List Int) × (List Int)) : Option R := laws_toInt8A10_s0 k (fun y1 y2 => K (.exit 0) (fSt laws_toInt8A10_t0_1 [.l y1, .l y2])) (fun h1 h2 h3 h4 => rec (h1, h2, h3, h4)) p.1 p.2.1 p.2.2.1 p.2.2.2
def laws_toInt8A10_c0 (k : Nat) : Lcall := lcallOf tab laws_toInt8A10_t0 dec_illl [1, 2, 3, 4] k (laws_toInt8A10_w0 k)
def laws_toInt8A10_C (k : Nat) : Cfg := ⟨tab, mvs, oraOf [], loOf [(0, laws_toInt8A10_c0 k)]⟩
theorem laws_toInt8A10_es (k : Nat) : ∀ e ∈ ([] : List Ent), EntOK Try.prog tab mvs e := by
  intro e he
  simp at he
theorem laws_toInt8A10_step0 (k : Nat) (R : Type) (K : Ex → St → Option R) (g : St → Option R) (p : Int × (List Int) × (List Int) × (List Int)) : evCode (laws_toInt8A10_C k) (loopP [0] (0, codeOf Try.f67)).2 (loopP [0] (0, codeOf Try.f67)).1 (fSt laws_toInt8A10_t0 (enc_illl p)) (loopK tab [1, 2, 3, 4] [2, 3] [2] g K) = laws_toInt8A10_w0 k R K (fun p => g (fSt laws_toInt8A10_t0 (enc_illl p))) p := by
  kernel_rfl
theorem laws_toInt8A10_lok0 (k : Nat) : LoopOK Try.prog tab (laws_toInt8A10_C k).lo (loopP [0] (0, codeOf Try.f67)).1 (loopP [0] (0, codeOf Try.f67)).2 :=
  loopOK_of (C := laws_toInt8A10_C k) tabOK eqTabOK (oraOf_ok (laws_toInt8A10_es k)) (oraOf_nat (laws_toInt8A10_es k)) follows (forall_getD _ 0 (0, Code.skip) (by kernel_rfl) fun i hi => by
      omega)
    (tm := laws_toInt8A10_t0) (dec := dec_illl) (enc := enc_illl) (ksIn := [1, 2, 3, 4]) (ksOut := [2, 3]) (ksRet := [2]) (k := k) (step := laws_toInt8A10_w0 k) dec_enc_illl (fun p => by kernel_rfl) (fun s R K => by kernel_rfl) (laws_toInt8A10_step0 k)
def laws_toInt8A10_e (k : Nat) : Ent := (67, callOf [.agg 37] dec_l fun (p : (List Int)) R K => (laws_toInt8A10 k p).bind fun (b : (List Int)) => K ((fV (.agg 37) (enc_l b)).1, none))
theorem laws_toInt8A10_run (k : Nat) (p : (List Int)) : runF (laws_toInt8A10_C k) Try.f67 false (fL [.agg 37] (enc_l p)).1 (resK (.agg 37) dec_l) = laws_toInt8A10 k p := by
  kernel_rfl
theorem laws_toInt8A10_ok (k : Nat) : EntOK Try.prog tab mvs (laws_toInt8A10_e k) :=
  fn_ok (C := laws_toInt8A10_C k) tabOK eqTabOK (laws_toInt8A10_es k) rfl follows Try.func67 (by kernel_rfl) (by kernel_rfl) rfl (forall_getD _ 1 (0, Code.skip) (by kernel_rfl) fun i hi => by
      match i, hi with
      | 0, _ => exact laws_toInt8A10_lok0 k
      | n + 1, h => omega)
    dec_enc_l dec_enc_l (laws_toInt8A10_run k)

def laws_toLevels_t0 : StTm := ⟨16, [(1, .ptr 1 0 38), (2, .ptr 2 0 41), (3, .ptr 3 0 41), (4, .int .i64)], [(1, 38, true, .ints), (2, 41, true, .ints), (3, 41, true, .ints)]⟩
def laws_toLevels_t0_1 : StTm := ⟨16, [(2, .ptr 2 0 41), (3, .ptr 3 0 41)], [(2, 41, true, .ints), (3, 41, true, .ints)]⟩
def laws_toLevels_w0 (k : Nat) (R : Type) (K : Ex → St → Option R) (rec : Int × (List Int) × (List Int) × (List Int) → Option R) (p : Int × (List Int) × (List Int) × (List Int)) : Option R := laws_toLevels_s0 k (fun y1 y2 => K (.exit 0) (fSt laws_toLevels_t0_1 [.l y1, .l y2])) (fun h1 h2 h3 h4 => rec (h1, h2, h3, h4)) p.1 p.2.1 p.2.2.1 p.2.2.2
def laws_toLevels_c0 (k : Nat) : Lcall := lcallOf tab laws_toLevels_t0 dec_illl [1, 2, 3, 4] k (laws_toLevels_w0 k)
def laws_toLevels_C (k : Nat) : Cfg := ⟨tab, mvs, oraOf [laws_toInt8A10_e k], loOf [(0, laws_toLevels_c0 k)]⟩
theorem laws_toLevels_es (k : Nat) : ∀ e ∈ ([laws_toInt8A10_e k] : List Ent), EntOK Try.prog tab mvs e := by
  intro e he
  simp only [List.mem_cons, List.not_mem_nil, or_false] at he
  rcases he with rfl
  · exact laws_toInt8A10_ok k
theorem laws_toLevels_step0 (k : Nat) (R : Type) (K : Ex → St → Option R) (g : St → Option R) (p : Int × (List Int) × (List Int) × (List Int)) : evCode (laws_toLevels_C k) (loopP [0] (0, codeOf Try.f21)).2 (loopP [0] (0, codeOf Try.f21)).1 (fSt laws_toLevels_t0 (enc_illl p)) (loopK tab [1, 2, 3, 4] [2, 3] [2] g K) = laws_toLevels_w0 k R K (fun p => g (fSt laws_toLevels_t0 (enc_illl p))) p := by
  kernel_rfl
theorem laws_toLevels_lok0 (k : Nat) : LoopOK Try.prog tab (laws_toLevels_C k).lo (loopP [0] (0, codeOf Try.f21)).1 (loopP [0] (0, codeOf Try.f21)).2 :=
  loopOK_of (C := laws_toLevels_C k) tabOK eqTabOK (oraOf_ok (laws_toLevels_es k)) (oraOf_nat (laws_toLevels_es k)) follows (forall_getD _ 0 (0, Code.skip) (by kernel_rfl) fun i hi => by
      omega)
    (tm := laws_toLevels_t0) (dec := dec_illl) (enc := enc_illl) (ksIn := [1, 2, 3, 4]) (ksOut := [2, 3]) (ksRet := [2]) (k := k) (step := laws_toLevels_w0 k) dec_enc_illl (fun p => by kernel_rfl) (fun s R K => by kernel_rfl) (laws_toLevels_step0 k)
def laws_toLevels_e (k : Nat) : Ent := (21, callOf [.agg 38] dec_l fun (p : (List Int)) R K => (laws_toLevels k p).bind fun (b : (List Int)) => K ((fV (.agg 41) (enc_l b)).1, none))
theorem laws_toLevels_run (k : Nat) (p : (List Int)) : runF (laws_toLevels_C k) Try.f21 false (fL [.agg 38] (enc_l p)).1 (resK (.agg 41) dec_l) = laws_toLevels k p := by
  kernel_rfl
theorem laws_toLevels_ok (k : Nat) : EntOK Try.prog tab mvs (laws_toLevels_e k) :=
  fn_ok (C := laws_toLevels_C k) tabOK eqTabOK (laws_toLevels_es k) rfl follows Try.func21 (by kernel_rfl) (by kernel_rfl) rfl (forall_getD _ 1 (0, Code.skip) (by kernel_rfl) fun i hi => by
      match i, hi with
      | 0, _ => exact laws_toLevels_lok0 k
      | n + 1, h => omega)
    dec_enc_l dec_enc_l (laws_toLevels_run k)

def dec_iii (ps : List Pay) : Option (Int × Int × Int) := match ps with
  | [.i x1, .i x2, .i x3] => some (x1, x2, x3)
  | _ => none
def enc_iii (p : Int × Int × Int) : List Pay := [.i p.1, .i p.2.1, .i p.2.2]
theorem dec_enc_iii : ∀ (ps : List Pay) (p : Int × Int × Int), dec_iii ps = some p → ps = enc_iii p := by
  intro ps p h
  unfold dec_iii at h
  split at h
  · injection h with h
    subst h
    rfl
  · cases h

def dec_b (ps : List Pay) : Option (Bool) := match ps with
  | [.b x1] => some x1
  | _ => none
def enc_b (p : Bool) : List Pay := [.b p]
theorem dec_enc_b : ∀ (ps : List Pay) (p : Bool), dec_b ps = some p → ps = enc_b p := by
  intro ps p h
  unfold dec_b at h
  split at h
  · injection h with h
    subst h
    rfl
  · cases h

def spec_l00In_C (k : Nat) : Cfg := ⟨tab, mvs, oraOf [], loOf []⟩
theorem spec_l00In_es (k : Nat) : ∀ e ∈ ([] : List Ent), EntOK Try.prog tab mvs e := by
  intro e he
  simp at he
def spec_l00In_e (k : Nat) : Ent := (63, callOf [.int .i64, .int .i64, .int .i64] dec_iii fun (p : Int × Int × Int) R K => (spec_l00In k p.1 p.2.1 p.2.2).bind fun (b : Bool) => K ((fV (.bool) (enc_b b)).1, none))
theorem spec_l00In_run (k : Nat) (p : Int × Int × Int) : runF (spec_l00In_C k) Try.f63 false (fL [.int .i64, .int .i64, .int .i64] (enc_iii p)).1 (resK (.bool) dec_b) = spec_l00In k p.1 p.2.1 p.2.2 := by
  kernel_rfl
theorem spec_l00In_ok (k : Nat) : EntOK Try.prog tab mvs (spec_l00In_e k) :=
  fn_ok (C := spec_l00In_C k) tabOK eqTabOK (spec_l00In_es k) rfl follows Try.func63 (by kernel_rfl) (by kernel_rfl) rfl (forall_getD _ 0 (0, Code.skip) (by kernel_rfl) fun i hi => by
      omega)
    dec_enc_iii dec_enc_b (spec_l00In_run k)

def dec_i (ps : List Pay) : Option (Int) := match ps with
  | [.i x1] => some x1
  | _ => none
def enc_i (p : Int) : List Pay := [.i p]
theorem dec_enc_i : ∀ (ps : List Pay) (p : Int), dec_i ps = some p → ps = enc_i p := by
  intro ps p h
  unfold dec_i at h
  split at h
  · injection h with h
    subst h
    rfl
  · cases h

def spec_l01Side_C (k : Nat) : Cfg := ⟨tab, mvs, oraOf [spec_l00In_e k], loOf []⟩
theorem spec_l01Side_es (k : Nat) : ∀ e ∈ ([spec_l00In_e k] : List Ent), EntOK Try.prog tab mvs e := by
  intro e he
  simp only [List.mem_cons, List.not_mem_nil, or_false] at he
  rcases he with rfl
  · exact spec_l00In_ok k
def spec_l01Side_e (k : Nat) : Ent := (135, callOf [.int .i64] dec_i fun (p : Int) R K => (spec_l01Side k p).bind fun (b : Bool) => K ((fV (.bool) (enc_b b)).1, none))
theorem spec_l01Side_run (k : Nat) (p : Int) : runF (spec_l01Side_C k) Try.f135 false (fL [.int .i64] (enc_i p)).1 (resK (.bool) dec_b) = spec_l01Side k p := by
  kernel_rfl
theorem spec_l01Side_ok (k : Nat) : EntOK Try.prog tab mvs (spec_l01Side_e k) :=
  fn_ok (C := spec_l01Side_C k) tabOK eqTabOK (spec_l01Side_es k) rfl follows Try.func135 (by kernel_rfl) (by kernel_rfl) rfl (forall_getD _ 0 (0, Code.skip) (by kernel_rfl) fun i hi => by
      omega)
    dec_enc_i dec_enc_b (spec_l01Side_run k)

def spec_l01Kind_C (k : Nat) : Cfg := ⟨tab, mvs, oraOf [spec_l00In_e k], loOf []⟩
theorem spec_l01Kind_es (k : Nat) : ∀ e ∈ ([spec_l00In_e k] : List Ent), EntOK Try.prog tab mvs e := by
  intro e he
  simp only [List.mem_cons, List.not_mem_nil, or_false] at he
  rcases he with rfl
  · exact spec_l00In_ok k
def spec_l01Kind_e (k : Nat) : Ent := (136, callOf [.int .i64] dec_i fun (p : Int) R K => (spec_l01Kind k p).bind fun (b : Bool) => K ((fV (.bool) (enc_b b)).1, none))
theorem spec_l01Kind_run (k : Nat) (p : Int) : runF (spec_l01Kind_C k) Try.f136 false (fL [.int .i64] (enc_i p)).1 (resK (.bool) dec_b) = spec_l01Kind k p := by
  kernel_rfl
theorem spec_l01Kind_ok (k : Nat) : EntOK Try.prog tab mvs (spec_l01Kind_e k) :=
  fn_ok (C := spec_l01Kind_C k) tabOK eqTabOK (spec_l01Kind_es k) rfl follows Try.func136 (by kernel_rfl) (by kernel_rfl) rfl (forall_getD _ 0 (0, Code.skip) (by kernel_rfl) fun i hi => by
      omega)
    dec_enc_i dec_enc_b (spec_l01Kind_run k)

def dec_ll (ps : List Pay) : Option ((List Int) × (List Int)) := match ps with
  | [.l x1, .l x2] => some (x1, x2)
  | _ => none
def enc_ll (p : (List Int) × (List Int)) : List Pay := [.l p.1, .l p.2]
theorem dec_enc_ll : ∀ (ps : List Pay) (p : (List Int) × (List Int)), dec_ll ps = some p → ps = enc_ll p := by
  intro ps p h
  unfold dec_ll at h
  split at h
  · injection h with h
    subst h
    rfl
  · cases h

def spec_l01Is_C (k : Nat) : Cfg := ⟨tab, mvs, oraOf [spec_l00In_e k], loOf []⟩
theorem spec_l01Is_es (k : Nat) : ∀ e ∈ ([spec_l00In_e k] : List Ent), EntOK Try.prog tab mvs e := by
  intro e he
  simp only [List.mem_cons, List.not_mem_nil, or_false] at he
  rcases he with rfl
  · exact spec_l00In_ok k
def spec_l01Is_e (k : Nat) : Ent := (92, callOf [.pvi (some 32) 0 32, .agg 29] dec_ll fun (p : (List Int) × (List Int)) R K => (spec_l01Is k p.1 p.2).bind fun (b : Bool) => K ((fV (.bool) (enc_b b)).1, none))
theorem spec_l01Is_run (k : Nat) (p : (List Int) × (List Int)) : runF (spec_l01Is_C k) Try.f92 false (fL [.pvi (some 32) 0 32, .agg 29] (enc_ll p)).1 (resK (.bool) dec_b) = spec_l01Is k p.1 p.2 := by
  kernel_rfl
theorem spec_l01Is_ok (k : Nat) : EntOK Try.prog tab mvs (spec_l01Is_e k) :=
  fn_ok (C := spec_l01Is_C k) tabOK eqTabOK (spec_l01Is_es k) rfl follows Try.func92 (by kernel_rfl) (by kernel_rfl) rfl (forall_getD _ 0 (0, Code.skip) (by kernel_rfl) fun i hi => by
      omega)
    dec_enc_ll dec_enc_b (spec_l01Is_run k)

def dec_lii (ps : List Pay) : Option ((List Int) × Int × Int) := match ps with
  | [.l x1, .i x2, .i x3] => some (x1, x2, x3)
  | _ => none
def enc_lii (p : (List Int) × Int × Int) : List Pay := [.l p.1, .i p.2.1, .i p.2.2]
theorem dec_enc_lii : ∀ (ps : List Pay) (p : (List Int) × Int × Int), dec_lii ps = some p → ps = enc_lii p := by
  intro ps p h
  unfold dec_lii at h
  split at h
  · injection h with h
    subst h
    rfl
  · cases h

def dec_li (ps : List Pay) : Option ((List Int) × Int) := match ps with
  | [.l x1, .i x2] => some (x1, x2)
  | _ => none
def enc_li (p : (List Int) × Int) : List Pay := [.l p.1, .i p.2]
theorem dec_enc_li : ∀ (ps : List Pay) (p : (List Int) × Int), dec_li ps = some p → ps = enc_li p := by
  intro ps p h
  unfold dec_li at h
  split at h
  · injection h with h
    subst h
    rfl
  · cases h

def spec_l01Ok_t0 : StTm := ⟨54, [(0, .pvi (some 32) 0 32), (3, .int .i8), (4, .int .i8)], []⟩
def spec_l01Ok_t0_1 : StTm := ⟨54, [(2, .bool)], []⟩
def spec_l01Ok_t0_2 : StTm := ⟨54, [(0, .pvi (some 32) 0 32), (3, .int .i8)], []⟩
def spec_l01Ok_w0 (k : Nat) (R : Type) (K : Ex → St → Option R) (rec : (List Int) × Int × Int → Option R) (p : (List Int) × Int × Int) : Option R := spec_l01Ok_s0 k (fun y1 => K .ret (fSt spec_l01Ok_t0_1 [.b y1])) (fun y1 y2 => K (.exit 2) (fSt spec_l01Ok_t0_2 [.l y1, .i y2])) (fun h1 h2 h3 => rec (h1, h2, h3)) p.1 p.2.1 p.2.2
def spec_l01Ok_c0 (k : Nat) : Lcall := lcallOf tab spec_l01Ok_t0 dec_lii [0, 3, 4] k (spec_l01Ok_w0 k)
def spec_l01Ok_t1 : StTm := ⟨54, [(0, .pvi (some 32) 0 32), (3, .int .i8)], []⟩
def spec_l01Ok_t1_1 : StTm := ⟨54, [(2, .bool)], []⟩
def spec_l01Ok_t1_2 : StTm := ⟨54, [], []⟩
def spec_l01Ok_w1 (k : Nat) (R : Type) (K : Ex → St → Option R) (rec : (List Int) × Int → Option R) (p : (List Int) × Int) : Option R := spec_l01Ok_s1 k (fun y1 => K .ret (fSt spec_l01Ok_t1_1 [.b y1])) (K (.exit 0) (fSt spec_l01Ok_t1_2 [])) (fun h1 h2 => rec (h1, h2)) p.1 p.2
def spec_l01Ok_c1 (k : Nat) : Lcall := lcallOf tab spec_l01Ok_t1 dec_li [0, 3] k (spec_l01Ok_w1 k)
def spec_l01Ok_C (k : Nat) : Cfg := ⟨tab, mvs, oraOf [spec_l01Side_e k, spec_l01Kind_e k, spec_l01Is_e k], loOf [(2, spec_l01Ok_c0 k), (0, spec_l01Ok_c1 k)]⟩
theorem spec_l01Ok_es (k : Nat) : ∀ e ∈ ([spec_l01Side_e k, spec_l01Kind_e k, spec_l01Is_e k] : List Ent), EntOK Try.prog tab mvs e := by
  intro e he
  simp only [List.mem_cons, List.not_mem_nil, or_false] at he
  rcases he with rfl | rfl | rfl
  · exact spec_l01Side_ok k
  · exact spec_l01Kind_ok k
  · exact spec_l01Is_ok k
theorem spec_l01Ok_step0 (k : Nat) (R : Type) (K : Ex → St → Option R) (g : St → Option R) (p : (List Int) × Int × Int) : evCode (spec_l01Ok_C k) (loopP [0, 0] (0, codeOf Try.f74)).2 (loopP [0, 0] (0, codeOf Try.f74)).1 (fSt spec_l01Ok_t0 (enc_lii p)) (loopK tab [0, 3, 4] [0, 3] [2] g K) = spec_l01Ok_w0 k R K (fun p => g (fSt spec_l01Ok_t0 (enc_lii p))) p := by
  kernel_rfl
theorem spec_l01Ok_lok0 (k : Nat) : LoopOK Try.prog tab (spec_l01Ok_C k).lo (loopP [0, 0] (0, codeOf Try.f74)).1 (loopP [0, 0] (0, codeOf Try.f74)).2 :=
  loopOK_of (C := spec_l01Ok_C k) tabOK eqTabOK (oraOf_ok (spec_l01Ok_es k)) (oraOf_nat (spec_l01Ok_es k)) follows (forall_getD _ 0 (0, Code.skip) (by kernel_rfl) fun i hi => by
      omega)
    (tm := spec_l01Ok_t0) (dec := dec_lii) (enc := enc_lii) (ksIn := [0, 3, 4]) (ksOut := [0, 3]) (ksRet := [2]) (k := k) (step := spec_l01Ok_w0 k) dec_enc_lii (fun p => by kernel_rfl) (fun s R K => by kernel_rfl) (spec_l01Ok_step0 k)
theorem spec_l01Ok_step1 (k : Nat) (R : Type) (K : Ex → St → Option R) (g : St → Option R) (p : (List Int) × Int) : evCode (spec_l01Ok_C k) (loopP [0] (0, codeOf Try.f74)).2 (loopP [0] (0, codeOf Try.f74)).1 (fSt spec_l01Ok_t1 (enc_li p)) (loopK tab [0, 3] [] [2] g K) = spec_l01Ok_w1 k R K (fun p => g (fSt spec_l01Ok_t1 (enc_li p))) p := by
  kernel_rfl
theorem spec_l01Ok_lok1 (k : Nat) : LoopOK Try.prog tab (spec_l01Ok_C k).lo (loopP [0] (0, codeOf Try.f74)).1 (loopP [0] (0, codeOf Try.f74)).2 :=
  loopOK_of (C := spec_l01Ok_C k) tabOK eqTabOK (oraOf_ok (spec_l01Ok_es k)) (oraOf_nat (spec_l01Ok_es k)) follows (forall_getD _ 1 (0, Code.skip) (by kernel_rfl) fun i hi => by
      match i, hi with
      | 0, _ => exact spec_l01Ok_lok0 k
      | n + 1, h => omega)
    (tm := spec_l01Ok_t1) (dec := dec_li) (enc := enc_li) (ksIn := [0, 3]) (ksOut := []) (ksRet := [2]) (k := k) (step := spec_l01Ok_w1 k) dec_enc_li (fun p => by kernel_rfl) (fun s R K => by kernel_rfl) (spec_l01Ok_step1 k)
def spec_l01Ok_e (k : Nat) : Ent := (74, callOf [.pvi (some 32) 0 32] dec_l fun (p : (List Int)) R K => (spec_l01Ok k p).bind fun (b : Bool) => K ((fV (.bool) (enc_b b)).1, none))
theorem spec_l01Ok_run (k : Nat) (p : (List Int)) : runF (spec_l01Ok_C k) Try.f74 false (fL [.pvi (some 32) 0 32] (enc_l p)).1 (resK (.bool) dec_b) = spec_l01Ok k p := by
  kernel_rfl
theorem spec_l01Ok_ok (k : Nat) : EntOK Try.prog tab mvs (spec_l01Ok_e k) :=
  fn_ok (C := spec_l01Ok_C k) tabOK eqTabOK (spec_l01Ok_es k) rfl follows Try.func74 (by kernel_rfl) (by kernel_rfl) rfl (forall_getD _ 1 (0, Code.skip) (by kernel_rfl) fun i hi => by
      match i, hi with
      | 0, _ => exact spec_l01Ok_lok1 k
      | n + 1, h => omega)
    dec_enc_l dec_enc_b (spec_l01Ok_run k)

def spec_l06Level_C (k : Nat) : Cfg := ⟨tab, mvs, oraOf [spec_l00In_e k], loOf []⟩
theorem spec_l06Level_es (k : Nat) : ∀ e ∈ ([spec_l00In_e k] : List Ent), EntOK Try.prog tab mvs e := by
  intro e he
  simp only [List.mem_cons, List.not_mem_nil, or_false] at he
  rcases he with rfl
  · exact spec_l00In_ok k
def spec_l06Level_e (k : Nat) : Ent := (81, callOf [.int .i64] dec_i fun (p : Int) R K => (spec_l06Level k p).bind fun (b : Bool) => K ((fV (.bool) (enc_b b)).1, none))
theorem spec_l06Level_run (k : Nat) (p : Int) : runF (spec_l06Level_C k) Try.f81 false (fL [.int .i64] (enc_i p)).1 (resK (.bool) dec_b) = spec_l06Level k p := by
  kernel_rfl
theorem spec_l06Level_ok (k : Nat) : EntOK Try.prog tab mvs (spec_l06Level_e k) :=
  fn_ok (C := spec_l06Level_C k) tabOK eqTabOK (spec_l06Level_es k) rfl follows Try.func81 (by kernel_rfl) (by kernel_rfl) rfl (forall_getD _ 0 (0, Code.skip) (by kernel_rfl) fun i hi => by
      omega)
    dec_enc_i dec_enc_b (spec_l06Level_run k)

def spec_l01At_C (k : Nat) : Cfg := ⟨tab, mvs, oraOf [], loOf []⟩
theorem spec_l01At_es (k : Nat) : ∀ e ∈ ([] : List Ent), EntOK Try.prog tab mvs e := by
  intro e he
  simp at he
def spec_l01At_e (k : Nat) : Ent := (128, callOf [.pvi (some 32) 0 32, .agg 29] dec_ll fun (p : (List Int) × (List Int)) R K => (spec_l01At k p.1 p.2).bind fun (b : Int) => K ((fV (.int .i64) (enc_i b)).1, none))
theorem spec_l01At_run (k : Nat) (p : (List Int) × (List Int)) : runF (spec_l01At_C k) Try.f128 false (fL [.pvi (some 32) 0 32, .agg 29] (enc_ll p)).1 (resK (.int .i64) dec_i) = spec_l01At k p.1 p.2 := by
  kernel_rfl
theorem spec_l01At_ok (k : Nat) : EntOK Try.prog tab mvs (spec_l01At_e k) :=
  fn_ok (C := spec_l01At_C k) tabOK eqTabOK (spec_l01At_es k) rfl follows Try.func128 (by kernel_rfl) (by kernel_rfl) rfl (forall_getD _ 0 (0, Code.skip) (by kernel_rfl) fun i hi => by
      omega)
    dec_enc_ll dec_enc_i (spec_l01At_run k)

def spec_l01Grass_C (k : Nat) : Cfg := ⟨tab, mvs, oraOf [spec_l01Is_e k, spec_l01At_e k], loOf []⟩
theorem spec_l01Grass_es (k : Nat) : ∀ e ∈ ([spec_l01Is_e k, spec_l01At_e k] : List Ent), EntOK Try.prog tab mvs e := by
  intro e he
  simp only [List.mem_cons, List.not_mem_nil, or_false] at he
  rcases he with rfl | rfl
  · exact spec_l01Is_ok k
  · exact spec_l01At_ok k
def spec_l01Grass_e (k : Nat) : Ent := (65, callOf [.pvi (some 32) 0 32, .agg 29] dec_ll fun (p : (List Int) × (List Int)) R K => (spec_l01Grass k p.1 p.2).bind fun (b : Bool) => K ((fV (.bool) (enc_b b)).1, none))
theorem spec_l01Grass_run (k : Nat) (p : (List Int) × (List Int)) : runF (spec_l01Grass_C k) Try.f65 false (fL [.pvi (some 32) 0 32, .agg 29] (enc_ll p)).1 (resK (.bool) dec_b) = spec_l01Grass k p.1 p.2 := by
  kernel_rfl
theorem spec_l01Grass_ok (k : Nat) : EntOK Try.prog tab mvs (spec_l01Grass_e k) :=
  fn_ok (C := spec_l01Grass_C k) tabOK eqTabOK (spec_l01Grass_es k) rfl follows Try.func65 (by kernel_rfl) (by kernel_rfl) rfl (forall_getD _ 0 (0, Code.skip) (by kernel_rfl) fun i hi => by
      omega)
    dec_enc_ll dec_enc_b (spec_l01Grass_run k)

def dec_llii (ps : List Pay) : Option ((List Int) × (List Int) × Int × Int) := match ps with
  | [.l x1, .l x2, .i x3, .i x4] => some (x1, x2, x3, x4)
  | _ => none
def enc_llii (p : (List Int) × (List Int) × Int × Int) : List Pay := [.l p.1, .l p.2.1, .i p.2.2.1, .i p.2.2.2]
theorem dec_enc_llii : ∀ (ps : List Pay) (p : (List Int) × (List Int) × Int × Int), dec_llii ps = some p → ps = enc_llii p := by
  intro ps p h
  unfold dec_llii at h
  split at h
  · injection h with h
    subst h
    rfl
  · cases h

def dec_lli (ps : List Pay) : Option ((List Int) × (List Int) × Int) := match ps with
  | [.l x1, .l x2, .i x3] => some (x1, x2, x3)
  | _ => none
def enc_lli (p : (List Int) × (List Int) × Int) : List Pay := [.l p.1, .l p.2.1, .i p.2.2]
theorem dec_enc_lli : ∀ (ps : List Pay) (p : (List Int) × (List Int) × Int), dec_lli ps = some p → ps = enc_lli p := by
  intro ps p h
  unfold dec_lli at h
  split at h
  · injection h with h
    subst h
    rfl
  · cases h

def spec_l06Ok_t0 : StTm := ⟨42, [(0, .pvi (some 32) 0 32), (1, .pvi (some 41) 0 41), (5, .int .i8), (6, .int .i8)], []⟩
def spec_l06Ok_t0_1 : StTm := ⟨42, [(4, .bool)], []⟩
def spec_l06Ok_t0_2 : StTm := ⟨42, [(0, .pvi (some 32) 0 32), (1, .pvi (some 41) 0 41), (5, .int .i8)], []⟩
def spec_l06Ok_w0 (k : Nat) (R : Type) (K : Ex → St → Option R) (rec : (List Int) × (List Int) × Int × Int → Option R) (p : (List Int) × (List Int) × Int × Int) : Option R := spec_l06Ok_s0 k (fun y1 => K .ret (fSt spec_l06Ok_t0_1 [.b y1])) (fun y1 y2 y3 => K (.exit 2) (fSt spec_l06Ok_t0_2 [.l y1, .l y2, .i y3])) (fun h1 h2 h3 h4 => rec (h1, h2, h3, h4)) p.1 p.2.1 p.2.2.1 p.2.2.2
def spec_l06Ok_c0 (k : Nat) : Lcall := lcallOf tab spec_l06Ok_t0 dec_llii [0, 1, 5, 6] k (spec_l06Ok_w0 k)
def spec_l06Ok_t1 : StTm := ⟨42, [(0, .pvi (some 32) 0 32), (1, .pvi (some 41) 0 41), (5, .int .i8)], []⟩
def spec_l06Ok_t1_1 : StTm := ⟨42, [(4, .bool)], []⟩
def spec_l06Ok_t1_2 : StTm := ⟨42, [], []⟩
def spec_l06Ok_w1 (k : Nat) (R : Type) (K : Ex → St → Option R) (rec : (List Int) × (List Int) × Int → Option R) (p : (List Int) × (List Int) × Int) : Option R := spec_l06Ok_s1 k (fun y1 => K .ret (fSt spec_l06Ok_t1_1 [.b y1])) (K (.exit 0) (fSt spec_l06Ok_t1_2 [])) (fun h1 h2 h3 => rec (h1, h2, h3)) p.1 p.2.1 p.2.2
def spec_l06Ok_c1 (k : Nat) : Lcall := lcallOf tab spec_l06Ok_t1 dec_lli [0, 1, 5] k (spec_l06Ok_w1 k)
def spec_l06Ok_C (k : Nat) : Cfg := ⟨tab, mvs, oraOf [spec_l01Ok_e k, spec_l06Level_e k, spec_l01Grass_e k], loOf [(2, spec_l06Ok_c0 k), (0, spec_l06Ok_c1 k)]⟩
theorem spec_l06Ok_es (k : Nat) : ∀ e ∈ ([spec_l01Ok_e k, spec_l06Level_e k, spec_l01Grass_e k] : List Ent), EntOK Try.prog tab mvs e := by
  intro e he
  simp only [List.mem_cons, List.not_mem_nil, or_false] at he
  rcases he with rfl | rfl | rfl
  · exact spec_l01Ok_ok k
  · exact spec_l06Level_ok k
  · exact spec_l01Grass_ok k
theorem spec_l06Ok_step0 (k : Nat) (R : Type) (K : Ex → St → Option R) (g : St → Option R) (p : (List Int) × (List Int) × Int × Int) : evCode (spec_l06Ok_C k) (loopP [0, 0] (0, codeOf Try.f99)).2 (loopP [0, 0] (0, codeOf Try.f99)).1 (fSt spec_l06Ok_t0 (enc_llii p)) (loopK tab [0, 1, 5, 6] [0, 1, 5] [4] g K) = spec_l06Ok_w0 k R K (fun p => g (fSt spec_l06Ok_t0 (enc_llii p))) p := by
  kernel_rfl
theorem spec_l06Ok_lok0 (k : Nat) : LoopOK Try.prog tab (spec_l06Ok_C k).lo (loopP [0, 0] (0, codeOf Try.f99)).1 (loopP [0, 0] (0, codeOf Try.f99)).2 :=
  loopOK_of (C := spec_l06Ok_C k) tabOK eqTabOK (oraOf_ok (spec_l06Ok_es k)) (oraOf_nat (spec_l06Ok_es k)) follows (forall_getD _ 0 (0, Code.skip) (by kernel_rfl) fun i hi => by
      omega)
    (tm := spec_l06Ok_t0) (dec := dec_llii) (enc := enc_llii) (ksIn := [0, 1, 5, 6]) (ksOut := [0, 1, 5]) (ksRet := [4]) (k := k) (step := spec_l06Ok_w0 k) dec_enc_llii (fun p => by kernel_rfl) (fun s R K => by kernel_rfl) (spec_l06Ok_step0 k)
theorem spec_l06Ok_step1 (k : Nat) (R : Type) (K : Ex → St → Option R) (g : St → Option R) (p : (List Int) × (List Int) × Int) : evCode (spec_l06Ok_C k) (loopP [0] (0, codeOf Try.f99)).2 (loopP [0] (0, codeOf Try.f99)).1 (fSt spec_l06Ok_t1 (enc_lli p)) (loopK tab [0, 1, 5] [] [4] g K) = spec_l06Ok_w1 k R K (fun p => g (fSt spec_l06Ok_t1 (enc_lli p))) p := by
  kernel_rfl
theorem spec_l06Ok_lok1 (k : Nat) : LoopOK Try.prog tab (spec_l06Ok_C k).lo (loopP [0] (0, codeOf Try.f99)).1 (loopP [0] (0, codeOf Try.f99)).2 :=
  loopOK_of (C := spec_l06Ok_C k) tabOK eqTabOK (oraOf_ok (spec_l06Ok_es k)) (oraOf_nat (spec_l06Ok_es k)) follows (forall_getD _ 1 (0, Code.skip) (by kernel_rfl) fun i hi => by
      match i, hi with
      | 0, _ => exact spec_l06Ok_lok0 k
      | n + 1, h => omega)
    (tm := spec_l06Ok_t1) (dec := dec_lli) (enc := enc_lli) (ksIn := [0, 1, 5]) (ksOut := []) (ksRet := [4]) (k := k) (step := spec_l06Ok_w1 k) dec_enc_lli (fun p => by kernel_rfl) (fun s R K => by kernel_rfl) (spec_l06Ok_step1 k)
def spec_l06Ok_e (k : Nat) : Ent := (99, callOf [.pvi (some 32) 0 32, .pvi (some 41) 0 41] dec_ll fun (p : (List Int) × (List Int)) R K => (spec_l06Ok k p.1 p.2).bind fun (b : Bool) => K ((fV (.bool) (enc_b b)).1, none))
theorem spec_l06Ok_run (k : Nat) (p : (List Int) × (List Int)) : runF (spec_l06Ok_C k) Try.f99 false (fL [.pvi (some 32) 0 32, .pvi (some 41) 0 41] (enc_ll p)).1 (resK (.bool) dec_b) = spec_l06Ok k p.1 p.2 := by
  kernel_rfl
theorem spec_l06Ok_ok (k : Nat) : EntOK Try.prog tab mvs (spec_l06Ok_e k) :=
  fn_ok (C := spec_l06Ok_C k) tabOK eqTabOK (spec_l06Ok_es k) rfl follows Try.func99 (by kernel_rfl) (by kernel_rfl) rfl (forall_getD _ 1 (0, Code.skip) (by kernel_rfl) fun i hi => by
      match i, hi with
      | 0, _ => exact spec_l06Ok_lok1 k
      | n + 1, h => omega)
    dec_enc_ll dec_enc_b (spec_l06Ok_run k)

def dec_llb (ps : List Pay) : Option ((List Int) × (List Int) × Bool) := match ps with
  | [.l x1, .l x2, .b x3] => some (x1, x2, x3)
  | _ => none
def enc_llb (p : (List Int) × (List Int) × Bool) : List Pay := [.l p.1, .l p.2.1, .b p.2.2]
theorem dec_enc_llb : ∀ (ps : List Pay) (p : (List Int) × (List Int) × Bool), dec_llb ps = some p → ps = enc_llb p := by
  intro ps p h
  unfold dec_llb at h
  split at h
  · injection h with h
    subst h
    rfl
  · cases h

def spec_l06Asked_C (k : Nat) : Cfg := ⟨tab, mvs, oraOf [spec_l06Ok_e k], loOf []⟩
theorem spec_l06Asked_es (k : Nat) : ∀ e ∈ ([spec_l06Ok_e k] : List Ent), EntOK Try.prog tab mvs e := by
  intro e he
  simp only [List.mem_cons, List.not_mem_nil, or_false] at he
  rcases he with rfl
  · exact spec_l06Ok_ok k
def spec_l06Asked_e (k : Nat) : Ent := (62, callOf [.pvi (some 32) 0 32, .pvi (some 41) 0 41, .bool] dec_llb fun (p : (List Int) × (List Int) × Bool) R K => (spec_l06Asked k p.1 p.2.1 p.2.2).bind fun (b : Int) => K ((fV (.int .i64) (enc_i b)).1, none))
theorem spec_l06Asked_run (k : Nat) (p : (List Int) × (List Int) × Bool) : runF (spec_l06Asked_C k) Try.f62 false (fL [.pvi (some 32) 0 32, .pvi (some 41) 0 41, .bool] (enc_llb p)).1 (resK (.int .i64) dec_i) = spec_l06Asked k p.1 p.2.1 p.2.2 := by
  kernel_rfl
theorem spec_l06Asked_ok (k : Nat) : EntOK Try.prog tab mvs (spec_l06Asked_e k) :=
  fn_ok (C := spec_l06Asked_C k) tabOK eqTabOK (spec_l06Asked_es k) rfl follows Try.func62 (by kernel_rfl) (by kernel_rfl) rfl (forall_getD _ 0 (0, Code.skip) (by kernel_rfl) fun i hi => by
      omega)
    dec_enc_llb dec_enc_i (spec_l06Asked_run k)

def dec_liil (ps : List Pay) : Option ((List Int) × Int × Int × (List Int)) := match ps with
  | [.l x1, .i x2, .i x3, .l x4] => some (x1, x2, x3, x4)
  | _ => none
def enc_liil (p : (List Int) × Int × Int × (List Int)) : List Pay := [.l p.1, .i p.2.1, .i p.2.2.1, .l p.2.2.2]
theorem dec_enc_liil : ∀ (ps : List Pay) (p : (List Int) × Int × Int × (List Int)), dec_liil ps = some p → ps = enc_liil p := by
  intro ps p h
  unfold dec_liil at h
  split at h
  · injection h with h
    subst h
    rfl
  · cases h

def dec_lil (ps : List Pay) : Option ((List Int) × Int × (List Int)) := match ps with
  | [.l x1, .i x2, .l x3] => some (x1, x2, x3)
  | _ => none
def enc_lil (p : (List Int) × Int × (List Int)) : List Pay := [.l p.1, .i p.2.1, .l p.2.2]
theorem dec_enc_lil : ∀ (ps : List Pay) (p : (List Int) × Int × (List Int)), dec_lil ps = some p → ps = enc_lil p := by
  intro ps p h
  unfold dec_lil at h
  split at h
  · injection h with h
    subst h
    rfl
  · cases h

def spec_l01All_t0 : StTm := ⟨30, [(0, .pvi (some 32) 0 32), (3, .slw 3 29), (4, .int .i8), (5, .int .i8)], [(3, 29, false, .ints)]⟩
def spec_l01All_t0_1 : StTm := ⟨30, [(0, .pvi (some 32) 0 32), (3, .slw 3 29), (4, .int .i8)], [(3, 29, false, .ints)]⟩
def spec_l01All_w0 (k : Nat) (R : Type) (K : Ex → St → Option R) (rec : (List Int) × Int × Int × (List Int) → Option R) (p : (List Int) × Int × Int × (List Int)) : Option R := spec_l01All_s0 k (fun y1 y2 y3 => K (.exit 2) (fSt spec_l01All_t0_1 [.l y1, .i y2, .l y3])) (fun h1 h2 h3 h4 => rec (h1, h2, h3, h4)) p.1 p.2.1 p.2.2.1 p.2.2.2
def spec_l01All_c0 (k : Nat) : Lcall := lcallOf tab spec_l01All_t0 dec_liil [0, 3, 4, 5] k (spec_l01All_w0 k)
def spec_l01All_t1 : StTm := ⟨30, [(0, .pvi (some 32) 0 32), (3, .slw 3 29), (4, .int .i8)], [(3, 29, false, .ints)]⟩
def spec_l01All_t1_1 : StTm := ⟨30, [(3, .slw 3 29)], [(3, 29, false, .ints)]⟩
def spec_l01All_w1 (k : Nat) (R : Type) (K : Ex → St → Option R) (rec : (List Int) × Int × (List Int) → Option R) (p : (List Int) × Int × (List Int)) : Option R := spec_l01All_s1 k (fun y1 => K (.exit 0) (fSt spec_l01All_t1_1 [.l y1])) (fun h1 h2 h3 => rec (h1, h2, h3)) p.1 p.2.1 p.2.2
def spec_l01All_c1 (k : Nat) : Lcall := lcallOf tab spec_l01All_t1 dec_lil [0, 3, 4] k (spec_l01All_w1 k)
def spec_l01All_C (k : Nat) : Cfg := ⟨tab, mvs, oraOf [], loOf [(2, spec_l01All_c0 k), (0, spec_l01All_c1 k)]⟩
theorem spec_l01All_es (k : Nat) : ∀ e ∈ ([] : List Ent), EntOK Try.prog tab mvs e := by
  intro e he
  simp at he
theorem spec_l01All_step0 (k : Nat) (R : Type) (K : Ex → St → Option R) (g : St → Option R) (p : (List Int) × Int × Int × (List Int)) : evCode (spec_l01All_C k) (loopP [0, 0] (0, codeOf Try.f95)).2 (loopP [0, 0] (0, codeOf Try.f95)).1 (fSt spec_l01All_t0 (enc_liil p)) (loopK tab [0, 3, 4, 5] [0, 3, 4] [2] g K) = spec_l01All_w0 k R K (fun p => g (fSt spec_l01All_t0 (enc_liil p))) p := by
  kernel_rfl
theorem spec_l01All_lok0 (k : Nat) : LoopOK Try.prog tab (spec_l01All_C k).lo (loopP [0, 0] (0, codeOf Try.f95)).1 (loopP [0, 0] (0, codeOf Try.f95)).2 :=
  loopOK_of (C := spec_l01All_C k) tabOK eqTabOK (oraOf_ok (spec_l01All_es k)) (oraOf_nat (spec_l01All_es k)) follows (forall_getD _ 0 (0, Code.skip) (by kernel_rfl) fun i hi => by
      omega)
    (tm := spec_l01All_t0) (dec := dec_liil) (enc := enc_liil) (ksIn := [0, 3, 4, 5]) (ksOut := [0, 3, 4]) (ksRet := [2]) (k := k) (step := spec_l01All_w0 k) dec_enc_liil (fun p => by kernel_rfl) (fun s R K => by kernel_rfl) (spec_l01All_step0 k)
theorem spec_l01All_step1 (k : Nat) (R : Type) (K : Ex → St → Option R) (g : St → Option R) (p : (List Int) × Int × (List Int)) : evCode (spec_l01All_C k) (loopP [0] (0, codeOf Try.f95)).2 (loopP [0] (0, codeOf Try.f95)).1 (fSt spec_l01All_t1 (enc_lil p)) (loopK tab [0, 3, 4] [3] [2] g K) = spec_l01All_w1 k R K (fun p => g (fSt spec_l01All_t1 (enc_lil p))) p := by
  kernel_rfl
theorem spec_l01All_lok1 (k : Nat) : LoopOK Try.prog tab (spec_l01All_C k).lo (loopP [0] (0, codeOf Try.f95)).1 (loopP [0] (0, codeOf Try.f95)).2 :=
  loopOK_of (C := spec_l01All_C k) tabOK eqTabOK (oraOf_ok (spec_l01All_es k)) (oraOf_nat (spec_l01All_es k)) follows (forall_getD _ 1 (0, Code.skip) (by kernel_rfl) fun i hi => by
      match i, hi with
      | 0, _ => exact spec_l01All_lok0 k
      | n + 1, h => omega)
    (tm := spec_l01All_t1) (dec := dec_lil) (enc := enc_lil) (ksIn := [0, 3, 4]) (ksOut := [3]) (ksRet := [2]) (k := k) (step := spec_l01All_w1 k) dec_enc_lil (fun p => by kernel_rfl) (fun s R K => by kernel_rfl) (spec_l01All_step1 k)
def spec_l01All_e (k : Nat) : Ent := (95, callOf [.pvi (some 32) 0 32] dec_l fun (p : (List Int)) R K => (spec_l01All k p).bind fun (b : (List Int)) => K ((fV (.slv 29) (enc_l b)).1, none))
theorem spec_l01All_run (k : Nat) (p : (List Int)) : runF (spec_l01All_C k) Try.f95 false (fL [.pvi (some 32) 0 32] (enc_l p)).1 (resK (.slv 29) dec_l) = spec_l01All k p := by
  kernel_rfl
theorem spec_l01All_ok (k : Nat) : EntOK Try.prog tab mvs (spec_l01All_e k) :=
  fn_ok (C := spec_l01All_C k) tabOK eqTabOK (spec_l01All_es k) rfl follows Try.func95 (by kernel_rfl) (by kernel_rfl) rfl (forall_getD _ 1 (0, Code.skip) (by kernel_rfl) fun i hi => by
      match i, hi with
      | 0, _ => exact spec_l01All_lok1 k
      | n + 1, h => omega)
    dec_enc_l dec_enc_l (spec_l01All_run k)

def dec_liill (ps : List Pay) : Option ((List Int) × Int × Int × (List Int) × (List Int)) := match ps with
  | [.l x1, .i x2, .i x3, .l x4, .l x5] => some (x1, x2, x3, x4, x5)
  | _ => none
def enc_liill (p : (List Int) × Int × Int × (List Int) × (List Int)) : List Pay := [.l p.1, .i p.2.1, .i p.2.2.1, .l p.2.2.2.1, .l p.2.2.2.2]
theorem dec_enc_liill : ∀ (ps : List Pay) (p : (List Int) × Int × Int × (List Int) × (List Int)), dec_liill ps = some p → ps = enc_liill p := by
  intro ps p h
  unfold dec_liill at h
  split at h
  · injection h with h
    subst h
    rfl
  · cases h

def spec_l01Cells_t0 : StTm := ⟨33, [(0, .pvi (some 32) 0 32), (1, .int .i64), (5, .slw 5 29), (6, .slw 6 29), (7, .int .i64)], [(5, 29, false, .ints), (6, 29, false, .ints)]⟩
def spec_l01Cells_t0_1 : StTm := ⟨33, [(5, .slw 5 29)], [(5, 29, false, .ints)]⟩
def spec_l01Cells_w0 (k : Nat) (R : Type) (K : Ex → St → Option R) (rec : (List Int) × Int × Int × (List Int) × (List Int) → Option R) (p : (List Int) × Int × Int × (List Int) × (List Int)) : Option R := spec_l01Cells_s0 k (fun y1 => K (.exit 0) (fSt spec_l01Cells_t0_1 [.l y1])) (fun h1 h2 h3 h4 h5 => rec (h1, h2, h3, h4, h5)) p.1 p.2.1 p.2.2.1 p.2.2.2.1 p.2.2.2.2
def spec_l01Cells_c0 (k : Nat) : Lcall := lcallOf tab spec_l01Cells_t0 dec_liill [0, 1, 5, 6, 7] k (spec_l01Cells_w0 k)
def spec_l01Cells_C (k : Nat) : Cfg := ⟨tab, mvs, oraOf [spec_l01All_e k, spec_l01At_e k], loOf [(0, spec_l01Cells_c0 k)]⟩
theorem spec_l01Cells_es (k : Nat) : ∀ e ∈ ([spec_l01All_e k, spec_l01At_e k] : List Ent), EntOK Try.prog tab mvs e := by
  intro e he
  simp only [List.mem_cons, List.not_mem_nil, or_false] at he
  rcases he with rfl | rfl
  · exact spec_l01All_ok k
  · exact spec_l01At_ok k
theorem spec_l01Cells_step0 (k : Nat) (R : Type) (K : Ex → St → Option R) (g : St → Option R) (p : (List Int) × Int × Int × (List Int) × (List Int)) : evCode (spec_l01Cells_C k) (loopP [0] (0, codeOf Try.f64)).2 (loopP [0] (0, codeOf Try.f64)).1 (fSt spec_l01Cells_t0 (enc_liill p)) (loopK tab [0, 1, 5, 6, 7] [5] [4] g K) = spec_l01Cells_w0 k R K (fun p => g (fSt spec_l01Cells_t0 (enc_liill p))) p := by
  kernel_rfl
theorem spec_l01Cells_lok0 (k : Nat) : LoopOK Try.prog tab (spec_l01Cells_C k).lo (loopP [0] (0, codeOf Try.f64)).1 (loopP [0] (0, codeOf Try.f64)).2 :=
  loopOK_of (C := spec_l01Cells_C k) tabOK eqTabOK (oraOf_ok (spec_l01Cells_es k)) (oraOf_nat (spec_l01Cells_es k)) follows (forall_getD _ 0 (0, Code.skip) (by kernel_rfl) fun i hi => by
      omega)
    (tm := spec_l01Cells_t0) (dec := dec_liill) (enc := enc_liill) (ksIn := [0, 1, 5, 6, 7]) (ksOut := [5]) (ksRet := [4]) (k := k) (step := spec_l01Cells_w0 k) dec_enc_liill (fun p => by kernel_rfl) (fun s R K => by kernel_rfl) (spec_l01Cells_step0 k)
def spec_l01Cells_e (k : Nat) : Ent := (64, callOf [.pvi (some 32) 0 32, .int .i64] dec_li fun (p : (List Int) × Int) R K => (spec_l01Cells k p.1 p.2).bind fun (b : (List Int)) => K ((fV (.slv 29) (enc_l b)).1, none))
theorem spec_l01Cells_run (k : Nat) (p : (List Int) × Int) : runF (spec_l01Cells_C k) Try.f64 false (fL [.pvi (some 32) 0 32, .int .i64] (enc_li p)).1 (resK (.slv 29) dec_l) = spec_l01Cells k p.1 p.2 := by
  kernel_rfl
theorem spec_l01Cells_ok (k : Nat) : EntOK Try.prog tab mvs (spec_l01Cells_e k) :=
  fn_ok (C := spec_l01Cells_C k) tabOK eqTabOK (spec_l01Cells_es k) rfl follows Try.func64 (by kernel_rfl) (by kernel_rfl) rfl (forall_getD _ 1 (0, Code.skip) (by kernel_rfl) fun i hi => by
      match i, hi with
      | 0, _ => exact spec_l01Cells_lok0 k
      | n + 1, h => omega)
    dec_enc_li dec_enc_l (spec_l01Cells_run k)

def spec_l06At_C (k : Nat) : Cfg := ⟨tab, mvs, oraOf [], loOf []⟩
theorem spec_l06At_es (k : Nat) : ∀ e ∈ ([] : List Ent), EntOK Try.prog tab mvs e := by
  intro e he
  simp at he
def spec_l06At_e (k : Nat) : Ent := (82, callOf [.pvi (some 41) 0 41, .agg 29] dec_ll fun (p : (List Int) × (List Int)) R K => (spec_l06At k p.1 p.2).bind fun (b : Int) => K ((fV (.int .i64) (enc_i b)).1, none))
theorem spec_l06At_run (k : Nat) (p : (List Int) × (List Int)) : runF (spec_l06At_C k) Try.f82 false (fL [.pvi (some 41) 0 41, .agg 29] (enc_ll p)).1 (resK (.int .i64) dec_i) = spec_l06At k p.1 p.2 := by
  kernel_rfl
theorem spec_l06At_ok (k : Nat) : EntOK Try.prog tab mvs (spec_l06At_e k) :=
  fn_ok (C := spec_l06At_C k) tabOK eqTabOK (spec_l06At_es k) rfl follows Try.func82 (by kernel_rfl) (by kernel_rfl) rfl (forall_getD _ 0 (0, Code.skip) (by kernel_rfl) fun i hi => by
      omega)
    dec_enc_ll dec_enc_i (spec_l06At_run k)

def dec_ii (ps : List Pay) : Option (Int × Int) := match ps with
  | [.i x1, .i x2] => some (x1, x2)
  | _ => none
def enc_ii (p : Int × Int) : List Pay := [.i p.1, .i p.2]
theorem dec_enc_ii : ∀ (ps : List Pay) (p : Int × Int), dec_ii ps = some p → ps = enc_ii p := by
  intro ps p h
  unfold dec_ii at h
  split at h
  · injection h with h
    subst h
    rfl
  · cases h

def spec_l00Max_C (k : Nat) : Cfg := ⟨tab, mvs, oraOf [], loOf []⟩
theorem spec_l00Max_es (k : Nat) : ∀ e ∈ ([] : List Ent), EntOK Try.prog tab mvs e := by
  intro e he
  simp at he
def spec_l00Max_e (k : Nat) : Ent := (129, callOf [.int .i64, .int .i64] dec_ii fun (p : Int × Int) R K => (spec_l00Max k p.1 p.2).bind fun (b : Int) => K ((fV (.int .i64) (enc_i b)).1, none))
theorem spec_l00Max_run (k : Nat) (p : Int × Int) : runF (spec_l00Max_C k) Try.f129 false (fL [.int .i64, .int .i64] (enc_ii p)).1 (resK (.int .i64) dec_i) = spec_l00Max k p.1 p.2 := by
  kernel_rfl
theorem spec_l00Max_ok (k : Nat) : EntOK Try.prog tab mvs (spec_l00Max_e k) :=
  fn_ok (C := spec_l00Max_C k) tabOK eqTabOK (spec_l00Max_es k) rfl follows Try.func129 (by kernel_rfl) (by kernel_rfl) rfl (forall_getD _ 0 (0, Code.skip) (by kernel_rfl) fun i hi => by
      omega)
    dec_enc_ii dec_enc_i (spec_l00Max_run k)

def dec_lll (ps : List Pay) : Option ((List Int) × (List Int) × (List Int)) := match ps with
  | [.l x1, .l x2, .l x3] => some (x1, x2, x3)
  | _ => none
def enc_lll (p : (List Int) × (List Int) × (List Int)) : List Pay := [.l p.1, .l p.2.1, .l p.2.2]
theorem dec_enc_lll : ∀ (ps : List Pay) (p : (List Int) × (List Int) × (List Int)), dec_lll ps = some p → ps = enc_lll p := by
  intro ps p h
  unfold dec_lll at h
  split at h
  · injection h with h
    subst h
    rfl
  · cases h

def spec_l06Far_C (k : Nat) : Cfg := ⟨tab, mvs, oraOf [spec_l06At_e k, spec_l00Max_e k], loOf []⟩
theorem spec_l06Far_es (k : Nat) : ∀ e ∈ ([spec_l06At_e k, spec_l00Max_e k] : List Ent), EntOK Try.prog tab mvs e := by
  intro e he
  simp only [List.mem_cons, List.not_mem_nil, or_false] at he
  rcases he with rfl | rfl
  · exact spec_l06At_ok k
  · exact spec_l00Max_ok k
def spec_l06Far_e (k : Nat) : Ent := (66, callOf [.pvi (some 41) 0 41, .agg 29, .agg 29] dec_lll fun (p : (List Int) × (List Int) × (List Int)) R K => (spec_l06Far k p.1 p.2.1 p.2.2).bind fun (b : Int) => K ((fV (.int .i64) (enc_i b)).1, none))
theorem spec_l06Far_run (k : Nat) (p : (List Int) × (List Int) × (List Int)) : runF (spec_l06Far_C k) Try.f66 false (fL [.pvi (some 41) 0 41, .agg 29, .agg 29] (enc_lll p)).1 (resK (.int .i64) dec_i) = spec_l06Far k p.1 p.2.1 p.2.2 := by
  kernel_rfl
theorem spec_l06Far_ok (k : Nat) : EntOK Try.prog tab mvs (spec_l06Far_e k) :=
  fn_ok (C := spec_l06Far_C k) tabOK eqTabOK (spec_l06Far_es k) rfl follows Try.func66 (by kernel_rfl) (by kernel_rfl) rfl (forall_getD _ 0 (0, Code.skip) (by kernel_rfl) fun i hi => by
      omega)
    dec_enc_lll dec_enc_i (spec_l06Far_run k)

def dec_iiilll (ps : List Pay) : Option (Int × Int × Int × (List Int) × (List Int) × (List Int)) := match ps with
  | [.i x1, .i x2, .i x3, .l x4, .l x5, .l x6] => some (x1, x2, x3, x4, x5, x6)
  | _ => none
def enc_iiilll (p : Int × Int × Int × (List Int) × (List Int) × (List Int)) : List Pay := [.i p.1, .i p.2.1, .i p.2.2.1, .l p.2.2.2.1, .l p.2.2.2.2.1, .l p.2.2.2.2.2]
theorem dec_enc_iiilll : ∀ (ps : List Pay) (p : Int × Int × Int × (List Int) × (List Int) × (List Int)), dec_iiilll ps = some p → ps = enc_iiilll p := by
  intro ps p h
  unfold dec_iiilll at h
  split at h
  · injection h with h
    subst h
    rfl
  · cases h

def spec_SteepSteps_t0 : StTm := ⟨80, [(2, .int .i64), (3, .ptr 3 0 32), (4, .ptr 4 0 41), (9, .int .i64), (10, .slw 10 29), (11, .int .i64)], [(3, 32, true, .ints), (4, 41, true, .ints), (10, 29, false, .ints)]⟩
def spec_SteepSteps_t0_1 : StTm := ⟨80, [(9, .int .i64)], []⟩
def spec_SteepSteps_w0 (k : Nat) (R : Type) (K : Ex → St → Option R) (rec : Int × Int × Int × (List Int) × (List Int) × (List Int) → Option R) (p : Int × Int × Int × (List Int) × (List Int) × (List Int)) : Option R := spec_SteepSteps_s0 k (fun y1 => K (.exit 0) (fSt spec_SteepSteps_t0_1 [.i y1])) (fun h1 h2 h3 h4 h5 h6 => rec (h1, h2, h3, h4, h5, h6)) p.1 p.2.1 p.2.2.1 p.2.2.2.1 p.2.2.2.2.1 p.2.2.2.2.2
def spec_SteepSteps_c0 (k : Nat) : Lcall := lcallOf tab spec_SteepSteps_t0 dec_iiilll [2, 3, 4, 9, 10, 11] k (spec_SteepSteps_w0 k)
def spec_SteepSteps_C (k : Nat) : Cfg := ⟨tab, mvs, oraOf [spec_l00In_e k, spec_l06Asked_e k, spec_l01Cells_e k, spec_l01Grass_e k, spec_l06Far_e k], loOf [(0, spec_SteepSteps_c0 k)]⟩
theorem spec_SteepSteps_es (k : Nat) : ∀ e ∈ ([spec_l00In_e k, spec_l06Asked_e k, spec_l01Cells_e k, spec_l01Grass_e k, spec_l06Far_e k] : List Ent), EntOK Try.prog tab mvs e := by
  intro e he
  simp only [List.mem_cons, List.not_mem_nil, or_false] at he
  rcases he with rfl | rfl | rfl | rfl | rfl
  · exact spec_l00In_ok k
  · exact spec_l06Asked_ok k
  · exact spec_l01Cells_ok k
  · exact spec_l01Grass_ok k
  · exact spec_l06Far_ok k
theorem spec_SteepSteps_step0 (k : Nat) (R : Type) (K : Ex → St → Option R) (g : St → Option R) (p : Int × Int × Int × (List Int) × (List Int) × (List Int)) : evCode (spec_SteepSteps_C k) (loopP [0] (0, codeOf Try.f20)).2 (loopP [0] (0, codeOf Try.f20)).1 (fSt spec_SteepSteps_t0 (enc_iiilll p)) (loopK tab [2, 3, 4, 9, 10, 11] [9] [6, 7] g K) = spec_SteepSteps_w0 k R K (fun p => g (fSt spec_SteepSteps_t0 (enc_iiilll p))) p := by
  kernel_rfl
theorem spec_SteepSteps_lok0 (k : Nat) : LoopOK Try.prog tab (spec_SteepSteps_C k).lo (loopP [0] (0, codeOf Try.f20)).1 (loopP [0] (0, codeOf Try.f20)).2 :=
  loopOK_of (C := spec_SteepSteps_C k) tabOK eqTabOK (oraOf_ok (spec_SteepSteps_es k)) (oraOf_nat (spec_SteepSteps_es k)) follows (forall_getD _ 0 (0, Code.skip) (by kernel_rfl) fun i hi => by
      omega)
    (tm := spec_SteepSteps_t0) (dec := dec_iiilll) (enc := enc_iiilll) (ksIn := [2, 3, 4, 9, 10, 11]) (ksOut := [9]) (ksRet := [6, 7]) (k := k) (step := spec_SteepSteps_w0 k) dec_enc_iiilll (fun p => by kernel_rfl) (fun s R K => by kernel_rfl) (spec_SteepSteps_step0 k)
def spec_SteepSteps_e (k : Nat) : Ent := (20, callOf [.agg 32, .agg 41, .int .i64] dec_lli fun (p : (List Int) × (List Int) × Int) R K => (spec_SteepSteps k p.1 p.2.1 p.2.2).bind fun (b : Int × Int) => K ((fV (.tup [.int .i64, .int .i64]) (enc_ii b)).1, none))
theorem spec_SteepSteps_run (k : Nat) (p : (List Int) × (List Int) × Int) : runF (spec_SteepSteps_C k) Try.f20 false (fL [.agg 32, .agg 41, .int .i64] (enc_lli p)).1 (resK (.tup [.int .i64, .int .i64]) dec_ii) = spec_SteepSteps k p.1 p.2.1 p.2.2 := by
  kernel_rfl
theorem spec_SteepSteps_ok (k : Nat) : EntOK Try.prog tab mvs (spec_SteepSteps_e k) :=
  fn_ok (C := spec_SteepSteps_C k) tabOK eqTabOK (spec_SteepSteps_es k) rfl follows Try.func20 (by kernel_rfl) (by kernel_rfl) rfl (forall_getD _ 1 (0, Code.skip) (by kernel_rfl) fun i hi => by
      match i, hi with
      | 0, _ => exact spec_SteepSteps_lok0 k
      | n + 1, h => omega)
    dec_enc_lli dec_enc_ii (spec_SteepSteps_run k)

def impl_Lawn_has_C (k : Nat) : Cfg := ⟨tab, mvs, oraOf [], loOf []⟩
theorem impl_Lawn_has_es (k : Nat) : ∀ e ∈ ([] : List Ent), EntOK Try.prog tab mvs e := by
  intro e he
  simp at he
def impl_Lawn_has_e (k : Nat) : Ent := (138, callOf [.agg 32, .agg 29] dec_ll fun (p : (List Int) × (List Int)) R K => (impl_Lawn_has k p.1 p.2).bind fun (b : Bool) => K ((fV (.bool) (enc_b b)).1, none))
theorem impl_Lawn_has_run (k : Nat) (p : (List Int) × (List Int)) : runF (impl_Lawn_has_C k) Try.f138 false (fL [.agg 32, .agg 29] (enc_ll p)).1 (resK (.bool) dec_b) = impl_Lawn_has k p.1 p.2 := by
  kernel_rfl
theorem impl_Lawn_has_ok (k : Nat) : EntOK Try.prog tab mvs (impl_Lawn_has_e k) :=
  fn_ok (C := impl_Lawn_has_C k) tabOK eqTabOK (impl_Lawn_has_es k) rfl follows Try.func138 (by kernel_rfl) (by kernel_rfl) rfl (forall_getD _ 0 (0, Code.skip) (by kernel_rfl) fun i hi => by
      omega)
    dec_enc_ll dec_enc_b (impl_Lawn_has_run k)

def impl_Lawn_kind_C (k : Nat) : Cfg := ⟨tab, mvs, oraOf [], loOf []⟩
theorem impl_Lawn_kind_es (k : Nat) : ∀ e ∈ ([] : List Ent), EntOK Try.prog tab mvs e := by
  intro e he
  simp at he
def impl_Lawn_kind_e (k : Nat) : Ent := (165, callOf [.agg 32, .agg 29] dec_ll fun (p : (List Int) × (List Int)) R K => (impl_Lawn_kind k p.1 p.2).bind fun (b : Int) => K ((fV (.int .i64) (enc_i b)).1, none))
theorem impl_Lawn_kind_run (k : Nat) (p : (List Int) × (List Int)) : runF (impl_Lawn_kind_C k) Try.f165 false (fL [.agg 32, .agg 29] (enc_ll p)).1 (resK (.int .i64) dec_i) = impl_Lawn_kind k p.1 p.2 := by
  kernel_rfl
theorem impl_Lawn_kind_ok (k : Nat) : EntOK Try.prog tab mvs (impl_Lawn_kind_e k) :=
  fn_ok (C := impl_Lawn_kind_C k) tabOK eqTabOK (impl_Lawn_kind_es k) rfl follows Try.func165 (by kernel_rfl) (by kernel_rfl) rfl (forall_getD _ 0 (0, Code.skip) (by kernel_rfl) fun i hi => by
      omega)
    dec_enc_ll dec_enc_i (impl_Lawn_kind_run k)

def impl_Lawn_is_C (k : Nat) : Cfg := ⟨tab, mvs, oraOf [impl_Lawn_has_e k, impl_Lawn_kind_e k], loOf []⟩
theorem impl_Lawn_is_es (k : Nat) : ∀ e ∈ ([impl_Lawn_has_e k, impl_Lawn_kind_e k] : List Ent), EntOK Try.prog tab mvs e := by
  intro e he
  simp only [List.mem_cons, List.not_mem_nil, or_false] at he
  rcases he with rfl | rfl
  · exact impl_Lawn_has_ok k
  · exact impl_Lawn_kind_ok k
def impl_Lawn_is_e (k : Nat) : Ent := (134, callOf [.agg 32, .agg 29, .int .i64] dec_lli fun (p : (List Int) × (List Int) × Int) R K => (impl_Lawn_is k p.1 p.2.1 p.2.2).bind fun (b : Bool) => K ((fV (.bool) (enc_b b)).1, none))
theorem impl_Lawn_is_run (k : Nat) (p : (List Int) × (List Int) × Int) : runF (impl_Lawn_is_C k) Try.f134 false (fL [.agg 32, .agg 29, .int .i64] (enc_lli p)).1 (resK (.bool) dec_b) = impl_Lawn_is k p.1 p.2.1 p.2.2 := by
  kernel_rfl
theorem impl_Lawn_is_ok (k : Nat) : EntOK Try.prog tab mvs (impl_Lawn_is_e k) :=
  fn_ok (C := impl_Lawn_is_C k) tabOK eqTabOK (impl_Lawn_is_es k) rfl follows Try.func134 (by kernel_rfl) (by kernel_rfl) rfl (forall_getD _ 0 (0, Code.skip) (by kernel_rfl) fun i hi => by
      omega)
    dec_enc_lli dec_enc_b (impl_Lawn_is_run k)

def impl_Lawn_grass_C (k : Nat) : Cfg := ⟨tab, mvs, oraOf [impl_Lawn_is_e k], loOf []⟩
theorem impl_Lawn_grass_es (k : Nat) : ∀ e ∈ ([impl_Lawn_is_e k] : List Ent), EntOK Try.prog tab mvs e := by
  intro e he
  simp only [List.mem_cons, List.not_mem_nil, or_false] at he
  rcases he with rfl
  · exact impl_Lawn_is_ok k
def impl_Lawn_grass_e (k : Nat) : Ent := (71, callOf [.agg 32, .agg 29] dec_ll fun (p : (List Int) × (List Int)) R K => (impl_Lawn_grass k p.1 p.2).bind fun (b : Bool) => K ((fV (.bool) (enc_b b)).1, none))
theorem impl_Lawn_grass_run (k : Nat) (p : (List Int) × (List Int)) : runF (impl_Lawn_grass_C k) Try.f71 false (fL [.agg 32, .agg 29] (enc_ll p)).1 (resK (.bool) dec_b) = impl_Lawn_grass k p.1 p.2 := by
  kernel_rfl
theorem impl_Lawn_grass_ok (k : Nat) : EntOK Try.prog tab mvs (impl_Lawn_grass_e k) :=
  fn_ok (C := impl_Lawn_grass_C k) tabOK eqTabOK (impl_Lawn_grass_es k) rfl follows Try.func71 (by kernel_rfl) (by kernel_rfl) rfl (forall_getD _ 0 (0, Code.skip) (by kernel_rfl) fun i hi => by
      omega)
    dec_enc_ll dec_enc_b (impl_Lawn_grass_run k)

def impl_within_C (k : Nat) : Cfg := ⟨tab, mvs, oraOf [], loOf []⟩
theorem impl_within_es (k : Nat) : ∀ e ∈ ([] : List Ent), EntOK Try.prog tab mvs e := by
  intro e he
  simp at he
def impl_within_e (k : Nat) : Ent := (69, callOf [.int .i64, .int .i64, .int .i64] dec_iii fun (p : Int × Int × Int) R K => (impl_within k p.1 p.2.1 p.2.2).bind fun (b : Bool) => K ((fV (.bool) (enc_b b)).1, none))
theorem impl_within_run (k : Nat) (p : Int × Int × Int) : runF (impl_within_C k) Try.f69 false (fL [.int .i64, .int .i64, .int .i64] (enc_iii p)).1 (resK (.bool) dec_b) = impl_within k p.1 p.2.1 p.2.2 := by
  kernel_rfl
theorem impl_within_ok (k : Nat) : EntOK Try.prog tab mvs (impl_within_e k) :=
  fn_ok (C := impl_within_C k) tabOK eqTabOK (impl_within_es k) rfl follows Try.func69 (by kernel_rfl) (by kernel_rfl) rfl (forall_getD _ 0 (0, Code.skip) (by kernel_rfl) fun i hi => by
      omega)
    dec_enc_iii dec_enc_b (impl_within_run k)

def dec_iiil (ps : List Pay) : Option (Int × Int × Int × (List Int)) := match ps with
  | [.i x1, .i x2, .i x3, .l x4] => some (x1, x2, x3, x4)
  | _ => none
def enc_iiil (p : Int × Int × Int × (List Int)) : List Pay := [.i p.1, .i p.2.1, .i p.2.2.1, .l p.2.2.2]
theorem dec_enc_iiil : ∀ (ps : List Pay) (p : Int × Int × Int × (List Int)), dec_iiil ps = some p → ps = enc_iiil p := by
  intro ps p h
  unfold dec_iiil at h
  split at h
  · injection h with h
    subst h
    rfl
  · cases h

def dec_il (ps : List Pay) : Option (Int × (List Int)) := match ps with
  | [.i x1, .l x2] => some (x1, x2)
  | _ => none
def enc_il (p : Int × (List Int)) : List Pay := [.i p.1, .l p.2]
theorem dec_enc_il : ∀ (ps : List Pay) (p : Int × (List Int)), dec_il ps = some p → ps = enc_il p := by
  intro ps p h
  unfold dec_il at h
  split at h
  · injection h with h
    subst h
    rfl
  · cases h

def impl_ValidLawn_t0 : StTm := ⟨46, [(1, .ptr 1 0 32), (3, .int .i8), (18, .int .i8), (21, .int .i8)], [(1, 32, true, .ints)]⟩
def impl_ValidLawn_t0_1 : StTm := ⟨46, [(2, .bool)], []⟩
def impl_ValidLawn_t0_2 : StTm := ⟨46, [(1, .ptr 1 0 32), (18, .int .i8)], [(1, 32, true, .ints)]⟩
def impl_ValidLawn_w0 (k : Nat) (R : Type) (K : Ex → St → Option R) (rec : Int × Int × Int × (List Int) → Option R) (p : Int × Int × Int × (List Int)) : Option R := impl_ValidLawn_s0 k (fun y1 => K .ret (fSt impl_ValidLawn_t0_1 [.b y1])) (fun y1 y2 => K (.exit 2) (fSt impl_ValidLawn_t0_2 [.i y1, .l y2])) (fun h1 h2 h3 h4 => rec (h1, h2, h3, h4)) p.1 p.2.1 p.2.2.1 p.2.2.2
def impl_ValidLawn_c0 (k : Nat) : Lcall := lcallOf tab impl_ValidLawn_t0 dec_iiil [1, 3, 18, 21] k (impl_ValidLawn_w0 k)
def impl_ValidLawn_t1 : StTm := ⟨46, [(1, .ptr 1 0 32), (18, .int .i8)], [(1, 32, true, .ints)]⟩
def impl_ValidLawn_t1_1 : StTm := ⟨46, [(2, .bool)], []⟩
def impl_ValidLawn_t1_2 : StTm := ⟨46, [], []⟩
def impl_ValidLawn_w1 (k : Nat) (R : Type) (K : Ex → St → Option R) (rec : Int × (List Int) → Option R) (p : Int × (List Int)) : Option R := impl_ValidLawn_s1 k (fun y1 => K .ret (fSt impl_ValidLawn_t1_1 [.b y1])) (K (.exit 0) (fSt impl_ValidLawn_t1_2 [])) (fun h1 h2 => rec (h1, h2)) p.1 p.2
def impl_ValidLawn_c1 (k : Nat) : Lcall := lcallOf tab impl_ValidLawn_t1 dec_il [1, 18] k (impl_ValidLawn_w1 k)
def impl_ValidLawn_C (k : Nat) : Cfg := ⟨tab, mvs, oraOf [impl_within_e k, impl_Lawn_has_e k], loOf [(2, impl_ValidLawn_c0 k), (0, impl_ValidLawn_c1 k)]⟩
theorem impl_ValidLawn_es (k : Nat) : ∀ e ∈ ([impl_within_e k, impl_Lawn_has_e k] : List Ent), EntOK Try.prog tab mvs e := by
  intro e he
  simp only [List.mem_cons, List.not_mem_nil, or_false] at he
  rcases he with rfl | rfl
  · exact impl_within_ok k
  · exact impl_Lawn_has_ok k
theorem impl_ValidLawn_step0 (k : Nat) (R : Type) (K : Ex → St → Option R) (g : St → Option R) (p : Int × Int × Int × (List Int)) : evCode (impl_ValidLawn_C k) (loopP [0, 0] (0, codeOf Try.f78)).2 (loopP [0, 0] (0, codeOf Try.f78)).1 (fSt impl_ValidLawn_t0 (enc_iiil p)) (loopK tab [1, 3, 18, 21] [1, 18] [2] g K) = impl_ValidLawn_w0 k R K (fun p => g (fSt impl_ValidLawn_t0 (enc_iiil p))) p := by
  kernel_rfl
theorem impl_ValidLawn_lok0 (k : Nat) : LoopOK Try.prog tab (impl_ValidLawn_C k).lo (loopP [0, 0] (0, codeOf Try.f78)).1 (loopP [0, 0] (0, codeOf Try.f78)).2 :=
  loopOK_of (C := impl_ValidLawn_C k) tabOK eqTabOK (oraOf_ok (impl_ValidLawn_es k)) (oraOf_nat (impl_ValidLawn_es k)) follows (forall_getD _ 0 (0, Code.skip) (by kernel_rfl) fun i hi => by
      omega)
    (tm := impl_ValidLawn_t0) (dec := dec_iiil) (enc := enc_iiil) (ksIn := [1, 3, 18, 21]) (ksOut := [1, 18]) (ksRet := [2]) (k := k) (step := impl_ValidLawn_w0 k) dec_enc_iiil (fun p => by kernel_rfl) (fun s R K => by kernel_rfl) (impl_ValidLawn_step0 k)
theorem impl_ValidLawn_step1 (k : Nat) (R : Type) (K : Ex → St → Option R) (g : St → Option R) (p : Int × (List Int)) : evCode (impl_ValidLawn_C k) (loopP [0] (0, codeOf Try.f78)).2 (loopP [0] (0, codeOf Try.f78)).1 (fSt impl_ValidLawn_t1 (enc_il p)) (loopK tab [1, 18] [] [2] g K) = impl_ValidLawn_w1 k R K (fun p => g (fSt impl_ValidLawn_t1 (enc_il p))) p := by
  kernel_rfl
theorem impl_ValidLawn_lok1 (k : Nat) : LoopOK Try.prog tab (impl_ValidLawn_C k).lo (loopP [0] (0, codeOf Try.f78)).1 (loopP [0] (0, codeOf Try.f78)).2 :=
  loopOK_of (C := impl_ValidLawn_C k) tabOK eqTabOK (oraOf_ok (impl_ValidLawn_es k)) (oraOf_nat (impl_ValidLawn_es k)) follows (forall_getD _ 1 (0, Code.skip) (by kernel_rfl) fun i hi => by
      match i, hi with
      | 0, _ => exact impl_ValidLawn_lok0 k
      | n + 1, h => omega)
    (tm := impl_ValidLawn_t1) (dec := dec_il) (enc := enc_il) (ksIn := [1, 18]) (ksOut := []) (ksRet := [2]) (k := k) (step := impl_ValidLawn_w1 k) dec_enc_il (fun p => by kernel_rfl) (fun s R K => by kernel_rfl) (impl_ValidLawn_step1 k)
def impl_ValidLawn_e (k : Nat) : Ent := (78, callOf [.agg 32] dec_l fun (p : (List Int)) R K => (impl_ValidLawn k p).bind fun (b : Bool) => K ((fV (.bool) (enc_b b)).1, none))
theorem impl_ValidLawn_run (k : Nat) (p : (List Int)) : runF (impl_ValidLawn_C k) Try.f78 false (fL [.agg 32] (enc_l p)).1 (resK (.bool) dec_b) = impl_ValidLawn k p := by
  kernel_rfl
theorem impl_ValidLawn_ok (k : Nat) : EntOK Try.prog tab mvs (impl_ValidLawn_e k) :=
  fn_ok (C := impl_ValidLawn_C k) tabOK eqTabOK (impl_ValidLawn_es k) rfl follows Try.func78 (by kernel_rfl) (by kernel_rfl) rfl (forall_getD _ 1 (0, Code.skip) (by kernel_rfl) fun i hi => by
      match i, hi with
      | 0, _ => exact impl_ValidLawn_lok1 k
      | n + 1, h => omega)
    dec_enc_l dec_enc_b (impl_ValidLawn_run k)

def dec_iiill (ps : List Pay) : Option (Int × Int × Int × (List Int) × (List Int)) := match ps with
  | [.i x1, .i x2, .i x3, .l x4, .l x5] => some (x1, x2, x3, x4, x5)
  | _ => none
def enc_iiill (p : Int × Int × Int × (List Int) × (List Int)) : List Pay := [.i p.1, .i p.2.1, .i p.2.2.1, .l p.2.2.2.1, .l p.2.2.2.2]
theorem dec_enc_iiill : ∀ (ps : List Pay) (p : Int × Int × Int × (List Int) × (List Int)), dec_iiill ps = some p → ps = enc_iiill p := by
  intro ps p h
  unfold dec_iiill at h
  split at h
  · injection h with h
    subst h
    rfl
  · cases h

def dec_ill (ps : List Pay) : Option (Int × (List Int) × (List Int)) := match ps with
  | [.i x1, .l x2, .l x3] => some (x1, x2, x3)
  | _ => none
def enc_ill (p : Int × (List Int) × (List Int)) : List Pay := [.i p.1, .l p.2.1, .l p.2.2]
theorem dec_enc_ill : ∀ (ps : List Pay) (p : Int × (List Int) × (List Int)), dec_ill ps = some p → ps = enc_ill p := by
  intro ps p h
  unfold dec_ill at h
  split at h
  · injection h with h
    subst h
    rfl
  · cases h

def impl_ValidLevels_t0 : StTm := ⟨41, [(2, .ptr 2 0 32), (3, .ptr 3 0 41), (5, .int .i8), (8, .int .i8), (11, .int .i8)], [(2, 32, true, .ints), (3, 41, true, .ints)]⟩
def impl_ValidLevels_t0_1 : StTm := ⟨41, [(4, .bool)], []⟩
def impl_ValidLevels_t0_2 : StTm := ⟨41, [(2, .ptr 2 0 32), (3, .ptr 3 0 41), (8, .int .i8)], [(2, 32, true, .ints), (3, 41, true, .ints)]⟩
def impl_ValidLevels_w0 (k : Nat) (R : Type) (K : Ex → St → Option R) (rec : Int × Int × Int × (List Int) × (List Int) → Option R) (p : Int × Int × Int × (List Int) × (List Int)) : Option R := impl_ValidLevels_s0 k (fun y1 => K .ret (fSt impl_ValidLevels_t0_1 [.b y1])) (fun y1 y2 y3 => K (.exit 2) (fSt impl_ValidLevels_t0_2 [.i y1, .l y2, .l y3])) (fun h1 h2 h3 h4 h5 => rec (h1, h2, h3, h4, h5)) p.1 p.2.1 p.2.2.1 p.2.2.2.1 p.2.2.2.2
def impl_ValidLevels_c0 (k : Nat) : Lcall := lcallOf tab impl_ValidLevels_t0 dec_iiill [2, 3, 5, 8, 11] k (impl_ValidLevels_w0 k)
def impl_ValidLevels_t1 : StTm := ⟨41, [(2, .ptr 2 0 32), (3, .ptr 3 0 41), (8, .int .i8)], [(2, 32, true, .ints), (3, 41, true, .ints)]⟩
def impl_ValidLevels_t1_1 : StTm := ⟨41, [(4, .bool)], []⟩
def impl_ValidLevels_t1_2 : StTm := ⟨41, [(2, .ptr 2 0 32)], [(2, 32, true, .ints)]⟩
def impl_ValidLevels_w1 (k : Nat) (R : Type) (K : Ex → St → Option R) (rec : Int × (List Int) × (List Int) → Option R) (p : Int × (List Int) × (List Int)) : Option R := impl_ValidLevels_s1 k (fun y1 => K .ret (fSt impl_ValidLevels_t1_1 [.b y1])) (fun y1 => K (.exit 0) (fSt impl_ValidLevels_t1_2 [.l y1])) (fun h1 h2 h3 => rec (h1, h2, h3)) p.1 p.2.1 p.2.2
def impl_ValidLevels_c1 (k : Nat) : Lcall := lcallOf tab impl_ValidLevels_t1 dec_ill [2, 3, 8] k (impl_ValidLevels_w1 k)
def impl_ValidLevels_C (k : Nat) : Cfg := ⟨tab, mvs, oraOf [impl_Lawn_grass_e k, impl_ValidLawn_e k], loOf [(2, impl_ValidLevels_c0 k), (0, impl_ValidLevels_c1 k)]⟩
theorem impl_ValidLevels_es (k : Nat) : ∀ e ∈ ([impl_Lawn_grass_e k, impl_ValidLawn_e k] : List Ent), EntOK Try.prog tab mvs e := by
  intro e he
  simp only [List.mem_cons, List.not_mem_nil, or_false] at he
  rcases he with rfl | rfl
  · exact impl_Lawn_grass_ok k
  · exact impl_ValidLawn_ok k
theorem impl_ValidLevels_step0 (k : Nat) (R : Type) (K : Ex → St → Option R) (g : St → Option R) (p : Int × Int × Int × (List Int) × (List Int)) : evCode (impl_ValidLevels_C k) (loopP [0, 0] (0, codeOf Try.f130)).2 (loopP [0, 0] (0, codeOf Try.f130)).1 (fSt impl_ValidLevels_t0 (enc_iiill p)) (loopK tab [2, 3, 5, 8, 11] [2, 3, 8] [4] g K) = impl_ValidLevels_w0 k R K (fun p => g (fSt impl_ValidLevels_t0 (enc_iiill p))) p := by
  kernel_rfl
theorem impl_ValidLevels_lok0 (k : Nat) : LoopOK Try.prog tab (impl_ValidLevels_C k).lo (loopP [0, 0] (0, codeOf Try.f130)).1 (loopP [0, 0] (0, codeOf Try.f130)).2 :=
  loopOK_of (C := impl_ValidLevels_C k) tabOK eqTabOK (oraOf_ok (impl_ValidLevels_es k)) (oraOf_nat (impl_ValidLevels_es k)) follows (forall_getD _ 0 (0, Code.skip) (by kernel_rfl) fun i hi => by
      omega)
    (tm := impl_ValidLevels_t0) (dec := dec_iiill) (enc := enc_iiill) (ksIn := [2, 3, 5, 8, 11]) (ksOut := [2, 3, 8]) (ksRet := [4]) (k := k) (step := impl_ValidLevels_w0 k) dec_enc_iiill (fun p => by kernel_rfl) (fun s R K => by kernel_rfl) (impl_ValidLevels_step0 k)
theorem impl_ValidLevels_step1 (k : Nat) (R : Type) (K : Ex → St → Option R) (g : St → Option R) (p : Int × (List Int) × (List Int)) : evCode (impl_ValidLevels_C k) (loopP [0] (0, codeOf Try.f130)).2 (loopP [0] (0, codeOf Try.f130)).1 (fSt impl_ValidLevels_t1 (enc_ill p)) (loopK tab [2, 3, 8] [2] [4] g K) = impl_ValidLevels_w1 k R K (fun p => g (fSt impl_ValidLevels_t1 (enc_ill p))) p := by
  kernel_rfl
theorem impl_ValidLevels_lok1 (k : Nat) : LoopOK Try.prog tab (impl_ValidLevels_C k).lo (loopP [0] (0, codeOf Try.f130)).1 (loopP [0] (0, codeOf Try.f130)).2 :=
  loopOK_of (C := impl_ValidLevels_C k) tabOK eqTabOK (oraOf_ok (impl_ValidLevels_es k)) (oraOf_nat (impl_ValidLevels_es k)) follows (forall_getD _ 1 (0, Code.skip) (by kernel_rfl) fun i hi => by
      match i, hi with
      | 0, _ => exact impl_ValidLevels_lok0 k
      | n + 1, h => omega)
    (tm := impl_ValidLevels_t1) (dec := dec_ill) (enc := enc_ill) (ksIn := [2, 3, 8]) (ksOut := [2]) (ksRet := [4]) (k := k) (step := impl_ValidLevels_w1 k) dec_enc_ill (fun p => by kernel_rfl) (fun s R K => by kernel_rfl) (impl_ValidLevels_step1 k)
def impl_ValidLevels_e (k : Nat) : Ent := (130, callOf [.agg 32, .agg 41] dec_ll fun (p : (List Int) × (List Int)) R K => (impl_ValidLevels k p.1 p.2).bind fun (b : Bool) => K ((fV (.bool) (enc_b b)).1, none))
theorem impl_ValidLevels_run (k : Nat) (p : (List Int) × (List Int)) : runF (impl_ValidLevels_C k) Try.f130 false (fL [.agg 32, .agg 41] (enc_ll p)).1 (resK (.bool) dec_b) = impl_ValidLevels k p.1 p.2 := by
  kernel_rfl
theorem impl_ValidLevels_ok (k : Nat) : EntOK Try.prog tab mvs (impl_ValidLevels_e k) :=
  fn_ok (C := impl_ValidLevels_C k) tabOK eqTabOK (impl_ValidLevels_es k) rfl follows Try.func130 (by kernel_rfl) (by kernel_rfl) rfl (forall_getD _ 1 (0, Code.skip) (by kernel_rfl) fun i hi => by
      match i, hi with
      | 0, _ => exact impl_ValidLevels_lok1 k
      | n + 1, h => omega)
    dec_enc_ll dec_enc_b (impl_ValidLevels_run k)

def impl_cellsCode_1_C (k : Nat) : Cfg := ⟨tab, mvs, oraOf [impl_Lawn_has_e k], loOf []⟩
theorem impl_cellsCode_1_es (k : Nat) : ∀ e ∈ ([impl_Lawn_has_e k] : List Ent), EntOK Try.prog tab mvs e := by
  intro e he
  simp only [List.mem_cons, List.not_mem_nil, or_false] at he
  rcases he with rfl
  · exact impl_Lawn_has_ok k
def impl_cellsCode_1_e (k : Nat) : Ent := (162, callOf [.agg 29, .pvi (some 32) 0 32] dec_ll fun (p : (List Int) × (List Int)) R K => (impl_cellsCode_1 k p.1 p.2).bind fun (b : Bool) => K ((fV (.bool) (enc_b b)).1, none))
theorem impl_cellsCode_1_run (k : Nat) (p : (List Int) × (List Int)) : runF (impl_cellsCode_1_C k) Try.f162 false (fL [.agg 29, .pvi (some 32) 0 32] (enc_ll p)).1 (resK (.bool) dec_b) = impl_cellsCode_1 k p.1 p.2 := by
  kernel_rfl
theorem impl_cellsCode_1_ok (k : Nat) : EntOK Try.prog tab mvs (impl_cellsCode_1_e k) :=
  fn_ok (C := impl_cellsCode_1_C k) tabOK eqTabOK (impl_cellsCode_1_es k) rfl follows Try.func162 (by kernel_rfl) (by kernel_rfl) rfl (forall_getD _ 0 (0, Code.skip) (by kernel_rfl) fun i hi => by
      omega)
    dec_enc_ll dec_enc_b (impl_cellsCode_1_run k)

def dec_lgii (ps : List Pay) : Option ((List Int) × (List Int → Option Bool) × Int × Int) := match ps with
  | [.l x1, .g x2, .i x3, .i x4] => some (x1, x2, x3, x4)
  | _ => none
def enc_lgii (p : (List Int) × (List Int → Option Bool) × Int × Int) : List Pay := [.l p.1, .g p.2.1, .i p.2.2.1, .i p.2.2.2]
theorem dec_enc_lgii : ∀ (ps : List Pay) (p : (List Int) × (List Int → Option Bool) × Int × Int), dec_lgii ps = some p → ps = enc_lgii p := by
  intro ps p h
  unfold dec_lgii at h
  split at h
  · injection h with h
    subst h
    rfl
  · cases h

def dec_lg (ps : List Pay) : Option ((List Int) × (List Int → Option Bool)) := match ps with
  | [.l x1, .g x2] => some (x1, x2)
  | _ => none
def enc_lg (p : (List Int) × (List Int → Option Bool)) : List Pay := [.l p.1, .g p.2]
theorem dec_enc_lg : ∀ (ps : List Pay) (p : (List Int) × (List Int → Option Bool)), dec_lg ps = some p → ps = enc_lg p := by
  intro ps p h
  unfold dec_lg at h
  split at h
  · injection h with h
    subst h
    rfl
  · cases h

def slices_IndexFunc_impl_Cell_t0 : StTm := ⟨19, [(0, .slv 29), (1, .cloB 29), (7, .int .i64), (8, .int .i64)], []⟩
def slices_IndexFunc_impl_Cell_t0_1 : StTm := ⟨19, [(4, .int .i64)], []⟩
def slices_IndexFunc_impl_Cell_t0_2 : StTm := ⟨19, [], []⟩
def slices_IndexFunc_impl_Cell_w0 (k : Nat) (R : Type) (K : Ex → St → Option R) (rec : (List Int) × (List Int → Option Bool) × Int × Int → Option R) (p : (List Int) × (List Int → Option Bool) × Int × Int) : Option R := slices_IndexFunc_impl_Cell_s0 k (fun y1 => K .ret (fSt slices_IndexFunc_impl_Cell_t0_1 [.i y1])) (K (.exit 0) (fSt slices_IndexFunc_impl_Cell_t0_2 [])) (fun h1 h2 h3 h4 => rec (h1, h2, h3, h4)) p.1 p.2.1 p.2.2.1 p.2.2.2
def slices_IndexFunc_impl_Cell_c0 (k : Nat) : Lcall := lcallOf tab slices_IndexFunc_impl_Cell_t0 dec_lgii [0, 1, 7, 8] k (slices_IndexFunc_impl_Cell_w0 k)
def slices_IndexFunc_impl_Cell_C (k : Nat) : Cfg := ⟨tab, mvs, oraOf [], loOf [(0, slices_IndexFunc_impl_Cell_c0 k)]⟩
theorem slices_IndexFunc_impl_Cell_es (k : Nat) : ∀ e ∈ ([] : List Ent), EntOK Try.prog tab mvs e := by
  intro e he
  simp at he
theorem slices_IndexFunc_impl_Cell_step0 (k : Nat) (R : Type) (K : Ex → St → Option R) (g : St → Option R) (p : (List Int) × (List Int → Option Bool) × Int × Int) : evCode (slices_IndexFunc_impl_Cell_C k) (loopP [0] (0, codeOf Try.f143)).2 (loopP [0] (0, codeOf Try.f143)).1 (fSt slices_IndexFunc_impl_Cell_t0 (enc_lgii p)) (loopK tab [0, 1, 7, 8] [] [4] g K) = slices_IndexFunc_impl_Cell_w0 k R K (fun p => g (fSt slices_IndexFunc_impl_Cell_t0 (enc_lgii p))) p := by
  kernel_rfl
theorem slices_IndexFunc_impl_Cell_lok0 (k : Nat) : LoopOK Try.prog tab (slices_IndexFunc_impl_Cell_C k).lo (loopP [0] (0, codeOf Try.f143)).1 (loopP [0] (0, codeOf Try.f143)).2 :=
  loopOK_of (C := slices_IndexFunc_impl_Cell_C k) tabOK eqTabOK (oraOf_ok (slices_IndexFunc_impl_Cell_es k)) (oraOf_nat (slices_IndexFunc_impl_Cell_es k)) follows (forall_getD _ 0 (0, Code.skip) (by kernel_rfl) fun i hi => by
      omega)
    (tm := slices_IndexFunc_impl_Cell_t0) (dec := dec_lgii) (enc := enc_lgii) (ksIn := [0, 1, 7, 8]) (ksOut := []) (ksRet := [4]) (k := k) (step := slices_IndexFunc_impl_Cell_w0 k) dec_enc_lgii (fun p => by kernel_rfl) (fun s R K => by kernel_rfl) (slices_IndexFunc_impl_Cell_step0 k)
def slices_IndexFunc_impl_Cell_e (k : Nat) : Ent := (143, callOf [.slv 29, .cloB 29] dec_lg fun (p : (List Int) × (List Int → Option Bool)) R K => (slices_IndexFunc_impl_Cell k p.1 p.2).bind fun (b : Int) => K ((fV (.int .i64) (enc_i b)).1, none))
theorem slices_IndexFunc_impl_Cell_run (k : Nat) (p : (List Int) × (List Int → Option Bool)) : runF (slices_IndexFunc_impl_Cell_C k) Try.f143 false (fL [.slv 29, .cloB 29] (enc_lg p)).1 (resK (.int .i64) dec_i) = slices_IndexFunc_impl_Cell k p.1 p.2 := by
  kernel_rfl
theorem slices_IndexFunc_impl_Cell_ok (k : Nat) : EntOK Try.prog tab mvs (slices_IndexFunc_impl_Cell_e k) :=
  fn_ok (C := slices_IndexFunc_impl_Cell_C k) tabOK eqTabOK (slices_IndexFunc_impl_Cell_es k) rfl follows Try.func143 (by kernel_rfl) (by kernel_rfl) rfl (forall_getD _ 1 (0, Code.skip) (by kernel_rfl) fun i hi => by
      match i, hi with
      | 0, _ => exact slices_IndexFunc_impl_Cell_lok0 k
      | n + 1, h => omega)
    dec_enc_lg dec_enc_i (slices_IndexFunc_impl_Cell_run k)

def slices_ContainsFunc_impl_Cell_C (k : Nat) : Cfg := ⟨tab, mvs, oraOf [slices_IndexFunc_impl_Cell_e k], loOf []⟩
theorem slices_ContainsFunc_impl_Cell_es (k : Nat) : ∀ e ∈ ([slices_IndexFunc_impl_Cell_e k] : List Ent), EntOK Try.prog tab mvs e := by
  intro e he
  simp only [List.mem_cons, List.not_mem_nil, or_false] at he
  rcases he with rfl
  · exact slices_IndexFunc_impl_Cell_ok k
def slices_ContainsFunc_impl_Cell_e (k : Nat) : Ent := (89, callOf [.slv 29, .cloB 29] dec_lg fun (p : (List Int) × (List Int → Option Bool)) R K => (slices_ContainsFunc_impl_Cell k p.1 p.2).bind fun (b : Bool) => K ((fV (.bool) (enc_b b)).1, none))
theorem slices_ContainsFunc_impl_Cell_run (k : Nat) (p : (List Int) × (List Int → Option Bool)) : runF (slices_ContainsFunc_impl_Cell_C k) Try.f89 false (fL [.slv 29, .cloB 29] (enc_lg p)).1 (resK (.bool) dec_b) = slices_ContainsFunc_impl_Cell k p.1 p.2 := by
  kernel_rfl
theorem slices_ContainsFunc_impl_Cell_ok (k : Nat) : EntOK Try.prog tab mvs (slices_ContainsFunc_impl_Cell_e k) :=
  fn_ok (C := slices_ContainsFunc_impl_Cell_C k) tabOK eqTabOK (slices_ContainsFunc_impl_Cell_es k) rfl follows Try.func89 (by kernel_rfl) (by kernel_rfl) rfl (forall_getD _ 0 (0, Code.skip) (by kernel_rfl) fun i hi => by
      omega)
    dec_enc_lg dec_enc_b (slices_ContainsFunc_impl_Cell_run k)

def impl_cellsCode_C (k : Nat) : Cfg := ⟨tab, mvs, oraOf [impl_ValidLawn_e k, impl_cellsCode_1_e k, slices_ContainsFunc_impl_Cell_e k], loOf []⟩
theorem impl_cellsCode_es (k : Nat) : ∀ e ∈ ([impl_ValidLawn_e k, impl_cellsCode_1_e k, slices_ContainsFunc_impl_Cell_e k] : List Ent), EntOK Try.prog tab mvs e := by
  intro e he
  simp only [List.mem_cons, List.not_mem_nil, or_false] at he
  rcases he with rfl | rfl | rfl
  · exact impl_ValidLawn_ok k
  · exact impl_cellsCode_1_ok k
  · exact slices_ContainsFunc_impl_Cell_ok k
def impl_cellsCode_e (k : Nat) : Ent := (125, callOf [.agg 32, .slv 29] dec_ll fun (p : (List Int) × (List Int)) R K => (impl_cellsCode k p.1 p.2).bind fun (b : Int) => K ((fV (.int .i64) (enc_i b)).1, none))
theorem impl_cellsCode_run (k : Nat) (p : (List Int) × (List Int)) : runF (impl_cellsCode_C k) Try.f125 false (fL [.agg 32, .slv 29] (enc_ll p)).1 (resK (.int .i64) dec_i) = impl_cellsCode k p.1 p.2 := by
  kernel_rfl
theorem impl_cellsCode_ok (k : Nat) : EntOK Try.prog tab mvs (impl_cellsCode_e k) :=
  fn_ok (C := impl_cellsCode_C k) tabOK eqTabOK (impl_cellsCode_es k) rfl follows Try.func125 (by kernel_rfl) (by kernel_rfl) rfl (forall_getD _ 0 (0, Code.skip) (by kernel_rfl) fun i hi => by
      omega)
    dec_enc_ll dec_enc_i (impl_cellsCode_run k)

def impl_soilCode_C (k : Nat) : Cfg := ⟨tab, mvs, oraOf [impl_ValidLevels_e k, impl_cellsCode_e k], loOf []⟩
theorem impl_soilCode_es (k : Nat) : ∀ e ∈ ([impl_ValidLevels_e k, impl_cellsCode_e k] : List Ent), EntOK Try.prog tab mvs e := by
  intro e he
  simp only [List.mem_cons, List.not_mem_nil, or_false] at he
  rcases he with rfl | rfl
  · exact impl_ValidLevels_ok k
  · exact impl_cellsCode_ok k
def impl_soilCode_e (k : Nat) : Ent := (68, callOf [.agg 32, .agg 41, .slv 29] dec_lll fun (p : (List Int) × (List Int) × (List Int)) R K => (impl_soilCode k p.1 p.2.1 p.2.2).bind fun (b : Int) => K ((fV (.int .i64) (enc_i b)).1, none))
theorem impl_soilCode_run (k : Nat) (p : (List Int) × (List Int) × (List Int)) : runF (impl_soilCode_C k) Try.f68 false (fL [.agg 32, .agg 41, .slv 29] (enc_lll p)).1 (resK (.int .i64) dec_i) = impl_soilCode k p.1 p.2.1 p.2.2 := by
  kernel_rfl
theorem impl_soilCode_ok (k : Nat) : EntOK Try.prog tab mvs (impl_soilCode_e k) :=
  fn_ok (C := impl_soilCode_C k) tabOK eqTabOK (impl_soilCode_es k) rfl follows Try.func68 (by kernel_rfl) (by kernel_rfl) rfl (forall_getD _ 0 (0, Code.skip) (by kernel_rfl) fun i hi => by
      omega)
    dec_enc_lll dec_enc_i (impl_soilCode_run k)

def dec_iiiiill (ps : List Pay) : Option (Int × Int × Int × Int × Int × (List Int) × (List Int)) := match ps with
  | [.i x1, .i x2, .i x3, .i x4, .i x5, .l x6, .l x7] => some (x1, x2, x3, x4, x5, x6, x7)
  | _ => none
def enc_iiiiill (p : Int × Int × Int × Int × Int × (List Int) × (List Int)) : List Pay := [.i p.1, .i p.2.1, .i p.2.2.1, .i p.2.2.2.1, .i p.2.2.2.2.1, .l p.2.2.2.2.2.1, .l p.2.2.2.2.2.2]
theorem dec_enc_iiiiill : ∀ (ps : List Pay) (p : Int × Int × Int × Int × Int × (List Int) × (List Int)), dec_iiiiill ps = some p → ps = enc_iiiiill p := by
  intro ps p h
  unfold dec_iiiiill at h
  split at h
  · injection h with h
    subst h
    rfl
  · cases h

def dec_iill (ps : List Pay) : Option (Int × Int × (List Int) × (List Int)) := match ps with
  | [.i x1, .i x2, .l x3, .l x4] => some (x1, x2, x3, x4)
  | _ => none
def enc_iill (p : Int × Int × (List Int) × (List Int)) : List Pay := [.i p.1, .i p.2.1, .l p.2.2.1, .l p.2.2.2]
theorem dec_enc_iill : ∀ (ps : List Pay) (p : Int × Int × (List Int) × (List Int)), dec_iill ps = some p → ps = enc_iill p := by
  intro ps p h
  unfold dec_iill at h
  split at h
  · injection h with h
    subst h
    rfl
  · cases h

def impl_Lawn_all_t0 : StTm := ⟨26, [(1, .ptr 1 0 32), (3, .slw 3 29), (4, .int .i8), (8, .int .i8), (9, .int .i8), (13, .int .i8), (14, .int .i8)], [(1, 32, true, .ints), (3, 29, false, .ints)]⟩
def impl_Lawn_all_t0_1 : StTm := ⟨26, [(1, .ptr 1 0 32), (3, .slw 3 29), (8, .int .i8), (9, .int .i8)], [(1, 32, true, .ints), (3, 29, false, .ints)]⟩
def impl_Lawn_all_w0 (k : Nat) (R : Type) (K : Ex → St → Option R) (rec : Int × Int × Int × Int × Int × (List Int) × (List Int) → Option R) (p : Int × Int × Int × Int × Int × (List Int) × (List Int)) : Option R := impl_Lawn_all_s0 k (fun y1 y2 y3 y4 => K (.exit 2) (fSt impl_Lawn_all_t0_1 [.i y1, .i y2, .l y3, .l y4])) (fun h1 h2 h3 h4 h5 h6 h7 => rec (h1, h2, h3, h4, h5, h6, h7)) p.1 p.2.1 p.2.2.1 p.2.2.2.1 p.2.2.2.2.1 p.2.2.2.2.2.1 p.2.2.2.2.2.2
def impl_Lawn_all_c0 (k : Nat) : Lcall := lcallOf tab impl_Lawn_all_t0 dec_iiiiill [1, 3, 4, 8, 9, 13, 14] k (impl_Lawn_all_w0 k)
def impl_Lawn_all_t1 : StTm := ⟨26, [(1, .ptr 1 0 32), (3, .slw 3 29), (8, .int .i8), (9, .int .i8)], [(1, 32, true, .ints), (3, 29, false, .ints)]⟩
def impl_Lawn_all_t1_1 : StTm := ⟨26, [(3, .slw 3 29)], [(3, 29, false, .ints)]⟩
def impl_Lawn_all_w1 (k : Nat) (R : Type) (K : Ex → St → Option R) (rec : Int × Int × (List Int) × (List Int) → Option R) (p : Int × Int × (List Int) × (List Int)) : Option R := impl_Lawn_all_s1 k (fun y1 => K (.exit 0) (fSt impl_Lawn_all_t1_1 [.l y1])) (fun h1 h2 h3 h4 => rec (h1, h2, h3, h4)) p.1 p.2.1 p.2.2.1 p.2.2.2
def impl_Lawn_all_c1 (k : Nat) : Lcall := lcallOf tab impl_Lawn_all_t1 dec_iill [1, 3, 8, 9] k (impl_Lawn_all_w1 k)
def impl_Lawn_all_C (k : Nat) : Cfg := ⟨tab, mvs, oraOf [], loOf [(2, impl_Lawn_all_c0 k), (0, impl_Lawn_all_c1 k)]⟩
theorem impl_Lawn_all_es (k : Nat) : ∀ e ∈ ([] : List Ent), EntOK Try.prog tab mvs e := by
  intro e he
  simp at he
theorem impl_Lawn_all_step0 (k : Nat) (R : Type) (K : Ex → St → Option R) (g : St → Option R) (p : Int × Int × Int × Int × Int × (List Int) × (List Int)) : evCode (impl_Lawn_all_C k) (loopP [0, 0] (0, codeOf Try.f132)).2 (loopP [0, 0] (0, codeOf Try.f132)).1 (fSt impl_Lawn_all_t0 (enc_iiiiill p)) (loopK tab [1, 3, 4, 8, 9, 13, 14] [1, 3, 8, 9] [2] g K) = impl_Lawn_all_w0 k R K (fun p => g (fSt impl_Lawn_all_t0 (enc_iiiiill p))) p := by
  kernel_rfl
theorem impl_Lawn_all_lok0 (k : Nat) : LoopOK Try.prog tab (impl_Lawn_all_C k).lo (loopP [0, 0] (0, codeOf Try.f132)).1 (loopP [0, 0] (0, codeOf Try.f132)).2 :=
  loopOK_of (C := impl_Lawn_all_C k) tabOK eqTabOK (oraOf_ok (impl_Lawn_all_es k)) (oraOf_nat (impl_Lawn_all_es k)) follows (forall_getD _ 0 (0, Code.skip) (by kernel_rfl) fun i hi => by
      omega)
    (tm := impl_Lawn_all_t0) (dec := dec_iiiiill) (enc := enc_iiiiill) (ksIn := [1, 3, 4, 8, 9, 13, 14]) (ksOut := [1, 3, 8, 9]) (ksRet := [2]) (k := k) (step := impl_Lawn_all_w0 k) dec_enc_iiiiill (fun p => by kernel_rfl) (fun s R K => by kernel_rfl) (impl_Lawn_all_step0 k)
theorem impl_Lawn_all_step1 (k : Nat) (R : Type) (K : Ex → St → Option R) (g : St → Option R) (p : Int × Int × (List Int) × (List Int)) : evCode (impl_Lawn_all_C k) (loopP [0] (0, codeOf Try.f132)).2 (loopP [0] (0, codeOf Try.f132)).1 (fSt impl_Lawn_all_t1 (enc_iill p)) (loopK tab [1, 3, 8, 9] [3] [2] g K) = impl_Lawn_all_w1 k R K (fun p => g (fSt impl_Lawn_all_t1 (enc_iill p))) p := by
  kernel_rfl
theorem impl_Lawn_all_lok1 (k : Nat) : LoopOK Try.prog tab (impl_Lawn_all_C k).lo (loopP [0] (0, codeOf Try.f132)).1 (loopP [0] (0, codeOf Try.f132)).2 :=
  loopOK_of (C := impl_Lawn_all_C k) tabOK eqTabOK (oraOf_ok (impl_Lawn_all_es k)) (oraOf_nat (impl_Lawn_all_es k)) follows (forall_getD _ 1 (0, Code.skip) (by kernel_rfl) fun i hi => by
      match i, hi with
      | 0, _ => exact impl_Lawn_all_lok0 k
      | n + 1, h => omega)
    (tm := impl_Lawn_all_t1) (dec := dec_iill) (enc := enc_iill) (ksIn := [1, 3, 8, 9]) (ksOut := [3]) (ksRet := [2]) (k := k) (step := impl_Lawn_all_w1 k) dec_enc_iill (fun p => by kernel_rfl) (fun s R K => by kernel_rfl) (impl_Lawn_all_step1 k)
def impl_Lawn_all_e (k : Nat) : Ent := (132, callOf [.agg 32] dec_l fun (p : (List Int)) R K => (impl_Lawn_all k p).bind fun (b : (List Int)) => K ((fV (.slv 29) (enc_l b)).1, none))
theorem impl_Lawn_all_run (k : Nat) (p : (List Int)) : runF (impl_Lawn_all_C k) Try.f132 false (fL [.agg 32] (enc_l p)).1 (resK (.slv 29) dec_l) = impl_Lawn_all k p := by
  kernel_rfl
theorem impl_Lawn_all_ok (k : Nat) : EntOK Try.prog tab mvs (impl_Lawn_all_e k) :=
  fn_ok (C := impl_Lawn_all_C k) tabOK eqTabOK (impl_Lawn_all_es k) rfl follows Try.func132 (by kernel_rfl) (by kernel_rfl) rfl (forall_getD _ 1 (0, Code.skip) (by kernel_rfl) fun i hi => by
      match i, hi with
      | 0, _ => exact impl_Lawn_all_lok1 k
      | n + 1, h => omega)
    dec_enc_l dec_enc_l (impl_Lawn_all_run k)

def impl_Lawn_those_1_C (k : Nat) : Cfg := ⟨tab, mvs, oraOf [], loOf []⟩
theorem impl_Lawn_those_1_es (k : Nat) : ∀ e ∈ ([] : List Ent), EntOK Try.prog tab mvs e := by
  intro e he
  simp at he
def impl_Lawn_those_1_e (k : Nat) : Ent := (133, callOf [.agg 29, .pvv [.cloB 29] 0 103] dec_lg fun (p : (List Int) × (List Int → Option Bool)) R K => (impl_Lawn_those_1 k p.1 p.2).bind fun (b : Bool) => K ((fV (.bool) (enc_b b)).1, none))
theorem impl_Lawn_those_1_run (k : Nat) (p : (List Int) × (List Int → Option Bool)) : runF (impl_Lawn_those_1_C k) Try.f133 false (fL [.agg 29, .pvv [.cloB 29] 0 103] (enc_lg p)).1 (resK (.bool) dec_b) = impl_Lawn_those_1 k p.1 p.2 := by
  kernel_rfl
theorem impl_Lawn_those_1_ok (k : Nat) : EntOK Try.prog tab mvs (impl_Lawn_those_1_e k) :=
  fn_ok (C := impl_Lawn_those_1_C k) tabOK eqTabOK (impl_Lawn_those_1_es k) rfl follows Try.func133 (by kernel_rfl) (by kernel_rfl) rfl (forall_getD _ 0 (0, Code.skip) (by kernel_rfl) fun i hi => by
      omega)
    dec_enc_lg dec_enc_b (impl_Lawn_those_1_run k)

def dec_giil (ps : List Pay) : Option ((List Int → Option Bool) × Int × Int × (List Int)) := match ps with
  | [.g x1, .i x2, .i x3, .l x4] => some (x1, x2, x3, x4)
  | _ => none
def enc_giil (p : (List Int → Option Bool) × Int × Int × (List Int)) : List Pay := [.g p.1, .i p.2.1, .i p.2.2.1, .l p.2.2.2]
theorem dec_enc_giil : ∀ (ps : List Pay) (p : (List Int → Option Bool) × Int × Int × (List Int)), dec_giil ps = some p → ps = enc_giil p := by
  intro ps p h
  unfold dec_giil at h
  split at h
  · injection h with h
    subst h
    rfl
  · cases h

def slices_DeleteFunc_impl_Cell_t0 : StTm := ⟨42, [(0, .slw 42 29), (1, .cloB 29), (5, .int .i64), (6, .int .i64)], [(42, 29, false, .ints)]⟩
def slices_DeleteFunc_impl_Cell_t0_1 : StTm := ⟨42, [(0, .slw 42 29), (5, .int .i64)], [(42, 29, false, .ints)]⟩
def slices_DeleteFunc_impl_Cell_w0 (k : Nat) (R : Type) (K : Ex → St → Option R) (rec : (List Int → Option Bool) × Int × Int × (List Int) → Option R) (p : (List Int → Option Bool) × Int × Int × (List Int)) : Option R := slices_DeleteFunc_impl_Cell_s0 k (fun y1 y2 => K (.exit 0) (fSt slices_DeleteFunc_impl_Cell_t0_1 [.i y1, .l y2])) (fun h1 h2 h3 h4 => rec (h1, h2, h3, h4)) p.1 p.2.1 p.2.2.1 p.2.2.2
def slices_DeleteFunc_impl_Cell_c0 (k : Nat) : Lcall := lcallOf tab slices_DeleteFunc_impl_Cell_t0 dec_giil [0, 1, 5, 6] k (slices_DeleteFunc_impl_Cell_w0 k)
def slices_DeleteFunc_impl_Cell_C (k : Nat) : Cfg := ⟨tab, mvs, oraOf [slices_IndexFunc_impl_Cell_e k], loOf [(0, slices_DeleteFunc_impl_Cell_c0 k)]⟩
theorem slices_DeleteFunc_impl_Cell_es (k : Nat) : ∀ e ∈ ([slices_IndexFunc_impl_Cell_e k] : List Ent), EntOK Try.prog tab mvs e := by
  intro e he
  simp only [List.mem_cons, List.not_mem_nil, or_false] at he
  rcases he with rfl
  · exact slices_IndexFunc_impl_Cell_ok k
theorem slices_DeleteFunc_impl_Cell_step0 (k : Nat) (R : Type) (K : Ex → St → Option R) (g : St → Option R) (p : (List Int → Option Bool) × Int × Int × (List Int)) : evCode (slices_DeleteFunc_impl_Cell_C k) (loopP [0] (0, codeOf Try.f131)).2 (loopP [0] (0, codeOf Try.f131)).1 (fSt slices_DeleteFunc_impl_Cell_t0 (enc_giil p)) (loopK tab [0, 1, 5, 6] [0, 5] [4] g K) = slices_DeleteFunc_impl_Cell_w0 k R K (fun p => g (fSt slices_DeleteFunc_impl_Cell_t0 (enc_giil p))) p := by
  kernel_rfl
theorem slices_DeleteFunc_impl_Cell_lok0 (k : Nat) : LoopOK Try.prog tab (slices_DeleteFunc_impl_Cell_C k).lo (loopP [0] (0, codeOf Try.f131)).1 (loopP [0] (0, codeOf Try.f131)).2 :=
  loopOK_of (C := slices_DeleteFunc_impl_Cell_C k) tabOK eqTabOK (oraOf_ok (slices_DeleteFunc_impl_Cell_es k)) (oraOf_nat (slices_DeleteFunc_impl_Cell_es k)) follows (forall_getD _ 0 (0, Code.skip) (by kernel_rfl) fun i hi => by
      omega)
    (tm := slices_DeleteFunc_impl_Cell_t0) (dec := dec_giil) (enc := enc_giil) (ksIn := [0, 1, 5, 6]) (ksOut := [0, 5]) (ksRet := [4]) (k := k) (step := slices_DeleteFunc_impl_Cell_w0 k) dec_enc_giil (fun p => by kernel_rfl) (fun s R K => by kernel_rfl) (slices_DeleteFunc_impl_Cell_step0 k)
def slices_DeleteFunc_impl_Cell_e (k : Nat) : Ent := (131, callOf [.slv 29, .cloB 29] dec_lg fun (p : (List Int) × (List Int → Option Bool)) R K => (slices_DeleteFunc_impl_Cell k p.1 p.2).bind fun (b : (List Int)) => K ((fV (.slv 29) (enc_l b)).1, none))
theorem slices_DeleteFunc_impl_Cell_run (k : Nat) (p : (List Int) × (List Int → Option Bool)) : runF (slices_DeleteFunc_impl_Cell_C k) Try.f131 true (fL [.slv 29, .cloB 29] (enc_lg p)).1 (resK (.slv 29) dec_l) = slices_DeleteFunc_impl_Cell k p.1 p.2 := by
  kernel_rfl
theorem slices_DeleteFunc_impl_Cell_ok (k : Nat) : EntOK Try.prog tab mvs (slices_DeleteFunc_impl_Cell_e k) :=
  fnm_ok (C := slices_DeleteFunc_impl_Cell_C k) tabOK eqTabOK (slices_DeleteFunc_impl_Cell_es k) rfl follows Try.func131 (by kernel_rfl) (by kernel_rfl) rfl (forall_getD _ 1 (0, Code.skip) (by kernel_rfl) fun i hi => by
      match i, hi with
      | 0, _ => exact slices_DeleteFunc_impl_Cell_lok0 k
      | n + 1, h => omega)
    dec_enc_lg dec_enc_l (slices_DeleteFunc_impl_Cell_run k)

def impl_Lawn_those_C (k : Nat) : Cfg := ⟨tab, mvs, oraOf [impl_Lawn_all_e k, impl_Lawn_those_1_e k, slices_DeleteFunc_impl_Cell_e k], loOf []⟩
theorem impl_Lawn_those_es (k : Nat) : ∀ e ∈ ([impl_Lawn_all_e k, impl_Lawn_those_1_e k, slices_DeleteFunc_impl_Cell_e k] : List Ent), EntOK Try.prog tab mvs e := by
  intro e he
  simp only [List.mem_cons, List.not_mem_nil, or_false] at he
  rcases he with rfl | rfl | rfl
  · exact impl_Lawn_all_ok k
  · exact impl_Lawn_those_1_ok k
  · exact slices_DeleteFunc_impl_Cell_ok k
def impl_Lawn_those_e (k : Nat) : Ent := (70, callOf [.agg 32, .cloB 29] dec_lg fun (p : (List Int) × (List Int → Option Bool)) R K => (impl_Lawn_those k p.1 p.2).bind fun (b : (List Int)) => K ((fV (.slv 29) (enc_l b)).1, none))
theorem impl_Lawn_those_run (k : Nat) (p : (List Int) × (List Int → Option Bool)) : runF (impl_Lawn_those_C k) Try.f70 false (fL [.agg 32, .cloB 29] (enc_lg p)).1 (resK (.slv 29) dec_l) = impl_Lawn_those k p.1 p.2 := by
  kernel_rfl
theorem impl_Lawn_those_ok (k : Nat) : EntOK Try.prog tab mvs (impl_Lawn_those_e k) :=
  fn_ok (C := impl_Lawn_those_C k) tabOK eqTabOK (impl_Lawn_those_es k) rfl follows Try.func70 (by kernel_rfl) (by kernel_rfl) rfl (forall_getD _ 0 (0, Code.skip) (by kernel_rfl) fun i hi => by
      omega)
    dec_enc_lg dec_enc_l (impl_Lawn_those_run k)

def impl_beside_C (k : Nat) : Cfg := ⟨tab, mvs, oraOf [], loOf []⟩
theorem impl_beside_es (k : Nat) : ∀ e ∈ ([] : List Ent), EntOK Try.prog tab mvs e := by
  intro e he
  simp at he
def impl_beside_e (k : Nat) : Ent := (72, callOf [.agg 29] dec_l fun (p : (List Int)) R K => (impl_beside k p).bind fun (b : (List Int)) => K ((fV (.slv 29) (enc_l b)).1, none))
theorem impl_beside_run (k : Nat) (p : (List Int)) : runF (impl_beside_C k) Try.f72 false (fL [.agg 29] (enc_l p)).1 (resK (.slv 29) dec_l) = impl_beside k p := by
  kernel_rfl
theorem impl_beside_ok (k : Nat) : EntOK Try.prog tab mvs (impl_beside_e k) :=
  fn_ok (C := impl_beside_C k) tabOK eqTabOK (impl_beside_es k) rfl follows Try.func72 (by kernel_rfl) (by kernel_rfl) rfl (forall_getD _ 0 (0, Code.skip) (by kernel_rfl) fun i hi => by
      omega)
    dec_enc_l dec_enc_l (impl_beside_run k)

def impl_Levels_of_C (k : Nat) : Cfg := ⟨tab, mvs, oraOf [], loOf []⟩
theorem impl_Levels_of_es (k : Nat) : ∀ e ∈ ([] : List Ent), EntOK Try.prog tab mvs e := by
  intro e he
  simp at he
def impl_Levels_of_e (k : Nat) : Ent := (73, callOf [.agg 41, .agg 29] dec_ll fun (p : (List Int) × (List Int)) R K => (impl_Levels_of k p.1 p.2).bind fun (b : Int) => K ((fV (.int .i64) (enc_i b)).1, none))
theorem impl_Levels_of_run (k : Nat) (p : (List Int) × (List Int)) : runF (impl_Levels_of_C k) Try.f73 false (fL [.agg 41, .agg 29] (enc_ll p)).1 (resK (.int .i64) dec_i) = impl_Levels_of k p.1 p.2 := by
  kernel_rfl
theorem impl_Levels_of_ok (k : Nat) : EntOK Try.prog tab mvs (impl_Levels_of_e k) :=
  fn_ok (C := impl_Levels_of_C k) tabOK eqTabOK (impl_Levels_of_es k) rfl follows Try.func73 (by kernel_rfl) (by kernel_rfl) rfl (forall_getD _ 0 (0, Code.skip) (by kernel_rfl) fun i hi => by
      omega)
    dec_enc_ll dec_enc_i (impl_Levels_of_run k)

def dec_iiiiiilllll (ps : List Pay) : Option (Int × Int × Int × Int × Int × Int × (List Int) × (List Int) × (List Int) × (List Int) × (List Int)) := match ps with
  | [.i x1, .i x2, .i x3, .i x4, .i x5, .i x6, .l x7, .l x8, .l x9, .l x10, .l x11] => some (x1, x2, x3, x4, x5, x6, x7, x8, x9, x10, x11)
  | _ => none
def enc_iiiiiilllll (p : Int × Int × Int × Int × Int × Int × (List Int) × (List Int) × (List Int) × (List Int) × (List Int)) : List Pay := [.i p.1, .i p.2.1, .i p.2.2.1, .i p.2.2.2.1, .i p.2.2.2.2.1, .i p.2.2.2.2.2.1, .l p.2.2.2.2.2.2.1, .l p.2.2.2.2.2.2.2.1, .l p.2.2.2.2.2.2.2.2.1, .l p.2.2.2.2.2.2.2.2.2.1, .l p.2.2.2.2.2.2.2.2.2.2]
theorem dec_enc_iiiiiilllll : ∀ (ps : List Pay) (p : Int × Int × Int × Int × Int × Int × (List Int) × (List Int) × (List Int) × (List Int) × (List Int)), dec_iiiiiilllll ps = some p → ps = enc_iiiiiilllll p := by
  intro ps p h
  unfold dec_iiiiiilllll at h
  split at h
  · injection h with h
    subst h
    rfl
  · cases h

def dec_iiiilll (ps : List Pay) : Option (Int × Int × Int × Int × (List Int) × (List Int) × (List Int)) := match ps with
  | [.i x1, .i x2, .i x3, .i x4, .l x5, .l x6, .l x7] => some (x1, x2, x3, x4, x5, x6, x7)
  | _ => none
def enc_iiiilll (p : Int × Int × Int × Int × (List Int) × (List Int) × (List Int)) : List Pay := [.i p.1, .i p.2.1, .i p.2.2.1, .i p.2.2.2.1, .l p.2.2.2.2.1, .l p.2.2.2.2.2.1, .l p.2.2.2.2.2.2]
theorem dec_enc_iiiilll : ∀ (ps : List Pay) (p : Int × Int × Int × Int × (List Int) × (List Int) × (List Int)), dec_iiiilll ps = some p → ps = enc_iiiilll p := by
  intro ps p h
  unfold dec_iiiilll at h
  split at h
  · injection h with h
    subst h
    rfl
  · cases h

def impl_SteepSteps_t0 : StTm := ⟨71, [(2, .int .i64), (3, .ptr 3 0 32), (4, .ptr 4 0 41), (9, .int .i64), (11, .ptr 11 0 29), (30, .slw 30 29), (31, .int .i64), (32, .int .i64), (38, .slw 38 29), (39, .int .i64), (40, .int .i64)], [(3, 32, true, .ints), (4, 41, true, .ints), (11, 29, true, .ints), (30, 29, false, .ints), (38, 29, false, .ints)]⟩
def impl_SteepSteps_t0_1 : StTm := ⟨71, [(2, .int .i64), (3, .ptr 3 0 32), (4, .ptr 4 0 41), (9, .int .i64), (30, .slw 30 29), (31, .int .i64), (32, .int .i64)], [(3, 32, true, .ints), (4, 41, true, .ints), (30, 29, false, .ints)]⟩
def impl_SteepSteps_w0 (k : Nat) (R : Type) (K : Ex → St → Option R) (rec : Int × Int × Int × Int × Int × Int × (List Int) × (List Int) × (List Int) × (List Int) × (List Int) → Option R) (p : Int × Int × Int × Int × Int × Int × (List Int) × (List Int) × (List Int) × (List Int) × (List Int)) : Option R := impl_SteepSteps_s0 k (fun y1 y2 y3 y4 y5 y6 y7 => K (.exit 2) (fSt impl_SteepSteps_t0_1 [.i y1, .i y2, .i y3, .i y4, .l y5, .l y6, .l y7])) (fun h1 h2 h3 h4 h5 h6 h7 h8 h9 h10 h11 => rec (h1, h2, h3, h4, h5, h6, h7, h8, h9, h10, h11)) p.1 p.2.1 p.2.2.1 p.2.2.2.1 p.2.2.2.2.1 p.2.2.2.2.2.1 p.2.2.2.2.2.2.1 p.2.2.2.2.2.2.2.1 p.2.2.2.2.2.2.2.2.1 p.2.2.2.2.2.2.2.2.2.1 p.2.2.2.2.2.2.2.2.2.2
def impl_SteepSteps_c0 (k : Nat) : Lcall := lcallOf tab impl_SteepSteps_t0 dec_iiiiiilllll [2, 3, 4, 9, 11, 30, 31, 32, 38, 39, 40] k (impl_SteepSteps_w0 k)
def impl_SteepSteps_t1 : StTm := ⟨71, [(2, .int .i64), (3, .ptr 3 0 32), (4, .ptr 4 0 41), (9, .int .i64), (30, .slw 30 29), (31, .int .i64), (32, .int .i64)], [(3, 32, true, .ints), (4, 41, true, .ints), (30, 29, false, .ints)]⟩
def impl_SteepSteps_t1_1 : StTm := ⟨71, [(9, .int .i64)], []⟩
def impl_SteepSteps_w1 (k : Nat) (R : Type) (K : Ex → St → Option R) (rec : Int × Int × Int × Int × (List Int) × (List Int) × (List Int) → Option R) (p : Int × Int × Int × Int × (List Int) × (List Int) × (List Int)) : Option R := impl_SteepSteps_s1 k (fun y1 => K (.exit 0) (fSt impl_SteepSteps_t1_1 [.i y1])) (fun h1 h2 h3 h4 h5 h6 h7 => rec (h1, h2, h3, h4, h5, h6, h7)) p.1 p.2.1 p.2.2.1 p.2.2.2.1 p.2.2.2.2.1 p.2.2.2.2.2.1 p.2.2.2.2.2.2
def impl_SteepSteps_c1 (k : Nat) : Lcall := lcallOf tab impl_SteepSteps_t1 dec_iiiilll [2, 3, 4, 9, 30, 31, 32] k (impl_SteepSteps_w1 k)
def impl_SteepSteps_C (k : Nat) : Cfg := ⟨tab, mvs, oraOf [impl_soilCode_e k, impl_within_e k, impl_Lawn_grass_e k, impl_Lawn_those_e k, impl_beside_e k, impl_Levels_of_e k], loOf [(2, impl_SteepSteps_c0 k), (0, impl_SteepSteps_c1 k)]⟩
theorem impl_SteepSteps_es (k : Nat) : ∀ e ∈ ([impl_soilCode_e k, impl_within_e k, impl_Lawn_grass_e k, impl_Lawn_those_e k, impl_beside_e k, impl_Levels_of_e k] : List Ent), EntOK Try.prog tab mvs e := by
  intro e he
  simp only [List.mem_cons, List.not_mem_nil, or_false] at he
  rcases he with rfl | rfl | rfl | rfl | rfl | rfl
  · exact impl_soilCode_ok k
  · exact impl_within_ok k
  · exact impl_Lawn_grass_ok k
  · exact impl_Lawn_those_ok k
  · exact impl_beside_ok k
  · exact impl_Levels_of_ok k
theorem impl_SteepSteps_step0 (k : Nat) (R : Type) (K : Ex → St → Option R) (g : St → Option R) (p : Int × Int × Int × Int × Int × Int × (List Int) × (List Int) × (List Int) × (List Int) × (List Int)) : evCode (impl_SteepSteps_C k) (loopP [0, 0] (0, codeOf Try.f22)).2 (loopP [0, 0] (0, codeOf Try.f22)).1 (fSt impl_SteepSteps_t0 (enc_iiiiiilllll p)) (loopK tab [2, 3, 4, 9, 11, 30, 31, 32, 38, 39, 40] [2, 3, 4, 9, 30, 31, 32] [6, 7] g K) = impl_SteepSteps_w0 k R K (fun p => g (fSt impl_SteepSteps_t0 (enc_iiiiiilllll p))) p := by
  kernel_rfl
theorem impl_SteepSteps_lok0 (k : Nat) : LoopOK Try.prog tab (impl_SteepSteps_C k).lo (loopP [0, 0] (0, codeOf Try.f22)).1 (loopP [0, 0] (0, codeOf Try.f22)).2 :=
  loopOK_of (C := impl_SteepSteps_C k) tabOK eqTabOK (oraOf_ok (impl_SteepSteps_es k)) (oraOf_nat (impl_SteepSteps_es k)) follows (forall_getD _ 0 (0, Code.skip) (by kernel_rfl) fun i hi => by
      omega)
    (tm := impl_SteepSteps_t0) (dec := dec_iiiiiilllll) (enc := enc_iiiiiilllll) (ksIn := [2, 3, 4, 9, 11, 30, 31, 32, 38, 39, 40]) (ksOut := [2, 3, 4, 9, 30, 31, 32]) (ksRet := [6, 7]) (k := k) (step := impl_SteepSteps_w0 k) dec_enc_iiiiiilllll (fun p => by kernel_rfl) (fun s R K => by kernel_rfl) (impl_SteepSteps_step0 k)
theorem impl_SteepSteps_step1 (k : Nat) (R : Type) (K : Ex → St → Option R) (g : St → Option R) (p : Int × Int × Int × Int × (List Int) × (List Int) × (List Int)) : evCode (impl_SteepSteps_C k) (loopP [0] (0, codeOf Try.f22)).2 (loopP [0] (0, codeOf Try.f22)).1 (fSt impl_SteepSteps_t1 (enc_iiiilll p)) (loopK tab [2, 3, 4, 9, 30, 31, 32] [9] [6, 7] g K) = impl_SteepSteps_w1 k R K (fun p => g (fSt impl_SteepSteps_t1 (enc_iiiilll p))) p := by
  kernel_rfl
theorem impl_SteepSteps_lok1 (k : Nat) : LoopOK Try.prog tab (impl_SteepSteps_C k).lo (loopP [0] (0, codeOf Try.f22)).1 (loopP [0] (0, codeOf Try.f22)).2 :=
  loopOK_of (C := impl_SteepSteps_C k) tabOK eqTabOK (oraOf_ok (impl_SteepSteps_es k)) (oraOf_nat (impl_SteepSteps_es k)) follows (forall_getD _ 1 (0, Code.skip) (by kernel_rfl) fun i hi => by
      match i, hi with
      | 0, _ => exact impl_SteepSteps_lok0 k
      | n + 1, h => omega)
    (tm := impl_SteepSteps_t1) (dec := dec_iiiilll) (enc := enc_iiiilll) (ksIn := [2, 3, 4, 9, 30, 31, 32]) (ksOut := [9]) (ksRet := [6, 7]) (k := k) (step := impl_SteepSteps_w1 k) dec_enc_iiiilll (fun p => by kernel_rfl) (fun s R K => by kernel_rfl) (impl_SteepSteps_step1 k)
def impl_SteepSteps_e (k : Nat) : Ent := (22, callOf [.agg 32, .agg 41, .int .i64] dec_lli fun (p : (List Int) × (List Int) × Int) R K => (impl_SteepSteps k p.1 p.2.1 p.2.2).bind fun (b : Int × Int) => K ((fV (.tup [.int .i64, .int .i64]) (enc_ii b)).1, none))
theorem impl_SteepSteps_run (k : Nat) (p : (List Int) × (List Int) × Int) : runF (impl_SteepSteps_C k) Try.f22 false (fL [.agg 32, .agg 41, .int .i64] (enc_lli p)).1 (resK (.tup [.int .i64, .int .i64]) dec_ii) = impl_SteepSteps k p.1 p.2.1 p.2.2 := by
  kernel_rfl
theorem impl_SteepSteps_ok (k : Nat) : EntOK Try.prog tab mvs (impl_SteepSteps_e k) :=
  fn_ok (C := impl_SteepSteps_C k) tabOK eqTabOK (impl_SteepSteps_es k) rfl follows Try.func22 (by kernel_rfl) (by kernel_rfl) rfl (forall_getD _ 1 (0, Code.skip) (by kernel_rfl) fun i hi => by
      match i, hi with
      | 0, _ => exact impl_SteepSteps_lok1 k
      | n + 1, h => omega)
    dec_enc_lli dec_enc_ii (impl_SteepSteps_run k)

def laws_FnExactSteepSteps_C (k : Nat) : Cfg := ⟨tab, mvs, oraOf [laws_toLawn_e k, laws_toLevels_e k, spec_SteepSteps_e k, impl_SteepSteps_e k], loOf []⟩
theorem laws_FnExactSteepSteps_es (k : Nat) : ∀ e ∈ ([laws_toLawn_e k, laws_toLevels_e k, spec_SteepSteps_e k, impl_SteepSteps_e k] : List Ent), EntOK Try.prog tab mvs e := by
  intro e he
  simp only [List.mem_cons, List.not_mem_nil, or_false] at he
  rcases he with rfl | rfl | rfl | rfl
  · exact laws_toLawn_ok k
  · exact laws_toLevels_ok k
  · exact spec_SteepSteps_ok k
  · exact impl_SteepSteps_ok k
def laws_FnExactSteepSteps_e (k : Nat) : Ent := (4, callOf [.agg 26, .agg 38, .int .i64] dec_lli fun (p : (List Int) × (List Int) × Int) R K => (laws_FnExactSteepSteps k p.1 p.2.1 p.2.2).bind fun (b : Bool) => K ((fV (.bool) (enc_b b)).1, none))
theorem laws_FnExactSteepSteps_run (k : Nat) (p : (List Int) × (List Int) × Int) : runF (laws_FnExactSteepSteps_C k) Try.f4 false (fL [.agg 26, .agg 38, .int .i64] (enc_lli p)).1 (resK (.bool) dec_b) = laws_FnExactSteepSteps k p.1 p.2.1 p.2.2 := by
  kernel_rfl
theorem laws_FnExactSteepSteps_ok (k : Nat) : EntOK Try.prog tab mvs (laws_FnExactSteepSteps_e k) :=
  fn_ok (C := laws_FnExactSteepSteps_C k) tabOK eqTabOK (laws_FnExactSteepSteps_es k) rfl follows Try.func4 (by kernel_rfl) (by kernel_rfl) rfl (forall_getD _ 0 (0, Code.skip) (by kernel_rfl) fun i hi => by
      omega)
    dec_enc_lli dec_enc_b (laws_FnExactSteepSteps_run k)

def dec_iilll (ps : List Pay) : Option (Int × Int × (List Int) × (List Int) × (List Int)) := match ps with
  | [.i x1, .i x2, .l x3, .l x4, .l x5] => some (x1, x2, x3, x4, x5)
  | _ => none
def enc_iilll (p : Int × Int × (List Int) × (List Int) × (List Int)) : List Pay := [.i p.1, .i p.2.1, .l p.2.2.1, .l p.2.2.2.1, .l p.2.2.2.2]
theorem dec_enc_iilll : ∀ (ps : List Pay) (p : Int × Int × (List Int) × (List Int) × (List Int)), dec_iilll ps = some p → ps = enc_iilll p := by
  intro ps p h
  unfold dec_iilll at h
  split at h
  · injection h with h
    subst h
    rfl
  · cases h

def spec_HillsIn_t0 : StTm := ⟨42, [(2, .int .i64), (4, .ptr 4 0 41), (8, .slw 8 29), (10, .slw 10 29), (11, .int .i64)], [(4, 41, true, .ints), (8, 29, false, .ints), (10, 29, false, .ints)]⟩
def spec_HillsIn_t0_1 : StTm := ⟨42, [(8, .slw 8 29)], [(8, 29, false, .ints)]⟩
def spec_HillsIn_w0 (k : Nat) (R : Type) (K : Ex → St → Option R) (rec : Int × Int × (List Int) × (List Int) × (List Int) → Option R) (p : Int × Int × (List Int) × (List Int) × (List Int)) : Option R := spec_HillsIn_s0 k (fun y1 => K (.exit 0) (fSt spec_HillsIn_t0_1 [.l y1])) (fun h1 h2 h3 h4 h5 => rec (h1, h2, h3, h4, h5)) p.1 p.2.1 p.2.2.1 p.2.2.2.1 p.2.2.2.2
def spec_HillsIn_c0 (k : Nat) : Lcall := lcallOf tab spec_HillsIn_t0 dec_iilll [2, 4, 8, 10, 11] k (spec_HillsIn_w0 k)
def spec_HillsIn_C (k : Nat) : Cfg := ⟨tab, mvs, oraOf [spec_l06Level_e k, spec_l06Asked_e k, spec_l01Cells_e k, spec_l06At_e k], loOf [(0, spec_HillsIn_c0 k)]⟩
theorem spec_HillsIn_es (k : Nat) : ∀ e ∈ ([spec_l06Level_e k, spec_l06Asked_e k, spec_l01Cells_e k, spec_l06At_e k] : List Ent), EntOK Try.prog tab mvs e := by
  intro e he
  simp only [List.mem_cons, List.not_mem_nil, or_false] at he
  rcases he with rfl | rfl | rfl | rfl
  · exact spec_l06Level_ok k
  · exact spec_l06Asked_ok k
  · exact spec_l01Cells_ok k
  · exact spec_l06At_ok k
theorem spec_HillsIn_step0 (k : Nat) (R : Type) (K : Ex → St → Option R) (g : St → Option R) (p : Int × Int × (List Int) × (List Int) × (List Int)) : evCode (spec_HillsIn_C k) (loopP [0] (0, codeOf Try.f26)).2 (loopP [0] (0, codeOf Try.f26)).1 (fSt spec_HillsIn_t0 (enc_iilll p)) (loopK tab [2, 4, 8, 10, 11] [8] [6, 7] g K) = spec_HillsIn_w0 k R K (fun p => g (fSt spec_HillsIn_t0 (enc_iilll p))) p := by
  kernel_rfl
theorem spec_HillsIn_lok0 (k : Nat) : LoopOK Try.prog tab (spec_HillsIn_C k).lo (loopP [0] (0, codeOf Try.f26)).1 (loopP [0] (0, codeOf Try.f26)).2 :=
  loopOK_of (C := spec_HillsIn_C k) tabOK eqTabOK (oraOf_ok (spec_HillsIn_es k)) (oraOf_nat (spec_HillsIn_es k)) follows (forall_getD _ 0 (0, Code.skip) (by kernel_rfl) fun i hi => by
      omega)
    (tm := spec_HillsIn_t0) (dec := dec_iilll) (enc := enc_iilll) (ksIn := [2, 4, 8, 10, 11]) (ksOut := [8]) (ksRet := [6, 7]) (k := k) (step := spec_HillsIn_w0 k) dec_enc_iilll (fun p => by kernel_rfl) (fun s R K => by kernel_rfl) (spec_HillsIn_step0 k)
def spec_HillsIn_e (k : Nat) : Ent := (26, callOf [.agg 32, .agg 41, .int .i64] dec_lli fun (p : (List Int) × (List Int) × Int) R K => (spec_HillsIn k p.1 p.2.1 p.2.2).bind fun (b : (List Int) × Int) => K ((fV (.tup [.slv 29, .int .i64]) (enc_li b)).1, none))
theorem spec_HillsIn_run (k : Nat) (p : (List Int) × (List Int) × Int) : runF (spec_HillsIn_C k) Try.f26 false (fL [.agg 32, .agg 41, .int .i64] (enc_lli p)).1 (resK (.tup [.slv 29, .int .i64]) dec_li) = spec_HillsIn k p.1 p.2.1 p.2.2 := by
  kernel_rfl
theorem spec_HillsIn_ok (k : Nat) : EntOK Try.prog tab mvs (spec_HillsIn_e k) :=
  fn_ok (C := spec_HillsIn_C k) tabOK eqTabOK (spec_HillsIn_es k) rfl follows Try.func26 (by kernel_rfl) (by kernel_rfl) rfl (forall_getD _ 1 (0, Code.skip) (by kernel_rfl) fun i hi => by
      match i, hi with
      | 0, _ => exact spec_HillsIn_lok0 k
      | n + 1, h => omega)
    dec_enc_lli dec_enc_li (spec_HillsIn_run k)

def dec_llll (ps : List Pay) : Option ((List Int) × (List Int) × (List Int) × (List Int)) := match ps with
  | [.l x1, .l x2, .l x3, .l x4] => some (x1, x2, x3, x4)
  | _ => none
def enc_llll (p : (List Int) × (List Int) × (List Int) × (List Int)) : List Pay := [.l p.1, .l p.2.1, .l p.2.2.1, .l p.2.2.2]
theorem dec_enc_llll : ∀ (ps : List Pay) (p : (List Int) × (List Int) × (List Int) × (List Int)), dec_llll ps = some p → ps = enc_llll p := by
  intro ps p h
  unfold dec_llll at h
  split at h
  · injection h with h
    subst h
    rfl
  · cases h

def impl_HillsIn_1_C (k : Nat) : Cfg := ⟨tab, mvs, oraOf [impl_Lawn_grass_e k, impl_Levels_of_e k], loOf []⟩
theorem impl_HillsIn_1_es (k : Nat) : ∀ e ∈ ([impl_Lawn_grass_e k, impl_Levels_of_e k] : List Ent), EntOK Try.prog tab mvs e := by
  intro e he
  simp only [List.mem_cons, List.not_mem_nil, or_false] at he
  rcases he with rfl | rfl
  · exact impl_Lawn_grass_ok k
  · exact impl_Levels_of_ok k
def impl_HillsIn_1_e (k : Nat) : Ent := (83, callOf [.agg 29, .pvi (some 32) 0 32, .pvi (some 41) 0 41, .pvi (some 2) 0 2] dec_llll fun (p : (List Int) × (List Int) × (List Int) × (List Int)) R K => (impl_HillsIn_1 k p.1 p.2.1 p.2.2.1 p.2.2.2).bind fun (b : Bool) => K ((fV (.bool) (enc_b b)).1, none))
theorem impl_HillsIn_1_run (k : Nat) (p : (List Int) × (List Int) × (List Int) × (List Int)) : runF (impl_HillsIn_1_C k) Try.f83 false (fL [.agg 29, .pvi (some 32) 0 32, .pvi (some 41) 0 41, .pvi (some 2) 0 2] (enc_llll p)).1 (resK (.bool) dec_b) = impl_HillsIn_1 k p.1 p.2.1 p.2.2.1 p.2.2.2 := by
  kernel_rfl
theorem impl_HillsIn_1_ok (k : Nat) : EntOK Try.prog tab mvs (impl_HillsIn_1_e k) :=
  fn_ok (C := impl_HillsIn_1_C k) tabOK eqTabOK (impl_HillsIn_1_es k) rfl follows Try.func83 (by kernel_rfl) (by kernel_rfl) rfl (forall_getD _ 0 (0, Code.skip) (by kernel_rfl) fun i hi => by
      omega)
    dec_enc_llll dec_enc_b (impl_HillsIn_1_run k)

def impl_HillsIn_C (k : Nat) : Cfg := ⟨tab, mvs, oraOf [impl_soilCode_e k, impl_within_e k, impl_HillsIn_1_e k, impl_Lawn_those_e k], loOf []⟩
theorem impl_HillsIn_es (k : Nat) : ∀ e ∈ ([impl_soilCode_e k, impl_within_e k, impl_HillsIn_1_e k, impl_Lawn_those_e k] : List Ent), EntOK Try.prog tab mvs e := by
  intro e he
  simp only [List.mem_cons, List.not_mem_nil, or_false] at he
  rcases he with rfl | rfl | rfl | rfl
  · exact impl_soilCode_ok k
  · exact impl_within_ok k
  · exact impl_HillsIn_1_ok k
  · exact impl_Lawn_those_ok k
def impl_HillsIn_e (k : Nat) : Ent := (27, callOf [.agg 32, .agg 41, .int .i64] dec_lli fun (p : (List Int) × (List Int) × Int) R K => (impl_HillsIn k p.1 p.2.1 p.2.2).bind fun (b : (List Int) × Int) => K ((fV (.tup [.slv 29, .int .i64]) (enc_li b)).1, none))
theorem impl_HillsIn_run (k : Nat) (p : (List Int) × (List Int) × Int) : runF (impl_HillsIn_C k) Try.f27 false (fL [.agg 32, .agg 41, .int .i64] (enc_lli p)).1 (resK (.tup [.slv 29, .int .i64]) dec_li) = impl_HillsIn k p.1 p.2.1 p.2.2 := by
  kernel_rfl
theorem impl_HillsIn_ok (k : Nat) : EntOK Try.prog tab mvs (impl_HillsIn_e k) :=
  fn_ok (C := impl_HillsIn_C k) tabOK eqTabOK (impl_HillsIn_es k) rfl follows Try.func27 (by kernel_rfl) (by kernel_rfl) rfl (forall_getD _ 0 (0, Code.skip) (by kernel_rfl) fun i hi => by
      omega)
    dec_enc_lli dec_enc_li (impl_HillsIn_run k)

def laws_eqCell_C (k : Nat) : Cfg := ⟨tab, mvs, oraOf [], loOf []⟩
theorem laws_eqCell_es (k : Nat) : ∀ e ∈ ([] : List Ent), EntOK Try.prog tab mvs e := by
  intro e he
  simp at he
def laws_eqCell_e (k : Nat) : Ent := (19, callOf [.agg 29, .agg 29] dec_ll fun (p : (List Int) × (List Int)) R K => (laws_eqCell k p.1 p.2).bind fun (b : Bool) => K ((fV (.bool) (enc_b b)).1, none))
theorem laws_eqCell_run (k : Nat) (p : (List Int) × (List Int)) : runF (laws_eqCell_C k) Try.f19 false (fL [.agg 29, .agg 29] (enc_ll p)).1 (resK (.bool) dec_b) = laws_eqCell k p.1 p.2 := by
  kernel_rfl
theorem laws_eqCell_ok (k : Nat) : EntOK Try.prog tab mvs (laws_eqCell_e k) :=
  fn_ok (C := laws_eqCell_C k) tabOK eqTabOK (laws_eqCell_es k) rfl follows Try.func19 (by kernel_rfl) (by kernel_rfl) rfl (forall_getD _ 0 (0, Code.skip) (by kernel_rfl) fun i hi => by
      omega)
    dec_enc_ll dec_enc_b (laws_eqCell_run k)

def laws_eqCellS_t0 : StTm := ⟨27, [(0, .slv 29), (1, .slv 29), (5, .int .i64)], []⟩
def laws_eqCellS_t0_1 : StTm := ⟨27, [(4, .bool)], []⟩
def laws_eqCellS_t0_2 : StTm := ⟨27, [], []⟩
def laws_eqCellS_w0 (k : Nat) (R : Type) (K : Ex → St → Option R) (rec : (List Int) × (List Int) × Int → Option R) (p : (List Int) × (List Int) × Int) : Option R := laws_eqCellS_s0 k (fun y1 => K .ret (fSt laws_eqCellS_t0_1 [.b y1])) (K (.exit 0) (fSt laws_eqCellS_t0_2 [])) (fun h1 h2 h3 => rec (h1, h2, h3)) p.1 p.2.1 p.2.2
def laws_eqCellS_c0 (k : Nat) : Lcall := lcallOf tab laws_eqCellS_t0 dec_lli [0, 1, 5] k (laws_eqCellS_w0 k)
def laws_eqCellS_C (k : Nat) : Cfg := ⟨tab, mvs, oraOf [laws_eqCell_e k], loOf [(0, laws_eqCellS_c0 k)]⟩
theorem laws_eqCellS_es (k : Nat) : ∀ e ∈ ([laws_eqCell_e k] : List Ent), EntOK Try.prog tab mvs e := by
  intro e he
  simp only [List.mem_cons, List.not_mem_nil, or_false] at he
  rcases he with rfl
  · exact laws_eqCell_ok k
theorem laws_eqCellS_step0 (k : Nat) (R : Type) (K : Ex → St → Option R) (g : St → Option R) (p : (List Int) × (List Int) × Int) : evCode (laws_eqCellS_C k) (loopP [0] (0, codeOf Try.f28)).2 (loopP [0] (0, codeOf Try.f28)).1 (fSt laws_eqCellS_t0 (enc_lli p)) (loopK tab [0, 1, 5] [] [4] g K) = laws_eqCellS_w0 k R K (fun p => g (fSt laws_eqCellS_t0 (enc_lli p))) p := by
  kernel_rfl
theorem laws_eqCellS_lok0 (k : Nat) : LoopOK Try.prog tab (laws_eqCellS_C k).lo (loopP [0] (0, codeOf Try.f28)).1 (loopP [0] (0, codeOf Try.f28)).2 :=
  loopOK_of (C := laws_eqCellS_C k) tabOK eqTabOK (oraOf_ok (laws_eqCellS_es k)) (oraOf_nat (laws_eqCellS_es k)) follows (forall_getD _ 0 (0, Code.skip) (by kernel_rfl) fun i hi => by
      omega)
    (tm := laws_eqCellS_t0) (dec := dec_lli) (enc := enc_lli) (ksIn := [0, 1, 5]) (ksOut := []) (ksRet := [4]) (k := k) (step := laws_eqCellS_w0 k) dec_enc_lli (fun p => by kernel_rfl) (fun s R K => by kernel_rfl) (laws_eqCellS_step0 k)
def laws_eqCellS_e (k : Nat) : Ent := (28, callOf [.slv 29, .slv 29] dec_ll fun (p : (List Int) × (List Int)) R K => (laws_eqCellS k p.1 p.2).bind fun (b : Bool) => K ((fV (.bool) (enc_b b)).1, none))
theorem laws_eqCellS_run (k : Nat) (p : (List Int) × (List Int)) : runF (laws_eqCellS_C k) Try.f28 false (fL [.slv 29, .slv 29] (enc_ll p)).1 (resK (.bool) dec_b) = laws_eqCellS k p.1 p.2 := by
  kernel_rfl
theorem laws_eqCellS_ok (k : Nat) : EntOK Try.prog tab mvs (laws_eqCellS_e k) :=
  fn_ok (C := laws_eqCellS_C k) tabOK eqTabOK (laws_eqCellS_es k) rfl follows Try.func28 (by kernel_rfl) (by kernel_rfl) rfl (forall_getD _ 1 (0, Code.skip) (by kernel_rfl) fun i hi => by
      match i, hi with
      | 0, _ => exact laws_eqCellS_lok0 k
      | n + 1, h => omega)
    dec_enc_ll dec_enc_b (laws_eqCellS_run k)

def dec_iil (ps : List Pay) : Option (Int × Int × (List Int)) := match ps with
  | [.i x1, .i x2, .l x3] => some (x1, x2, x3)
  | _ => none
def enc_iil (p : Int × Int × (List Int)) : List Pay := [.i p.1, .i p.2.1, .l p.2.2]
theorem dec_enc_iil : ∀ (ps : List Pay) (p : Int × Int × (List Int)), dec_iil ps = some p → ps = enc_iil p := by
  intro ps p h
  unfold dec_iil at h
  split at h
  · injection h with h
    subst h
    rfl
  · cases h

def laws_markCellS_t0 : StTm := ⟨29, [(0, .slw 29 29), (1, .int .i64), (5, .int .i64)], [(29, 29, false, .ints)]⟩
def laws_markCellS_t0_1 : StTm := ⟨29, [(1, .int .i64)], [(29, 29, false, .ints)]⟩
def laws_markCellS_w0 (k : Nat) (R : Type) (K : Ex → St → Option R) (rec : Int × Int × (List Int) → Option R) (p : Int × Int × (List Int)) : Option R := laws_markCellS_s0 k (fun y1 y2 => K (.exit 0) (fSt laws_markCellS_t0_1 [.i y1, .l y2])) (fun h1 h2 h3 => rec (h1, h2, h3)) p.1 p.2.1 p.2.2
def laws_markCellS_c0 (k : Nat) : Lcall := lcallOf tab laws_markCellS_t0 dec_iil [0, 1, 5] k (laws_markCellS_w0 k)
def laws_markCellS_C (k : Nat) : Cfg := ⟨tab, mvs, oraOf [], loOf [(0, laws_markCellS_c0 k)]⟩
theorem laws_markCellS_es (k : Nat) : ∀ e ∈ ([] : List Ent), EntOK Try.prog tab mvs e := by
  intro e he
  simp at he
theorem laws_markCellS_step0 (k : Nat) (R : Type) (K : Ex → St → Option R) (g : St → Option R) (p : Int × Int × (List Int)) : evCode (laws_markCellS_C k) (loopP [0] (0, codeOf Try.f29)).2 (loopP [0] (0, codeOf Try.f29)).1 (fSt laws_markCellS_t0 (enc_iil p)) (loopK tab [0, 1, 5] [1] [4] g K) = laws_markCellS_w0 k R K (fun p => g (fSt laws_markCellS_t0 (enc_iil p))) p := by
  kernel_rfl
theorem laws_markCellS_lok0 (k : Nat) : LoopOK Try.prog tab (laws_markCellS_C k).lo (loopP [0] (0, codeOf Try.f29)).1 (loopP [0] (0, codeOf Try.f29)).2 :=
  loopOK_of (C := laws_markCellS_C k) tabOK eqTabOK (oraOf_ok (laws_markCellS_es k)) (oraOf_nat (laws_markCellS_es k)) follows (forall_getD _ 0 (0, Code.skip) (by kernel_rfl) fun i hi => by
      omega)
    (tm := laws_markCellS_t0) (dec := dec_iil) (enc := enc_iil) (ksIn := [0, 1, 5]) (ksOut := [1]) (ksRet := [4]) (k := k) (step := laws_markCellS_w0 k) dec_enc_iil (fun p => by kernel_rfl) (fun s R K => by kernel_rfl) (laws_markCellS_step0 k)
def laws_markCellS_e (k : Nat) : Ent := (29, callOf [.slv 29, .int .i64] dec_li fun (p : (List Int) × Int) R K => (laws_markCellS k p.1 p.2).bind fun (b : (Int) × List Int) => K ((fV (.int .i64) (enc_i b.1)).1, some b.2))
theorem laws_markCellS_run (k : Nat) (p : (List Int) × Int) : runF (laws_markCellS_C k) Try.f29 true (fL [.slv 29, .int .i64] (enc_li p)).1 (resB (.int .i64) dec_i) = laws_markCellS k p.1 p.2 := by
  kernel_rfl
theorem laws_markCellS_ok (k : Nat) : EntOK Try.prog tab mvs (laws_markCellS_e k) :=
  fnb_ok (C := laws_markCellS_C k) tabOK eqTabOK (laws_markCellS_es k) rfl follows Try.func29 (by kernel_rfl) (by kernel_rfl) rfl (forall_getD _ 1 (0, Code.skip) (by kernel_rfl) fun i hi => by
      match i, hi with
      | 0, _ => exact laws_markCellS_lok0 k
      | n + 1, h => omega)
    dec_enc_li dec_enc_i (laws_markCellS_run k)

def laws_heldCellS_t0 : StTm := ⟨33, [(0, .slv 29), (1, .int .i64), (5, .int .i64)], []⟩
def laws_heldCellS_t0_1 : StTm := ⟨33, [(4, .int .i64)], []⟩
def laws_heldCellS_t0_2 : StTm := ⟨33, [(1, .int .i64)], []⟩
def laws_heldCellS_w0 (k : Nat) (R : Type) (K : Ex → St → Option R) (rec : (List Int) × Int × Int → Option R) (p : (List Int) × Int × Int) : Option R := laws_heldCellS_s0 k (fun y1 => K .ret (fSt laws_heldCellS_t0_1 [.i y1])) (fun y1 => K (.exit 0) (fSt laws_heldCellS_t0_2 [.i y1])) (fun h1 h2 h3 => rec (h1, h2, h3)) p.1 p.2.1 p.2.2
def laws_heldCellS_c0 (k : Nat) : Lcall := lcallOf tab laws_heldCellS_t0 dec_lii [0, 1, 5] k (laws_heldCellS_w0 k)
def laws_heldCellS_C (k : Nat) : Cfg := ⟨tab, mvs, oraOf [], loOf [(0, laws_heldCellS_c0 k)]⟩
theorem laws_heldCellS_es (k : Nat) : ∀ e ∈ ([] : List Ent), EntOK Try.prog tab mvs e := by
  intro e he
  simp at he
theorem laws_heldCellS_step0 (k : Nat) (R : Type) (K : Ex → St → Option R) (g : St → Option R) (p : (List Int) × Int × Int) : evCode (laws_heldCellS_C k) (loopP [0] (0, codeOf Try.f30)).2 (loopP [0] (0, codeOf Try.f30)).1 (fSt laws_heldCellS_t0 (enc_lii p)) (loopK tab [0, 1, 5] [1] [4] g K) = laws_heldCellS_w0 k R K (fun p => g (fSt laws_heldCellS_t0 (enc_lii p))) p := by
  kernel_rfl
theorem laws_heldCellS_lok0 (k : Nat) : LoopOK Try.prog tab (laws_heldCellS_C k).lo (loopP [0] (0, codeOf Try.f30)).1 (loopP [0] (0, codeOf Try.f30)).2 :=
  loopOK_of (C := laws_heldCellS_C k) tabOK eqTabOK (oraOf_ok (laws_heldCellS_es k)) (oraOf_nat (laws_heldCellS_es k)) follows (forall_getD _ 0 (0, Code.skip) (by kernel_rfl) fun i hi => by
      omega)
    (tm := laws_heldCellS_t0) (dec := dec_lii) (enc := enc_lii) (ksIn := [0, 1, 5]) (ksOut := [1]) (ksRet := [4]) (k := k) (step := laws_heldCellS_w0 k) dec_enc_lii (fun p => by kernel_rfl) (fun s R K => by kernel_rfl) (laws_heldCellS_step0 k)
def laws_heldCellS_e (k : Nat) : Ent := (30, callOf [.slv 29, .int .i64] dec_li fun (p : (List Int) × Int) R K => (laws_heldCellS k p.1 p.2).bind fun (b : Int) => K ((fV (.int .i64) (enc_i b)).1, none))
theorem laws_heldCellS_run (k : Nat) (p : (List Int) × Int) : runF (laws_heldCellS_C k) Try.f30 false (fL [.slv 29, .int .i64] (enc_li p)).1 (resK (.int .i64) dec_i) = laws_heldCellS k p.1 p.2 := by
  kernel_rfl
theorem laws_heldCellS_ok (k : Nat) : EntOK Try.prog tab mvs (laws_heldCellS_e k) :=
  fn_ok (C := laws_heldCellS_C k) tabOK eqTabOK (laws_heldCellS_es k) rfl follows Try.func30 (by kernel_rfl) (by kernel_rfl) rfl (forall_getD _ 1 (0, Code.skip) (by kernel_rfl) fun i hi => by
      match i, hi with
      | 0, _ => exact laws_heldCellS_lok0 k
      | n + 1, h => omega)
    dec_enc_li dec_enc_i (laws_heldCellS_run k)

def laws_FnExactHillsIn_C (k : Nat) : Cfg := ⟨tab, mvs, oraOf [laws_toLawn_e k, laws_toLevels_e k, spec_HillsIn_e k, impl_HillsIn_e k, laws_eqCellS_e k, laws_markCellS_e k, laws_heldCellS_e k], loOf []⟩
theorem laws_FnExactHillsIn_es (k : Nat) : ∀ e ∈ ([laws_toLawn_e k, laws_toLevels_e k, spec_HillsIn_e k, impl_HillsIn_e k, laws_eqCellS_e k, laws_markCellS_e k, laws_heldCellS_e k] : List Ent), EntOK Try.prog tab mvs e := by
  intro e he
  simp only [List.mem_cons, List.not_mem_nil, or_false] at he
  rcases he with rfl | rfl | rfl | rfl | rfl | rfl | rfl
  · exact laws_toLawn_ok k
  · exact laws_toLevels_ok k
  · exact spec_HillsIn_ok k
  · exact impl_HillsIn_ok k
  · exact laws_eqCellS_ok k
  · exact laws_markCellS_ok k
  · exact laws_heldCellS_ok k
def laws_FnExactHillsIn_e (k : Nat) : Ent := (6, callOf [.agg 26, .agg 38, .int .i64] dec_lli fun (p : (List Int) × (List Int) × Int) R K => (laws_FnExactHillsIn k p.1 p.2.1 p.2.2).bind fun (b : Bool) => K ((fV (.bool) (enc_b b)).1, none))
theorem laws_FnExactHillsIn_run (k : Nat) (p : (List Int) × (List Int) × Int) : runF (laws_FnExactHillsIn_C k) Try.f6 false (fL [.agg 26, .agg 38, .int .i64] (enc_lli p)).1 (resK (.bool) dec_b) = laws_FnExactHillsIn k p.1 p.2.1 p.2.2 := by
  kernel_rfl
theorem laws_FnExactHillsIn_ok (k : Nat) : EntOK Try.prog tab mvs (laws_FnExactHillsIn_e k) :=
  fn_ok (C := laws_FnExactHillsIn_C k) tabOK eqTabOK (laws_FnExactHillsIn_es k) rfl follows Try.func6 (by kernel_rfl) (by kernel_rfl) rfl (forall_getD _ 0 (0, Code.skip) (by kernel_rfl) fun i hi => by
      omega)
    dec_enc_lli dec_enc_b (laws_FnExactHillsIn_run k)

def laws_szCellS_C (k : Nat) : Cfg := ⟨tab, mvs, oraOf [], loOf []⟩
theorem laws_szCellS_es (k : Nat) : ∀ e ∈ ([] : List Ent), EntOK Try.prog tab mvs e := by
  intro e he
  simp at he
def laws_szCellS_e (k : Nat) : Ent := (48, callOf [.slv 28, .int .i64] dec_li fun (p : (List Int) × Int) R K => (laws_szCellS k p.1 p.2).bind fun (b : Int) => K ((fV (.int .i64) (enc_i b)).1, none))
theorem laws_szCellS_run (k : Nat) (p : (List Int) × Int) : runF (laws_szCellS_C k) Try.f48 false (fL [.slv 28, .int .i64] (enc_li p)).1 (resK (.int .i64) dec_i) = laws_szCellS k p.1 p.2 := by
  kernel_rfl
theorem laws_szCellS_ok (k : Nat) : EntOK Try.prog tab mvs (laws_szCellS_e k) :=
  fn_ok (C := laws_szCellS_C k) tabOK eqTabOK (laws_szCellS_es k) rfl follows Try.func48 (by kernel_rfl) (by kernel_rfl) rfl (forall_getD _ 0 (0, Code.skip) (by kernel_rfl) fun i hi => by
      omega)
    dec_enc_li dec_enc_i (laws_szCellS_run k)

def laws_toCell_C (k : Nat) : Cfg := ⟨tab, mvs, oraOf [], loOf []⟩
theorem laws_toCell_es (k : Nat) : ∀ e ∈ ([] : List Ent), EntOK Try.prog tab mvs e := by
  intro e he
  simp at he
def laws_toCell_e (k : Nat) : Ent := (17, callOf [.agg 28] dec_l fun (p : (List Int)) R K => (laws_toCell k p).bind fun (b : (List Int)) => K ((fV (.agg 29) (enc_l b)).1, none))
theorem laws_toCell_run (k : Nat) (p : (List Int)) : runF (laws_toCell_C k) Try.f17 false (fL [.agg 28] (enc_l p)).1 (resK (.agg 29) dec_l) = laws_toCell k p := by
  kernel_rfl
theorem laws_toCell_ok (k : Nat) : EntOK Try.prog tab mvs (laws_toCell_e k) :=
  fn_ok (C := laws_toCell_C k) tabOK eqTabOK (laws_toCell_es k) rfl follows Try.func17 (by kernel_rfl) (by kernel_rfl) rfl (forall_getD _ 0 (0, Code.skip) (by kernel_rfl) fun i hi => by
      omega)
    dec_enc_l dec_enc_l (laws_toCell_run k)

def laws_toCellS_t0 : StTm := ⟨23, [(0, .slv 28), (3, .slw 3 29), (4, .int .i64)], [(3, 29, false, .ints)]⟩
def laws_toCellS_t0_1 : StTm := ⟨23, [(3, .slw 3 29)], [(3, 29, false, .ints)]⟩
def laws_toCellS_w0 (k : Nat) (R : Type) (K : Ex → St → Option R) (rec : (List Int) × Int × (List Int) → Option R) (p : (List Int) × Int × (List Int)) : Option R := laws_toCellS_s0 k (fun y1 => K (.exit 0) (fSt laws_toCellS_t0_1 [.l y1])) (fun h1 h2 h3 => rec (h1, h2, h3)) p.1 p.2.1 p.2.2
def laws_toCellS_c0 (k : Nat) : Lcall := lcallOf tab laws_toCellS_t0 dec_lil [0, 3, 4] k (laws_toCellS_w0 k)
def laws_toCellS_C (k : Nat) : Cfg := ⟨tab, mvs, oraOf [laws_toCell_e k], loOf [(0, laws_toCellS_c0 k)]⟩
theorem laws_toCellS_es (k : Nat) : ∀ e ∈ ([laws_toCell_e k] : List Ent), EntOK Try.prog tab mvs e := by
  intro e he
  simp only [List.mem_cons, List.not_mem_nil, or_false] at he
  rcases he with rfl
  · exact laws_toCell_ok k
theorem laws_toCellS_step0 (k : Nat) (R : Type) (K : Ex → St → Option R) (g : St → Option R) (p : (List Int) × Int × (List Int)) : evCode (laws_toCellS_C k) (loopP [0] (0, codeOf Try.f50)).2 (loopP [0] (0, codeOf Try.f50)).1 (fSt laws_toCellS_t0 (enc_lil p)) (loopK tab [0, 3, 4] [3] [2] g K) = laws_toCellS_w0 k R K (fun p => g (fSt laws_toCellS_t0 (enc_lil p))) p := by
  kernel_rfl
theorem laws_toCellS_lok0 (k : Nat) : LoopOK Try.prog tab (laws_toCellS_C k).lo (loopP [0] (0, codeOf Try.f50)).1 (loopP [0] (0, codeOf Try.f50)).2 :=
  loopOK_of (C := laws_toCellS_C k) tabOK eqTabOK (oraOf_ok (laws_toCellS_es k)) (oraOf_nat (laws_toCellS_es k)) follows (forall_getD _ 0 (0, Code.skip) (by kernel_rfl) fun i hi => by
      omega)
    (tm := laws_toCellS_t0) (dec := dec_lil) (enc := enc_lil) (ksIn := [0, 3, 4]) (ksOut := [3]) (ksRet := [2]) (k := k) (step := laws_toCellS_w0 k) dec_enc_lil (fun p => by kernel_rfl) (fun s R K => by kernel_rfl) (laws_toCellS_step0 k)
def laws_toCellS_e (k : Nat) : Ent := (50, callOf [.slv 28] dec_l fun (p : (List Int)) R K => (laws_toCellS k p).bind fun (b : (List Int)) => K ((fV (.slv 29) (enc_l b)).1, none))
theorem laws_toCellS_run (k : Nat) (p : (List Int)) : runF (laws_toCellS_C k) Try.f50 false (fL [.slv 28] (enc_l p)).1 (resK (.slv 29) dec_l) = laws_toCellS k p := by
  kernel_rfl
theorem laws_toCellS_ok (k : Nat) : EntOK Try.prog tab mvs (laws_toCellS_e k) :=
  fn_ok (C := laws_toCellS_C k) tabOK eqTabOK (laws_toCellS_es k) rfl follows Try.func50 (by kernel_rfl) (by kernel_rfl) rfl (forall_getD _ 1 (0, Code.skip) (by kernel_rfl) fun i hi => by
      match i, hi with
      | 0, _ => exact laws_toCellS_lok0 k
      | n + 1, h => omega)
    dec_enc_l dec_enc_l (laws_toCellS_run k)

def spec_l01Open_C (k : Nat) : Cfg := ⟨tab, mvs, oraOf [spec_l01At_e k], loOf []⟩
theorem spec_l01Open_es (k : Nat) : ∀ e ∈ ([spec_l01At_e k] : List Ent), EntOK Try.prog tab mvs e := by
  intro e he
  simp only [List.mem_cons, List.not_mem_nil, or_false] at he
  rcases he with rfl
  · exact spec_l01At_ok k
def spec_l01Open_e (k : Nat) : Ent := (93, callOf [.pvi (some 32) 0 32, .agg 29] dec_ll fun (p : (List Int) × (List Int)) R K => (spec_l01Open k p.1 p.2).bind fun (b : Bool) => K ((fV (.bool) (enc_b b)).1, none))
theorem spec_l01Open_run (k : Nat) (p : (List Int) × (List Int)) : runF (spec_l01Open_C k) Try.f93 false (fL [.pvi (some 32) 0 32, .agg 29] (enc_ll p)).1 (resK (.bool) dec_b) = spec_l01Open k p.1 p.2 := by
  kernel_rfl
theorem spec_l01Open_ok (k : Nat) : EntOK Try.prog tab mvs (spec_l01Open_e k) :=
  fn_ok (C := spec_l01Open_C k) tabOK eqTabOK (spec_l01Open_es k) rfl follows Try.func93 (by kernel_rfl) (by kernel_rfl) rfl (forall_getD _ 0 (0, Code.skip) (by kernel_rfl) fun i hi => by
      omega)
    dec_enc_ll dec_enc_b (spec_l01Open_run k)

def spec_l04Open_C (k : Nat) : Cfg := ⟨tab, mvs, oraOf [spec_l01Is_e k, spec_l01Open_e k], loOf []⟩
theorem spec_l04Open_es (k : Nat) : ∀ e ∈ ([spec_l01Is_e k, spec_l01Open_e k] : List Ent), EntOK Try.prog tab mvs e := by
  intro e he
  simp only [List.mem_cons, List.not_mem_nil, or_false] at he
  rcases he with rfl | rfl
  · exact spec_l01Is_ok k
  · exact spec_l01Open_ok k
def spec_l04Open_e (k : Nat) : Ent := (170, callOf [.pvi (some 32) 0 32, .agg 29] dec_ll fun (p : (List Int) × (List Int)) R K => (spec_l04Open k p.1 p.2).bind fun (b : Bool) => K ((fV (.bool) (enc_b b)).1, none))
theorem spec_l04Open_run (k : Nat) (p : (List Int) × (List Int)) : runF (spec_l04Open_C k) Try.f170 false (fL [.pvi (some 32) 0 32, .agg 29] (enc_ll p)).1 (resK (.bool) dec_b) = spec_l04Open k p.1 p.2 := by
  kernel_rfl
theorem spec_l04Open_ok (k : Nat) : EntOK Try.prog tab mvs (spec_l04Open_e k) :=
  fn_ok (C := spec_l04Open_C k) tabOK eqTabOK (spec_l04Open_es k) rfl follows Try.func170 (by kernel_rfl) (by kernel_rfl) rfl (forall_getD _ 0 (0, Code.skip) (by kernel_rfl) fun i hi => by
      omega)
    dec_enc_ll dec_enc_b (spec_l04Open_run k)

def spec_l04Beside_C (k : Nat) : Cfg := ⟨tab, mvs, oraOf [], loOf []⟩
theorem spec_l04Beside_es (k : Nat) : ∀ e ∈ ([] : List Ent), EntOK Try.prog tab mvs e := by
  intro e he
  simp at he
def spec_l04Beside_e (k : Nat) : Ent := (171, callOf [.agg 29, .agg 29] dec_ll fun (p : (List Int) × (List Int)) R K => (spec_l04Beside k p.1 p.2).bind fun (b : Bool) => K ((fV (.bool) (enc_b b)).1, none))
theorem spec_l04Beside_run (k : Nat) (p : (List Int) × (List Int)) : runF (spec_l04Beside_C k) Try.f171 false (fL [.agg 29, .agg 29] (enc_ll p)).1 (resK (.bool) dec_b) = spec_l04Beside k p.1 p.2 := by
  kernel_rfl
theorem spec_l04Beside_ok (k : Nat) : EntOK Try.prog tab mvs (spec_l04Beside_e k) :=
  fn_ok (C := spec_l04Beside_C k) tabOK eqTabOK (spec_l04Beside_es k) rfl follows Try.func171 (by kernel_rfl) (by kernel_rfl) rfl (forall_getD _ 0 (0, Code.skip) (by kernel_rfl) fun i hi => by
      omega)
    dec_enc_ll dec_enc_b (spec_l04Beside_run k)

def spec_l04Right_t0 : StTm := ⟨39, [(0, .pvi (some 32) 0 32), (1, .slv 29), (5, .int .i64)], []⟩
def spec_l04Right_t0_1 : StTm := ⟨39, [(4, .bool)], []⟩
def spec_l04Right_t0_2 : StTm := ⟨39, [(1, .slv 29)], []⟩
def spec_l04Right_w0 (k : Nat) (R : Type) (K : Ex → St → Option R) (rec : (List Int) × (List Int) × Int → Option R) (p : (List Int) × (List Int) × Int) : Option R := spec_l04Right_s0 k (fun y1 => K .ret (fSt spec_l04Right_t0_1 [.b y1])) (fun y1 => K (.exit 0) (fSt spec_l04Right_t0_2 [.l y1])) (fun h1 h2 h3 => rec (h1, h2, h3)) p.1 p.2.1 p.2.2
def spec_l04Right_c0 (k : Nat) : Lcall := lcallOf tab spec_l04Right_t0 dec_lli [0, 1, 5] k (spec_l04Right_w0 k)
def spec_l04Right_C (k : Nat) : Cfg := ⟨tab, mvs, oraOf [spec_l04Open_e k, spec_l04Beside_e k], loOf [(0, spec_l04Right_c0 k)]⟩
theorem spec_l04Right_es (k : Nat) : ∀ e ∈ ([spec_l04Open_e k, spec_l04Beside_e k] : List Ent), EntOK Try.prog tab mvs e := by
  intro e he
  simp only [List.mem_cons, List.not_mem_nil, or_false] at he
  rcases he with rfl | rfl
  · exact spec_l04Open_ok k
  · exact spec_l04Beside_ok k
theorem spec_l04Right_step0 (k : Nat) (R : Type) (K : Ex → St → Option R) (g : St → Option R) (p : (List Int) × (List Int) × Int) : evCode (spec_l04Right_C k) (loopP [0] (0, codeOf Try.f152)).2 (loopP [0] (0, codeOf Try.f152)).1 (fSt spec_l04Right_t0 (enc_lli p)) (loopK tab [0, 1, 5] [1] [4] g K) = spec_l04Right_w0 k R K (fun p => g (fSt spec_l04Right_t0 (enc_lli p))) p := by
  kernel_rfl
theorem spec_l04Right_lok0 (k : Nat) : LoopOK Try.prog tab (spec_l04Right_C k).lo (loopP [0] (0, codeOf Try.f152)).1 (loopP [0] (0, codeOf Try.f152)).2 :=
  loopOK_of (C := spec_l04Right_C k) tabOK eqTabOK (oraOf_ok (spec_l04Right_es k)) (oraOf_nat (spec_l04Right_es k)) follows (forall_getD _ 0 (0, Code.skip) (by kernel_rfl) fun i hi => by
      omega)
    (tm := spec_l04Right_t0) (dec := dec_lli) (enc := enc_lli) (ksIn := [0, 1, 5]) (ksOut := [1]) (ksRet := [4]) (k := k) (step := spec_l04Right_w0 k) dec_enc_lli (fun p => by kernel_rfl) (fun s R K => by kernel_rfl) (spec_l04Right_step0 k)
def spec_l04Right_e (k : Nat) : Ent := (152, callOf [.pvi (some 32) 0 32, .slv 29] dec_ll fun (p : (List Int) × (List Int)) R K => (spec_l04Right k p.1 p.2).bind fun (b : Bool) => K ((fV (.bool) (enc_b b)).1, none))
theorem spec_l04Right_run (k : Nat) (p : (List Int) × (List Int)) : runF (spec_l04Right_C k) Try.f152 false (fL [.pvi (some 32) 0 32, .slv 29] (enc_ll p)).1 (resK (.bool) dec_b) = spec_l04Right k p.1 p.2 := by
  kernel_rfl
theorem spec_l04Right_ok (k : Nat) : EntOK Try.prog tab mvs (spec_l04Right_e k) :=
  fn_ok (C := spec_l04Right_C k) tabOK eqTabOK (spec_l04Right_es k) rfl follows Try.func152 (by kernel_rfl) (by kernel_rfl) rfl (forall_getD _ 1 (0, Code.skip) (by kernel_rfl) fun i hi => by
      match i, hi with
      | 0, _ => exact spec_l04Right_lok0 k
      | n + 1, h => omega)
    dec_enc_ll dec_enc_b (spec_l04Right_run k)

def spec_l04Walked_C (k : Nat) : Cfg := ⟨tab, mvs, oraOf [spec_l01Ok_e k, spec_l04Right_e k], loOf []⟩
theorem spec_l04Walked_es (k : Nat) : ∀ e ∈ ([spec_l01Ok_e k, spec_l04Right_e k] : List Ent), EntOK Try.prog tab mvs e := by
  intro e he
  simp only [List.mem_cons, List.not_mem_nil, or_false] at he
  rcases he with rfl | rfl
  · exact spec_l01Ok_ok k
  · exact spec_l04Right_ok k
def spec_l04Walked_e (k : Nat) : Ent := (113, callOf [.pvi (some 32) 0 32, .slv 29] dec_ll fun (p : (List Int) × (List Int)) R K => (spec_l04Walked k p.1 p.2).bind fun (b : Int) => K ((fV (.int .i64) (enc_i b)).1, none))
theorem spec_l04Walked_run (k : Nat) (p : (List Int) × (List Int)) : runF (spec_l04Walked_C k) Try.f113 false (fL [.pvi (some 32) 0 32, .slv 29] (enc_ll p)).1 (resK (.int .i64) dec_i) = spec_l04Walked k p.1 p.2 := by
  kernel_rfl
theorem spec_l04Walked_ok (k : Nat) : EntOK Try.prog tab mvs (spec_l04Walked_e k) :=
  fn_ok (C := spec_l04Walked_C k) tabOK eqTabOK (spec_l04Walked_es k) rfl follows Try.func113 (by kernel_rfl) (by kernel_rfl) rfl (forall_getD _ 0 (0, Code.skip) (by kernel_rfl) fun i hi => by
      omega)
    dec_enc_ll dec_enc_i (spec_l04Walked_run k)

def dec_liiiill (ps : List Pay) : Option ((List Int) × Int × Int × Int × Int × (List Int) × (List Int)) := match ps with
  | [.l x1, .i x2, .i x3, .i x4, .i x5, .l x6, .l x7] => some (x1, x2, x3, x4, x5, x6, x7)
  | _ => none
def enc_liiiill (p : (List Int) × Int × Int × Int × Int × (List Int) × (List Int)) : List Pay := [.l p.1, .i p.2.1, .i p.2.2.1, .i p.2.2.2.1, .i p.2.2.2.2.1, .l p.2.2.2.2.2.1, .l p.2.2.2.2.2.2]
theorem dec_enc_liiiill : ∀ (ps : List Pay) (p : (List Int) × Int × Int × Int × Int × (List Int) × (List Int)), dec_liiiill ps = some p → ps = enc_liiiill p := by
  intro ps p h
  unfold dec_liiiill at h
  split at h
  · injection h with h
    subst h
    rfl
  · cases h

def spec_l04Times_t0 : StTm := ⟨49, [(1, .slv 29), (2, .int .i64), (7, .slw 7 29), (8, .slw 8 29), (9, .int .i64), (10, .int .i64), (11, .int .i64)], [(7, 29, false, .ints), (8, 29, false, .ints)]⟩
def spec_l04Times_t0_1 : StTm := ⟨49, [(1, .slv 29), (2, .int .i64), (7, .slw 7 29), (8, .slw 8 29), (9, .int .i64), (10, .int .i64)], [(7, 29, false, .ints), (8, 29, false, .ints)]⟩
def spec_l04Times_w0 (k : Nat) (R : Type) (K : Ex → St → Option R) (rec : (List Int) × Int × Int × Int × Int × (List Int) × (List Int) → Option R) (p : (List Int) × Int × Int × Int × Int × (List Int) × (List Int)) : Option R := spec_l04Times_s0 k (fun y1 y2 y3 y4 y5 y6 => K (.exit 2) (fSt spec_l04Times_t0_1 [.l y1, .i y2, .i y3, .i y4, .l y5, .l y6])) (fun h1 h2 h3 h4 h5 h6 h7 => rec (h1, h2, h3, h4, h5, h6, h7)) p.1 p.2.1 p.2.2.1 p.2.2.2.1 p.2.2.2.2.1 p.2.2.2.2.2.1 p.2.2.2.2.2.2
def spec_l04Times_c0 (k : Nat) : Lcall := lcallOf tab spec_l04Times_t0 dec_liiiill [1, 2, 7, 8, 9, 10, 11] k (spec_l04Times_w0 k)
def spec_l04Times_t1 : StTm := ⟨49, [(1, .slv 29), (2, .int .i64), (7, .slw 7 29), (8, .slw 8 29), (9, .int .i64)], [(7, 29, false, .ints), (8, 29, false, .ints)]⟩
def spec_l04Times_t1_1 : StTm := ⟨49, [(7, .slw 7 29)], [(7, 29, false, .ints)]⟩
def spec_l04Times_w1 (k : Nat) (R : Type) (K : Ex → St → Option R) (rec : (List Int) × Int × Int × (List Int) × (List Int) → Option R) (p : (List Int) × Int × Int × (List Int) × (List Int)) : Option R := spec_l04Times_s1 k (fun y1 => K (.exit 0) (fSt spec_l04Times_t1_1 [.l y1])) (fun h1 h2 h3 h4 h5 => rec (h1, h2, h3, h4, h5)) p.1 p.2.1 p.2.2.1 p.2.2.2.1 p.2.2.2.2
def spec_l04Times_c1 (k : Nat) : Lcall := lcallOf tab spec_l04Times_t1 dec_liill [1, 2, 7, 8, 9] k (spec_l04Times_w1 k)
def spec_l04Times_C (k : Nat) : Cfg := ⟨tab, mvs, oraOf [spec_l01Cells_e k], loOf [(2, spec_l04Times_c0 k), (0, spec_l04Times_c1 k)]⟩
theorem spec_l04Times_es (k : Nat) : ∀ e ∈ ([spec_l01Cells_e k] : List Ent), EntOK Try.prog tab mvs e := by
  intro e he
  simp only [List.mem_cons, List.not_mem_nil, or_false] at he
  rcases he with rfl
  · exact spec_l01Cells_ok k
theorem spec_l04Times_step0 (k : Nat) (R : Type) (K : Ex → St → Option R) (g : St → Option R) (p : (List Int) × Int × Int × Int × Int × (List Int) × (List Int)) : evCode (spec_l04Times_C k) (loopP [0, 0] (0, codeOf Try.f114)).2 (loopP [0, 0] (0, codeOf Try.f114)).1 (fSt spec_l04Times_t0 (enc_liiiill p)) (loopK tab [1, 2, 7, 8, 9, 10, 11] [1, 2, 7, 8, 9, 10] [6] g K) = spec_l04Times_w0 k R K (fun p => g (fSt spec_l04Times_t0 (enc_liiiill p))) p := by
  kernel_rfl
theorem spec_l04Times_lok0 (k : Nat) : LoopOK Try.prog tab (spec_l04Times_C k).lo (loopP [0, 0] (0, codeOf Try.f114)).1 (loopP [0, 0] (0, codeOf Try.f114)).2 :=
  loopOK_of (C := spec_l04Times_C k) tabOK eqTabOK (oraOf_ok (spec_l04Times_es k)) (oraOf_nat (spec_l04Times_es k)) follows (forall_getD _ 0 (0, Code.skip) (by kernel_rfl) fun i hi => by
      omega)
    (tm := spec_l04Times_t0) (dec := dec_liiiill) (enc := enc_liiiill) (ksIn := [1, 2, 7, 8, 9, 10, 11]) (ksOut := [1, 2, 7, 8, 9, 10]) (ksRet := [6]) (k := k) (step := spec_l04Times_w0 k) dec_enc_liiiill (fun p => by kernel_rfl) (fun s R K => by kernel_rfl) (spec_l04Times_step0 k)
theorem spec_l04Times_step1 (k : Nat) (R : Type) (K : Ex → St → Option R) (g : St → Option R) (p : (List Int) × Int × Int × (List Int) × (List Int)) : evCode (spec_l04Times_C k) (loopP [0] (0, codeOf Try.f114)).2 (loopP [0] (0, codeOf Try.f114)).1 (fSt spec_l04Times_t1 (enc_liill p)) (loopK tab [1, 2, 7, 8, 9] [7] [6] g K) = spec_l04Times_w1 k R K (fun p => g (fSt spec_l04Times_t1 (enc_liill p))) p := by
  kernel_rfl
theorem spec_l04Times_lok1 (k : Nat) : LoopOK Try.prog tab (spec_l04Times_C k).lo (loopP [0] (0, codeOf Try.f114)).1 (loopP [0] (0, codeOf Try.f114)).2 :=
  loopOK_of (C := spec_l04Times_C k) tabOK eqTabOK (oraOf_ok (spec_l04Times_es k)) (oraOf_nat (spec_l04Times_es k)) follows (forall_getD _ 1 (0, Code.skip) (by kernel_rfl) fun i hi => by
      match i, hi with
      | 0, _ => exact spec_l04Times_lok0 k
      | n + 1, h => omega)
    (tm := spec_l04Times_t1) (dec := dec_liill) (enc := enc_liill) (ksIn := [1, 2, 7, 8, 9]) (ksOut := [7]) (ksRet := [6]) (k := k) (step := spec_l04Times_w1 k) dec_enc_liill (fun p => by kernel_rfl) (fun s R K => by kernel_rfl) (spec_l04Times_step1 k)
def spec_l04Times_e (k : Nat) : Ent := (114, callOf [.pvi (some 32) 0 32, .slv 29, .int .i64] dec_lli fun (p : (List Int) × (List Int) × Int) R K => (spec_l04Times k p.1 p.2.1 p.2.2).bind fun (b : (List Int)) => K ((fV (.slv 29) (enc_l b)).1, none))
theorem spec_l04Times_run (k : Nat) (p : (List Int) × (List Int) × Int) : runF (spec_l04Times_C k) Try.f114 false (fL [.pvi (some 32) 0 32, .slv 29, .int .i64] (enc_lli p)).1 (resK (.slv 29) dec_l) = spec_l04Times k p.1 p.2.1 p.2.2 := by
  kernel_rfl
theorem spec_l04Times_ok (k : Nat) : EntOK Try.prog tab mvs (spec_l04Times_e k) :=
  fn_ok (C := spec_l04Times_C k) tabOK eqTabOK (spec_l04Times_es k) rfl follows Try.func114 (by kernel_rfl) (by kernel_rfl) rfl (forall_getD _ 1 (0, Code.skip) (by kernel_rfl) fun i hi => by
      match i, hi with
      | 0, _ => exact spec_l04Times_lok1 k
      | n + 1, h => omega)
    dec_enc_lli dec_enc_l (spec_l04Times_run k)

def spec_CoveredBy_C (k : Nat) : Cfg := ⟨tab, mvs, oraOf [spec_l04Walked_e k, spec_l04Times_e k], loOf []⟩
theorem spec_CoveredBy_es (k : Nat) : ∀ e ∈ ([spec_l04Walked_e k, spec_l04Times_e k] : List Ent), EntOK Try.prog tab mvs e := by
  intro e he
  simp only [List.mem_cons, List.not_mem_nil, or_false] at he
  rcases he with rfl | rfl
  · exact spec_l04Walked_ok k
  · exact spec_l04Times_ok k
def spec_CoveredBy_e (k : Nat) : Ent := (49, callOf [.agg 32, .slv 29] dec_ll fun (p : (List Int) × (List Int)) R K => (spec_CoveredBy k p.1 p.2).bind fun (b : (List Int) × Int) => K ((fV (.tup [.slv 29, .int .i64]) (enc_li b)).1, none))
theorem spec_CoveredBy_run (k : Nat) (p : (List Int) × (List Int)) : runF (spec_CoveredBy_C k) Try.f49 false (fL [.agg 32, .slv 29] (enc_ll p)).1 (resK (.tup [.slv 29, .int .i64]) dec_li) = spec_CoveredBy k p.1 p.2 := by
  kernel_rfl
theorem spec_CoveredBy_ok (k : Nat) : EntOK Try.prog tab mvs (spec_CoveredBy_e k) :=
  fn_ok (C := spec_CoveredBy_C k) tabOK eqTabOK (spec_CoveredBy_es k) rfl follows Try.func49 (by kernel_rfl) (by kernel_rfl) rfl (forall_getD _ 0 (0, Code.skip) (by kernel_rfl) fun i hi => by
      omega)
    dec_enc_ll dec_enc_li (spec_CoveredBy_run k)

def impl_walkCode_1_C (k : Nat) : Cfg := ⟨tab, mvs, oraOf [], loOf []⟩
theorem impl_walkCode_1_es (k : Nat) : ∀ e ∈ ([] : List Ent), EntOK Try.prog tab mvs e := by
  intro e he
  simp at he
def impl_walkCode_1_e (k : Nat) : Ent := (154, callOf [.slv 29] dec_l fun (p : (List Int)) R K => (impl_walkCode_1 k p).bind fun (b : Bool) => K ((fV (.bool) (enc_b b)).1, none))
theorem impl_walkCode_1_run (k : Nat) (p : (List Int)) : runF (impl_walkCode_1_C k) Try.f154 false (fL [.slv 29] (enc_l p)).1 (resK (.bool) dec_b) = impl_walkCode_1 k p := by
  kernel_rfl
theorem impl_walkCode_1_ok (k : Nat) : EntOK Try.prog tab mvs (impl_walkCode_1_e k) :=
  fn_ok (C := impl_walkCode_1_C k) tabOK eqTabOK (impl_walkCode_1_es k) rfl follows Try.func154 (by kernel_rfl) (by kernel_rfl) rfl (forall_getD _ 0 (0, Code.skip) (by kernel_rfl) fun i hi => by
      omega)
    dec_enc_l dec_enc_b (impl_walkCode_1_run k)

def dec_rgii (ps : List Pay) : Option ((List (List Int)) × (List Int → Option Bool) × Int × Int) := match ps with
  | [.r x1, .g x2, .i x3, .i x4] => some (x1, x2, x3, x4)
  | _ => none
def enc_rgii (p : (List (List Int)) × (List Int → Option Bool) × Int × Int) : List Pay := [.r p.1, .g p.2.1, .i p.2.2.1, .i p.2.2.2]
theorem dec_enc_rgii : ∀ (ps : List Pay) (p : (List (List Int)) × (List Int → Option Bool) × Int × Int), dec_rgii ps = some p → ps = enc_rgii p := by
  intro ps p h
  unfold dec_rgii at h
  split at h
  · injection h with h
    subst h
    rfl
  · cases h

def dec_rg (ps : List Pay) : Option ((List (List Int)) × (List Int → Option Bool)) := match ps with
  | [.r x1, .g x2] => some (x1, x2)
  | _ => none
def enc_rg (p : (List (List Int)) × (List Int → Option Bool)) : List Pay := [.r p.1, .g p.2]
theorem dec_enc_rg : ∀ (ps : List Pay) (p : (List (List Int)) × (List Int → Option Bool)), dec_rg ps = some p → ps = enc_rg p := by
  intro ps p h
  unfold dec_rg at h
  split at h
  · injection h with h
    subst h
    rfl
  · cases h

def slices_IndexFunc_S_impl_Cell_t0 : StTm := ⟨19, [(0, .slr 49), (1, .cloB 49), (7, .int .i64), (8, .int .i64)], []⟩
def slices_IndexFunc_S_impl_Cell_t0_1 : StTm := ⟨19, [(4, .int .i64)], []⟩
def slices_IndexFunc_S_impl_Cell_t0_2 : StTm := ⟨19, [], []⟩
def slices_IndexFunc_S_impl_Cell_w0 (k : Nat) (R : Type) (K : Ex → St → Option R) (rec : (List (List Int)) × (List Int → Option Bool) × Int × Int → Option R) (p : (List (List Int)) × (List Int → Option Bool) × Int × Int) : Option R := slices_IndexFunc_S_impl_Cell_s0 k (fun y1 => K .ret (fSt slices_IndexFunc_S_impl_Cell_t0_1 [.i y1])) (K (.exit 0) (fSt slices_IndexFunc_S_impl_Cell_t0_2 [])) (fun h1 h2 h3 h4 => rec (h1, h2, h3, h4)) p.1 p.2.1 p.2.2.1 p.2.2.2
def slices_IndexFunc_S_impl_Cell_c0 (k : Nat) : Lcall := lcallOf tab slices_IndexFunc_S_impl_Cell_t0 dec_rgii [0, 1, 7, 8] k (slices_IndexFunc_S_impl_Cell_w0 k)
def slices_IndexFunc_S_impl_Cell_C (k : Nat) : Cfg := ⟨tab, mvs, oraOf [], loOf [(0, slices_IndexFunc_S_impl_Cell_c0 k)]⟩
theorem slices_IndexFunc_S_impl_Cell_es (k : Nat) : ∀ e ∈ ([] : List Ent), EntOK Try.prog tab mvs e := by
  intro e he
  simp at he
theorem slices_IndexFunc_S_impl_Cell_step0 (k : Nat) (R : Type) (K : Ex → St → Option R) (g : St → Option R) (p : (List (List Int)) × (List Int → Option Bool) × Int × Int) : evCode (slices_IndexFunc_S_impl_Cell_C k) (loopP [0] (0, codeOf Try.f172)).2 (loopP [0] (0, codeOf Try.f172)).1 (fSt slices_IndexFunc_S_impl_Cell_t0 (enc_rgii p)) (loopK tab [0, 1, 7, 8] [] [4] g K) = slices_IndexFunc_S_impl_Cell_w0 k R K (fun p => g (fSt slices_IndexFunc_S_impl_Cell_t0 (enc_rgii p))) p := by
  kernel_rfl
theorem slices_IndexFunc_S_impl_Cell_lok0 (k : Nat) : LoopOK Try.prog tab (slices_IndexFunc_S_impl_Cell_C k).lo (loopP [0] (0, codeOf Try.f172)).1 (loopP [0] (0, codeOf Try.f172)).2 :=
  loopOK_of (C := slices_IndexFunc_S_impl_Cell_C k) tabOK eqTabOK (oraOf_ok (slices_IndexFunc_S_impl_Cell_es k)) (oraOf_nat (slices_IndexFunc_S_impl_Cell_es k)) follows (forall_getD _ 0 (0, Code.skip) (by kernel_rfl) fun i hi => by
      omega)
    (tm := slices_IndexFunc_S_impl_Cell_t0) (dec := dec_rgii) (enc := enc_rgii) (ksIn := [0, 1, 7, 8]) (ksOut := []) (ksRet := [4]) (k := k) (step := slices_IndexFunc_S_impl_Cell_w0 k) dec_enc_rgii (fun p => by kernel_rfl) (fun s R K => by kernel_rfl) (slices_IndexFunc_S_impl_Cell_step0 k)
def slices_IndexFunc_S_impl_Cell_e (k : Nat) : Ent := (172, callOf [.slr 49, .cloB 49] dec_rg fun (p : (List (List Int)) × (List Int → Option Bool)) R K => (slices_IndexFunc_S_impl_Cell k p.1 p.2).bind fun (b : Int) => K ((fV (.int .i64) (enc_i b)).1, none))
theorem slices_IndexFunc_S_impl_Cell_run (k : Nat) (p : (List (List Int)) × (List Int → Option Bool)) : runF (slices_IndexFunc_S_impl_Cell_C k) Try.f172 false (fL [.slr 49, .cloB 49] (enc_rg p)).1 (resK (.int .i64) dec_i) = slices_IndexFunc_S_impl_Cell k p.1 p.2 := by
  kernel_rfl
theorem slices_IndexFunc_S_impl_Cell_ok (k : Nat) : EntOK Try.prog tab mvs (slices_IndexFunc_S_impl_Cell_e k) :=
  fn_ok (C := slices_IndexFunc_S_impl_Cell_C k) tabOK eqTabOK (slices_IndexFunc_S_impl_Cell_es k) rfl follows Try.func172 (by kernel_rfl) (by kernel_rfl) rfl (forall_getD _ 1 (0, Code.skip) (by kernel_rfl) fun i hi => by
      match i, hi with
      | 0, _ => exact slices_IndexFunc_S_impl_Cell_lok0 k
      | n + 1, h => omega)
    dec_enc_rg dec_enc_i (slices_IndexFunc_S_impl_Cell_run k)

def slices_ContainsFunc_S_impl_Cell_C (k : Nat) : Cfg := ⟨tab, mvs, oraOf [slices_IndexFunc_S_impl_Cell_e k], loOf []⟩
theorem slices_ContainsFunc_S_impl_Cell_es (k : Nat) : ∀ e ∈ ([slices_IndexFunc_S_impl_Cell_e k] : List Ent), EntOK Try.prog tab mvs e := by
  intro e he
  simp only [List.mem_cons, List.not_mem_nil, or_false] at he
  rcases he with rfl
  · exact slices_IndexFunc_S_impl_Cell_ok k
def slices_ContainsFunc_S_impl_Cell_e (k : Nat) : Ent := (153, callOf [.slr 49, .cloB 49] dec_rg fun (p : (List (List Int)) × (List Int → Option Bool)) R K => (slices_ContainsFunc_S_impl_Cell k p.1 p.2).bind fun (b : Bool) => K ((fV (.bool) (enc_b b)).1, none))
theorem slices_ContainsFunc_S_impl_Cell_run (k : Nat) (p : (List (List Int)) × (List Int → Option Bool)) : runF (slices_ContainsFunc_S_impl_Cell_C k) Try.f153 false (fL [.slr 49, .cloB 49] (enc_rg p)).1 (resK (.bool) dec_b) = slices_ContainsFunc_S_impl_Cell k p.1 p.2 := by
  kernel_rfl
theorem slices_ContainsFunc_S_impl_Cell_ok (k : Nat) : EntOK Try.prog tab mvs (slices_ContainsFunc_S_impl_Cell_e k) :=
  fn_ok (C := slices_ContainsFunc_S_impl_Cell_C k) tabOK eqTabOK (slices_ContainsFunc_S_impl_Cell_es k) rfl follows Try.func153 (by kernel_rfl) (by kernel_rfl) rfl (forall_getD _ 0 (0, Code.skip) (by kernel_rfl) fun i hi => by
      omega)
    dec_enc_rg dec_enc_b (slices_ContainsFunc_S_impl_Cell_run k)

def impl_Lawn_open_C (k : Nat) : Cfg := ⟨tab, mvs, oraOf [impl_Lawn_is_e k], loOf []⟩
theorem impl_Lawn_open_es (k : Nat) : ∀ e ∈ ([impl_Lawn_is_e k] : List Ent), EntOK Try.prog tab mvs e := by
  intro e he
  simp only [List.mem_cons, List.not_mem_nil, or_false] at he
  rcases he with rfl
  · exact impl_Lawn_is_ok k
def impl_Lawn_open_e (k : Nat) : Ent := (98, callOf [.agg 32, .agg 29] dec_ll fun (p : (List Int) × (List Int)) R K => (impl_Lawn_open k p.1 p.2).bind fun (b : Bool) => K ((fV (.bool) (enc_b b)).1, none))
theorem impl_Lawn_open_run (k : Nat) (p : (List Int) × (List Int)) : runF (impl_Lawn_open_C k) Try.f98 false (fL [.agg 32, .agg 29] (enc_ll p)).1 (resK (.bool) dec_b) = impl_Lawn_open k p.1 p.2 := by
  kernel_rfl
theorem impl_Lawn_open_ok (k : Nat) : EntOK Try.prog tab mvs (impl_Lawn_open_e k) :=
  fn_ok (C := impl_Lawn_open_C k) tabOK eqTabOK (impl_Lawn_open_es k) rfl follows Try.func98 (by kernel_rfl) (by kernel_rfl) rfl (forall_getD _ 0 (0, Code.skip) (by kernel_rfl) fun i hi => by
      omega)
    dec_enc_ll dec_enc_b (impl_Lawn_open_run k)

def slices_Index_impl_Cell_t0 : StTm := ⟨19, [(0, .slv 29), (3, .ptr 3 0 29), (7, .int .i64), (8, .int .i64)], [(3, 29, true, .ints)]⟩
def slices_Index_impl_Cell_t0_1 : StTm := ⟨19, [(4, .int .i64)], []⟩
def slices_Index_impl_Cell_t0_2 : StTm := ⟨19, [], []⟩
def slices_Index_impl_Cell_w0 (k : Nat) (R : Type) (K : Ex → St → Option R) (rec : (List Int) × Int × Int × (List Int) → Option R) (p : (List Int) × Int × Int × (List Int)) : Option R := slices_Index_impl_Cell_s0 k (fun y1 => K .ret (fSt slices_Index_impl_Cell_t0_1 [.i y1])) (K (.exit 0) (fSt slices_Index_impl_Cell_t0_2 [])) (fun h1 h2 h3 h4 => rec (h1, h2, h3, h4)) p.1 p.2.1 p.2.2.1 p.2.2.2
def slices_Index_impl_Cell_c0 (k : Nat) : Lcall := lcallOf tab slices_Index_impl_Cell_t0 dec_liil [0, 3, 7, 8] k (slices_Index_impl_Cell_w0 k)
def slices_Index_impl_Cell_C (k : Nat) : Cfg := ⟨tab, mvs, oraOf [], loOf [(0, slices_Index_impl_Cell_c0 k)]⟩
theorem slices_Index_impl_Cell_es (k : Nat) : ∀ e ∈ ([] : List Ent), EntOK Try.prog tab mvs e := by
  intro e he
  simp at he
theorem slices_Index_impl_Cell_step0 (k : Nat) (R : Type) (K : Ex → St → Option R) (g : St → Option R) (p : (List Int) × Int × Int × (List Int)) : evCode (slices_Index_impl_Cell_C k) (loopP [0] (0, codeOf Try.f108)).2 (loopP [0] (0, codeOf Try.f108)).1 (fSt slices_Index_impl_Cell_t0 (enc_liil p)) (loopK tab [0, 3, 7, 8] [] [4] g K) = slices_Index_impl_Cell_w0 k R K (fun p => g (fSt slices_Index_impl_Cell_t0 (enc_liil p))) p := by
  kernel_rfl
theorem slices_Index_impl_Cell_lok0 (k : Nat) : LoopOK Try.prog tab (slices_Index_impl_Cell_C k).lo (loopP [0] (0, codeOf Try.f108)).1 (loopP [0] (0, codeOf Try.f108)).2 :=
  loopOK_of (C := slices_Index_impl_Cell_C k) tabOK eqTabOK (oraOf_ok (slices_Index_impl_Cell_es k)) (oraOf_nat (slices_Index_impl_Cell_es k)) follows (forall_getD _ 0 (0, Code.skip) (by kernel_rfl) fun i hi => by
      omega)
    (tm := slices_Index_impl_Cell_t0) (dec := dec_liil) (enc := enc_liil) (ksIn := [0, 3, 7, 8]) (ksOut := []) (ksRet := [4]) (k := k) (step := slices_Index_impl_Cell_w0 k) dec_enc_liil (fun p => by kernel_rfl) (fun s R K => by kernel_rfl) (slices_Index_impl_Cell_step0 k)
def slices_Index_impl_Cell_e (k : Nat) : Ent := (108, callOf [.slv 29, .agg 29] dec_ll fun (p : (List Int) × (List Int)) R K => (slices_Index_impl_Cell k p.1 p.2).bind fun (b : Int) => K ((fV (.int .i64) (enc_i b)).1, none))
theorem slices_Index_impl_Cell_run (k : Nat) (p : (List Int) × (List Int)) : runF (slices_Index_impl_Cell_C k) Try.f108 false (fL [.slv 29, .agg 29] (enc_ll p)).1 (resK (.int .i64) dec_i) = slices_Index_impl_Cell k p.1 p.2 := by
  kernel_rfl
theorem slices_Index_impl_Cell_ok (k : Nat) : EntOK Try.prog tab mvs (slices_Index_impl_Cell_e k) :=
  fn_ok (C := slices_Index_impl_Cell_C k) tabOK eqTabOK (slices_Index_impl_Cell_es k) rfl follows Try.func108 (by kernel_rfl) (by kernel_rfl) rfl (forall_getD _ 1 (0, Code.skip) (by kernel_rfl) fun i hi => by
      match i, hi with
      | 0, _ => exact slices_Index_impl_Cell_lok0 k
      | n + 1, h => omega)
    dec_enc_ll dec_enc_i (slices_Index_impl_Cell_run k)

def slices_Contains_impl_Cell_C (k : Nat) : Cfg := ⟨tab, mvs, oraOf [slices_Index_impl_Cell_e k], loOf []⟩
theorem slices_Contains_impl_Cell_es (k : Nat) : ∀ e ∈ ([slices_Index_impl_Cell_e k] : List Ent), EntOK Try.prog tab mvs e := by
  intro e he
  simp only [List.mem_cons, List.not_mem_nil, or_false] at he
  rcases he with rfl
  · exact slices_Index_impl_Cell_ok k
def slices_Contains_impl_Cell_e (k : Nat) : Ent := (173, callOf [.slv 29, .agg 29] dec_ll fun (p : (List Int) × (List Int)) R K => (slices_Contains_impl_Cell k p.1 p.2).bind fun (b : Bool) => K ((fV (.bool) (enc_b b)).1, none))
theorem slices_Contains_impl_Cell_run (k : Nat) (p : (List Int) × (List Int)) : runF (slices_Contains_impl_Cell_C k) Try.f173 false (fL [.slv 29, .agg 29] (enc_ll p)).1 (resK (.bool) dec_b) = slices_Contains_impl_Cell k p.1 p.2 := by
  kernel_rfl
theorem slices_Contains_impl_Cell_ok (k : Nat) : EntOK Try.prog tab mvs (slices_Contains_impl_Cell_e k) :=
  fn_ok (C := slices_Contains_impl_Cell_C k) tabOK eqTabOK (slices_Contains_impl_Cell_es k) rfl follows Try.func173 (by kernel_rfl) (by kernel_rfl) rfl (forall_getD _ 0 (0, Code.skip) (by kernel_rfl) fun i hi => by
      omega)
    dec_enc_ll dec_enc_b (slices_Contains_impl_Cell_run k)

def dec_lliil (ps : List Pay) : Option ((List Int) × (List Int) × Int × Int × (List Int)) := match ps with
  | [.l x1, .l x2, .i x3, .i x4, .l x5] => some (x1, x2, x3, x4, x5)
  | _ => none
def enc_lliil (p : (List Int) × (List Int) × Int × Int × (List Int)) : List Pay := [.l p.1, .l p.2.1, .i p.2.2.1, .i p.2.2.2.1, .l p.2.2.2.2]
theorem dec_enc_lliil : ∀ (ps : List Pay) (p : (List Int) × (List Int) × Int × Int × (List Int)), dec_lliil ps = some p → ps = enc_lliil p := by
  intro ps p h
  unfold dec_lliil at h
  split at h
  · injection h with h
    subst h
    rfl
  · cases h

def impl_Lawn_isWalk_t0 : StTm := ⟨46, [(1, .slv 29), (2, .ptr 2 0 32), (7, .slv 29), (8, .int .i64), (9, .int .i64)], [(2, 32, true, .ints)]⟩
def impl_Lawn_isWalk_t0_1 : StTm := ⟨46, [(4, .bool)], []⟩
def impl_Lawn_isWalk_t0_2 : StTm := ⟨46, [(1, .slv 29)], []⟩
def impl_Lawn_isWalk_w0 (k : Nat) (R : Type) (K : Ex → St → Option R) (rec : (List Int) × (List Int) × Int × Int × (List Int) → Option R) (p : (List Int) × (List Int) × Int × Int × (List Int)) : Option R := impl_Lawn_isWalk_s0 k (fun y1 => K .ret (fSt impl_Lawn_isWalk_t0_1 [.b y1])) (fun y1 => K (.exit 0) (fSt impl_Lawn_isWalk_t0_2 [.l y1])) (fun h1 h2 h3 h4 h5 => rec (h1, h2, h3, h4, h5)) p.1 p.2.1 p.2.2.1 p.2.2.2.1 p.2.2.2.2
def impl_Lawn_isWalk_c0 (k : Nat) : Lcall := lcallOf tab impl_Lawn_isWalk_t0 dec_lliil [1, 2, 7, 8, 9] k (impl_Lawn_isWalk_w0 k)
def impl_Lawn_isWalk_C (k : Nat) : Cfg := ⟨tab, mvs, oraOf [impl_Lawn_open_e k, impl_beside_e k, slices_Contains_impl_Cell_e k], loOf [(0, impl_Lawn_isWalk_c0 k)]⟩
theorem impl_Lawn_isWalk_es (k : Nat) : ∀ e ∈ ([impl_Lawn_open_e k, impl_beside_e k, slices_Contains_impl_Cell_e k] : List Ent), EntOK Try.prog tab mvs e := by
  intro e he
  simp only [List.mem_cons, List.not_mem_nil, or_false] at he
  rcases he with rfl | rfl | rfl
  · exact impl_Lawn_open_ok k
  · exact impl_beside_ok k
  · exact slices_Contains_impl_Cell_ok k
theorem impl_Lawn_isWalk_step0 (k : Nat) (R : Type) (K : Ex → St → Option R) (g : St → Option R) (p : (List Int) × (List Int) × Int × Int × (List Int)) : evCode (impl_Lawn_isWalk_C k) (loopP [0] (0, codeOf Try.f156)).2 (loopP [0] (0, codeOf Try.f156)).1 (fSt impl_Lawn_isWalk_t0 (enc_lliil p)) (loopK tab [1, 2, 7, 8, 9] [1] [4] g K) = impl_Lawn_isWalk_w0 k R K (fun p => g (fSt impl_Lawn_isWalk_t0 (enc_lliil p))) p := by
  kernel_rfl
theorem impl_Lawn_isWalk_lok0 (k : Nat) : LoopOK Try.prog tab (impl_Lawn_isWalk_C k).lo (loopP [0] (0, codeOf Try.f156)).1 (loopP [0] (0, codeOf Try.f156)).2 :=
  loopOK_of (C := impl_Lawn_isWalk_C k) tabOK eqTabOK (oraOf_ok (impl_Lawn_isWalk_es k)) (oraOf_nat (impl_Lawn_isWalk_es k)) follows (forall_getD _ 0 (0, Code.skip) (by kernel_rfl) fun i hi => by
      omega)
    (tm := impl_Lawn_isWalk_t0) (dec := dec_lliil) (enc := enc_lliil) (ksIn := [1, 2, 7, 8, 9]) (ksOut := [1]) (ksRet := [4]) (k := k) (step := impl_Lawn_isWalk_w0 k) dec_enc_lliil (fun p => by kernel_rfl) (fun s R K => by kernel_rfl) (impl_Lawn_isWalk_step0 k)
def impl_Lawn_isWalk_e (k : Nat) : Ent := (156, callOf [.agg 32, .slv 29] dec_ll fun (p : (List Int) × (List Int)) R K => (impl_Lawn_isWalk k p.1 p.2).bind fun (b : Bool) => K ((fV (.bool) (enc_b b)).1, none))
theorem impl_Lawn_isWalk_run (k : Nat) (p : (List Int) × (List Int)) : runF (impl_Lawn_isWalk_C k) Try.f156 false (fL [.agg 32, .slv 29] (enc_ll p)).1 (resK (.bool) dec_b) = impl_Lawn_isWalk k p.1 p.2 := by
  kernel_rfl
theorem impl_Lawn_isWalk_ok (k : Nat) : EntOK Try.prog tab mvs (impl_Lawn_isWalk_e k) :=
  fn_ok (C := impl_Lawn_isWalk_C k) tabOK eqTabOK (impl_Lawn_isWalk_es k) rfl follows Try.func156 (by kernel_rfl) (by kernel_rfl) rfl (forall_getD _ 1 (0, Code.skip) (by kernel_rfl) fun i hi => by
      match i, hi with
      | 0, _ => exact impl_Lawn_isWalk_lok0 k
      | n + 1, h => omega)
    dec_enc_ll dec_enc_b (impl_Lawn_isWalk_run k)

def impl_walkCode_2_C (k : Nat) : Cfg := ⟨tab, mvs, oraOf [impl_Lawn_isWalk_e k], loOf []⟩
theorem impl_walkCode_2_es (k : Nat) : ∀ e ∈ ([impl_Lawn_isWalk_e k] : List Ent), EntOK Try.prog tab mvs e := by
  intro e he
  simp only [List.mem_cons, List.not_mem_nil, or_false] at he
  rcases he with rfl
  · exact impl_Lawn_isWalk_ok k
def impl_walkCode_2_e (k : Nat) : Ent := (155, callOf [.slv 29, .pvi (some 32) 0 32] dec_ll fun (p : (List Int) × (List Int)) R K => (impl_walkCode_2 k p.1 p.2).bind fun (b : Bool) => K ((fV (.bool) (enc_b b)).1, none))
theorem impl_walkCode_2_run (k : Nat) (p : (List Int) × (List Int)) : runF (impl_walkCode_2_C k) Try.f155 false (fL [.slv 29, .pvi (some 32) 0 32] (enc_ll p)).1 (resK (.bool) dec_b) = impl_walkCode_2 k p.1 p.2 := by
  kernel_rfl
theorem impl_walkCode_2_ok (k : Nat) : EntOK Try.prog tab mvs (impl_walkCode_2_e k) :=
  fn_ok (C := impl_walkCode_2_C k) tabOK eqTabOK (impl_walkCode_2_es k) rfl follows Try.func155 (by kernel_rfl) (by kernel_rfl) rfl (forall_getD _ 0 (0, Code.skip) (by kernel_rfl) fun i hi => by
      omega)
    dec_enc_ll dec_enc_b (impl_walkCode_2_run k)

def dec_lr (ps : List Pay) : Option ((List Int) × (List (List Int))) := match ps with
  | [.l x1, .r x2] => some (x1, x2)
  | _ => none
def enc_lr (p : (List Int) × (List (List Int))) : List Pay := [.l p.1, .r p.2]
theorem dec_enc_lr : ∀ (ps : List Pay) (p : (List Int) × (List (List Int))), dec_lr ps = some p → ps = enc_lr p := by
  intro ps p h
  unfold dec_lr at h
  split at h
  · injection h with h
    subst h
    rfl
  · cases h

def impl_walkCode_C (k : Nat) : Cfg := ⟨tab, mvs, oraOf [impl_ValidLawn_e k, impl_walkCode_1_e k, slices_ContainsFunc_S_impl_Cell_e k, impl_walkCode_2_e k], loOf []⟩
theorem impl_walkCode_es (k : Nat) : ∀ e ∈ ([impl_ValidLawn_e k, impl_walkCode_1_e k, slices_ContainsFunc_S_impl_Cell_e k, impl_walkCode_2_e k] : List Ent), EntOK Try.prog tab mvs e := by
  intro e he
  simp only [List.mem_cons, List.not_mem_nil, or_false] at he
  rcases he with rfl | rfl | rfl | rfl
  · exact impl_ValidLawn_ok k
  · exact impl_walkCode_1_ok k
  · exact slices_ContainsFunc_S_impl_Cell_ok k
  · exact impl_walkCode_2_ok k
def impl_walkCode_e (k : Nat) : Ent := (115, callOf [.agg 32, .slr 49] dec_lr fun (p : (List Int) × (List (List Int))) R K => (impl_walkCode k p.1 p.2).bind fun (b : Int) => K ((fV (.int .i64) (enc_i b)).1, none))
theorem impl_walkCode_run (k : Nat) (p : (List Int) × (List (List Int))) : runF (impl_walkCode_C k) Try.f115 false (fL [.agg 32, .slr 49] (enc_lr p)).1 (resK (.int .i64) dec_i) = impl_walkCode k p.1 p.2 := by
  kernel_rfl
theorem impl_walkCode_ok (k : Nat) : EntOK Try.prog tab mvs (impl_walkCode_e k) :=
  fn_ok (C := impl_walkCode_C k) tabOK eqTabOK (impl_walkCode_es k) rfl follows Try.func115 (by kernel_rfl) (by kernel_rfl) rfl (forall_getD _ 0 (0, Code.skip) (by kernel_rfl) fun i hi => by
      omega)
    dec_enc_lr dec_enc_i (impl_walkCode_run k)

def dec_iliil (ps : List Pay) : Option (Int × (List Int) × Int × Int × (List Int)) := match ps with
  | [.i x1, .l x2, .i x3, .i x4, .l x5] => some (x1, x2, x3, x4, x5)
  | _ => none
def enc_iliil (p : Int × (List Int) × Int × Int × (List Int)) : List Pay := [.i p.1, .l p.2.1, .i p.2.2.1, .i p.2.2.2.1, .l p.2.2.2.2]
theorem dec_enc_iliil : ∀ (ps : List Pay) (p : Int × (List Int) × Int × Int × (List Int)), dec_iliil ps = some p → ps = enc_iliil p := by
  intro ps p h
  unfold dec_iliil at h
  split at h
  · injection h with h
    subst h
    rfl
  · cases h

def impl_times_t0 : StTm := ⟨21, [(3, .ptr 3 0 29), (5, .int .i64), (8, .slv 29), (9, .int .i64), (10, .int .i64)], [(3, 29, true, .ints)]⟩
def impl_times_t0_1 : StTm := ⟨21, [(5, .int .i64)], []⟩
def impl_times_w0 (k : Nat) (R : Type) (K : Ex → St → Option R) (rec : Int × (List Int) × Int × Int × (List Int) → Option R) (p : Int × (List Int) × Int × Int × (List Int)) : Option R := impl_times_s0 k (fun y1 => K (.exit 0) (fSt impl_times_t0_1 [.i y1])) (fun h1 h2 h3 h4 h5 => rec (h1, h2, h3, h4, h5)) p.1 p.2.1 p.2.2.1 p.2.2.2.1 p.2.2.2.2
def impl_times_c0 (k : Nat) : Lcall := lcallOf tab impl_times_t0 dec_iliil [3, 5, 8, 9, 10] k (impl_times_w0 k)
def impl_times_C (k : Nat) : Cfg := ⟨tab, mvs, oraOf [], loOf [(0, impl_times_c0 k)]⟩
theorem impl_times_es (k : Nat) : ∀ e ∈ ([] : List Ent), EntOK Try.prog tab mvs e := by
  intro e he
  simp at he
theorem impl_times_step0 (k : Nat) (R : Type) (K : Ex → St → Option R) (g : St → Option R) (p : Int × (List Int) × Int × Int × (List Int)) : evCode (impl_times_C k) (loopP [0] (0, codeOf Try.f117)).2 (loopP [0] (0, codeOf Try.f117)).1 (fSt impl_times_t0 (enc_iliil p)) (loopK tab [3, 5, 8, 9, 10] [5] [4] g K) = impl_times_w0 k R K (fun p => g (fSt impl_times_t0 (enc_iliil p))) p := by
  kernel_rfl
theorem impl_times_lok0 (k : Nat) : LoopOK Try.prog tab (impl_times_C k).lo (loopP [0] (0, codeOf Try.f117)).1 (loopP [0] (0, codeOf Try.f117)).2 :=
  loopOK_of (C := impl_times_C k) tabOK eqTabOK (oraOf_ok (impl_times_es k)) (oraOf_nat (impl_times_es k)) follows (forall_getD _ 0 (0, Code.skip) (by kernel_rfl) fun i hi => by
      omega)
    (tm := impl_times_t0) (dec := dec_iliil) (enc := enc_iliil) (ksIn := [3, 5, 8, 9, 10]) (ksOut := [5]) (ksRet := [4]) (k := k) (step := impl_times_w0 k) dec_enc_iliil (fun p => by kernel_rfl) (fun s R K => by kernel_rfl) (impl_times_step0 k)
def impl_times_e (k : Nat) : Ent := (117, callOf [.slv 29, .agg 29] dec_ll fun (p : (List Int) × (List Int)) R K => (impl_times k p.1 p.2).bind fun (b : Int) => K ((fV (.int .i64) (enc_i b)).1, none))
theorem impl_times_run (k : Nat) (p : (List Int) × (List Int)) : runF (impl_times_C k) Try.f117 false (fL [.slv 29, .agg 29] (enc_ll p)).1 (resK (.int .i64) dec_i) = impl_times k p.1 p.2 := by
  kernel_rfl
theorem impl_times_ok (k : Nat) : EntOK Try.prog tab mvs (impl_times_e k) :=
  fn_ok (C := impl_times_C k) tabOK eqTabOK (impl_times_es k) rfl follows Try.func117 (by kernel_rfl) (by kernel_rfl) rfl (forall_getD _ 1 (0, Code.skip) (by kernel_rfl) fun i hi => by
      match i, hi with
      | 0, _ => exact impl_times_lok0 k
      | n + 1, h => omega)
    dec_enc_ll dec_enc_i (impl_times_run k)

def impl_CoveredBy_1_C (k : Nat) : Cfg := ⟨tab, mvs, oraOf [impl_Lawn_grass_e k, impl_times_e k], loOf []⟩
theorem impl_CoveredBy_1_es (k : Nat) : ∀ e ∈ ([impl_Lawn_grass_e k, impl_times_e k] : List Ent), EntOK Try.prog tab mvs e := by
  intro e he
  simp only [List.mem_cons, List.not_mem_nil, or_false] at he
  rcases he with rfl | rfl
  · exact impl_Lawn_grass_ok k
  · exact impl_times_ok k
def impl_CoveredBy_1_e (k : Nat) : Ent := (116, callOf [.agg 29, .pvi (some 32) 0 32, .pvv [.slv 29] 0 49] dec_lll fun (p : (List Int) × (List Int) × (List Int)) R K => (impl_CoveredBy_1 k p.1 p.2.1 p.2.2).bind fun (b : Bool) => K ((fV (.bool) (enc_b b)).1, none))
theorem impl_CoveredBy_1_run (k : Nat) (p : (List Int) × (List Int) × (List Int)) : runF (impl_CoveredBy_1_C k) Try.f116 false (fL [.agg 29, .pvi (some 32) 0 32, .pvv [.slv 29] 0 49] (enc_lll p)).1 (resK (.bool) dec_b) = impl_CoveredBy_1 k p.1 p.2.1 p.2.2 := by
  kernel_rfl
theorem impl_CoveredBy_1_ok (k : Nat) : EntOK Try.prog tab mvs (impl_CoveredBy_1_e k) :=
  fn_ok (C := impl_CoveredBy_1_C k) tabOK eqTabOK (impl_CoveredBy_1_es k) rfl follows Try.func116 (by kernel_rfl) (by kernel_rfl) rfl (forall_getD _ 0 (0, Code.skip) (by kernel_rfl) fun i hi => by
      omega)
    dec_enc_lll dec_enc_b (impl_CoveredBy_1_run k)

def impl_CoveredBy_C (k : Nat) : Cfg := ⟨tab, mvs, oraOf [impl_walkCode_e k, impl_CoveredBy_1_e k, impl_Lawn_those_e k], loOf []⟩
theorem impl_CoveredBy_es (k : Nat) : ∀ e ∈ ([impl_walkCode_e k, impl_CoveredBy_1_e k, impl_Lawn_those_e k] : List Ent), EntOK Try.prog tab mvs e := by
  intro e he
  simp only [List.mem_cons, List.not_mem_nil, or_false] at he
  rcases he with rfl | rfl | rfl
  · exact impl_walkCode_ok k
  · exact impl_CoveredBy_1_ok k
  · exact impl_Lawn_those_ok k
def impl_CoveredBy_e (k : Nat) : Ent := (51, callOf [.agg 32, .slv 29] dec_ll fun (p : (List Int) × (List Int)) R K => (impl_CoveredBy k p.1 p.2).bind fun (b : (List Int) × Int) => K ((fV (.tup [.slv 29, .int .i64]) (enc_li b)).1, none))
theorem impl_CoveredBy_run (k : Nat) (p : (List Int) × (List Int)) : runF (impl_CoveredBy_C k) Try.f51 false (fL [.agg 32, .slv 29] (enc_ll p)).1 (resK (.tup [.slv 29, .int .i64]) dec_li) = impl_CoveredBy k p.1 p.2 := by
  kernel_rfl
theorem impl_CoveredBy_ok (k : Nat) : EntOK Try.prog tab mvs (impl_CoveredBy_e k) :=
  fn_ok (C := impl_CoveredBy_C k) tabOK eqTabOK (impl_CoveredBy_es k) rfl follows Try.func51 (by kernel_rfl) (by kernel_rfl) rfl (forall_getD _ 0 (0, Code.skip) (by kernel_rfl) fun i hi => by
      omega)
    dec_enc_ll dec_enc_li (impl_CoveredBy_run k)

def laws_FnExactCoveredBy_C (k : Nat) : Cfg := ⟨tab, mvs, oraOf [laws_szCellS_e k, laws_toLawn_e k, laws_toCellS_e k, spec_CoveredBy_e k, impl_CoveredBy_e k, laws_eqCellS_e k, laws_markCellS_e k, laws_heldCellS_e k], loOf []⟩
theorem laws_FnExactCoveredBy_es (k : Nat) : ∀ e ∈ ([laws_szCellS_e k, laws_toLawn_e k, laws_toCellS_e k, spec_CoveredBy_e k, impl_CoveredBy_e k, laws_eqCellS_e k, laws_markCellS_e k, laws_heldCellS_e k] : List Ent), EntOK Try.prog tab mvs e := by
  intro e he
  simp only [List.mem_cons, List.not_mem_nil, or_false] at he
  rcases he with rfl | rfl | rfl | rfl | rfl | rfl | rfl | rfl
  · exact laws_szCellS_ok k
  · exact laws_toLawn_ok k
  · exact laws_toCellS_ok k
  · exact spec_CoveredBy_ok k
  · exact impl_CoveredBy_ok k
  · exact laws_eqCellS_ok k
  · exact laws_markCellS_ok k
  · exact laws_heldCellS_ok k
def laws_FnExactCoveredBy_e (k : Nat) : Ent := (12, callOf [.agg 26, .slv 28] dec_ll fun (p : (List Int) × (List Int)) R K => (laws_FnExactCoveredBy k p.1 p.2).bind fun (b : Bool) => K ((fV (.bool) (enc_b b)).1, none))
theorem laws_FnExactCoveredBy_run (k : Nat) (p : (List Int) × (List Int)) : runF (laws_FnExactCoveredBy_C k) Try.f12 false (fL [.agg 26, .slv 28] (enc_ll p)).1 (resK (.bool) dec_b) = laws_FnExactCoveredBy k p.1 p.2 := by
  kernel_rfl
theorem laws_FnExactCoveredBy_ok (k : Nat) : EntOK Try.prog tab mvs (laws_FnExactCoveredBy_e k) :=
  fn_ok (C := laws_FnExactCoveredBy_C k) tabOK eqTabOK (laws_FnExactCoveredBy_es k) rfl follows Try.func12 (by kernel_rfl) (by kernel_rfl) rfl (forall_getD _ 0 (0, Code.skip) (by kernel_rfl) fun i hi => by
      omega)
    dec_enc_ll dec_enc_b (laws_FnExactCoveredBy_run k)

def spec_CoveredTwice_C (k : Nat) : Cfg := ⟨tab, mvs, oraOf [spec_l04Walked_e k, spec_l04Times_e k], loOf []⟩
theorem spec_CoveredTwice_es (k : Nat) : ∀ e ∈ ([spec_l04Walked_e k, spec_l04Times_e k] : List Ent), EntOK Try.prog tab mvs e := by
  intro e he
  simp only [List.mem_cons, List.not_mem_nil, or_false] at he
  rcases he with rfl | rfl
  · exact spec_l04Walked_ok k
  · exact spec_l04Times_ok k
def spec_CoveredTwice_e (k : Nat) : Ent := (52, callOf [.agg 32, .slv 29] dec_ll fun (p : (List Int) × (List Int)) R K => (spec_CoveredTwice k p.1 p.2).bind fun (b : (List Int) × Int) => K ((fV (.tup [.slv 29, .int .i64]) (enc_li b)).1, none))
theorem spec_CoveredTwice_run (k : Nat) (p : (List Int) × (List Int)) : runF (spec_CoveredTwice_C k) Try.f52 false (fL [.agg 32, .slv 29] (enc_ll p)).1 (resK (.tup [.slv 29, .int .i64]) dec_li) = spec_CoveredTwice k p.1 p.2 := by
  kernel_rfl
theorem spec_CoveredTwice_ok (k : Nat) : EntOK Try.prog tab mvs (spec_CoveredTwice_e k) :=
  fn_ok (C := spec_CoveredTwice_C k) tabOK eqTabOK (spec_CoveredTwice_es k) rfl follows Try.func52 (by kernel_rfl) (by kernel_rfl) rfl (forall_getD _ 0 (0, Code.skip) (by kernel_rfl) fun i hi => by
      omega)
    dec_enc_ll dec_enc_li (spec_CoveredTwice_run k)

def impl_CoveredTwice_1_C (k : Nat) : Cfg := ⟨tab, mvs, oraOf [impl_Lawn_grass_e k, impl_times_e k], loOf []⟩
theorem impl_CoveredTwice_1_es (k : Nat) : ∀ e ∈ ([impl_Lawn_grass_e k, impl_times_e k] : List Ent), EntOK Try.prog tab mvs e := by
  intro e he
  simp only [List.mem_cons, List.not_mem_nil, or_false] at he
  rcases he with rfl | rfl
  · exact impl_Lawn_grass_ok k
  · exact impl_times_ok k
def impl_CoveredTwice_1_e (k : Nat) : Ent := (118, callOf [.agg 29, .pvi (some 32) 0 32, .pvv [.slv 29] 0 49] dec_lll fun (p : (List Int) × (List Int) × (List Int)) R K => (impl_CoveredTwice_1 k p.1 p.2.1 p.2.2).bind fun (b : Bool) => K ((fV (.bool) (enc_b b)).1, none))
theorem impl_CoveredTwice_1_run (k : Nat) (p : (List Int) × (List Int) × (List Int)) : runF (impl_CoveredTwice_1_C k) Try.f118 false (fL [.agg 29, .pvi (some 32) 0 32, .pvv [.slv 29] 0 49] (enc_lll p)).1 (resK (.bool) dec_b) = impl_CoveredTwice_1 k p.1 p.2.1 p.2.2 := by
  kernel_rfl
theorem impl_CoveredTwice_1_ok (k : Nat) : EntOK Try.prog tab mvs (impl_CoveredTwice_1_e k) :=
  fn_ok (C := impl_CoveredTwice_1_C k) tabOK eqTabOK (impl_CoveredTwice_1_es k) rfl follows Try.func118 (by kernel_rfl) (by kernel_rfl) rfl (forall_getD _ 0 (0, Code.skip) (by kernel_rfl) fun i hi => by
      omega)
    dec_enc_lll dec_enc_b (impl_CoveredTwice_1_run k)

def impl_CoveredTwice_C (k : Nat) : Cfg := ⟨tab, mvs, oraOf [impl_walkCode_e k, impl_CoveredTwice_1_e k, impl_Lawn_those_e k], loOf []⟩
theorem impl_CoveredTwice_es (k : Nat) : ∀ e ∈ ([impl_walkCode_e k, impl_CoveredTwice_1_e k, impl_Lawn_those_e k] : List Ent), EntOK Try.prog tab mvs e := by
  intro e he
  simp only [List.mem_cons, List.not_mem_nil, or_false] at he
  rcases he with rfl | rfl | rfl
  · exact impl_walkCode_ok k
  · exact impl_CoveredTwice_1_ok k
  · exact impl_Lawn_those_ok k
def impl_CoveredTwice_e (k : Nat) : Ent := (53, callOf [.agg 32, .slv 29] dec_ll fun (p : (List Int) × (List Int)) R K => (impl_CoveredTwice k p.1 p.2).bind fun (b : (List Int) × Int) => K ((fV (.tup [.slv 29, .int .i64]) (enc_li b)).1, none))
theorem impl_CoveredTwice_run (k : Nat) (p : (List Int) × (List Int)) : runF (impl_CoveredTwice_C k) Try.f53 false (fL [.agg 32, .slv 29] (enc_ll p)).1 (resK (.tup [.slv 29, .int .i64]) dec_li) = impl_CoveredTwice k p.1 p.2 := by
  kernel_rfl
theorem impl_CoveredTwice_ok (k : Nat) : EntOK Try.prog tab mvs (impl_CoveredTwice_e k) :=
  fn_ok (C := impl_CoveredTwice_C k) tabOK eqTabOK (impl_CoveredTwice_es k) rfl follows Try.func53 (by kernel_rfl) (by kernel_rfl) rfl (forall_getD _ 0 (0, Code.skip) (by kernel_rfl) fun i hi => by
      omega)
    dec_enc_ll dec_enc_li (impl_CoveredTwice_run k)

def laws_FnExactCoveredTwice_C (k : Nat) : Cfg := ⟨tab, mvs, oraOf [laws_szCellS_e k, laws_toLawn_e k, laws_toCellS_e k, spec_CoveredTwice_e k, impl_CoveredTwice_e k, laws_eqCellS_e k, laws_markCellS_e k, laws_heldCellS_e k], loOf []⟩
theorem laws_FnExactCoveredTwice_es (k : Nat) : ∀ e ∈ ([laws_szCellS_e k, laws_toLawn_e k, laws_toCellS_e k, spec_CoveredTwice_e k, impl_CoveredTwice_e k, laws_eqCellS_e k, laws_markCellS_e k, laws_heldCellS_e k] : List Ent), EntOK Try.prog tab mvs e := by
  intro e he
  simp only [List.mem_cons, List.not_mem_nil, or_false] at he
  rcases he with rfl | rfl | rfl | rfl | rfl | rfl | rfl | rfl
  · exact laws_szCellS_ok k
  · exact laws_toLawn_ok k
  · exact laws_toCellS_ok k
  · exact spec_CoveredTwice_ok k
  · exact impl_CoveredTwice_ok k
  · exact laws_eqCellS_ok k
  · exact laws_markCellS_ok k
  · exact laws_heldCellS_ok k
def laws_FnExactCoveredTwice_e (k : Nat) : Ent := (13, callOf [.agg 26, .slv 28] dec_ll fun (p : (List Int) × (List Int)) R K => (laws_FnExactCoveredTwice k p.1 p.2).bind fun (b : Bool) => K ((fV (.bool) (enc_b b)).1, none))
theorem laws_FnExactCoveredTwice_run (k : Nat) (p : (List Int) × (List Int)) : runF (laws_FnExactCoveredTwice_C k) Try.f13 false (fL [.agg 26, .slv 28] (enc_ll p)).1 (resK (.bool) dec_b) = laws_FnExactCoveredTwice k p.1 p.2 := by
  kernel_rfl
theorem laws_FnExactCoveredTwice_ok (k : Nat) : EntOK Try.prog tab mvs (laws_FnExactCoveredTwice_e k) :=
  fn_ok (C := laws_FnExactCoveredTwice_C k) tabOK eqTabOK (laws_FnExactCoveredTwice_es k) rfl follows Try.func13 (by kernel_rfl) (by kernel_rfl) rfl (forall_getD _ 0 (0, Code.skip) (by kernel_rfl) fun i hi => by
      omega)
    dec_enc_ll dec_enc_b (laws_FnExactCoveredTwice_run k)

def laws_toWear_t0 : StTm := ⟨15, [(1, .ptr 1 0 44), (2, .ptr 2 0 46), (3, .ptr 3 0 46), (4, .int .i64)], [(1, 44, true, .ints), (2, 46, true, .ints), (3, 46, true, .ints)]⟩
def laws_toWear_t0_1 : StTm := ⟨15, [(2, .ptr 2 0 46), (3, .ptr 3 0 46)], [(2, 46, true, .ints), (3, 46, true, .ints)]⟩
def laws_toWear_w0 (k : Nat) (R : Type) (K : Ex → St → Option R) (rec : Int × (List Int) × (List Int) × (List Int) → Option R) (p : Int × (List Int) × (List Int) × (List Int)) : Option R := laws_toWear_s0 k (fun y1 y2 => K (.exit 0) (fSt laws_toWear_t0_1 [.l y1, .l y2])) (fun h1 h2 h3 h4 => rec (h1, h2, h3, h4)) p.1 p.2.1 p.2.2.1 p.2.2.2
def laws_toWear_c0 (k : Nat) : Lcall := lcallOf tab laws_toWear_t0 dec_illl [1, 2, 3, 4] k (laws_toWear_w0 k)
def laws_toWear_C (k : Nat) : Cfg := ⟨tab, mvs, oraOf [], loOf [(0, laws_toWear_c0 k)]⟩
theorem laws_toWear_es (k : Nat) : ∀ e ∈ ([] : List Ent), EntOK Try.prog tab mvs e := by
  intro e he
  simp at he
theorem laws_toWear_step0 (k : Nat) (R : Type) (K : Ex → St → Option R) (g : St → Option R) (p : Int × (List Int) × (List Int) × (List Int)) : evCode (laws_toWear_C k) (loopP [0] (0, codeOf Try.f24)).2 (loopP [0] (0, codeOf Try.f24)).1 (fSt laws_toWear_t0 (enc_illl p)) (loopK tab [1, 2, 3, 4] [2, 3] [2] g K) = laws_toWear_w0 k R K (fun p => g (fSt laws_toWear_t0 (enc_illl p))) p := by
  kernel_rfl
theorem laws_toWear_lok0 (k : Nat) : LoopOK Try.prog tab (laws_toWear_C k).lo (loopP [0] (0, codeOf Try.f24)).1 (loopP [0] (0, codeOf Try.f24)).2 :=
  loopOK_of (C := laws_toWear_C k) tabOK eqTabOK (oraOf_ok (laws_toWear_es k)) (oraOf_nat (laws_toWear_es k)) follows (forall_getD _ 0 (0, Code.skip) (by kernel_rfl) fun i hi => by
      omega)
    (tm := laws_toWear_t0) (dec := dec_illl) (enc := enc_illl) (ksIn := [1, 2, 3, 4]) (ksOut := [2, 3]) (ksRet := [2]) (k := k) (step := laws_toWear_w0 k) dec_enc_illl (fun p => by kernel_rfl) (fun s R K => by kernel_rfl) (laws_toWear_step0 k)
def laws_toWear_e (k : Nat) : Ent := (24, callOf [.agg 44] dec_l fun (p : (List Int)) R K => (laws_toWear k p).bind fun (b : (List Int)) => K ((fV (.agg 46) (enc_l b)).1, none))
theorem laws_toWear_run (k : Nat) (p : (List Int)) : runF (laws_toWear_C k) Try.f24 false (fL [.agg 44] (enc_l p)).1 (resK (.agg 46) dec_l) = laws_toWear k p := by
  kernel_rfl
theorem laws_toWear_ok (k : Nat) : EntOK Try.prog tab mvs (laws_toWear_e k) :=
  fn_ok (C := laws_toWear_C k) tabOK eqTabOK (laws_toWear_es k) rfl follows Try.func24 (by kernel_rfl) (by kernel_rfl) rfl (forall_getD _ 1 (0, Code.skip) (by kernel_rfl) fun i hi => by
      match i, hi with
      | 0, _ => exact laws_toWear_lok0 k
      | n + 1, h => omega)
    dec_enc_l dec_enc_l (laws_toWear_run k)

def spec_l05Wear_t0 : StTm := ⟨21, [(0, .pvi (some 46) 0 46), (3, .int .i64)], []⟩
def spec_l05Wear_t0_1 : StTm := ⟨21, [(2, .bool)], []⟩
def spec_l05Wear_t0_2 : StTm := ⟨21, [(0, .pvi (some 46) 0 46)], []⟩
def spec_l05Wear_w0 (k : Nat) (R : Type) (K : Ex → St → Option R) (rec : (List Int) × Int → Option R) (p : (List Int) × Int) : Option R := spec_l05Wear_s0 k (fun y1 => K .ret (fSt spec_l05Wear_t0_1 [.b y1])) (fun y1 => K (.exit 0) (fSt spec_l05Wear_t0_2 [.l y1])) (fun h1 h2 => rec (h1, h2)) p.1 p.2
def spec_l05Wear_c0 (k : Nat) : Lcall := lcallOf tab spec_l05Wear_t0 dec_li [0, 3] k (spec_l05Wear_w0 k)
def spec_l05Wear_C (k : Nat) : Cfg := ⟨tab, mvs, oraOf [spec_l00In_e k], loOf [(0, spec_l05Wear_c0 k)]⟩
theorem spec_l05Wear_es (k : Nat) : ∀ e ∈ ([spec_l00In_e k] : List Ent), EntOK Try.prog tab mvs e := by
  intro e he
  simp only [List.mem_cons, List.not_mem_nil, or_false] at he
  rcases he with rfl
  · exact spec_l00In_ok k
theorem spec_l05Wear_step0 (k : Nat) (R : Type) (K : Ex → St → Option R) (g : St → Option R) (p : (List Int) × Int) : evCode (spec_l05Wear_C k) (loopP [0] (0, codeOf Try.f75)).2 (loopP [0] (0, codeOf Try.f75)).1 (fSt spec_l05Wear_t0 (enc_li p)) (loopK tab [0, 3] [0] [2] g K) = spec_l05Wear_w0 k R K (fun p => g (fSt spec_l05Wear_t0 (enc_li p))) p := by
  kernel_rfl
theorem spec_l05Wear_lok0 (k : Nat) : LoopOK Try.prog tab (spec_l05Wear_C k).lo (loopP [0] (0, codeOf Try.f75)).1 (loopP [0] (0, codeOf Try.f75)).2 :=
  loopOK_of (C := spec_l05Wear_C k) tabOK eqTabOK (oraOf_ok (spec_l05Wear_es k)) (oraOf_nat (spec_l05Wear_es k)) follows (forall_getD _ 0 (0, Code.skip) (by kernel_rfl) fun i hi => by
      omega)
    (tm := spec_l05Wear_t0) (dec := dec_li) (enc := enc_li) (ksIn := [0, 3]) (ksOut := [0]) (ksRet := [2]) (k := k) (step := spec_l05Wear_w0 k) dec_enc_li (fun p => by kernel_rfl) (fun s R K => by kernel_rfl) (spec_l05Wear_step0 k)
def spec_l05Wear_e (k : Nat) : Ent := (75, callOf [.pvi (some 46) 0 46] dec_l fun (p : (List Int)) R K => (spec_l05Wear k p).bind fun (b : Bool) => K ((fV (.bool) (enc_b b)).1, none))
theorem spec_l05Wear_run (k : Nat) (p : (List Int)) : runF (spec_l05Wear_C k) Try.f75 false (fL [.pvi (some 46) 0 46] (enc_l p)).1 (resK (.bool) dec_b) = spec_l05Wear k p := by
  kernel_rfl
theorem spec_l05Wear_ok (k : Nat) : EntOK Try.prog tab mvs (spec_l05Wear_e k) :=
  fn_ok (C := spec_l05Wear_C k) tabOK eqTabOK (spec_l05Wear_es k) rfl follows Try.func75 (by kernel_rfl) (by kernel_rfl) rfl (forall_getD _ 1 (0, Code.skip) (by kernel_rfl) fun i hi => by
      match i, hi with
      | 0, _ => exact spec_l05Wear_lok0 k
      | n + 1, h => omega)
    dec_enc_l dec_enc_b (spec_l05Wear_run k)

def spec_l05Line_C (k : Nat) : Cfg := ⟨tab, mvs, oraOf [spec_l00In_e k], loOf []⟩
theorem spec_l05Line_es (k : Nat) : ∀ e ∈ ([spec_l00In_e k] : List Ent), EntOK Try.prog tab mvs e := by
  intro e he
  simp only [List.mem_cons, List.not_mem_nil, or_false] at he
  rcases he with rfl
  · exact spec_l00In_ok k
def spec_l05Line_e (k : Nat) : Ent := (76, callOf [.int .i64] dec_i fun (p : Int) R K => (spec_l05Line k p).bind fun (b : Bool) => K ((fV (.bool) (enc_b b)).1, none))
theorem spec_l05Line_run (k : Nat) (p : Int) : runF (spec_l05Line_C k) Try.f76 false (fL [.int .i64] (enc_i p)).1 (resK (.bool) dec_b) = spec_l05Line k p := by
  kernel_rfl
theorem spec_l05Line_ok (k : Nat) : EntOK Try.prog tab mvs (spec_l05Line_e k) :=
  fn_ok (C := spec_l05Line_C k) tabOK eqTabOK (spec_l05Line_es k) rfl follows Try.func76 (by kernel_rfl) (by kernel_rfl) rfl (forall_getD _ 0 (0, Code.skip) (by kernel_rfl) fun i hi => by
      omega)
    dec_enc_i dec_enc_b (spec_l05Line_run k)

def spec_l05Near_C (k : Nat) : Cfg := ⟨tab, mvs, oraOf [], loOf []⟩
theorem spec_l05Near_es (k : Nat) : ∀ e ∈ ([] : List Ent), EntOK Try.prog tab mvs e := by
  intro e he
  simp at he
def spec_l05Near_e (k : Nat) : Ent := (166, callOf [.agg 29] dec_l fun (p : (List Int)) R K => (spec_l05Near k p).bind fun (b : (List Int)) => K ((fV (.slv 29) (enc_l b)).1, none))
theorem spec_l05Near_run (k : Nat) (p : (List Int)) : runF (spec_l05Near_C k) Try.f166 false (fL [.agg 29] (enc_l p)).1 (resK (.slv 29) dec_l) = spec_l05Near k p := by
  kernel_rfl
theorem spec_l05Near_ok (k : Nat) : EntOK Try.prog tab mvs (spec_l05Near_e k) :=
  fn_ok (C := spec_l05Near_C k) tabOK eqTabOK (spec_l05Near_es k) rfl follows Try.func166 (by kernel_rfl) (by kernel_rfl) rfl (forall_getD _ 0 (0, Code.skip) (by kernel_rfl) fun i hi => by
      omega)
    dec_enc_l dec_enc_l (spec_l05Near_run k)

def dec_lilll (ps : List Pay) : Option ((List Int) × Int × (List Int) × (List Int) × (List Int)) := match ps with
  | [.l x1, .i x2, .l x3, .l x4, .l x5] => some (x1, x2, x3, x4, x5)
  | _ => none
def enc_lilll (p : (List Int) × Int × (List Int) × (List Int) × (List Int)) : List Pay := [.l p.1, .i p.2.1, .l p.2.2.1, .l p.2.2.2.1, .l p.2.2.2.2]
theorem dec_enc_lilll : ∀ (ps : List Pay) (p : (List Int) × Int × (List Int) × (List Int) × (List Int)), dec_lilll ps = some p → ps = enc_lilll p := by
  intro ps p h
  unfold dec_lilll at h
  split at h
  · injection h with h
    subst h
    rfl
  · cases h

def spec_l05At_t0 : StTm := ⟨38, [(0, .pvi (some 32) 0 32), (4, .ptr 4 0 111), (5, .ptr 5 0 111), (6, .slw 6 29), (7, .int .i64)], [(4, 111, true, .ints), (5, 111, true, .ints), (6, 29, false, .ints)]⟩
def spec_l05At_t0_1 : StTm := ⟨38, [(4, .ptr 4 0 111), (5, .ptr 5 0 111)], [(4, 111, true, .ints), (5, 111, true, .ints)]⟩
def spec_l05At_w0 (k : Nat) (R : Type) (K : Ex → St → Option R) (rec : (List Int) × Int × (List Int) × (List Int) × (List Int) → Option R) (p : (List Int) × Int × (List Int) × (List Int) × (List Int)) : Option R := spec_l05At_s0 k (fun y1 y2 => K (.exit 0) (fSt spec_l05At_t0_1 [.l y1, .l y2])) (fun h1 h2 h3 h4 h5 => rec (h1, h2, h3, h4, h5)) p.1 p.2.1 p.2.2.1 p.2.2.2.1 p.2.2.2.2
def spec_l05At_c0 (k : Nat) : Lcall := lcallOf tab spec_l05At_t0 dec_lilll [0, 4, 5, 6, 7] k (spec_l05At_w0 k)
def spec_l05At_C (k : Nat) : Cfg := ⟨tab, mvs, oraOf [spec_l05Near_e k, spec_l01Is_e k, spec_l01At_e k], loOf [(0, spec_l05At_c0 k)]⟩
theorem spec_l05At_es (k : Nat) : ∀ e ∈ ([spec_l05Near_e k, spec_l01Is_e k, spec_l01At_e k] : List Ent), EntOK Try.prog tab mvs e := by
  intro e he
  simp only [List.mem_cons, List.not_mem_nil, or_false] at he
  rcases he with rfl | rfl | rfl
  · exact spec_l05Near_ok k
  · exact spec_l01Is_ok k
  · exact spec_l01At_ok k
theorem spec_l05At_step0 (k : Nat) (R : Type) (K : Ex → St → Option R) (g : St → Option R) (p : (List Int) × Int × (List Int) × (List Int) × (List Int)) : evCode (spec_l05At_C k) (loopP [0] (0, codeOf Try.f137)).2 (loopP [0] (0, codeOf Try.f137)).1 (fSt spec_l05At_t0 (enc_lilll p)) (loopK tab [0, 4, 5, 6, 7] [4, 5] [4] g K) = spec_l05At_w0 k R K (fun p => g (fSt spec_l05At_t0 (enc_lilll p))) p := by
  kernel_rfl
theorem spec_l05At_lok0 (k : Nat) : LoopOK Try.prog tab (spec_l05At_C k).lo (loopP [0] (0, codeOf Try.f137)).1 (loopP [0] (0, codeOf Try.f137)).2 :=
  loopOK_of (C := spec_l05At_C k) tabOK eqTabOK (oraOf_ok (spec_l05At_es k)) (oraOf_nat (spec_l05At_es k)) follows (forall_getD _ 0 (0, Code.skip) (by kernel_rfl) fun i hi => by
      omega)
    (tm := spec_l05At_t0) (dec := dec_lilll) (enc := enc_lilll) (ksIn := [0, 4, 5, 6, 7]) (ksOut := [4, 5]) (ksRet := [4]) (k := k) (step := spec_l05At_w0 k) dec_enc_lilll (fun p => by kernel_rfl) (fun s R K => by kernel_rfl) (spec_l05At_step0 k)
def spec_l05At_e (k : Nat) : Ent := (137, callOf [.pvi (some 32) 0 32, .agg 29] dec_ll fun (p : (List Int) × (List Int)) R K => (spec_l05At k p.1 p.2).bind fun (b : (List Int)) => K ((fV (.agg 111) (enc_l b)).1, none))
theorem spec_l05At_run (k : Nat) (p : (List Int) × (List Int)) : runF (spec_l05At_C k) Try.f137 false (fL [.pvi (some 32) 0 32, .agg 29] (enc_ll p)).1 (resK (.agg 111) dec_l) = spec_l05At k p.1 p.2 := by
  kernel_rfl
theorem spec_l05At_ok (k : Nat) : EntOK Try.prog tab mvs (spec_l05At_e k) :=
  fn_ok (C := spec_l05At_C k) tabOK eqTabOK (spec_l05At_es k) rfl follows Try.func137 (by kernel_rfl) (by kernel_rfl) rfl (forall_getD _ 1 (0, Code.skip) (by kernel_rfl) fun i hi => by
      match i, hi with
      | 0, _ => exact spec_l05At_lok0 k
      | n + 1, h => omega)
    dec_enc_ll dec_enc_l (spec_l05At_run k)

def dec_liillll (ps : List Pay) : Option ((List Int) × Int × Int × (List Int) × (List Int) × (List Int) × (List Int)) := match ps with
  | [.l x1, .i x2, .i x3, .l x4, .l x5, .l x6, .l x7] => some (x1, x2, x3, x4, x5, x6, x7)
  | _ => none
def enc_liillll (p : (List Int) × Int × Int × (List Int) × (List Int) × (List Int) × (List Int)) : List Pay := [.l p.1, .i p.2.1, .i p.2.2.1, .l p.2.2.2.1, .l p.2.2.2.2.1, .l p.2.2.2.2.2.1, .l p.2.2.2.2.2.2]
theorem dec_enc_liillll : ∀ (ps : List Pay) (p : (List Int) × Int × Int × (List Int) × (List Int) × (List Int) × (List Int)), dec_liillll ps = some p → ps = enc_liillll p := by
  intro ps p h
  unfold dec_liillll at h
  split at h
  · injection h with h
    subst h
    rfl
  · cases h

def spec_l05All_t0 : StTm := ⟨36, [(0, .pvi (some 32) 0 32), (2, .ptr 2 0 111), (3, .ptr 3 0 111), (4, .slw 4 29), (5, .int .i64), (6, .ptr 6 0 111), (7, .int .i64)], [(2, 111, true, .ints), (3, 111, true, .ints), (4, 29, false, .ints), (6, 111, true, .ints)]⟩
def spec_l05All_t0_1 : StTm := ⟨36, [(0, .pvi (some 32) 0 32), (2, .ptr 2 0 111), (3, .ptr 3 0 111), (4, .slw 4 29), (5, .int .i64)], [(2, 111, true, .ints), (3, 111, true, .ints), (4, 29, false, .ints)]⟩
def spec_l05All_w0 (k : Nat) (R : Type) (K : Ex → St → Option R) (rec : (List Int) × Int × Int × (List Int) × (List Int) × (List Int) × (List Int) → Option R) (p : (List Int) × Int × Int × (List Int) × (List Int) × (List Int) × (List Int)) : Option R := spec_l05All_s0 k (fun y1 y2 y3 y4 y5 => K (.exit 2) (fSt spec_l05All_t0_1 [.l y1, .i y2, .l y3, .l y4, .l y5])) (fun h1 h2 h3 h4 h5 h6 h7 => rec (h1, h2, h3, h4, h5, h6, h7)) p.1 p.2.1 p.2.2.1 p.2.2.2.1 p.2.2.2.2.1 p.2.2.2.2.2.1 p.2.2.2.2.2.2
def spec_l05All_c0 (k : Nat) : Lcall := lcallOf tab spec_l05All_t0 dec_liillll [0, 2, 3, 4, 5, 6, 7] k (spec_l05All_w0 k)
def spec_l05All_t1 : StTm := ⟨36, [(0, .pvi (some 32) 0 32), (2, .ptr 2 0 111), (3, .ptr 3 0 111), (4, .slw 4 29), (5, .int .i64)], [(2, 111, true, .ints), (3, 111, true, .ints), (4, 29, false, .ints)]⟩
def spec_l05All_t1_1 : StTm := ⟨36, [(2, .ptr 2 0 111), (3, .ptr 3 0 111)], [(2, 111, true, .ints), (3, 111, true, .ints)]⟩
def spec_l05All_w1 (k : Nat) (R : Type) (K : Ex → St → Option R) (rec : (List Int) × Int × (List Int) × (List Int) × (List Int) → Option R) (p : (List Int) × Int × (List Int) × (List Int) × (List Int)) : Option R := spec_l05All_s1 k (fun y1 y2 => K (.exit 0) (fSt spec_l05All_t1_1 [.l y1, .l y2])) (fun h1 h2 h3 h4 h5 => rec (h1, h2, h3, h4, h5)) p.1 p.2.1 p.2.2.1 p.2.2.2.1 p.2.2.2.2
def spec_l05All_c1 (k : Nat) : Lcall := lcallOf tab spec_l05All_t1 dec_lilll [0, 2, 3, 4, 5] k (spec_l05All_w1 k)
def spec_l05All_C (k : Nat) : Cfg := ⟨tab, mvs, oraOf [spec_l01Cells_e k, spec_l05At_e k], loOf [(2, spec_l05All_c0 k), (0, spec_l05All_c1 k)]⟩
theorem spec_l05All_es (k : Nat) : ∀ e ∈ ([spec_l01Cells_e k, spec_l05At_e k] : List Ent), EntOK Try.prog tab mvs e := by
  intro e he
  simp only [List.mem_cons, List.not_mem_nil, or_false] at he
  rcases he with rfl | rfl
  · exact spec_l01Cells_ok k
  · exact spec_l05At_ok k
theorem spec_l05All_step0 (k : Nat) (R : Type) (K : Ex → St → Option R) (g : St → Option R) (p : (List Int) × Int × Int × (List Int) × (List Int) × (List Int) × (List Int)) : evCode (spec_l05All_C k) (loopP [0, 0] (0, codeOf Try.f77)).2 (loopP [0, 0] (0, codeOf Try.f77)).1 (fSt spec_l05All_t0 (enc_liillll p)) (loopK tab [0, 2, 3, 4, 5, 6, 7] [0, 2, 3, 4, 5] [2] g K) = spec_l05All_w0 k R K (fun p => g (fSt spec_l05All_t0 (enc_liillll p))) p := by
  kernel_rfl
theorem spec_l05All_lok0 (k : Nat) : LoopOK Try.prog tab (spec_l05All_C k).lo (loopP [0, 0] (0, codeOf Try.f77)).1 (loopP [0, 0] (0, codeOf Try.f77)).2 :=
  loopOK_of (C := spec_l05All_C k) tabOK eqTabOK (oraOf_ok (spec_l05All_es k)) (oraOf_nat (spec_l05All_es k)) follows (forall_getD _ 0 (0, Code.skip) (by kernel_rfl) fun i hi => by
      omega)
    (tm := spec_l05All_t0) (dec := dec_liillll) (enc := enc_liillll) (ksIn := [0, 2, 3, 4, 5, 6, 7]) (ksOut := [0, 2, 3, 4, 5]) (ksRet := [2]) (k := k) (step := spec_l05All_w0 k) dec_enc_liillll (fun p => by kernel_rfl) (fun s R K => by kernel_rfl) (spec_l05All_step0 k)
theorem spec_l05All_step1 (k : Nat) (R : Type) (K : Ex → St → Option R) (g : St → Option R) (p : (List Int) × Int × (List Int) × (List Int) × (List Int)) : evCode (spec_l05All_C k) (loopP [0] (0, codeOf Try.f77)).2 (loopP [0] (0, codeOf Try.f77)).1 (fSt spec_l05All_t1 (enc_lilll p)) (loopK tab [0, 2, 3, 4, 5] [2, 3] [2] g K) = spec_l05All_w1 k R K (fun p => g (fSt spec_l05All_t1 (enc_lilll p))) p := by
  kernel_rfl
theorem spec_l05All_lok1 (k : Nat) : LoopOK Try.prog tab (spec_l05All_C k).lo (loopP [0] (0, codeOf Try.f77)).1 (loopP [0] (0, codeOf Try.f77)).2 :=
  loopOK_of (C := spec_l05All_C k) tabOK eqTabOK (oraOf_ok (spec_l05All_es k)) (oraOf_nat (spec_l05All_es k)) follows (forall_getD _ 1 (0, Code.skip) (by kernel_rfl) fun i hi => by
      match i, hi with
      | 0, _ => exact spec_l05All_lok0 k
      | n + 1, h => omega)
    (tm := spec_l05All_t1) (dec := dec_lilll) (enc := enc_lilll) (ksIn := [0, 2, 3, 4, 5]) (ksOut := [2, 3]) (ksRet := [2]) (k := k) (step := spec_l05All_w1 k) dec_enc_lilll (fun p => by kernel_rfl) (fun s R K => by kernel_rfl) (spec_l05All_step1 k)
def spec_l05All_e (k : Nat) : Ent := (77, callOf [.pvi (some 32) 0 32] dec_l fun (p : (List Int)) R K => (spec_l05All k p).bind fun (b : (List Int)) => K ((fV (.agg 111) (enc_l b)).1, none))
theorem spec_l05All_run (k : Nat) (p : (List Int)) : runF (spec_l05All_C k) Try.f77 false (fL [.pvi (some 32) 0 32] (enc_l p)).1 (resK (.agg 111) dec_l) = spec_l05All k p := by
  kernel_rfl
theorem spec_l05All_ok (k : Nat) : EntOK Try.prog tab mvs (spec_l05All_e k) :=
  fn_ok (C := spec_l05All_C k) tabOK eqTabOK (spec_l05All_es k) rfl follows Try.func77 (by kernel_rfl) (by kernel_rfl) rfl (forall_getD _ 1 (0, Code.skip) (by kernel_rfl) fun i hi => by
      match i, hi with
      | 0, _ => exact spec_l05All_lok1 k
      | n + 1, h => omega)
    dec_enc_l dec_enc_l (spec_l05All_run k)

def dec_iiiill (ps : List Pay) : Option (Int × Int × Int × Int × (List Int) × (List Int)) := match ps with
  | [.i x1, .i x2, .i x3, .i x4, .l x5, .l x6] => some (x1, x2, x3, x4, x5, x6)
  | _ => none
def enc_iiiill (p : Int × Int × Int × Int × (List Int) × (List Int)) : List Pay := [.i p.1, .i p.2.1, .i p.2.2.1, .i p.2.2.2.1, .l p.2.2.2.2.1, .l p.2.2.2.2.2]
theorem dec_enc_iiiill : ∀ (ps : List Pay) (p : Int × Int × Int × Int × (List Int) × (List Int)), dec_iiiill ps = some p → ps = enc_iiiill p := by
  intro ps p h
  unfold dec_iiiill at h
  split at h
  · injection h with h
    subst h
    rfl
  · cases h

def spec_SpoolsFor_t0 : StTm := ⟨67, [(2, .int .i64), (4, .ptr 4 0 46), (8, .ptr 8 0 111), (9, .int .i64)], [(4, 46, true, .ints), (8, 111, true, .ints)]⟩
def spec_SpoolsFor_t0_1 : StTm := ⟨67, [(6, .int .i64), (7, .int .i64)], []⟩
def spec_SpoolsFor_t0_2 : StTm := ⟨67, [(2, .int .i64), (4, .ptr 4 0 46), (8, .ptr 8 0 111)], [(4, 46, true, .ints), (8, 111, true, .ints)]⟩
def spec_SpoolsFor_w0 (k : Nat) (R : Type) (K : Ex → St → Option R) (rec : Int × Int × (List Int) × (List Int) → Option R) (p : Int × Int × (List Int) × (List Int)) : Option R := spec_SpoolsFor_s0 k (fun y1 y2 => K .ret (fSt spec_SpoolsFor_t0_1 [.i y1, .i y2])) (fun y1 y2 y3 => K (.exit 0) (fSt spec_SpoolsFor_t0_2 [.i y1, .l y2, .l y3])) (fun h1 h2 h3 h4 => rec (h1, h2, h3, h4)) p.1 p.2.1 p.2.2.1 p.2.2.2
def spec_SpoolsFor_c0 (k : Nat) : Lcall := lcallOf tab spec_SpoolsFor_t0 dec_iill [2, 4, 8, 9] k (spec_SpoolsFor_w0 k)
def spec_SpoolsFor_t1 : StTm := ⟨67, [(2, .int .i64), (4, .ptr 4 0 46), (8, .ptr 8 0 111), (10, .int .i64), (11, .int .i64), (12, .int .i64), (13, .int .i64)], [(4, 46, true, .ints), (8, 111, true, .ints)]⟩
def spec_SpoolsFor_t1_1 : StTm := ⟨67, [(2, .int .i64), (4, .ptr 4 0 46), (8, .ptr 8 0 111), (10, .int .i64), (11, .int .i64), (12, .int .i64)], [(4, 46, true, .ints), (8, 111, true, .ints)]⟩
def spec_SpoolsFor_w1 (k : Nat) (R : Type) (K : Ex → St → Option R) (rec : Int × Int × Int × Int × Int × (List Int) × (List Int) → Option R) (p : Int × Int × Int × Int × Int × (List Int) × (List Int)) : Option R := spec_SpoolsFor_s1 k (fun y1 y2 y3 y4 y5 y6 => K (.exit 4) (fSt spec_SpoolsFor_t1_1 [.i y1, .i y2, .i y3, .i y4, .l y5, .l y6])) (fun h1 h2 h3 h4 h5 h6 h7 => rec (h1, h2, h3, h4, h5, h6, h7)) p.1 p.2.1 p.2.2.1 p.2.2.2.1 p.2.2.2.2.1 p.2.2.2.2.2.1 p.2.2.2.2.2.2
def spec_SpoolsFor_c1 (k : Nat) : Lcall := lcallOf tab spec_SpoolsFor_t1 dec_iiiiill [2, 4, 8, 10, 11, 12, 13] k (spec_SpoolsFor_w1 k)
def spec_SpoolsFor_t2 : StTm := ⟨67, [(2, .int .i64), (4, .ptr 4 0 46), (8, .ptr 8 0 111), (10, .int .i64), (11, .int .i64), (12, .int .i64)], [(4, 46, true, .ints), (8, 111, true, .ints)]⟩
def spec_SpoolsFor_t2_1 : StTm := ⟨67, [(10, .int .i64)], []⟩
def spec_SpoolsFor_w2 (k : Nat) (R : Type) (K : Ex → St → Option R) (rec : Int × Int × Int × Int × (List Int) × (List Int) → Option R) (p : Int × Int × Int × Int × (List Int) × (List Int)) : Option R := spec_SpoolsFor_s2 k (fun y1 => K (.exit 2) (fSt spec_SpoolsFor_t2_1 [.i y1])) (fun h1 h2 h3 h4 h5 h6 => rec (h1, h2, h3, h4, h5, h6)) p.1 p.2.1 p.2.2.1 p.2.2.2.1 p.2.2.2.2.1 p.2.2.2.2.2
def spec_SpoolsFor_c2 (k : Nat) : Lcall := lcallOf tab spec_SpoolsFor_t2 dec_iiiill [2, 4, 8, 10, 11, 12] k (spec_SpoolsFor_w2 k)
def spec_SpoolsFor_C (k : Nat) : Cfg := ⟨tab, mvs, oraOf [spec_l01Ok_e k, spec_l05Wear_e k, spec_l05Line_e k, spec_l05All_e k], loOf [(0, spec_SpoolsFor_c0 k), (4, spec_SpoolsFor_c1 k), (2, spec_SpoolsFor_c2 k)]⟩
theorem spec_SpoolsFor_es (k : Nat) : ∀ e ∈ ([spec_l01Ok_e k, spec_l05Wear_e k, spec_l05Line_e k, spec_l05All_e k] : List Ent), EntOK Try.prog tab mvs e := by
  intro e he
  simp only [List.mem_cons, List.not_mem_nil, or_false] at he
  rcases he with rfl | rfl | rfl | rfl
  · exact spec_l01Ok_ok k
  · exact spec_l05Wear_ok k
  · exact spec_l05Line_ok k
  · exact spec_l05All_ok k
theorem spec_SpoolsFor_step0 (k : Nat) (R : Type) (K : Ex → St → Option R) (g : St → Option R) (p : Int × Int × (List Int) × (List Int)) : evCode (spec_SpoolsFor_C k) (loopP [0] (0, codeOf Try.f23)).2 (loopP [0] (0, codeOf Try.f23)).1 (fSt spec_SpoolsFor_t0 (enc_iill p)) (loopK tab [2, 4, 8, 9] [2, 4, 8] [6, 7] g K) = spec_SpoolsFor_w0 k R K (fun p => g (fSt spec_SpoolsFor_t0 (enc_iill p))) p := by
  kernel_rfl
theorem spec_SpoolsFor_lok0 (k : Nat) : LoopOK Try.prog tab (spec_SpoolsFor_C k).lo (loopP [0] (0, codeOf Try.f23)).1 (loopP [0] (0, codeOf Try.f23)).2 :=
  loopOK_of (C := spec_SpoolsFor_C k) tabOK eqTabOK (oraOf_ok (spec_SpoolsFor_es k)) (oraOf_nat (spec_SpoolsFor_es k)) follows (forall_getD _ 0 (0, Code.skip) (by kernel_rfl) fun i hi => by
      omega)
    (tm := spec_SpoolsFor_t0) (dec := dec_iill) (enc := enc_iill) (ksIn := [2, 4, 8, 9]) (ksOut := [2, 4, 8]) (ksRet := [6, 7]) (k := k) (step := spec_SpoolsFor_w0 k) dec_enc_iill (fun p => by kernel_rfl) (fun s R K => by kernel_rfl) (spec_SpoolsFor_step0 k)
theorem spec_SpoolsFor_step1 (k : Nat) (R : Type) (K : Ex → St → Option R) (g : St → Option R) (p : Int × Int × Int × Int × Int × (List Int) × (List Int)) : evCode (spec_SpoolsFor_C k) (loopP [1, 0] (0, codeOf Try.f23)).2 (loopP [1, 0] (0, codeOf Try.f23)).1 (fSt spec_SpoolsFor_t1 (enc_iiiiill p)) (loopK tab [2, 4, 8, 10, 11, 12, 13] [2, 4, 8, 10, 11, 12] [6, 7] g K) = spec_SpoolsFor_w1 k R K (fun p => g (fSt spec_SpoolsFor_t1 (enc_iiiiill p))) p := by
  kernel_rfl
theorem spec_SpoolsFor_lok1 (k : Nat) : LoopOK Try.prog tab (spec_SpoolsFor_C k).lo (loopP [1, 0] (0, codeOf Try.f23)).1 (loopP [1, 0] (0, codeOf Try.f23)).2 :=
  loopOK_of (C := spec_SpoolsFor_C k) tabOK eqTabOK (oraOf_ok (spec_SpoolsFor_es k)) (oraOf_nat (spec_SpoolsFor_es k)) follows (forall_getD _ 0 (0, Code.skip) (by kernel_rfl) fun i hi => by
      omega)
    (tm := spec_SpoolsFor_t1) (dec := dec_iiiiill) (enc := enc_iiiiill) (ksIn := [2, 4, 8, 10, 11, 12, 13]) (ksOut := [2, 4, 8, 10, 11, 12]) (ksRet := [6, 7]) (k := k) (step := spec_SpoolsFor_w1 k) dec_enc_iiiiill (fun p => by kernel_rfl) (fun s R K => by kernel_rfl) (spec_SpoolsFor_step1 k)
theorem spec_SpoolsFor_step2 (k : Nat) (R : Type) (K : Ex → St → Option R) (g : St → Option R) (p : Int × Int × Int × Int × (List Int) × (List Int)) : evCode (spec_SpoolsFor_C k) (loopP [1] (0, codeOf Try.f23)).2 (loopP [1] (0, codeOf Try.f23)).1 (fSt spec_SpoolsFor_t2 (enc_iiiill p)) (loopK tab [2, 4, 8, 10, 11, 12] [10] [6, 7] g K) = spec_SpoolsFor_w2 k R K (fun p => g (fSt spec_SpoolsFor_t2 (enc_iiiill p))) p := by
  kernel_rfl
theorem spec_SpoolsFor_lok2 (k : Nat) : LoopOK Try.prog tab (spec_SpoolsFor_C k).lo (loopP [1] (0, codeOf Try.f23)).1 (loopP [1] (0, codeOf Try.f23)).2 :=
  loopOK_of (C := spec_SpoolsFor_C k) tabOK eqTabOK (oraOf_ok (spec_SpoolsFor_es k)) (oraOf_nat (spec_SpoolsFor_es k)) follows (forall_getD _ 1 (0, Code.skip) (by kernel_rfl) fun i hi => by
      match i, hi with
      | 0, _ => exact spec_SpoolsFor_lok1 k
      | n + 1, h => omega)
    (tm := spec_SpoolsFor_t2) (dec := dec_iiiill) (enc := enc_iiiill) (ksIn := [2, 4, 8, 10, 11, 12]) (ksOut := [10]) (ksRet := [6, 7]) (k := k) (step := spec_SpoolsFor_w2 k) dec_enc_iiiill (fun p => by kernel_rfl) (fun s R K => by kernel_rfl) (spec_SpoolsFor_step2 k)
def spec_SpoolsFor_e (k : Nat) : Ent := (23, callOf [.agg 32, .agg 46, .int .i64] dec_lli fun (p : (List Int) × (List Int) × Int) R K => (spec_SpoolsFor k p.1 p.2.1 p.2.2).bind fun (b : Int × Int) => K ((fV (.tup [.int .i64, .int .i64]) (enc_ii b)).1, none))
theorem spec_SpoolsFor_run (k : Nat) (p : (List Int) × (List Int) × Int) : runF (spec_SpoolsFor_C k) Try.f23 false (fL [.agg 32, .agg 46, .int .i64] (enc_lli p)).1 (resK (.tup [.int .i64, .int .i64]) dec_ii) = spec_SpoolsFor k p.1 p.2.1 p.2.2 := by
  kernel_rfl
theorem spec_SpoolsFor_ok (k : Nat) : EntOK Try.prog tab mvs (spec_SpoolsFor_e k) :=
  fn_ok (C := spec_SpoolsFor_C k) tabOK eqTabOK (spec_SpoolsFor_es k) rfl follows Try.func23 (by kernel_rfl) (by kernel_rfl) rfl (forall_getD _ 2 (0, Code.skip) (by kernel_rfl) fun i hi => by
      match i, hi with
      | 0, _ => exact spec_SpoolsFor_lok0 k
      | 1, _ => exact spec_SpoolsFor_lok2 k
      | n + 2, h => omega)
    dec_enc_lli dec_enc_ii (spec_SpoolsFor_run k)

def impl_ValidWear_1_C (k : Nat) : Cfg := ⟨tab, mvs, oraOf [impl_within_e k], loOf []⟩
theorem impl_ValidWear_1_es (k : Nat) : ∀ e ∈ ([impl_within_e k] : List Ent), EntOK Try.prog tab mvs e := by
  intro e he
  simp only [List.mem_cons, List.not_mem_nil, or_false] at he
  rcases he with rfl
  · exact impl_within_ok k
def impl_ValidWear_1_e (k : Nat) : Ent := (140, callOf [.int .i8] dec_i fun (p : Int) R K => (impl_ValidWear_1 k p).bind fun (b : Bool) => K ((fV (.bool) (enc_b b)).1, none))
theorem impl_ValidWear_1_run (k : Nat) (p : Int) : runF (impl_ValidWear_1_C k) Try.f140 false (fL [.int .i8] (enc_i p)).1 (resK (.bool) dec_b) = impl_ValidWear_1 k p := by
  kernel_rfl
theorem impl_ValidWear_1_ok (k : Nat) : EntOK Try.prog tab mvs (impl_ValidWear_1_e k) :=
  fn_ok (C := impl_ValidWear_1_C k) tabOK eqTabOK (impl_ValidWear_1_es k) rfl follows Try.func140 (by kernel_rfl) (by kernel_rfl) rfl (forall_getD _ 0 (0, Code.skip) (by kernel_rfl) fun i hi => by
      omega)
    dec_enc_i dec_enc_b (impl_ValidWear_1_run k)

def slices_IndexFunc_int8_t0 : StTm := ⟨19, [(0, .slv 22), (1, .cloB 22), (7, .int .i64), (8, .int .i64)], []⟩
def slices_IndexFunc_int8_t0_1 : StTm := ⟨19, [(4, .int .i64)], []⟩
def slices_IndexFunc_int8_t0_2 : StTm := ⟨19, [], []⟩
def slices_IndexFunc_int8_w0 (k : Nat) (R : Type) (K : Ex → St → Option R) (rec : (List Int) × (List Int → Option Bool) × Int × Int → Option R) (p : (List Int) × (List Int → Option Bool) × Int × Int) : Option R := slices_IndexFunc_int8_s0 k (fun y1 => K .ret (fSt slices_IndexFunc_int8_t0_1 [.i y1])) (K (.exit 0) (fSt slices_IndexFunc_int8_t0_2 [])) (fun h1 h2 h3 h4 => rec (h1, h2, h3, h4)) p.1 p.2.1 p.2.2.1 p.2.2.2
def slices_IndexFunc_int8_c0 (k : Nat) : Lcall := lcallOf tab slices_IndexFunc_int8_t0 dec_lgii [0, 1, 7, 8] k (slices_IndexFunc_int8_w0 k)
def slices_IndexFunc_int8_C (k : Nat) : Cfg := ⟨tab, mvs, oraOf [], loOf [(0, slices_IndexFunc_int8_c0 k)]⟩
theorem slices_IndexFunc_int8_es (k : Nat) : ∀ e ∈ ([] : List Ent), EntOK Try.prog tab mvs e := by
  intro e he
  simp at he
theorem slices_IndexFunc_int8_step0 (k : Nat) (R : Type) (K : Ex → St → Option R) (g : St → Option R) (p : (List Int) × (List Int → Option Bool) × Int × Int) : evCode (slices_IndexFunc_int8_C k) (loopP [0] (0, codeOf Try.f167)).2 (loopP [0] (0, codeOf Try.f167)).1 (fSt slices_IndexFunc_int8_t0 (enc_lgii p)) (loopK tab [0, 1, 7, 8] [] [4] g K) = slices_IndexFunc_int8_w0 k R K (fun p => g (fSt slices_IndexFunc_int8_t0 (enc_lgii p))) p := by
  kernel_rfl
theorem slices_IndexFunc_int8_lok0 (k : Nat) : LoopOK Try.prog tab (slices_IndexFunc_int8_C k).lo (loopP [0] (0, codeOf Try.f167)).1 (loopP [0] (0, codeOf Try.f167)).2 :=
  loopOK_of (C := slices_IndexFunc_int8_C k) tabOK eqTabOK (oraOf_ok (slices_IndexFunc_int8_es k)) (oraOf_nat (slices_IndexFunc_int8_es k)) follows (forall_getD _ 0 (0, Code.skip) (by kernel_rfl) fun i hi => by
      omega)
    (tm := slices_IndexFunc_int8_t0) (dec := dec_lgii) (enc := enc_lgii) (ksIn := [0, 1, 7, 8]) (ksOut := []) (ksRet := [4]) (k := k) (step := slices_IndexFunc_int8_w0 k) dec_enc_lgii (fun p => by kernel_rfl) (fun s R K => by kernel_rfl) (slices_IndexFunc_int8_step0 k)
def slices_IndexFunc_int8_e (k : Nat) : Ent := (167, callOf [.slv 22, .cloB 22] dec_lg fun (p : (List Int) × (List Int → Option Bool)) R K => (slices_IndexFunc_int8 k p.1 p.2).bind fun (b : Int) => K ((fV (.int .i64) (enc_i b)).1, none))
theorem slices_IndexFunc_int8_run (k : Nat) (p : (List Int) × (List Int → Option Bool)) : runF (slices_IndexFunc_int8_C k) Try.f167 false (fL [.slv 22, .cloB 22] (enc_lg p)).1 (resK (.int .i64) dec_i) = slices_IndexFunc_int8 k p.1 p.2 := by
  kernel_rfl
theorem slices_IndexFunc_int8_ok (k : Nat) : EntOK Try.prog tab mvs (slices_IndexFunc_int8_e k) :=
  fn_ok (C := slices_IndexFunc_int8_C k) tabOK eqTabOK (slices_IndexFunc_int8_es k) rfl follows Try.func167 (by kernel_rfl) (by kernel_rfl) rfl (forall_getD _ 1 (0, Code.skip) (by kernel_rfl) fun i hi => by
      match i, hi with
      | 0, _ => exact slices_IndexFunc_int8_lok0 k
      | n + 1, h => omega)
    dec_enc_lg dec_enc_i (slices_IndexFunc_int8_run k)

def slices_ContainsFunc_int8_C (k : Nat) : Cfg := ⟨tab, mvs, oraOf [slices_IndexFunc_int8_e k], loOf []⟩
theorem slices_ContainsFunc_int8_es (k : Nat) : ∀ e ∈ ([slices_IndexFunc_int8_e k] : List Ent), EntOK Try.prog tab mvs e := by
  intro e he
  simp only [List.mem_cons, List.not_mem_nil, or_false] at he
  rcases he with rfl
  · exact slices_IndexFunc_int8_ok k
def slices_ContainsFunc_int8_e (k : Nat) : Ent := (139, callOf [.slv 22, .cloB 22] dec_lg fun (p : (List Int) × (List Int → Option Bool)) R K => (slices_ContainsFunc_int8 k p.1 p.2).bind fun (b : Bool) => K ((fV (.bool) (enc_b b)).1, none))
theorem slices_ContainsFunc_int8_run (k : Nat) (p : (List Int) × (List Int → Option Bool)) : runF (slices_ContainsFunc_int8_C k) Try.f139 false (fL [.slv 22, .cloB 22] (enc_lg p)).1 (resK (.bool) dec_b) = slices_ContainsFunc_int8 k p.1 p.2 := by
  kernel_rfl
theorem slices_ContainsFunc_int8_ok (k : Nat) : EntOK Try.prog tab mvs (slices_ContainsFunc_int8_e k) :=
  fn_ok (C := slices_ContainsFunc_int8_C k) tabOK eqTabOK (slices_ContainsFunc_int8_es k) rfl follows Try.func139 (by kernel_rfl) (by kernel_rfl) rfl (forall_getD _ 0 (0, Code.skip) (by kernel_rfl) fun i hi => by
      omega)
    dec_enc_lg dec_enc_b (slices_ContainsFunc_int8_run k)

def impl_ValidWear_C (k : Nat) : Cfg := ⟨tab, mvs, oraOf [impl_ValidWear_1_e k, slices_ContainsFunc_int8_e k], loOf []⟩
theorem impl_ValidWear_es (k : Nat) : ∀ e ∈ ([impl_ValidWear_1_e k, slices_ContainsFunc_int8_e k] : List Ent), EntOK Try.prog tab mvs e := by
  intro e he
  simp only [List.mem_cons, List.not_mem_nil, or_false] at he
  rcases he with rfl | rfl
  · exact impl_ValidWear_1_ok k
  · exact slices_ContainsFunc_int8_ok k
def impl_ValidWear_e (k : Nat) : Ent := (79, callOf [.agg 46] dec_l fun (p : (List Int)) R K => (impl_ValidWear k p).bind fun (b : Bool) => K ((fV (.bool) (enc_b b)).1, none))
theorem impl_ValidWear_run (k : Nat) (p : (List Int)) : runF (impl_ValidWear_C k) Try.f79 false (fL [.agg 46] (enc_l p)).1 (resK (.bool) dec_b) = impl_ValidWear k p := by
  kernel_rfl
theorem impl_ValidWear_ok (k : Nat) : EntOK Try.prog tab mvs (impl_ValidWear_e k) :=
  fn_ok (C := impl_ValidWear_C k) tabOK eqTabOK (impl_ValidWear_es k) rfl follows Try.func79 (by kernel_rfl) (by kernel_rfl) rfl (forall_getD _ 0 (0, Code.skip) (by kernel_rfl) fun i hi => by
      omega)
    dec_enc_l dec_enc_b (impl_ValidWear_run k)

def dec_iillll (ps : List Pay) : Option (Int × Int × (List Int) × (List Int) × (List Int) × (List Int)) := match ps with
  | [.i x1, .i x2, .l x3, .l x4, .l x5, .l x6] => some (x1, x2, x3, x4, x5, x6)
  | _ => none
def enc_iillll (p : Int × Int × (List Int) × (List Int) × (List Int) × (List Int)) : List Pay := [.i p.1, .i p.2.1, .l p.2.2.1, .l p.2.2.2.1, .l p.2.2.2.2.1, .l p.2.2.2.2.2]
theorem dec_enc_iillll : ∀ (ps : List Pay) (p : Int × Int × (List Int) × (List Int) × (List Int) × (List Int)), dec_iillll ps = some p → ps = enc_iillll p := by
  intro ps p h
  unfold dec_iillll at h
  split at h
  · injection h with h
    subst h
    rfl
  · cases h

def impl_Lawn_around_t0 : StTm := ⟨32, [(2, .ptr 2 0 32), (4, .ptr 4 0 111), (5, .ptr 5 0 111), (10, .slw 10 29), (11, .int .i64), (12, .int .i64)], [(2, 32, true, .ints), (4, 111, true, .ints), (5, 111, true, .ints), (10, 29, false, .ints)]⟩
def impl_Lawn_around_t0_1 : StTm := ⟨32, [(4, .ptr 4 0 111), (5, .ptr 5 0 111)], [(4, 111, true, .ints), (5, 111, true, .ints)]⟩
def impl_Lawn_around_w0 (k : Nat) (R : Type) (K : Ex → St → Option R) (rec : Int × Int × (List Int) × (List Int) × (List Int) × (List Int) → Option R) (p : Int × Int × (List Int) × (List Int) × (List Int) × (List Int)) : Option R := impl_Lawn_around_s0 k (fun y1 y2 => K (.exit 0) (fSt impl_Lawn_around_t0_1 [.l y1, .l y2])) (fun h1 h2 h3 h4 h5 h6 => rec (h1, h2, h3, h4, h5, h6)) p.1 p.2.1 p.2.2.1 p.2.2.2.1 p.2.2.2.2.1 p.2.2.2.2.2
def impl_Lawn_around_c0 (k : Nat) : Lcall := lcallOf tab impl_Lawn_around_t0 dec_iillll [2, 4, 5, 10, 11, 12] k (impl_Lawn_around_w0 k)
def impl_Lawn_around_C (k : Nat) : Cfg := ⟨tab, mvs, oraOf [impl_beside_e k, impl_Lawn_has_e k, impl_Lawn_kind_e k], loOf [(0, impl_Lawn_around_c0 k)]⟩
theorem impl_Lawn_around_es (k : Nat) : ∀ e ∈ ([impl_beside_e k, impl_Lawn_has_e k, impl_Lawn_kind_e k] : List Ent), EntOK Try.prog tab mvs e := by
  intro e he
  simp only [List.mem_cons, List.not_mem_nil, or_false] at he
  rcases he with rfl | rfl | rfl
  · exact impl_beside_ok k
  · exact impl_Lawn_has_ok k
  · exact impl_Lawn_kind_ok k
theorem impl_Lawn_around_step0 (k : Nat) (R : Type) (K : Ex → St → Option R) (g : St → Option R) (p : Int × Int × (List Int) × (List Int) × (List Int) × (List Int)) : evCode (impl_Lawn_around_C k) (loopP [0] (0, codeOf Try.f141)).2 (loopP [0] (0, codeOf Try.f141)).1 (fSt impl_Lawn_around_t0 (enc_iillll p)) (loopK tab [2, 4, 5, 10, 11, 12] [4, 5] [4] g K) = impl_Lawn_around_w0 k R K (fun p => g (fSt impl_Lawn_around_t0 (enc_iillll p))) p := by
  kernel_rfl
theorem impl_Lawn_around_lok0 (k : Nat) : LoopOK Try.prog tab (impl_Lawn_around_C k).lo (loopP [0] (0, codeOf Try.f141)).1 (loopP [0] (0, codeOf Try.f141)).2 :=
  loopOK_of (C := impl_Lawn_around_C k) tabOK eqTabOK (oraOf_ok (impl_Lawn_around_es k)) (oraOf_nat (impl_Lawn_around_es k)) follows (forall_getD _ 0 (0, Code.skip) (by kernel_rfl) fun i hi => by
      omega)
    (tm := impl_Lawn_around_t0) (dec := dec_iillll) (enc := enc_iillll) (ksIn := [2, 4, 5, 10, 11, 12]) (ksOut := [4, 5]) (ksRet := [4]) (k := k) (step := impl_Lawn_around_w0 k) dec_enc_iillll (fun p => by kernel_rfl) (fun s R K => by kernel_rfl) (impl_Lawn_around_step0 k)
def impl_Lawn_around_e (k : Nat) : Ent := (141, callOf [.agg 32, .agg 29] dec_ll fun (p : (List Int) × (List Int)) R K => (impl_Lawn_around k p.1 p.2).bind fun (b : (List Int)) => K ((fV (.agg 111) (enc_l b)).1, none))
theorem impl_Lawn_around_run (k : Nat) (p : (List Int) × (List Int)) : runF (impl_Lawn_around_C k) Try.f141 false (fL [.agg 32, .agg 29] (enc_ll p)).1 (resK (.agg 111) dec_l) = impl_Lawn_around k p.1 p.2 := by
  kernel_rfl
theorem impl_Lawn_around_ok (k : Nat) : EntOK Try.prog tab mvs (impl_Lawn_around_e k) :=
  fn_ok (C := impl_Lawn_around_C k) tabOK eqTabOK (impl_Lawn_around_es k) rfl follows Try.func141 (by kernel_rfl) (by kernel_rfl) rfl (forall_getD _ 1 (0, Code.skip) (by kernel_rfl) fun i hi => by
      match i, hi with
      | 0, _ => exact impl_Lawn_around_lok0 k
      | n + 1, h => omega)
    dec_enc_ll dec_enc_l (impl_Lawn_around_run k)

def dec_iilillll (ps : List Pay) : Option (Int × Int × (List Int) × Int × (List Int) × (List Int) × (List Int) × (List Int)) := match ps with
  | [.i x1, .i x2, .l x3, .i x4, .l x5, .l x6, .l x7, .l x8] => some (x1, x2, x3, x4, x5, x6, x7, x8)
  | _ => none
def enc_iilillll (p : Int × Int × (List Int) × Int × (List Int) × (List Int) × (List Int) × (List Int)) : List Pay := [.i p.1, .i p.2.1, .l p.2.2.1, .i p.2.2.2.1, .l p.2.2.2.2.1, .l p.2.2.2.2.2.1, .l p.2.2.2.2.2.2.1, .l p.2.2.2.2.2.2.2]
theorem dec_enc_iilillll : ∀ (ps : List Pay) (p : Int × Int × (List Int) × Int × (List Int) × (List Int) × (List Int) × (List Int)), dec_iilillll ps = some p → ps = enc_iilillll p := by
  intro ps p h
  unfold dec_iilillll at h
  split at h
  · injection h with h
    subst h
    rfl
  · cases h

def impl_Lawn_sides_t0 : StTm := ⟨34, [(1, .ptr 1 0 32), (2, .ptr 2 0 111), (3, .ptr 3 0 111), (12, .slw 12 29), (13, .int .i64), (14, .int .i64), (20, .agg 111), (21, .int .i64)], [(1, 32, true, .ints), (2, 111, true, .ints), (3, 111, true, .ints), (12, 29, false, .ints)]⟩
def impl_Lawn_sides_t0_1 : StTm := ⟨34, [(1, .ptr 1 0 32), (2, .ptr 2 0 111), (3, .ptr 3 0 111), (12, .slw 12 29), (13, .int .i64), (14, .int .i64)], [(1, 32, true, .ints), (2, 111, true, .ints), (3, 111, true, .ints), (12, 29, false, .ints)]⟩
def impl_Lawn_sides_w0 (k : Nat) (R : Type) (K : Ex → St → Option R) (rec : Int × Int × (List Int) × Int × (List Int) × (List Int) × (List Int) × (List Int) → Option R) (p : Int × Int × (List Int) × Int × (List Int) × (List Int) × (List Int) × (List Int)) : Option R := impl_Lawn_sides_s0 k (fun y1 y2 y3 y4 y5 y6 => K (.exit 2) (fSt impl_Lawn_sides_t0_1 [.i y1, .i y2, .l y3, .l y4, .l y5, .l y6])) (fun h1 h2 h3 h4 h5 h6 h7 h8 => rec (h1, h2, h3, h4, h5, h6, h7, h8)) p.1 p.2.1 p.2.2.1 p.2.2.2.1 p.2.2.2.2.1 p.2.2.2.2.2.1 p.2.2.2.2.2.2.1 p.2.2.2.2.2.2.2
def impl_Lawn_sides_c0 (k : Nat) : Lcall := lcallOf tab impl_Lawn_sides_t0 dec_iilillll [1, 2, 3, 12, 13, 14, 20, 21] k (impl_Lawn_sides_w0 k)
def impl_Lawn_sides_t1 : StTm := ⟨34, [(1, .ptr 1 0 32), (2, .ptr 2 0 111), (3, .ptr 3 0 111), (12, .slw 12 29), (13, .int .i64), (14, .int .i64)], [(1, 32, true, .ints), (2, 111, true, .ints), (3, 111, true, .ints), (12, 29, false, .ints)]⟩
def impl_Lawn_sides_t1_1 : StTm := ⟨34, [(2, .ptr 2 0 111), (3, .ptr 3 0 111)], [(2, 111, true, .ints), (3, 111, true, .ints)]⟩
def impl_Lawn_sides_w1 (k : Nat) (R : Type) (K : Ex → St → Option R) (rec : Int × Int × (List Int) × (List Int) × (List Int) × (List Int) → Option R) (p : Int × Int × (List Int) × (List Int) × (List Int) × (List Int)) : Option R := impl_Lawn_sides_s1 k (fun y1 y2 => K (.exit 0) (fSt impl_Lawn_sides_t1_1 [.l y1, .l y2])) (fun h1 h2 h3 h4 h5 h6 => rec (h1, h2, h3, h4, h5, h6)) p.1 p.2.1 p.2.2.1 p.2.2.2.1 p.2.2.2.2.1 p.2.2.2.2.2
def impl_Lawn_sides_c1 (k : Nat) : Lcall := lcallOf tab impl_Lawn_sides_t1 dec_iillll [1, 2, 3, 12, 13, 14] k (impl_Lawn_sides_w1 k)
def impl_Lawn_sides_C (k : Nat) : Cfg := ⟨tab, mvs, oraOf [impl_Lawn_grass_e k, impl_Lawn_those_e k, impl_Lawn_around_e k], loOf [(2, impl_Lawn_sides_c0 k), (0, impl_Lawn_sides_c1 k)]⟩
theorem impl_Lawn_sides_es (k : Nat) : ∀ e ∈ ([impl_Lawn_grass_e k, impl_Lawn_those_e k, impl_Lawn_around_e k] : List Ent), EntOK Try.prog tab mvs e := by
  intro e he
  simp only [List.mem_cons, List.not_mem_nil, or_false] at he
  rcases he with rfl | rfl | rfl
  · exact impl_Lawn_grass_ok k
  · exact impl_Lawn_those_ok k
  · exact impl_Lawn_around_ok k
theorem impl_Lawn_sides_step0 (k : Nat) (R : Type) (K : Ex → St → Option R) (g : St → Option R) (p : Int × Int × (List Int) × Int × (List Int) × (List Int) × (List Int) × (List Int)) : evCode (impl_Lawn_sides_C k) (loopP [0, 0] (0, codeOf Try.f80)).2 (loopP [0, 0] (0, codeOf Try.f80)).1 (fSt impl_Lawn_sides_t0 (enc_iilillll p)) (loopK tab [1, 2, 3, 12, 13, 14, 20, 21] [1, 2, 3, 12, 13, 14] [2] g K) = impl_Lawn_sides_w0 k R K (fun p => g (fSt impl_Lawn_sides_t0 (enc_iilillll p))) p := by
  kernel_rfl
theorem impl_Lawn_sides_lok0 (k : Nat) : LoopOK Try.prog tab (impl_Lawn_sides_C k).lo (loopP [0, 0] (0, codeOf Try.f80)).1 (loopP [0, 0] (0, codeOf Try.f80)).2 :=
  loopOK_of (C := impl_Lawn_sides_C k) tabOK eqTabOK (oraOf_ok (impl_Lawn_sides_es k)) (oraOf_nat (impl_Lawn_sides_es k)) follows (forall_getD _ 0 (0, Code.skip) (by kernel_rfl) fun i hi => by
      omega)
    (tm := impl_Lawn_sides_t0) (dec := dec_iilillll) (enc := enc_iilillll) (ksIn := [1, 2, 3, 12, 13, 14, 20, 21]) (ksOut := [1, 2, 3, 12, 13, 14]) (ksRet := [2]) (k := k) (step := impl_Lawn_sides_w0 k) dec_enc_iilillll (fun p => by kernel_rfl) (fun s R K => by kernel_rfl) (impl_Lawn_sides_step0 k)
theorem impl_Lawn_sides_step1 (k : Nat) (R : Type) (K : Ex → St → Option R) (g : St → Option R) (p : Int × Int × (List Int) × (List Int) × (List Int) × (List Int)) : evCode (impl_Lawn_sides_C k) (loopP [0] (0, codeOf Try.f80)).2 (loopP [0] (0, codeOf Try.f80)).1 (fSt impl_Lawn_sides_t1 (enc_iillll p)) (loopK tab [1, 2, 3, 12, 13, 14] [2, 3] [2] g K) = impl_Lawn_sides_w1 k R K (fun p => g (fSt impl_Lawn_sides_t1 (enc_iillll p))) p := by
  kernel_rfl
theorem impl_Lawn_sides_lok1 (k : Nat) : LoopOK Try.prog tab (impl_Lawn_sides_C k).lo (loopP [0] (0, codeOf Try.f80)).1 (loopP [0] (0, codeOf Try.f80)).2 :=
  loopOK_of (C := impl_Lawn_sides_C k) tabOK eqTabOK (oraOf_ok (impl_Lawn_sides_es k)) (oraOf_nat (impl_Lawn_sides_es k)) follows (forall_getD _ 1 (0, Code.skip) (by kernel_rfl) fun i hi => by
      match i, hi with
      | 0, _ => exact impl_Lawn_sides_lok0 k
      | n + 1, h => omega)
    (tm := impl_Lawn_sides_t1) (dec := dec_iillll) (enc := enc_iillll) (ksIn := [1, 2, 3, 12, 13, 14]) (ksOut := [2, 3]) (ksRet := [2]) (k := k) (step := impl_Lawn_sides_w1 k) dec_enc_iillll (fun p => by kernel_rfl) (fun s R K => by kernel_rfl) (impl_Lawn_sides_step1 k)
def impl_Lawn_sides_e (k : Nat) : Ent := (80, callOf [.agg 32] dec_l fun (p : (List Int)) R K => (impl_Lawn_sides k p).bind fun (b : (List Int)) => K ((fV (.agg 111) (enc_l b)).1, none))
theorem impl_Lawn_sides_run (k : Nat) (p : (List Int)) : runF (impl_Lawn_sides_C k) Try.f80 false (fL [.agg 32] (enc_l p)).1 (resK (.agg 111) dec_l) = impl_Lawn_sides k p := by
  kernel_rfl
theorem impl_Lawn_sides_ok (k : Nat) : EntOK Try.prog tab mvs (impl_Lawn_sides_e k) :=
  fn_ok (C := impl_Lawn_sides_C k) tabOK eqTabOK (impl_Lawn_sides_es k) rfl follows Try.func80 (by kernel_rfl) (by kernel_rfl) rfl (forall_getD _ 1 (0, Code.skip) (by kernel_rfl) fun i hi => by
      match i, hi with
      | 0, _ => exact impl_Lawn_sides_lok1 k
      | n + 1, h => omega)
    dec_enc_l dec_enc_l (impl_Lawn_sides_run k)

def dec_iiiiliiil (ps : List Pay) : Option (Int × Int × Int × Int × (List Int) × Int × Int × Int × (List Int)) := match ps with
  | [.i x1, .i x2, .i x3, .i x4, .l x5, .i x6, .i x7, .i x8, .l x9] => some (x1, x2, x3, x4, x5, x6, x7, x8, x9)
  | _ => none
def enc_iiiiliiil (p : Int × Int × Int × Int × (List Int) × Int × Int × Int × (List Int)) : List Pay := [.i p.1, .i p.2.1, .i p.2.2.1, .i p.2.2.2.1, .l p.2.2.2.2.1, .i p.2.2.2.2.2.1, .i p.2.2.2.2.2.2.1, .i p.2.2.2.2.2.2.2.1, .l p.2.2.2.2.2.2.2.2]
theorem dec_enc_iiiiliiil : ∀ (ps : List Pay) (p : Int × Int × Int × Int × (List Int) × Int × Int × Int × (List Int)), dec_iiiiliiil ps = some p → ps = enc_iiiiliiil p := by
  intro ps p h
  unfold dec_iiiiliiil at h
  split at h
  · injection h with h
    subst h
    rfl
  · cases h

def dec_iiilil (ps : List Pay) : Option (Int × Int × Int × (List Int) × Int × (List Int)) := match ps with
  | [.i x1, .i x2, .i x3, .l x4, .i x5, .l x6] => some (x1, x2, x3, x4, x5, x6)
  | _ => none
def enc_iiilil (p : Int × Int × Int × (List Int) × Int × (List Int)) : List Pay := [.i p.1, .i p.2.1, .i p.2.2.1, .l p.2.2.2.1, .i p.2.2.2.2.1, .l p.2.2.2.2.2]
theorem dec_enc_iiilil : ∀ (ps : List Pay) (p : Int × Int × Int × (List Int) × Int × (List Int)), dec_iiilil ps = some p → ps = enc_iiilil p := by
  intro ps p h
  unfold dec_iiilil at h
  split at h
  · injection h with h
    subst h
    rfl
  · cases h

def impl_SpoolsFor_t0 : StTm := ⟨58, [(2, .int .i64), (4, .ptr 4 0 46), (8, .int .i64), (9, .int .i64), (12, .int .i64), (27, .agg 111), (28, .int .i64), (43, .int .i64), (44, .int .i64)], [(4, 46, true, .ints)]⟩
def impl_SpoolsFor_t0_1 : StTm := ⟨58, [(2, .int .i64), (4, .ptr 4 0 46), (8, .int .i64), (9, .int .i64), (27, .agg 111), (28, .int .i64)], [(4, 46, true, .ints)]⟩
def impl_SpoolsFor_w0 (k : Nat) (R : Type) (K : Ex → St → Option R) (rec : Int × Int × Int × Int × (List Int) × Int × Int × Int × (List Int) → Option R) (p : Int × Int × Int × Int × (List Int) × Int × Int × Int × (List Int)) : Option R := impl_SpoolsFor_s0 k (fun y1 y2 y3 y4 y5 y6 => K (.exit 3) (fSt impl_SpoolsFor_t0_1 [.i y1, .i y2, .i y3, .l y4, .i y5, .l y6])) (fun h1 h2 h3 h4 h5 h6 h7 h8 h9 => rec (h1, h2, h3, h4, h5, h6, h7, h8, h9)) p.1 p.2.1 p.2.2.1 p.2.2.2.1 p.2.2.2.2.1 p.2.2.2.2.2.1 p.2.2.2.2.2.2.1 p.2.2.2.2.2.2.2.1 p.2.2.2.2.2.2.2.2
def impl_SpoolsFor_c0 (k : Nat) : Lcall := lcallOf tab impl_SpoolsFor_t0 dec_iiiiliiil [2, 4, 8, 9, 12, 27, 28, 43, 44] k (impl_SpoolsFor_w0 k)
def impl_SpoolsFor_t1 : StTm := ⟨58, [(2, .int .i64), (4, .ptr 4 0 46), (8, .int .i64), (9, .int .i64), (27, .agg 111), (28, .int .i64)], [(4, 46, true, .ints)]⟩
def impl_SpoolsFor_t1_1 : StTm := ⟨58, [(6, .int .i64), (7, .int .i64)], []⟩
def impl_SpoolsFor_t1_2 : StTm := ⟨58, [(8, .int .i64)], []⟩
def impl_SpoolsFor_w1 (k : Nat) (R : Type) (K : Ex → St → Option R) (rec : Int × Int × Int × (List Int) × Int × (List Int) → Option R) (p : Int × Int × Int × (List Int) × Int × (List Int)) : Option R := impl_SpoolsFor_s1 k (fun y1 y2 => K .ret (fSt impl_SpoolsFor_t1_1 [.i y1, .i y2])) (fun y1 => K (.exit 1) (fSt impl_SpoolsFor_t1_2 [.i y1])) (fun h1 h2 h3 h4 h5 h6 => rec (h1, h2, h3, h4, h5, h6)) p.1 p.2.1 p.2.2.1 p.2.2.2.1 p.2.2.2.2.1 p.2.2.2.2.2
def impl_SpoolsFor_c1 (k : Nat) : Lcall := lcallOf tab impl_SpoolsFor_t1 dec_iiilil [2, 4, 8, 9, 27, 28] k (impl_SpoolsFor_w1 k)
def impl_SpoolsFor_C (k : Nat) : Cfg := ⟨tab, mvs, oraOf [impl_ValidLawn_e k, impl_ValidWear_e k, impl_within_e k, impl_Lawn_sides_e k], loOf [(3, impl_SpoolsFor_c0 k), (1, impl_SpoolsFor_c1 k)]⟩
theorem impl_SpoolsFor_es (k : Nat) : ∀ e ∈ ([impl_ValidLawn_e k, impl_ValidWear_e k, impl_within_e k, impl_Lawn_sides_e k] : List Ent), EntOK Try.prog tab mvs e := by
  intro e he
  simp only [List.mem_cons, List.not_mem_nil, or_false] at he
  rcases he with rfl | rfl | rfl | rfl
  · exact impl_ValidLawn_ok k
  · exact impl_ValidWear_ok k
  · exact impl_within_ok k
  · exact impl_Lawn_sides_ok k
theorem impl_SpoolsFor_step0 (k : Nat) (R : Type) (K : Ex → St → Option R) (g : St → Option R) (p : Int × Int × Int × Int × (List Int) × Int × Int × Int × (List Int)) : evCode (impl_SpoolsFor_C k) (loopP [0, 0] (0, codeOf Try.f25)).2 (loopP [0, 0] (0, codeOf Try.f25)).1 (fSt impl_SpoolsFor_t0 (enc_iiiiliiil p)) (loopK tab [2, 4, 8, 9, 12, 27, 28, 43, 44] [2, 4, 8, 9, 27, 28] [6, 7] g K) = impl_SpoolsFor_w0 k R K (fun p => g (fSt impl_SpoolsFor_t0 (enc_iiiiliiil p))) p := by
  kernel_rfl
theorem impl_SpoolsFor_lok0 (k : Nat) : LoopOK Try.prog tab (impl_SpoolsFor_C k).lo (loopP [0, 0] (0, codeOf Try.f25)).1 (loopP [0, 0] (0, codeOf Try.f25)).2 :=
  loopOK_of (C := impl_SpoolsFor_C k) tabOK eqTabOK (oraOf_ok (impl_SpoolsFor_es k)) (oraOf_nat (impl_SpoolsFor_es k)) follows (forall_getD _ 0 (0, Code.skip) (by kernel_rfl) fun i hi => by
      omega)
    (tm := impl_SpoolsFor_t0) (dec := dec_iiiiliiil) (enc := enc_iiiiliiil) (ksIn := [2, 4, 8, 9, 12, 27, 28, 43, 44]) (ksOut := [2, 4, 8, 9, 27, 28]) (ksRet := [6, 7]) (k := k) (step := impl_SpoolsFor_w0 k) dec_enc_iiiiliiil (fun p => by kernel_rfl) (fun s R K => by kernel_rfl) (impl_SpoolsFor_step0 k)
theorem impl_SpoolsFor_step1 (k : Nat) (R : Type) (K : Ex → St → Option R) (g : St → Option R) (p : Int × Int × Int × (List Int) × Int × (List Int)) : evCode (impl_SpoolsFor_C k) (loopP [0] (0, codeOf Try.f25)).2 (loopP [0] (0, codeOf Try.f25)).1 (fSt impl_SpoolsFor_t1 (enc_iiilil p)) (loopK tab [2, 4, 8, 9, 27, 28] [8] [6, 7] g K) = impl_SpoolsFor_w1 k R K (fun p => g (fSt impl_SpoolsFor_t1 (enc_iiilil p))) p := by
  kernel_rfl
theorem impl_SpoolsFor_lok1 (k : Nat) : LoopOK Try.prog tab (impl_SpoolsFor_C k).lo (loopP [0] (0, codeOf Try.f25)).1 (loopP [0] (0, codeOf Try.f25)).2 :=
  loopOK_of (C := impl_SpoolsFor_C k) tabOK eqTabOK (oraOf_ok (impl_SpoolsFor_es k)) (oraOf_nat (impl_SpoolsFor_es k)) follows (forall_getD _ 1 (0, Code.skip) (by kernel_rfl) fun i hi => by
      match i, hi with
      | 0, _ => exact impl_SpoolsFor_lok0 k
      | n + 1, h => omega)
    (tm := impl_SpoolsFor_t1) (dec := dec_iiilil) (enc := enc_iiilil) (ksIn := [2, 4, 8, 9, 27, 28]) (ksOut := [8]) (ksRet := [6, 7]) (k := k) (step := impl_SpoolsFor_w1 k) dec_enc_iiilil (fun p => by kernel_rfl) (fun s R K => by kernel_rfl) (impl_SpoolsFor_step1 k)
def impl_SpoolsFor_e (k : Nat) : Ent := (25, callOf [.agg 32, .agg 46, .int .i64] dec_lli fun (p : (List Int) × (List Int) × Int) R K => (impl_SpoolsFor k p.1 p.2.1 p.2.2).bind fun (b : Int × Int) => K ((fV (.tup [.int .i64, .int .i64]) (enc_ii b)).1, none))
theorem impl_SpoolsFor_run (k : Nat) (p : (List Int) × (List Int) × Int) : runF (impl_SpoolsFor_C k) Try.f25 false (fL [.agg 32, .agg 46, .int .i64] (enc_lli p)).1 (resK (.tup [.int .i64, .int .i64]) dec_ii) = impl_SpoolsFor k p.1 p.2.1 p.2.2 := by
  kernel_rfl
theorem impl_SpoolsFor_ok (k : Nat) : EntOK Try.prog tab mvs (impl_SpoolsFor_e k) :=
  fn_ok (C := impl_SpoolsFor_C k) tabOK eqTabOK (impl_SpoolsFor_es k) rfl follows Try.func25 (by kernel_rfl) (by kernel_rfl) rfl (forall_getD _ 1 (0, Code.skip) (by kernel_rfl) fun i hi => by
      match i, hi with
      | 0, _ => exact impl_SpoolsFor_lok1 k
      | n + 1, h => omega)
    dec_enc_lli dec_enc_ii (impl_SpoolsFor_run k)

def laws_FnExactSpoolsFor_C (k : Nat) : Cfg := ⟨tab, mvs, oraOf [laws_toLawn_e k, laws_toWear_e k, spec_SpoolsFor_e k, impl_SpoolsFor_e k], loOf []⟩
theorem laws_FnExactSpoolsFor_es (k : Nat) : ∀ e ∈ ([laws_toLawn_e k, laws_toWear_e k, spec_SpoolsFor_e k, impl_SpoolsFor_e k] : List Ent), EntOK Try.prog tab mvs e := by
  intro e he
  simp only [List.mem_cons, List.not_mem_nil, or_false] at he
  rcases he with rfl | rfl | rfl | rfl
  · exact laws_toLawn_ok k
  · exact laws_toWear_ok k
  · exact spec_SpoolsFor_ok k
  · exact impl_SpoolsFor_ok k
def laws_FnExactSpoolsFor_e (k : Nat) : Ent := (5, callOf [.agg 26, .agg 44, .int .i64] dec_lli fun (p : (List Int) × (List Int) × Int) R K => (laws_FnExactSpoolsFor k p.1 p.2.1 p.2.2).bind fun (b : Bool) => K ((fV (.bool) (enc_b b)).1, none))
theorem laws_FnExactSpoolsFor_run (k : Nat) (p : (List Int) × (List Int) × Int) : runF (laws_FnExactSpoolsFor_C k) Try.f5 false (fL [.agg 26, .agg 44, .int .i64] (enc_lli p)).1 (resK (.bool) dec_b) = laws_FnExactSpoolsFor k p.1 p.2.1 p.2.2 := by
  kernel_rfl
theorem laws_FnExactSpoolsFor_ok (k : Nat) : EntOK Try.prog tab mvs (laws_FnExactSpoolsFor_e k) :=
  fn_ok (C := laws_FnExactSpoolsFor_C k) tabOK eqTabOK (laws_FnExactSpoolsFor_es k) rfl follows Try.func5 (by kernel_rfl) (by kernel_rfl) rfl (forall_getD _ 0 (0, Code.skip) (by kernel_rfl) fun i hi => by
      omega)
    dec_enc_lli dec_enc_b (laws_FnExactSpoolsFor_run k)

def dec_lb (ps : List Pay) : Option ((List Int) × Bool) := match ps with
  | [.l x1, .b x2] => some (x1, x2)
  | _ => none
def enc_lb (p : (List Int) × Bool) : List Pay := [.l p.1, .b p.2]
theorem dec_enc_lb : ∀ (ps : List Pay) (p : (List Int) × Bool), dec_lb ps = some p → ps = enc_lb p := by
  intro ps p h
  unfold dec_lb at h
  split at h
  · injection h with h
    subst h
    rfl
  · cases h

def spec_l01Told_C (k : Nat) : Cfg := ⟨tab, mvs, oraOf [spec_l01Ok_e k], loOf []⟩
theorem spec_l01Told_es (k : Nat) : ∀ e ∈ ([spec_l01Ok_e k] : List Ent), EntOK Try.prog tab mvs e := by
  intro e he
  simp only [List.mem_cons, List.not_mem_nil, or_false] at he
  rcases he with rfl
  · exact spec_l01Ok_ok k
def spec_l01Told_e (k : Nat) : Ent := (91, callOf [.pvi (some 32) 0 32, .bool] dec_lb fun (p : (List Int) × Bool) R K => (spec_l01Told k p.1 p.2).bind fun (b : Int) => K ((fV (.int .i64) (enc_i b)).1, none))
theorem spec_l01Told_run (k : Nat) (p : (List Int) × Bool) : runF (spec_l01Told_C k) Try.f91 false (fL [.pvi (some 32) 0 32, .bool] (enc_lb p)).1 (resK (.int .i64) dec_i) = spec_l01Told k p.1 p.2 := by
  kernel_rfl
theorem spec_l01Told_ok (k : Nat) : EntOK Try.prog tab mvs (spec_l01Told_e k) :=
  fn_ok (C := spec_l01Told_C k) tabOK eqTabOK (spec_l01Told_es k) rfl follows Try.func91 (by kernel_rfl) (by kernel_rfl) rfl (forall_getD _ 0 (0, Code.skip) (by kernel_rfl) fun i hi => by
      omega)
    dec_enc_lb dec_enc_i (spec_l01Told_run k)

def spec_l02Letter_t0 : StTm := ⟨13, [(0, .int .u8), (3, .int .i64)], []⟩
def spec_l02Letter_t0_1 : StTm := ⟨13, [(2, .int .i64)], []⟩
def spec_l02Letter_t0_2 : StTm := ⟨13, [], []⟩
def spec_l02Letter_w0 (k : Nat) (R : Type) (K : Ex → St → Option R) (rec : Int × Int → Option R) (p : Int × Int) : Option R := spec_l02Letter_s0 k (fun y1 => K .ret (fSt spec_l02Letter_t0_1 [.i y1])) (K (.exit 0) (fSt spec_l02Letter_t0_2 [])) (fun h1 h2 => rec (h1, h2)) p.1 p.2
def spec_l02Letter_c0 (k : Nat) : Lcall := lcallOf tab spec_l02Letter_t0 dec_ii [0, 3] k (spec_l02Letter_w0 k)
def spec_l02Letter_C (k : Nat) : Cfg := ⟨tab, mvs, oraOf [], loOf [(0, spec_l02Letter_c0 k)]⟩
theorem spec_l02Letter_es (k : Nat) : ∀ e ∈ ([] : List Ent), EntOK Try.prog tab mvs e := by
  intro e he
  simp at he
theorem spec_l02Letter_step0 (k : Nat) (R : Type) (K : Ex → St → Option R) (g : St → Option R) (p : Int × Int) : evCode (spec_l02Letter_C k) (loopP [0] (0, codeOf Try.f161)).2 (loopP [0] (0, codeOf Try.f161)).1 (fSt spec_l02Letter_t0 (enc_ii p)) (loopK tab [0, 3] [] [2] g K) = spec_l02Letter_w0 k R K (fun p => g (fSt spec_l02Letter_t0 (enc_ii p))) p := by
  kernel_rfl
theorem spec_l02Letter_lok0 (k : Nat) : LoopOK Try.prog tab (spec_l02Letter_C k).lo (loopP [0] (0, codeOf Try.f161)).1 (loopP [0] (0, codeOf Try.f161)).2 :=
  loopOK_of (C := spec_l02Letter_C k) tabOK eqTabOK (oraOf_ok (spec_l02Letter_es k)) (oraOf_nat (spec_l02Letter_es k)) follows (forall_getD _ 0 (0, Code.skip) (by kernel_rfl) fun i hi => by
      omega)
    (tm := spec_l02Letter_t0) (dec := dec_ii) (enc := enc_ii) (ksIn := [0, 3]) (ksOut := []) (ksRet := [2]) (k := k) (step := spec_l02Letter_w0 k) dec_enc_ii (fun p => by kernel_rfl) (fun s R K => by kernel_rfl) (spec_l02Letter_step0 k)
def spec_l02Letter_e (k : Nat) : Ent := (161, callOf [.int .u8] dec_i fun (p : Int) R K => (spec_l02Letter k p).bind fun (b : Int) => K ((fV (.int .i64) (enc_i b)).1, none))
theorem spec_l02Letter_run (k : Nat) (p : Int) : runF (spec_l02Letter_C k) Try.f161 false (fL [.int .u8] (enc_i p)).1 (resK (.int .i64) dec_i) = spec_l02Letter k p := by
  kernel_rfl
theorem spec_l02Letter_ok (k : Nat) : EntOK Try.prog tab mvs (spec_l02Letter_e k) :=
  fn_ok (C := spec_l02Letter_C k) tabOK eqTabOK (spec_l02Letter_es k) rfl follows Try.func161 (by kernel_rfl) (by kernel_rfl) rfl (forall_getD _ 1 (0, Code.skip) (by kernel_rfl) fun i hi => by
      match i, hi with
      | 0, _ => exact spec_l02Letter_lok0 k
      | n + 1, h => omega)
    dec_enc_i dec_enc_i (spec_l02Letter_run k)

def dec_si (ps : List Pay) : Option (ByteArray × Int) := match ps with
  | [.s x1, .i x2] => some (x1, x2)
  | _ => none
def enc_si (p : ByteArray × Int) : List Pay := [.s p.1, .i p.2]
theorem dec_enc_si : ∀ (ps : List Pay) (p : ByteArray × Int), dec_si ps = some p → ps = enc_si p := by
  intro ps p h
  unfold dec_si at h
  split at h
  · injection h with h
    subst h
    rfl
  · cases h

def dec_s (ps : List Pay) : Option (ByteArray) := match ps with
  | [.s x1] => some x1
  | _ => none
def enc_s (p : ByteArray) : List Pay := [.s p]
theorem dec_enc_s : ∀ (ps : List Pay) (p : ByteArray), dec_s ps = some p → ps = enc_s p := by
  intro ps p h
  unfold dec_s at h
  split at h
  · injection h with h
    subst h
    rfl
  · cases h

def spec_l02Way_t0 : StTm := ⟨18, [(0, .str), (3, .int .i64)], []⟩
def spec_l02Way_t0_1 : StTm := ⟨18, [(2, .int .i64)], []⟩
def spec_l02Way_t0_2 : StTm := ⟨18, [], []⟩
def spec_l02Way_w0 (k : Nat) (R : Type) (K : Ex → St → Option R) (rec : ByteArray × Int → Option R) (p : ByteArray × Int) : Option R := spec_l02Way_s0 k (fun y1 => K .ret (fSt spec_l02Way_t0_1 [.i y1])) (K (.exit 0) (fSt spec_l02Way_t0_2 [])) (fun h1 h2 => rec (h1, h2)) p.1 p.2
def spec_l02Way_c0 (k : Nat) : Lcall := lcallOf tab spec_l02Way_t0 dec_si [0, 3] k (spec_l02Way_w0 k)
def spec_l02Way_C (k : Nat) : Cfg := ⟨tab, mvs, oraOf [spec_l02Letter_e k], loOf [(0, spec_l02Way_c0 k)]⟩
theorem spec_l02Way_es (k : Nat) : ∀ e ∈ ([spec_l02Letter_e k] : List Ent), EntOK Try.prog tab mvs e := by
  intro e he
  simp only [List.mem_cons, List.not_mem_nil, or_false] at he
  rcases he with rfl
  · exact spec_l02Letter_ok k
theorem spec_l02Way_step0 (k : Nat) (R : Type) (K : Ex → St → Option R) (g : St → Option R) (p : ByteArray × Int) : evCode (spec_l02Way_C k) (loopP [0] (0, codeOf Try.f160)).2 (loopP [0] (0, codeOf Try.f160)).1 (fSt spec_l02Way_t0 (enc_si p)) (loopK tab [0, 3] [] [2] g K) = spec_l02Way_w0 k R K (fun p => g (fSt spec_l02Way_t0 (enc_si p))) p := by
  kernel_rfl
theorem spec_l02Way_lok0 (k : Nat) : LoopOK Try.prog tab (spec_l02Way_C k).lo (loopP [0] (0, codeOf Try.f160)).1 (loopP [0] (0, codeOf Try.f160)).2 :=
  loopOK_of (C := spec_l02Way_C k) tabOK eqTabOK (oraOf_ok (spec_l02Way_es k)) (oraOf_nat (spec_l02Way_es k)) follows (forall_getD _ 0 (0, Code.skip) (by kernel_rfl) fun i hi => by
      omega)
    (tm := spec_l02Way_t0) (dec := dec_si) (enc := enc_si) (ksIn := [0, 3]) (ksOut := []) (ksRet := [2]) (k := k) (step := spec_l02Way_w0 k) dec_enc_si (fun p => by kernel_rfl) (fun s R K => by kernel_rfl) (spec_l02Way_step0 k)
def spec_l02Way_e (k : Nat) : Ent := (160, callOf [.str] dec_s fun (p : ByteArray) R K => (spec_l02Way k p).bind fun (b : Int) => K ((fV (.int .i64) (enc_i b)).1, none))
theorem spec_l02Way_run (k : Nat) (p : ByteArray) : runF (spec_l02Way_C k) Try.f160 false (fL [.str] (enc_s p)).1 (resK (.int .i64) dec_i) = spec_l02Way k p := by
  kernel_rfl
theorem spec_l02Way_ok (k : Nat) : EntOK Try.prog tab mvs (spec_l02Way_e k) :=
  fn_ok (C := spec_l02Way_C k) tabOK eqTabOK (spec_l02Way_es k) rfl follows Try.func160 (by kernel_rfl) (by kernel_rfl) rfl (forall_getD _ 1 (0, Code.skip) (by kernel_rfl) fun i hi => by
      match i, hi with
      | 0, _ => exact spec_l02Way_lok0 k
      | n + 1, h => omega)
    dec_enc_s dec_enc_i (spec_l02Way_run k)

def dec_lls (ps : List Pay) : Option ((List Int) × (List Int) × ByteArray) := match ps with
  | [.l x1, .l x2, .s x3] => some (x1, x2, x3)
  | _ => none
def enc_lls (p : (List Int) × (List Int) × ByteArray) : List Pay := [.l p.1, .l p.2.1, .s p.2.2]
theorem dec_enc_lls : ∀ (ps : List Pay) (p : (List Int) × (List Int) × ByteArray), dec_lls ps = some p → ps = enc_lls p := by
  intro ps p h
  unfold dec_lls at h
  split at h
  · injection h with h
    subst h
    rfl
  · cases h


end Go.Proofs.Ytkblhnedillknaa.Tt
