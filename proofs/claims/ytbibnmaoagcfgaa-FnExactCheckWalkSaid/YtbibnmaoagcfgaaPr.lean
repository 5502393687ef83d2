/- The code is what the functions in plain Lean say. -/
import Derived.Test.YtbibnmaoagcfgaaTab
import Derived.Test.YtbibnmaoagcfgaaSh
set_option linter.unusedVariables false
set_option linter.unusedSimpArgs false
set_option linter.unusedVariables false
namespace Go.Proofs.Ytbibnmaoagcfgaa.Tt
open Go.Ev Go
set_option maxRecDepth 100000

def mvs : List Nat := [110]

def dec_li (ps : List Pay) : Option ((List Int) × Int) := match ps with
  | [.l x1, .i x2] => some (x1, x2)
  | _ => none
def enc_li (p : (List Int) × Int) : List Pay := [.l p.1, .i p.2]
theorem dec_enc_li : ∀ (ps : List Pay) (p : (List Int) × Int), dec_li ps = some p → ps = enc_li p := by
  intro ps p h
  unfold dec_li at h
  split at h
  · injection h with h
    subst h
    rfl
  · cases h

def dec_i (ps : List Pay) : Option (Int) := match ps with
  | [.i x1] => some x1
  | _ => none
def enc_i (p : Int) : List Pay := [.i p]
theorem dec_enc_i : ∀ (ps : List Pay) (p : Int), dec_i ps = some p → ps = enc_i p := by
  intro ps p h
  unfold dec_i at h
  split at h
  · injection h with h
    subst h
    rfl
  · cases h

def laws_szCellS_C (k : Nat) : Cfg := ⟨tab, mvs, oraOf [], loOf []⟩
theorem laws_szCellS_es (k : Nat) : ∀ e ∈ ([] : List Ent), EntOK Try.prog tab mvs e := by
  intro e he
  simp at he
def laws_szCellS_e (k : Nat) : Ent := (24, callOf [.slv 89, .int .i64] dec_li fun (p : (List Int) × Int) R K => (laws_szCellS k p.1 p.2).bind fun (b : Int) => K ((fV (.int .i64) (enc_i b)).1, none))
theorem laws_szCellS_run (k : Nat) (p : (List Int) × Int) : runF (laws_szCellS_C k) Try.f24 false (fL [.slv 89, .int .i64] (enc_li p)).1 (resK (.int .i64) dec_i) = laws_szCellS k p.1 p.2 := by
  kernel_rfl
theorem laws_szCellS_ok (k : Nat) : EntOK Try.prog tab mvs (laws_szCellS_e k) :=
  fn_ok (C := laws_szCellS_C k) tabOK eqTabOK (laws_szCellS_es k) rfl follows Try.func24 (by kernel_rfl) (by kernel_rfl) rfl (forall_getD _ 0 (0, Code.skip) (by kernel_rfl) fun i hi => by
      omega)
    dec_enc_li dec_enc_i (laws_szCellS_run k)

def dec_illl (ps : List Pay) : Option (Int × (List Int) × (List Int) × (List Int)) := match ps with
  | [.i x1, .l x2, .l x3, .l x4] => some (x1, x2, x3, x4)
  | _ => none
def enc_illl (p : Int × (List Int) × (List Int) × (List Int)) : List Pay := [.i p.1, .l p.2.1, .l p.2.2.1, .l p.2.2.2]
theorem dec_enc_illl : ∀ (ps : List Pay) (p : Int × (List Int) × (List Int) × (List Int)), dec_illl ps = some p → ps = enc_illl p := by
  intro ps p h
  unfold dec_illl at h
  split at h
  · injection h with h
    subst h
    rfl
  · cases h

def dec_l (ps : List Pay) : Option ((List Int)) := match ps with
  | [.l x1] => some x1
  | _ => none
def enc_l (p : (List Int)) : List Pay := [.l p]
theorem dec_enc_l : ∀ (ps : List Pay) (p : (List Int)), dec_l ps = some p → ps = enc_l p := by
  intro ps p h
  unfold dec_l at h
  split at h
  · injection h with h
    subst h
    rfl
  · cases h

def laws_toByteA10_t0 : StTm := ⟨15, [(1, .ptr 1 0 23), (2, .ptr 2 0 23), (3, .ptr 3 0 23), (4, .int .i64)], [(1, 23, true, .ints), (2, 23, true, .ints), (3, 23, true, .ints)]⟩
def laws_toByteA10_t0_1 : StTm := ⟨15, [(2, .ptr 2 0 23), (3, .ptr 3 0 23)], [(2, 23, true, .ints), (3, 23, true, .ints)]⟩
def laws_toByteA10_w0 (k : Nat) (R : Type) (K : Ex → St → Option R) (rec : Int × (List Int) × (List Int) × (List Int) → Option R) (p : Int × (List Int) × (List Int) × (List Int)) : Option R := laws_toByteA10_s0 k (fun y1 y2 => K (.exit 0) (fSt laws_toByteA10_t0_1 [.l y1, .l y2])) (fun h1 h2 h3 h4 => rec (h1, h2, h3, h4)) p.1 p.2.1 p.2.2.1 p.2.2.2
def laws_toByteA10_c0 (k : Nat) : Lcall := lcallOf tab laws_toByteA10_t0 dec_illl [1, 2, 3, 4] k (laws_toByteA10_w0 k)
def laws_toByteA10_C (k : Nat) : Cfg := ⟨tab, mvs, oraOf [], loOf [(0, laws_toByteA10_c0 k)]⟩
theorem laws_toByteA10_es (k : Nat) : ∀ e ∈ ([] : List Ent), EntOK Try.prog tab mvs e := by
  intro e he
  simp at he
theorem laws_toByteA10_step0 (k : Nat) (R : Type) (K : Ex → St → Option R) (g : St → Option R) (p : Int × (List Int) × (List Int) × (List Int)) : evCode (laws_toByteA10_C k) (loopP [0] (0, codeOf Try.f108)).2 (loopP [0] (0, codeOf Try.f108)).1 (fSt laws_toByteA10_t0 (enc_illl p)) (loopK tab [1, 2, 3, 4] [2, 3] [2] g K) = laws_toByteA10_w0 k R K (fun p => g (fSt laws_toByteA10_t0 (enc_illl p))) p := by
  kernel_rfl
theorem laws_toByteA10_lok0 (k : Nat) : LoopOK Try.prog tab (laws_toByteA10_C k).lo (loopP [0] (0, codeOf Try.f108)).1 (loopP [0] (0, codeOf Try.f108)).2 :=
  loopOK_of (C := laws_toByteA10_C k) tabOK eqTabOK (oraOf_ok (laws_toByteA10_es k)) (oraOf_nat (laws_toByteA10_es k)) follows (forall_getD _ 0 (0, Code.skip) (by kernel_rfl) fun i hi => by
      omega)
    (tm := laws_toByteA10_t0) (dec := dec_illl) (enc := enc_illl) (ksIn := [1, 2, 3, 4]) (ksOut := [2, 3]) (ksRet := [2]) (k := k) (step := laws_toByteA10_w0 k) dec_enc_illl (fun p => by kernel_rfl) (fun s R K => by kernel_rfl) (laws_toByteA10_step0 k)
def laws_toByteA10_e (k : Nat) : Ent := (108, callOf [.agg 23] dec_l fun (p : (List Int)) R K => (laws_toByteA10 k p).bind fun (b : (List Int)) => K ((fV (.agg 23) (enc_l b)).1, none))
theorem laws_toByteA10_run (k : Nat) (p : (List Int)) : runF (laws_toByteA10_C k) Try.f108 false (fL [.agg 23] (enc_l p)).1 (resK (.agg 23) dec_l) = laws_toByteA10 k p := by
  kernel_rfl
theorem laws_toByteA10_ok (k : Nat) : EntOK Try.prog tab mvs (laws_toByteA10_e k) :=
  fn_ok (C := laws_toByteA10_C k) tabOK eqTabOK (laws_toByteA10_es k) rfl follows Try.func108 (by kernel_rfl) (by kernel_rfl) rfl (forall_getD _ 1 (0, Code.skip) (by kernel_rfl) fun i hi => by
      match i, hi with
      | 0, _ => exact laws_toByteA10_lok0 k
      | n + 1, h => omega)
    dec_enc_l dec_enc_l (laws_toByteA10_run k)

def laws_toByteA10A10_t0 : StTm := ⟨16, [(1, .ptr 1 0 24), (2, .ptr 2 0 24), (3, .ptr 3 0 24), (4, .int .i64)], [(1, 24, true, .ints), (2, 24, true, .ints), (3, 24, true, .ints)]⟩
def laws_toByteA10A10_t0_1 : StTm := ⟨16, [(2, .ptr 2 0 24), (3, .ptr 3 0 24)], [(2, 24, true, .ints), (3, 24, true, .ints)]⟩
def laws_toByteA10A10_w0 (k : Nat) (R : Type) (K : Ex → St → Option R) (rec : Int × (List Int) × (List Int) × (List Int) → Option R) (p : Int × (List Int) × (List Int) × (List Int)) : Option R := laws_toByteA10A10_s0 k (fun y1 y2 => K (.exit 0) (fSt laws_toByteA10A10_t0_1 [.l y1, .l y2])) (fun h1 h2 h3 h4 => rec (h1, h2, h3, h4)) p.1 p.2.1 p.2.2.1 p.2.2.2
def laws_toByteA10A10_c0 (k : Nat) : Lcall := lcallOf tab laws_toByteA10A10_t0 dec_illl [1, 2, 3, 4] k (laws_toByteA10A10_w0 k)
def laws_toByteA10A10_C (k : Nat) : Cfg := ⟨tab, mvs, oraOf [laws_toByteA10_e k], loOf [(0, laws_toByteA10A10_c0 k)]⟩
theorem laws_toByteA10A10_es (k : Nat) : ∀ e ∈ ([laws_toByteA10_e k] : List Ent), EntOK Try.prog tab mvs e := by
  intro e he
  simp only [List.mem_cons, List.not_mem_nil, or_false] at he
  rcases he with rfl
  · exact laws_toByteA10_ok k
theorem laws_toByteA10A10_step0 (k : Nat) (R : Type) (K : Ex → St → Option R) (g : St → Option R) (p : Int × (List Int) × (List Int) × (List Int)) : evCode (laws_toByteA10A10_C k) (loopP [0] (0, codeOf Try.f58)).2 (loopP [0] (0, codeOf Try.f58)).1 (fSt laws_toByteA10A10_t0 (enc_illl p)) (loopK tab [1, 2, 3, 4] [2, 3] [2] g K) = laws_toByteA10A10_w0 k R K (fun p => g (fSt laws_toByteA10A10_t0 (enc_illl p))) p := by
  kernel_rfl
theorem laws_toByteA10A10_lok0 (k : Nat) : LoopOK Try.prog tab (laws_toByteA10A10_C k).lo (loopP [0] (0, codeOf Try.f58)).1 (loopP [0] (0, codeOf Try.f58)).2 :=
  loopOK_of (C := laws_toByteA10A10_C k) tabOK eqTabOK (oraOf_ok (laws_toByteA10A10_es k)) (oraOf_nat (laws_toByteA10A10_es k)) follows (forall_getD _ 0 (0, Code.skip) (by kernel_rfl) fun i hi => by
      omega)
    (tm := laws_toByteA10A10_t0) (dec := dec_illl) (enc := enc_illl) (ksIn := [1, 2, 3, 4]) (ksOut := [2, 3]) (ksRet := [2]) (k := k) (step := laws_toByteA10A10_w0 k) dec_enc_illl (fun p => by kernel_rfl) (fun s R K => by kernel_rfl) (laws_toByteA10A10_step0 k)
def laws_toByteA10A10_e (k : Nat) : Ent := (58, callOf [.agg 24] dec_l fun (p : (List Int)) R K => (laws_toByteA10A10 k p).bind fun (b : (List Int)) => K ((fV (.agg 24) (enc_l b)).1, none))
theorem laws_toByteA10A10_run (k : Nat) (p : (List Int)) : runF (laws_toByteA10A10_C k) Try.f58 false (fL [.agg 24] (enc_l p)).1 (resK (.agg 24) dec_l) = laws_toByteA10A10 k p := by
  kernel_rfl
theorem laws_toByteA10A10_ok (k : Nat) : EntOK Try.prog tab mvs (laws_toByteA10A10_e k) :=
  fn_ok (C := laws_toByteA10A10_C k) tabOK eqTabOK (laws_toByteA10A10_es k) rfl follows Try.func58 (by kernel_rfl) (by kernel_rfl) rfl (forall_getD _ 1 (0, Code.skip) (by kernel_rfl) fun i hi => by
      match i, hi with
      | 0, _ => exact laws_toByteA10A10_lok0 k
      | n + 1, h => omega)
    dec_enc_l dec_enc_l (laws_toByteA10A10_run k)

def laws_toLawn_C (k : Nat) : Cfg := ⟨tab, mvs, oraOf [laws_toByteA10A10_e k], loOf []⟩
theorem laws_toLawn_es (k : Nat) : ∀ e ∈ ([laws_toByteA10A10_e k] : List Ent), EntOK Try.prog tab mvs e := by
  intro e he
  simp only [List.mem_cons, List.not_mem_nil, or_false] at he
  rcases he with rfl
  · exact laws_toByteA10A10_ok k
def laws_toLawn_e (k : Nat) : Ent := (14, callOf [.agg 26] dec_l fun (p : (List Int)) R K => (laws_toLawn k p).bind fun (b : (List Int)) => K ((fV (.agg 30) (enc_l b)).1, none))
theorem laws_toLawn_run (k : Nat) (p : (List Int)) : runF (laws_toLawn_C k) Try.f14 false (fL [.agg 26] (enc_l p)).1 (resK (.agg 30) dec_l) = laws_toLawn k p := by
  kernel_rfl
theorem laws_toLawn_ok (k : Nat) : EntOK Try.prog tab mvs (laws_toLawn_e k) :=
  fn_ok (C := laws_toLawn_C k) tabOK eqTabOK (laws_toLawn_es k) rfl follows Try.func14 (by kernel_rfl) (by kernel_rfl) rfl (forall_getD _ 0 (0, Code.skip) (by kernel_rfl) fun i hi => by
      omega)
    dec_enc_l dec_enc_l (laws_toLawn_run k)

def laws_toCell_C (k : Nat) : Cfg := ⟨tab, mvs, oraOf [], loOf []⟩
theorem laws_toCell_es (k : Nat) : ∀ e ∈ ([] : List Ent), EntOK Try.prog tab mvs e := by
  intro e he
  simp at he
def laws_toCell_e (k : Nat) : Ent := (54, callOf [.agg 89] dec_l fun (p : (List Int)) R K => (laws_toCell k p).bind fun (b : (List Int)) => K ((fV (.agg 64) (enc_l b)).1, none))
theorem laws_toCell_run (k : Nat) (p : (List Int)) : runF (laws_toCell_C k) Try.f54 false (fL [.agg 89] (enc_l p)).1 (resK (.agg 64) dec_l) = laws_toCell k p := by
  kernel_rfl
theorem laws_toCell_ok (k : Nat) : EntOK Try.prog tab mvs (laws_toCell_e k) :=
  fn_ok (C := laws_toCell_C k) tabOK eqTabOK (laws_toCell_es k) rfl follows Try.func54 (by kernel_rfl) (by kernel_rfl) rfl (forall_getD _ 0 (0, Code.skip) (by kernel_rfl) fun i hi => by
      omega)
    dec_enc_l dec_enc_l (laws_toCell_run k)

def dec_lil (ps : List Pay) : Option ((List Int) × Int × (List Int)) := match ps with
  | [.l x1, .i x2, .l x3] => some (x1, x2, x3)
  | _ => none
def enc_lil (p : (List Int) × Int × (List Int)) : List Pay := [.l p.1, .i p.2.1, .l p.2.2]
theorem dec_enc_lil : ∀ (ps : List Pay) (p : (List Int) × Int × (List Int)), dec_lil ps = some p → ps = enc_lil p := by
  intro ps p h
  unfold dec_lil at h
  split at h
  · injection h with h
    subst h
    rfl
  · cases h

def laws_toCellS_t0 : StTm := ⟨23, [(0, .slv 89), (3, .slw 3 64), (4, .int .i64)], [(3, 64, false, .ints)]⟩
def laws_toCellS_t0_1 : StTm := ⟨23, [(3, .slw 3 64)], [(3, 64, false, .ints)]⟩
def laws_toCellS_w0 (k : Nat) (R : Type) (K : Ex → St → Option R) (rec : (List Int) × Int × (List Int) → Option R) (p : (List Int) × Int × (List Int)) : Option R := laws_toCellS_s0 k (fun y1 => K (.exit 0) (fSt laws_toCellS_t0_1 [.l y1])) (fun h1 h2 h3 => rec (h1, h2, h3)) p.1 p.2.1 p.2.2
def laws_toCellS_c0 (k : Nat) : Lcall := lcallOf tab laws_toCellS_t0 dec_lil [0, 3, 4] k (laws_toCellS_w0 k)
def laws_toCellS_C (k : Nat) : Cfg := ⟨tab, mvs, oraOf [laws_toCell_e k], loOf [(0, laws_toCellS_c0 k)]⟩
theorem laws_toCellS_es (k : Nat) : ∀ e ∈ ([laws_toCell_e k] : List Ent), EntOK Try.prog tab mvs e := by
  intro e he
  simp only [List.mem_cons, List.not_mem_nil, or_false] at he
  rcases he with rfl
  · exact laws_toCell_ok k
theorem laws_toCellS_step0 (k : Nat) (R : Type) (K : Ex → St → Option R) (g : St → Option R) (p : (List Int) × Int × (List Int)) : evCode (laws_toCellS_C k) (loopP [0] (0, codeOf Try.f26)).2 (loopP [0] (0, codeOf Try.f26)).1 (fSt laws_toCellS_t0 (enc_lil p)) (loopK tab [0, 3, 4] [3] [2] g K) = laws_toCellS_w0 k R K (fun p => g (fSt laws_toCellS_t0 (enc_lil p))) p := by
  kernel_rfl
theorem laws_toCellS_lok0 (k : Nat) : LoopOK Try.prog tab (laws_toCellS_C k).lo (loopP [0] (0, codeOf Try.f26)).1 (loopP [0] (0, codeOf Try.f26)).2 :=
  loopOK_of (C := laws_toCellS_C k) tabOK eqTabOK (oraOf_ok (laws_toCellS_es k)) (oraOf_nat (laws_toCellS_es k)) follows (forall_getD _ 0 (0, Code.skip) (by kernel_rfl) fun i hi => by
      omega)
    (tm := laws_toCellS_t0) (dec := dec_lil) (enc := enc_lil) (ksIn := [0, 3, 4]) (ksOut := [3]) (ksRet := [2]) (k := k) (step := laws_toCellS_w0 k) dec_enc_lil (fun p => by kernel_rfl) (fun s R K => by kernel_rfl) (laws_toCellS_step0 k)
def laws_toCellS_e (k : Nat) : Ent := (26, callOf [.slv 89] dec_l fun (p : (List Int)) R K => (laws_toCellS k p).bind fun (b : (List Int)) => K ((fV (.slv 64) (enc_l b)).1, none))
theorem laws_toCellS_run (k : Nat) (p : (List Int)) : runF (laws_toCellS_C k) Try.f26 false (fL [.slv 89] (enc_l p)).1 (resK (.slv 64) dec_l) = laws_toCellS k p := by
  kernel_rfl
theorem laws_toCellS_ok (k : Nat) : EntOK Try.prog tab mvs (laws_toCellS_e k) :=
  fn_ok (C := laws_toCellS_C k) tabOK eqTabOK (laws_toCellS_es k) rfl follows Try.func26 (by kernel_rfl) (by kernel_rfl) rfl (forall_getD _ 1 (0, Code.skip) (by kernel_rfl) fun i hi => by
      match i, hi with
      | 0, _ => exact laws_toCellS_lok0 k
      | n + 1, h => omega)
    dec_enc_l dec_enc_l (laws_toCellS_run k)

def dec_iii (ps : List Pay) : Option (Int × Int × Int) := match ps with
  | [.i x1, .i x2, .i x3] => some (x1, x2, x3)
  | _ => none
def enc_iii (p : Int × Int × Int) : List Pay := [.i p.1, .i p.2.1, .i p.2.2]
theorem dec_enc_iii : ∀ (ps : List Pay) (p : Int × Int × Int), dec_iii ps = some p → ps = enc_iii p := by
  intro ps p h
  unfold dec_iii at h
  split at h
  · injection h with h
    subst h
    rfl
  · cases h

def dec_b (ps : List Pay) : Option (Bool) := match ps with
  | [.b x1] => some x1
  | _ => none
def enc_b (p : Bool) : List Pay := [.b p]
theorem dec_enc_b : ∀ (ps : List Pay) (p : Bool), dec_b ps = some p → ps = enc_b p := by
  intro ps p h
  unfold dec_b at h
  split at h
  · injection h with h
    subst h
    rfl
  · cases h

def spec_l00In_C (k : Nat) : Cfg := ⟨tab, mvs, oraOf [], loOf []⟩
theorem spec_l00In_es (k : Nat) : ∀ e ∈ ([] : List Ent), EntOK Try.prog tab mvs e := by
  intro e he
  simp at he
def spec_l00In_e (k : Nat) : Ent := (100, callOf [.int .i64, .int .i64, .int .i64] dec_iii fun (p : Int × Int × Int) R K => (spec_l00In k p.1 p.2.1 p.2.2).bind fun (b : Bool) => K ((fV (.bool) (enc_b b)).1, none))
theorem spec_l00In_run (k : Nat) (p : Int × Int × Int) : runF (spec_l00In_C k) Try.f100 false (fL [.int .i64, .int .i64, .int .i64] (enc_iii p)).1 (resK (.bool) dec_b) = spec_l00In k p.1 p.2.1 p.2.2 := by
  kernel_rfl
theorem spec_l00In_ok (k : Nat) : EntOK Try.prog tab mvs (spec_l00In_e k) :=
  fn_ok (C := spec_l00In_C k) tabOK eqTabOK (spec_l00In_es k) rfl follows Try.func100 (by kernel_rfl) (by kernel_rfl) rfl (forall_getD _ 0 (0, Code.skip) (by kernel_rfl) fun i hi => by
      omega)
    dec_enc_iii dec_enc_b (spec_l00In_run k)

def spec_l01Side_C (k : Nat) : Cfg := ⟨tab, mvs, oraOf [spec_l00In_e k], loOf []⟩
theorem spec_l01Side_es (k : Nat) : ∀ e ∈ ([spec_l00In_e k] : List Ent), EntOK Try.prog tab mvs e := by
  intro e he
  simp only [List.mem_cons, List.not_mem_nil, or_false] at he
  rcases he with rfl
  · exact spec_l00In_ok k
def spec_l01Side_e (k : Nat) : Ent := (107, callOf [.int .i64] dec_i fun (p : Int) R K => (spec_l01Side k p).bind fun (b : Bool) => K ((fV (.bool) (enc_b b)).1, none))
theorem spec_l01Side_run (k : Nat) (p : Int) : runF (spec_l01Side_C k) Try.f107 false (fL [.int .i64] (enc_i p)).1 (resK (.bool) dec_b) = spec_l01Side k p := by
  kernel_rfl
theorem spec_l01Side_ok (k : Nat) : EntOK Try.prog tab mvs (spec_l01Side_e k) :=
  fn_ok (C := spec_l01Side_C k) tabOK eqTabOK (spec_l01Side_es k) rfl follows Try.func107 (by kernel_rfl) (by kernel_rfl) rfl (forall_getD _ 0 (0, Code.skip) (by kernel_rfl) fun i hi => by
      omega)
    dec_enc_i dec_enc_b (spec_l01Side_run k)

def spec_l01Kind_C (k : Nat) : Cfg := ⟨tab, mvs, oraOf [spec_l00In_e k], loOf []⟩
theorem spec_l01Kind_es (k : Nat) : ∀ e ∈ ([spec_l00In_e k] : List Ent), EntOK Try.prog tab mvs e := by
  intro e he
  simp only [List.mem_cons, List.not_mem_nil, or_false] at he
  rcases he with rfl
  · exact spec_l00In_ok k
def spec_l01Kind_e (k : Nat) : Ent := (87, callOf [.int .i64] dec_i fun (p : Int) R K => (spec_l01Kind k p).bind fun (b : Bool) => K ((fV (.bool) (enc_b b)).1, none))
theorem spec_l01Kind_run (k : Nat) (p : Int) : runF (spec_l01Kind_C k) Try.f87 false (fL [.int .i64] (enc_i p)).1 (resK (.bool) dec_b) = spec_l01Kind k p := by
  kernel_rfl
theorem spec_l01Kind_ok (k : Nat) : EntOK Try.prog tab mvs (spec_l01Kind_e k) :=
  fn_ok (C := spec_l01Kind_C k) tabOK eqTabOK (spec_l01Kind_es k) rfl follows Try.func87 (by kernel_rfl) (by kernel_rfl) rfl (forall_getD _ 0 (0, Code.skip) (by kernel_rfl) fun i hi => by
      omega)
    dec_enc_i dec_enc_b (spec_l01Kind_run k)

def dec_ll (ps : List Pay) : Option ((List Int) × (List Int)) := match ps with
  | [.l x1, .l x2] => some (x1, x2)
  | _ => none
def enc_ll (p : (List Int) × (List Int)) : List Pay := [.l p.1, .l p.2]
theorem dec_enc_ll : ∀ (ps : List Pay) (p : (List Int) × (List Int)), dec_ll ps = some p → ps = enc_ll p := by
  intro ps p h
  unfold dec_ll at h
  split at h
  · injection h with h
    subst h
    rfl
  · cases h

def spec_l01Is_C (k : Nat) : Cfg := ⟨tab, mvs, oraOf [spec_l00In_e k], loOf []⟩
theorem spec_l01Is_es (k : Nat) : ∀ e ∈ ([spec_l00In_e k] : List Ent), EntOK Try.prog tab mvs e := by
  intro e he
  simp only [List.mem_cons, List.not_mem_nil, or_false] at he
  rcases he with rfl
  · exact spec_l00In_ok k
def spec_l01Is_e (k : Nat) : Ent := (105, callOf [.pvi (some 30) 0 30, .agg 64] dec_ll fun (p : (List Int) × (List Int)) R K => (spec_l01Is k p.1 p.2).bind fun (b : Bool) => K ((fV (.bool) (enc_b b)).1, none))
theorem spec_l01Is_run (k : Nat) (p : (List Int) × (List Int)) : runF (spec_l01Is_C k) Try.f105 false (fL [.pvi (some 30) 0 30, .agg 64] (enc_ll p)).1 (resK (.bool) dec_b) = spec_l01Is k p.1 p.2 := by
  kernel_rfl
theorem spec_l01Is_ok (k : Nat) : EntOK Try.prog tab mvs (spec_l01Is_e k) :=
  fn_ok (C := spec_l01Is_C k) tabOK eqTabOK (spec_l01Is_es k) rfl follows Try.func105 (by kernel_rfl) (by kernel_rfl) rfl (forall_getD _ 0 (0, Code.skip) (by kernel_rfl) fun i hi => by
      omega)
    dec_enc_ll dec_enc_b (spec_l01Is_run k)

def dec_lii (ps : List Pay) : Option ((List Int) × Int × Int) := match ps with
  | [.l x1, .i x2, .i x3] => some (x1, x2, x3)
  | _ => none
def enc_lii (p : (List Int) × Int × Int) : List Pay := [.l p.1, .i p.2.1, .i p.2.2]
theorem dec_enc_lii : ∀ (ps : List Pay) (p : (List Int) × Int × Int), dec_lii ps = some p → ps = enc_lii p := by
  intro ps p h
  unfold dec_lii at h
  split at h
  · injection h with h
    subst h
    rfl
  · cases h

def spec_l01Ok_t0 : StTm := ⟨54, [(0, .pvi (some 30) 0 30), (3, .int .i8), (4, .int .i8)], []⟩
def spec_l01Ok_t0_1 : StTm := ⟨54, [(2, .bool)], []⟩
def spec_l01Ok_t0_2 : StTm := ⟨54, [(0, .pvi (some 30) 0 30), (3, .int .i8)], []⟩
def spec_l01Ok_w0 (k : Nat) (R : Type) (K : Ex → St → Option R) (rec : (List Int) × Int × Int → Option R) (p : (List Int) × Int × Int) : Option R := spec_l01Ok_s0 k (fun y1 => K .ret (fSt spec_l01Ok_t0_1 [.b y1])) (fun y1 y2 => K (.exit 2) (fSt spec_l01Ok_t0_2 [.l y1, .i y2])) (fun h1 h2 h3 => rec (h1, h2, h3)) p.1 p.2.1 p.2.2
def spec_l01Ok_c0 (k : Nat) : Lcall := lcallOf tab spec_l01Ok_t0 dec_lii [0, 3, 4] k (spec_l01Ok_w0 k)
def spec_l01Ok_t1 : StTm := ⟨54, [(0, .pvi (some 30) 0 30), (3, .int .i8)], []⟩
def spec_l01Ok_t1_1 : StTm := ⟨54, [(2, .bool)], []⟩
def spec_l01Ok_t1_2 : StTm := ⟨54, [], []⟩
def spec_l01Ok_w1 (k : Nat) (R : Type) (K : Ex → St → Option R) (rec : (List Int) × Int → Option R) (p : (List Int) × Int) : Option R := spec_l01Ok_s1 k (fun y1 => K .ret (fSt spec_l01Ok_t1_1 [.b y1])) (K (.exit 0) (fSt spec_l01Ok_t1_2 [])) (fun h1 h2 => rec (h1, h2)) p.1 p.2
def spec_l01Ok_c1 (k : Nat) : Lcall := lcallOf tab spec_l01Ok_t1 dec_li [0, 3] k (spec_l01Ok_w1 k)
def spec_l01Ok_C (k : Nat) : Cfg := ⟨tab, mvs, oraOf [spec_l01Side_e k, spec_l01Kind_e k, spec_l01Is_e k], loOf [(2, spec_l01Ok_c0 k), (0, spec_l01Ok_c1 k)]⟩
theorem spec_l01Ok_es (k : Nat) : ∀ e ∈ ([spec_l01Side_e k, spec_l01Kind_e k, spec_l01Is_e k] : List Ent), EntOK Try.prog tab mvs e := by
  intro e he
  simp only [List.mem_cons, List.not_mem_nil, or_false] at he
  rcases he with rfl | rfl | rfl
  · exact spec_l01Side_ok k
  · exact spec_l01Kind_ok k
  · exact spec_l01Is_ok k
theorem spec_l01Ok_step0 (k : Nat) (R : Type) (K : Ex → St → Option R) (g : St → Option R) (p : (List Int) × Int × Int) : evCode (spec_l01Ok_C k) (loopP [0, 0] (0, codeOf Try.f55)).2 (loopP [0, 0] (0, codeOf Try.f55)).1 (fSt spec_l01Ok_t0 (enc_lii p)) (loopK tab [0, 3, 4] [0, 3] [2] g K) = spec_l01Ok_w0 k R K (fun p => g (fSt spec_l01Ok_t0 (enc_lii p))) p := by
  kernel_rfl
theorem spec_l01Ok_lok0 (k : Nat) : LoopOK Try.prog tab (spec_l01Ok_C k).lo (loopP [0, 0] (0, codeOf Try.f55)).1 (loopP [0, 0] (0, codeOf Try.f55)).2 :=
  loopOK_of (C := spec_l01Ok_C k) tabOK eqTabOK (oraOf_ok (spec_l01Ok_es k)) (oraOf_nat (spec_l01Ok_es k)) follows (forall_getD _ 0 (0, Code.skip) (by kernel_rfl) fun i hi => by
      omega)
    (tm := spec_l01Ok_t0) (dec := dec_lii) (enc := enc_lii) (ksIn := [0, 3, 4]) (ksOut := [0, 3]) (ksRet := [2]) (k := k) (step := spec_l01Ok_w0 k) dec_enc_lii (fun p => by kernel_rfl) (fun s R K => by kernel_rfl) (spec_l01Ok_step0 k)
theorem spec_l01Ok_step1 (k : Nat) (R : Type) (K : Ex → St → Option R) (g : St → Option R) (p : (List Int) × Int) : evCode (spec_l01Ok_C k) (loopP [0] (0, codeOf Try.f55)).2 (loopP [0] (0, codeOf Try.f55)).1 (fSt spec_l01Ok_t1 (enc_li p)) (loopK tab [0, 3] [] [2] g K) = spec_l01Ok_w1 k R K (fun p => g (fSt spec_l01Ok_t1 (enc_li p))) p := by
  kernel_rfl
theorem spec_l01Ok_lok1 (k : Nat) : LoopOK Try.prog tab (spec_l01Ok_C k).lo (loopP [0] (0, codeOf Try.f55)).1 (loopP [0] (0, codeOf Try.f55)).2 :=
  loopOK_of (C := spec_l01Ok_C k) tabOK eqTabOK (oraOf_ok (spec_l01Ok_es k)) (oraOf_nat (spec_l01Ok_es k)) follows (forall_getD _ 1 (0, Code.skip) (by kernel_rfl) fun i hi => by
      match i, hi with
      | 0, _ => exact spec_l01Ok_lok0 k
      | n + 1, h => omega)
    (tm := spec_l01Ok_t1) (dec := dec_li) (enc := enc_li) (ksIn := [0, 3]) (ksOut := []) (ksRet := [2]) (k := k) (step := spec_l01Ok_w1 k) dec_enc_li (fun p => by kernel_rfl) (fun s R K => by kernel_rfl) (spec_l01Ok_step1 k)
def spec_l01Ok_e (k : Nat) : Ent := (55, callOf [.pvi (some 30) 0 30] dec_l fun (p : (List Int)) R K => (spec_l01Ok k p).bind fun (b : Bool) => K ((fV (.bool) (enc_b b)).1, none))
theorem spec_l01Ok_run (k : Nat) (p : (List Int)) : runF (spec_l01Ok_C k) Try.f55 false (fL [.pvi (some 30) 0 30] (enc_l p)).1 (resK (.bool) dec_b) = spec_l01Ok k p := by
  kernel_rfl
theorem spec_l01Ok_ok (k : Nat) : EntOK Try.prog tab mvs (spec_l01Ok_e k) :=
  fn_ok (C := spec_l01Ok_C k) tabOK eqTabOK (spec_l01Ok_es k) rfl follows Try.func55 (by kernel_rfl) (by kernel_rfl) rfl (forall_getD _ 1 (0, Code.skip) (by kernel_rfl) fun i hi => by
      match i, hi with
      | 0, _ => exact spec_l01Ok_lok1 k
      | n + 1, h => omega)
    dec_enc_l dec_enc_b (spec_l01Ok_run k)

def spec_l01At_C (k : Nat) : Cfg := ⟨tab, mvs, oraOf [], loOf []⟩
theorem spec_l01At_es (k : Nat) : ∀ e ∈ ([] : List Ent), EntOK Try.prog tab mvs e := by
  intro e he
  simp at he
def spec_l01At_e (k : Nat) : Ent := (57, callOf [.pvi (some 30) 0 30, .agg 64] dec_ll fun (p : (List Int) × (List Int)) R K => (spec_l01At k p.1 p.2).bind fun (b : Int) => K ((fV (.int .i64) (enc_i b)).1, none))
theorem spec_l01At_run (k : Nat) (p : (List Int) × (List Int)) : runF (spec_l01At_C k) Try.f57 false (fL [.pvi (some 30) 0 30, .agg 64] (enc_ll p)).1 (resK (.int .i64) dec_i) = spec_l01At k p.1 p.2 := by
  kernel_rfl
theorem spec_l01At_ok (k : Nat) : EntOK Try.prog tab mvs (spec_l01At_e k) :=
  fn_ok (C := spec_l01At_C k) tabOK eqTabOK (spec_l01At_es k) rfl follows Try.func57 (by kernel_rfl) (by kernel_rfl) rfl (forall_getD _ 0 (0, Code.skip) (by kernel_rfl) fun i hi => by
      omega)
    dec_enc_ll dec_enc_i (spec_l01At_run k)

def spec_l01Open_C (k : Nat) : Cfg := ⟨tab, mvs, oraOf [spec_l01At_e k], loOf []⟩
theorem spec_l01Open_es (k : Nat) : ∀ e ∈ ([spec_l01At_e k] : List Ent), EntOK Try.prog tab mvs e := by
  intro e he
  simp only [List.mem_cons, List.not_mem_nil, or_false] at he
  rcases he with rfl
  · exact spec_l01At_ok k
def spec_l01Open_e (k : Nat) : Ent := (137, callOf [.pvi (some 30) 0 30, .agg 64] dec_ll fun (p : (List Int) × (List Int)) R K => (spec_l01Open k p.1 p.2).bind fun (b : Bool) => K ((fV (.bool) (enc_b b)).1, none))
theorem spec_l01Open_run (k : Nat) (p : (List Int) × (List Int)) : runF (spec_l01Open_C k) Try.f137 false (fL [.pvi (some 30) 0 30, .agg 64] (enc_ll p)).1 (resK (.bool) dec_b) = spec_l01Open k p.1 p.2 := by
  kernel_rfl
theorem spec_l01Open_ok (k : Nat) : EntOK Try.prog tab mvs (spec_l01Open_e k) :=
  fn_ok (C := spec_l01Open_C k) tabOK eqTabOK (spec_l01Open_es k) rfl follows Try.func137 (by kernel_rfl) (by kernel_rfl) rfl (forall_getD _ 0 (0, Code.skip) (by kernel_rfl) fun i hi => by
      omega)
    dec_enc_ll dec_enc_b (spec_l01Open_run k)

def spec_l04Open_C (k : Nat) : Cfg := ⟨tab, mvs, oraOf [spec_l01Is_e k, spec_l01Open_e k], loOf []⟩
theorem spec_l04Open_es (k : Nat) : ∀ e ∈ ([spec_l01Is_e k, spec_l01Open_e k] : List Ent), EntOK Try.prog tab mvs e := by
  intro e he
  simp only [List.mem_cons, List.not_mem_nil, or_false] at he
  rcases he with rfl | rfl
  · exact spec_l01Is_ok k
  · exact spec_l01Open_ok k
def spec_l04Open_e (k : Nat) : Ent := (117, callOf [.pvi (some 30) 0 30, .agg 64] dec_ll fun (p : (List Int) × (List Int)) R K => (spec_l04Open k p.1 p.2).bind fun (b : Bool) => K ((fV (.bool) (enc_b b)).1, none))
theorem spec_l04Open_run (k : Nat) (p : (List Int) × (List Int)) : runF (spec_l04Open_C k) Try.f117 false (fL [.pvi (some 30) 0 30, .agg 64] (enc_ll p)).1 (resK (.bool) dec_b) = spec_l04Open k p.1 p.2 := by
  kernel_rfl
theorem spec_l04Open_ok (k : Nat) : EntOK Try.prog tab mvs (spec_l04Open_e k) :=
  fn_ok (C := spec_l04Open_C k) tabOK eqTabOK (spec_l04Open_es k) rfl follows Try.func117 (by kernel_rfl) (by kernel_rfl) rfl (forall_getD _ 0 (0, Code.skip) (by kernel_rfl) fun i hi => by
      omega)
    dec_enc_ll dec_enc_b (spec_l04Open_run k)

def spec_l04Beside_C (k : Nat) : Cfg := ⟨tab, mvs, oraOf [], loOf []⟩
theorem spec_l04Beside_es (k : Nat) : ∀ e ∈ ([] : List Ent), EntOK Try.prog tab mvs e := by
  intro e he
  simp at he
def spec_l04Beside_e (k : Nat) : Ent := (118, callOf [.agg 64, .agg 64] dec_ll fun (p : (List Int) × (List Int)) R K => (spec_l04Beside k p.1 p.2).bind fun (b : Bool) => K ((fV (.bool) (enc_b b)).1, none))
theorem spec_l04Beside_run (k : Nat) (p : (List Int) × (List Int)) : runF (spec_l04Beside_C k) Try.f118 false (fL [.agg 64, .agg 64] (enc_ll p)).1 (resK (.bool) dec_b) = spec_l04Beside k p.1 p.2 := by
  kernel_rfl
theorem spec_l04Beside_ok (k : Nat) : EntOK Try.prog tab mvs (spec_l04Beside_e k) :=
  fn_ok (C := spec_l04Beside_C k) tabOK eqTabOK (spec_l04Beside_es k) rfl follows Try.func118 (by kernel_rfl) (by kernel_rfl) rfl (forall_getD _ 0 (0, Code.skip) (by kernel_rfl) fun i hi => by
      omega)
    dec_enc_ll dec_enc_b (spec_l04Beside_run k)

def dec_lli (ps : List Pay) : Option ((List Int) × (List Int) × Int) := match ps with
  | [.l x1, .l x2, .i x3] => some (x1, x2, x3)
  | _ => none
def enc_lli (p : (List Int) × (List Int) × Int) : List Pay := [.l p.1, .l p.2.1, .i p.2.2]
theorem dec_enc_lli : ∀ (ps : List Pay) (p : (List Int) × (List Int) × Int), dec_lli ps = some p → ps = enc_lli p := by
  intro ps p h
  unfold dec_lli at h
  split at h
  · injection h with h
    subst h
    rfl
  · cases h

def spec_l04Right_t0 : StTm := ⟨39, [(0, .pvi (some 30) 0 30), (1, .slv 64), (5, .int .i64)], []⟩
def spec_l04Right_t0_1 : StTm := ⟨39, [(4, .bool)], []⟩
def spec_l04Right_t0_2 : StTm := ⟨39, [(1, .slv 64)], []⟩
def spec_l04Right_w0 (k : Nat) (R : Type) (K : Ex → St → Option R) (rec : (List Int) × (List Int) × Int → Option R) (p : (List Int) × (List Int) × Int) : Option R := spec_l04Right_s0 k (fun y1 => K .ret (fSt spec_l04Right_t0_1 [.b y1])) (fun y1 => K (.exit 0) (fSt spec_l04Right_t0_2 [.l y1])) (fun h1 h2 h3 => rec (h1, h2, h3)) p.1 p.2.1 p.2.2
def spec_l04Right_c0 (k : Nat) : Lcall := lcallOf tab spec_l04Right_t0 dec_lli [0, 1, 5] k (spec_l04Right_w0 k)
def spec_l04Right_C (k : Nat) : Cfg := ⟨tab, mvs, oraOf [spec_l04Open_e k, spec_l04Beside_e k], loOf [(0, spec_l04Right_c0 k)]⟩
theorem spec_l04Right_es (k : Nat) : ∀ e ∈ ([spec_l04Open_e k, spec_l04Beside_e k] : List Ent), EntOK Try.prog tab mvs e := by
  intro e he
  simp only [List.mem_cons, List.not_mem_nil, or_false] at he
  rcases he with rfl | rfl
  · exact spec_l04Open_ok k
  · exact spec_l04Beside_ok k
theorem spec_l04Right_step0 (k : Nat) (R : Type) (K : Ex → St → Option R) (g : St → Option R) (p : (List Int) × (List Int) × Int) : evCode (spec_l04Right_C k) (loopP [0] (0, codeOf Try.f75)).2 (loopP [0] (0, codeOf Try.f75)).1 (fSt spec_l04Right_t0 (enc_lli p)) (loopK tab [0, 1, 5] [1] [4] g K) = spec_l04Right_w0 k R K (fun p => g (fSt spec_l04Right_t0 (enc_lli p))) p := by
  kernel_rfl
theorem spec_l04Right_lok0 (k : Nat) : LoopOK Try.prog tab (spec_l04Right_C k).lo (loopP [0] (0, codeOf Try.f75)).1 (loopP [0] (0, codeOf Try.f75)).2 :=
  loopOK_of (C := spec_l04Right_C k) tabOK eqTabOK (oraOf_ok (spec_l04Right_es k)) (oraOf_nat (spec_l04Right_es k)) follows (forall_getD _ 0 (0, Code.skip) (by kernel_rfl) fun i hi => by
      omega)
    (tm := spec_l04Right_t0) (dec := dec_lli) (enc := enc_lli) (ksIn := [0, 1, 5]) (ksOut := [1]) (ksRet := [4]) (k := k) (step := spec_l04Right_w0 k) dec_enc_lli (fun p => by kernel_rfl) (fun s R K => by kernel_rfl) (spec_l04Right_step0 k)
def spec_l04Right_e (k : Nat) : Ent := (75, callOf [.pvi (some 30) 0 30, .slv 64] dec_ll fun (p : (List Int) × (List Int)) R K => (spec_l04Right k p.1 p.2).bind fun (b : Bool) => K ((fV (.bool) (enc_b b)).1, none))
theorem spec_l04Right_run (k : Nat) (p : (List Int) × (List Int)) : runF (spec_l04Right_C k) Try.f75 false (fL [.pvi (some 30) 0 30, .slv 64] (enc_ll p)).1 (resK (.bool) dec_b) = spec_l04Right k p.1 p.2 := by
  kernel_rfl
theorem spec_l04Right_ok (k : Nat) : EntOK Try.prog tab mvs (spec_l04Right_e k) :=
  fn_ok (C := spec_l04Right_C k) tabOK eqTabOK (spec_l04Right_es k) rfl follows Try.func75 (by kernel_rfl) (by kernel_rfl) rfl (forall_getD _ 1 (0, Code.skip) (by kernel_rfl) fun i hi => by
      match i, hi with
      | 0, _ => exact spec_l04Right_lok0 k
      | n + 1, h => omega)
    dec_enc_ll dec_enc_b (spec_l04Right_run k)

def dec_bi (ps : List Pay) : Option (Bool × Int) := match ps with
  | [.b x1, .i x2] => some (x1, x2)
  | _ => none
def enc_bi (p : Bool × Int) : List Pay := [.b p.1, .i p.2]
theorem dec_enc_bi : ∀ (ps : List Pay) (p : Bool × Int), dec_bi ps = some p → ps = enc_bi p := by
  intro ps p h
  unfold dec_bi at h
  split at h
  · injection h with h
    subst h
    rfl
  · cases h

def spec_CheckWalk_C (k : Nat) : Cfg := ⟨tab, mvs, oraOf [spec_l01Ok_e k, spec_l04Right_e k], loOf []⟩
theorem spec_CheckWalk_es (k : Nat) : ∀ e ∈ ([spec_l01Ok_e k, spec_l04Right_e k] : List Ent), EntOK Try.prog tab mvs e := by
  intro e he
  simp only [List.mem_cons, List.not_mem_nil, or_false] at he
  rcases he with rfl | rfl
  · exact spec_l01Ok_ok k
  · exact spec_l04Right_ok k
def spec_CheckWalk_e (k : Nat) : Ent := (25, callOf [.agg 30, .slv 64] dec_ll fun (p : (List Int) × (List Int)) R K => (spec_CheckWalk k p.1 p.2).bind fun (b : Bool × Int) => K ((fV (.tup [.bool, .int .i64]) (enc_bi b)).1, none))
theorem spec_CheckWalk_run (k : Nat) (p : (List Int) × (List Int)) : runF (spec_CheckWalk_C k) Try.f25 false (fL [.agg 30, .slv 64] (enc_ll p)).1 (resK (.tup [.bool, .int .i64]) dec_bi) = spec_CheckWalk k p.1 p.2 := by
  kernel_rfl
theorem spec_CheckWalk_ok (k : Nat) : EntOK Try.prog tab mvs (spec_CheckWalk_e k) :=
  fn_ok (C := spec_CheckWalk_C k) tabOK eqTabOK (spec_CheckWalk_es k) rfl follows Try.func25 (by kernel_rfl) (by kernel_rfl) rfl (forall_getD _ 0 (0, Code.skip) (by kernel_rfl) fun i hi => by
      omega)
    dec_enc_ll dec_enc_bi (spec_CheckWalk_run k)

def impl_within_C (k : Nat) : Cfg := ⟨tab, mvs, oraOf [], loOf []⟩
theorem impl_within_es (k : Nat) : ∀ e ∈ ([] : List Ent), EntOK Try.prog tab mvs e := by
  intro e he
  simp at he
def impl_within_e (k : Nat) : Ent := (71, callOf [.int .i64, .int .i64, .int .i64] dec_iii fun (p : Int × Int × Int) R K => (impl_within k p.1 p.2.1 p.2.2).bind fun (b : Bool) => K ((fV (.bool) (enc_b b)).1, none))
theorem impl_within_run (k : Nat) (p : Int × Int × Int) : runF (impl_within_C k) Try.f71 false (fL [.int .i64, .int .i64, .int .i64] (enc_iii p)).1 (resK (.bool) dec_b) = impl_within k p.1 p.2.1 p.2.2 := by
  kernel_rfl
theorem impl_within_ok (k : Nat) : EntOK Try.prog tab mvs (impl_within_e k) :=
  fn_ok (C := impl_within_C k) tabOK eqTabOK (impl_within_es k) rfl follows Try.func71 (by kernel_rfl) (by kernel_rfl) rfl (forall_getD _ 0 (0, Code.skip) (by kernel_rfl) fun i hi => by
      omega)
    dec_enc_iii dec_enc_b (impl_within_run k)

def impl_Lawn_has_C (k : Nat) : Cfg := ⟨tab, mvs, oraOf [], loOf []⟩
theorem impl_Lawn_has_es (k : Nat) : ∀ e ∈ ([] : List Ent), EntOK Try.prog tab mvs e := by
  intro e he
  simp at he
def impl_Lawn_has_e (k : Nat) : Ent := (109, callOf [.agg 30, .agg 64] dec_ll fun (p : (List Int) × (List Int)) R K => (impl_Lawn_has k p.1 p.2).bind fun (b : Bool) => K ((fV (.bool) (enc_b b)).1, none))
theorem impl_Lawn_has_run (k : Nat) (p : (List Int) × (List Int)) : runF (impl_Lawn_has_C k) Try.f109 false (fL [.agg 30, .agg 64] (enc_ll p)).1 (resK (.bool) dec_b) = impl_Lawn_has k p.1 p.2 := by
  kernel_rfl
theorem impl_Lawn_has_ok (k : Nat) : EntOK Try.prog tab mvs (impl_Lawn_has_e k) :=
  fn_ok (C := impl_Lawn_has_C k) tabOK eqTabOK (impl_Lawn_has_es k) rfl follows Try.func109 (by kernel_rfl) (by kernel_rfl) rfl (forall_getD _ 0 (0, Code.skip) (by kernel_rfl) fun i hi => by
      omega)
    dec_enc_ll dec_enc_b (impl_Lawn_has_run k)

def dec_iiil (ps : List Pay) : Option (Int × Int × Int × (List Int)) := match ps with
  | [.i x1, .i x2, .i x3, .l x4] => some (x1, x2, x3, x4)
  | _ => none
def enc_iiil (p : Int × Int × Int × (List Int)) : List Pay := [.i p.1, .i p.2.1, .i p.2.2.1, .l p.2.2.2]
theorem dec_enc_iiil : ∀ (ps : List Pay) (p : Int × Int × Int × (List Int)), dec_iiil ps = some p → ps = enc_iiil p := by
  intro ps p h
  unfold dec_iiil at h
  split at h
  · injection h with h
    subst h
    rfl
  · cases h

def dec_il (ps : List Pay) : Option (Int × (List Int)) := match ps with
  | [.i x1, .l x2] => some (x1, x2)
  | _ => none
def enc_il (p : Int × (List Int)) : List Pay := [.i p.1, .l p.2]
theorem dec_enc_il : ∀ (ps : List Pay) (p : Int × (List Int)), dec_il ps = some p → ps = enc_il p := by
  intro ps p h
  unfold dec_il at h
  split at h
  · injection h with h
    subst h
    rfl
  · cases h

def impl_ValidLawn_t0 : StTm := ⟨46, [(1, .ptr 1 0 30), (3, .int .i8), (18, .int .i8), (21, .int .i8)], [(1, 30, true, .ints)]⟩
def impl_ValidLawn_t0_1 : StTm := ⟨46, [(2, .bool)], []⟩
def impl_ValidLawn_t0_2 : StTm := ⟨46, [(1, .ptr 1 0 30), (18, .int .i8)], [(1, 30, true, .ints)]⟩
def impl_ValidLawn_w0 (k : Nat) (R : Type) (K : Ex → St → Option R) (rec : Int × Int × Int × (List Int) → Option R) (p : Int × Int × Int × (List Int)) : Option R := impl_ValidLawn_s0 k (fun y1 => K .ret (fSt impl_ValidLawn_t0_1 [.b y1])) (fun y1 y2 => K (.exit 2) (fSt impl_ValidLawn_t0_2 [.i y1, .l y2])) (fun h1 h2 h3 h4 => rec (h1, h2, h3, h4)) p.1 p.2.1 p.2.2.1 p.2.2.2
def impl_ValidLawn_c0 (k : Nat) : Lcall := lcallOf tab impl_ValidLawn_t0 dec_iiil [1, 3, 18, 21] k (impl_ValidLawn_w0 k)
def impl_ValidLawn_t1 : StTm := ⟨46, [(1, .ptr 1 0 30), (18, .int .i8)], [(1, 30, true, .ints)]⟩
def impl_ValidLawn_t1_1 : StTm := ⟨46, [(2, .bool)], []⟩
def impl_ValidLawn_t1_2 : StTm := ⟨46, [], []⟩
def impl_ValidLawn_w1 (k : Nat) (R : Type) (K : Ex → St → Option R) (rec : Int × (List Int) → Option R) (p : Int × (List Int)) : Option R := impl_ValidLawn_s1 k (fun y1 => K .ret (fSt impl_ValidLawn_t1_1 [.b y1])) (K (.exit 0) (fSt impl_ValidLawn_t1_2 [])) (fun h1 h2 => rec (h1, h2)) p.1 p.2
def impl_ValidLawn_c1 (k : Nat) : Lcall := lcallOf tab impl_ValidLawn_t1 dec_il [1, 18] k (impl_ValidLawn_w1 k)
def impl_ValidLawn_C (k : Nat) : Cfg := ⟨tab, mvs, oraOf [impl_within_e k, impl_Lawn_has_e k], loOf [(2, impl_ValidLawn_c0 k), (0, impl_ValidLawn_c1 k)]⟩
theorem impl_ValidLawn_es (k : Nat) : ∀ e ∈ ([impl_within_e k, impl_Lawn_has_e k] : List Ent), EntOK Try.prog tab mvs e := by
  intro e he
  simp only [List.mem_cons, List.not_mem_nil, or_false] at he
  rcases he with rfl | rfl
  · exact impl_within_ok k
  · exact impl_Lawn_has_ok k
theorem impl_ValidLawn_step0 (k : Nat) (R : Type) (K : Ex → St → Option R) (g : St → Option R) (p : Int × Int × Int × (List Int)) : evCode (impl_ValidLawn_C k) (loopP [0, 0] (0, codeOf Try.f59)).2 (loopP [0, 0] (0, codeOf Try.f59)).1 (fSt impl_ValidLawn_t0 (enc_iiil p)) (loopK tab [1, 3, 18, 21] [1, 18] [2] g K) = impl_ValidLawn_w0 k R K (fun p => g (fSt impl_ValidLawn_t0 (enc_iiil p))) p := by
  kernel_rfl
theorem impl_ValidLawn_lok0 (k : Nat) : LoopOK Try.prog tab (impl_ValidLawn_C k).lo (loopP [0, 0] (0, codeOf Try.f59)).1 (loopP [0, 0] (0, codeOf Try.f59)).2 :=
  loopOK_of (C := impl_ValidLawn_C k) tabOK eqTabOK (oraOf_ok (impl_ValidLawn_es k)) (oraOf_nat (impl_ValidLawn_es k)) follows (forall_getD _ 0 (0, Code.skip) (by kernel_rfl) fun i hi => by
      omega)
    (tm := impl_ValidLawn_t0) (dec := dec_iiil) (enc := enc_iiil) (ksIn := [1, 3, 18, 21]) (ksOut := [1, 18]) (ksRet := [2]) (k := k) (step := impl_ValidLawn_w0 k) dec_enc_iiil (fun p => by kernel_rfl) (fun s R K => by kernel_rfl) (impl_ValidLawn_step0 k)
theorem impl_ValidLawn_step1 (k : Nat) (R : Type) (K : Ex → St → Option R) (g : St → Option R) (p : Int × (List Int)) : evCode (impl_ValidLawn_C k) (loopP [0] (0, codeOf Try.f59)).2 (loopP [0] (0, codeOf Try.f59)).1 (fSt impl_ValidLawn_t1 (enc_il p)) (loopK tab [1, 18] [] [2] g K) = impl_ValidLawn_w1 k R K (fun p => g (fSt impl_ValidLawn_t1 (enc_il p))) p := by
  kernel_rfl
theorem impl_ValidLawn_lok1 (k : Nat) : LoopOK Try.prog tab (impl_ValidLawn_C k).lo (loopP [0] (0, codeOf Try.f59)).1 (loopP [0] (0, codeOf Try.f59)).2 :=
  loopOK_of (C := impl_ValidLawn_C k) tabOK eqTabOK (oraOf_ok (impl_ValidLawn_es k)) (oraOf_nat (impl_ValidLawn_es k)) follows (forall_getD _ 1 (0, Code.skip) (by kernel_rfl) fun i hi => by
      match i, hi with
      | 0, _ => exact impl_ValidLawn_lok0 k
      | n + 1, h => omega)
    (tm := impl_ValidLawn_t1) (dec := dec_il) (enc := enc_il) (ksIn := [1, 18]) (ksOut := []) (ksRet := [2]) (k := k) (step := impl_ValidLawn_w1 k) dec_enc_il (fun p => by kernel_rfl) (fun s R K => by kernel_rfl) (impl_ValidLawn_step1 k)
def impl_ValidLawn_e (k : Nat) : Ent := (59, callOf [.agg 30] dec_l fun (p : (List Int)) R K => (impl_ValidLawn k p).bind fun (b : Bool) => K ((fV (.bool) (enc_b b)).1, none))
theorem impl_ValidLawn_run (k : Nat) (p : (List Int)) : runF (impl_ValidLawn_C k) Try.f59 false (fL [.agg 30] (enc_l p)).1 (resK (.bool) dec_b) = impl_ValidLawn k p := by
  kernel_rfl
theorem impl_ValidLawn_ok (k : Nat) : EntOK Try.prog tab mvs (impl_ValidLawn_e k) :=
  fn_ok (C := impl_ValidLawn_C k) tabOK eqTabOK (impl_ValidLawn_es k) rfl follows Try.func59 (by kernel_rfl) (by kernel_rfl) rfl (forall_getD _ 1 (0, Code.skip) (by kernel_rfl) fun i hi => by
      match i, hi with
      | 0, _ => exact impl_ValidLawn_lok1 k
      | n + 1, h => omega)
    dec_enc_l dec_enc_b (impl_ValidLawn_run k)

def impl_walkCode_1_C (k : Nat) : Cfg := ⟨tab, mvs, oraOf [], loOf []⟩
theorem impl_walkCode_1_es (k : Nat) : ∀ e ∈ ([] : List Ent), EntOK Try.prog tab mvs e := by
  intro e he
  simp at he
def impl_walkCode_1_e (k : Nat) : Ent := (120, callOf [.slv 64] dec_l fun (p : (List Int)) R K => (impl_walkCode_1 k p).bind fun (b : Bool) => K ((fV (.bool) (enc_b b)).1, none))
theorem impl_walkCode_1_run (k : Nat) (p : (List Int)) : runF (impl_walkCode_1_C k) Try.f120 false (fL [.slv 64] (enc_l p)).1 (resK (.bool) dec_b) = impl_walkCode_1 k p := by
  kernel_rfl
theorem impl_walkCode_1_ok (k : Nat) : EntOK Try.prog tab mvs (impl_walkCode_1_e k) :=
  fn_ok (C := impl_walkCode_1_C k) tabOK eqTabOK (impl_walkCode_1_es k) rfl follows Try.func120 (by kernel_rfl) (by kernel_rfl) rfl (forall_getD _ 0 (0, Code.skip) (by kernel_rfl) fun i hi => by
      omega)
    dec_enc_l dec_enc_b (impl_walkCode_1_run k)

def dec_rgii (ps : List Pay) : Option ((List (List Int)) × (List Int → Option Bool) × Int × Int) := match ps with
  | [.r x1, .g x2, .i x3, .i x4] => some (x1, x2, x3, x4)
  | _ => none
def enc_rgii (p : (List (List Int)) × (List Int → Option Bool) × Int × Int) : List Pay := [.r p.1, .g p.2.1, .i p.2.2.1, .i p.2.2.2]
theorem dec_enc_rgii : ∀ (ps : List Pay) (p : (List (List Int)) × (List Int → Option Bool) × Int × Int), dec_rgii ps = some p → ps = enc_rgii p := by
  intro ps p h
  unfold dec_rgii at h
  split at h
  · injection h with h
    subst h
    rfl
  · cases h

def dec_rg (ps : List Pay) : Option ((List (List Int)) × (List Int → Option Bool)) := match ps with
  | [.r x1, .g x2] => some (x1, x2)
  | _ => none
def enc_rg (p : (List (List Int)) × (List Int → Option Bool)) : List Pay := [.r p.1, .g p.2]
theorem dec_enc_rg : ∀ (ps : List Pay) (p : (List (List Int)) × (List Int → Option Bool)), dec_rg ps = some p → ps = enc_rg p := by
  intro ps p h
  unfold dec_rg at h
  split at h
  · injection h with h
    subst h
    rfl
  · cases h

def slices_IndexFunc_S_impl_Cell_t0 : StTm := ⟨19, [(0, .slr 27), (1, .cloB 27), (7, .int .i64), (8, .int .i64)], []⟩
def slices_IndexFunc_S_impl_Cell_t0_1 : StTm := ⟨19, [(4, .int .i64)], []⟩
def slices_IndexFunc_S_impl_Cell_t0_2 : StTm := ⟨19, [], []⟩
def slices_IndexFunc_S_impl_Cell_w0 (k : Nat) (R : Type) (K : Ex → St → Option R) (rec : (List (List Int)) × (List Int → Option Bool) × Int × Int → Option R) (p : (List (List Int)) × (List Int → Option Bool) × Int × Int) : Option R := slices_IndexFunc_S_impl_Cell_s0 k (fun y1 => K .ret (fSt slices_IndexFunc_S_impl_Cell_t0_1 [.i y1])) (K (.exit 0) (fSt slices_IndexFunc_S_impl_Cell_t0_2 [])) (fun h1 h2 h3 h4 => rec (h1, h2, h3, h4)) p.1 p.2.1 p.2.2.1 p.2.2.2
def slices_IndexFunc_S_impl_Cell_c0 (k : Nat) : Lcall := lcallOf tab slices_IndexFunc_S_impl_Cell_t0 dec_rgii [0, 1, 7, 8] k (slices_IndexFunc_S_impl_Cell_w0 k)
def slices_IndexFunc_S_impl_Cell_C (k : Nat) : Cfg := ⟨tab, mvs, oraOf [], loOf [(0, slices_IndexFunc_S_impl_Cell_c0 k)]⟩
theorem slices_IndexFunc_S_impl_Cell_es (k : Nat) : ∀ e ∈ ([] : List Ent), EntOK Try.prog tab mvs e := by
  intro e he
  simp at he
theorem slices_IndexFunc_S_impl_Cell_step0 (k : Nat) (R : Type) (K : Ex → St → Option R) (g : St → Option R) (p : (List (List Int)) × (List Int → Option Bool) × Int × Int) : evCode (slices_IndexFunc_S_impl_Cell_C k) (loopP [0] (0, codeOf Try.f138)).2 (loopP [0] (0, codeOf Try.f138)).1 (fSt slices_IndexFunc_S_impl_Cell_t0 (enc_rgii p)) (loopK tab [0, 1, 7, 8] [] [4] g K) = slices_IndexFunc_S_impl_Cell_w0 k R K (fun p => g (fSt slices_IndexFunc_S_impl_Cell_t0 (enc_rgii p))) p := by
  kernel_rfl
theorem slices_IndexFunc_S_impl_Cell_lok0 (k : Nat) : LoopOK Try.prog tab (slices_IndexFunc_S_impl_Cell_C k).lo (loopP [0] (0, codeOf Try.f138)).1 (loopP [0] (0, codeOf Try.f138)).2 :=
  loopOK_of (C := slices_IndexFunc_S_impl_Cell_C k) tabOK eqTabOK (oraOf_ok (slices_IndexFunc_S_impl_Cell_es k)) (oraOf_nat (slices_IndexFunc_S_impl_Cell_es k)) follows (forall_getD _ 0 (0, Code.skip) (by kernel_rfl) fun i hi => by
      omega)
    (tm := slices_IndexFunc_S_impl_Cell_t0) (dec := dec_rgii) (enc := enc_rgii) (ksIn := [0, 1, 7, 8]) (ksOut := []) (ksRet := [4]) (k := k) (step := slices_IndexFunc_S_impl_Cell_w0 k) dec_enc_rgii (fun p => by kernel_rfl) (fun s R K => by kernel_rfl) (slices_IndexFunc_S_impl_Cell_step0 k)
def slices_IndexFunc_S_impl_Cell_e (k : Nat) : Ent := (138, callOf [.slr 27, .cloB 27] dec_rg fun (p : (List (List Int)) × (List Int → Option Bool)) R K => (slices_IndexFunc_S_impl_Cell k p.1 p.2).bind fun (b : Int) => K ((fV (.int .i64) (enc_i b)).1, none))
theorem slices_IndexFunc_S_impl_Cell_run (k : Nat) (p : (List (List Int)) × (List Int → Option Bool)) : runF (slices_IndexFunc_S_impl_Cell_C k) Try.f138 false (fL [.slr 27, .cloB 27] (enc_rg p)).1 (resK (.int .i64) dec_i) = slices_IndexFunc_S_impl_Cell k p.1 p.2 := by
  kernel_rfl
theorem slices_IndexFunc_S_impl_Cell_ok (k : Nat) : EntOK Try.prog tab mvs (slices_IndexFunc_S_impl_Cell_e k) :=
  fn_ok (C := slices_IndexFunc_S_impl_Cell_C k) tabOK eqTabOK (slices_IndexFunc_S_impl_Cell_es k) rfl follows Try.func138 (by kernel_rfl) (by kernel_rfl) rfl (forall_getD _ 1 (0, Code.skip) (by kernel_rfl) fun i hi => by
      match i, hi with
      | 0, _ => exact slices_IndexFunc_S_impl_Cell_lok0 k
      | n + 1, h => omega)
    dec_enc_rg dec_enc_i (slices_IndexFunc_S_impl_Cell_run k)

def slices_ContainsFunc_S_impl_Cell_C (k : Nat) : Cfg := ⟨tab, mvs, oraOf [slices_IndexFunc_S_impl_Cell_e k], loOf []⟩
theorem slices_ContainsFunc_S_impl_Cell_es (k : Nat) : ∀ e ∈ ([slices_IndexFunc_S_impl_Cell_e k] : List Ent), EntOK Try.prog tab mvs e := by
  intro e he
  simp only [List.mem_cons, List.not_mem_nil, or_false] at he
  rcases he with rfl
  · exact slices_IndexFunc_S_impl_Cell_ok k
def slices_ContainsFunc_S_impl_Cell_e (k : Nat) : Ent := (119, callOf [.slr 27, .cloB 27] dec_rg fun (p : (List (List Int)) × (List Int → Option Bool)) R K => (slices_ContainsFunc_S_impl_Cell k p.1 p.2).bind fun (b : Bool) => K ((fV (.bool) (enc_b b)).1, none))
theorem slices_ContainsFunc_S_impl_Cell_run (k : Nat) (p : (List (List Int)) × (List Int → Option Bool)) : runF (slices_ContainsFunc_S_impl_Cell_C k) Try.f119 false (fL [.slr 27, .cloB 27] (enc_rg p)).1 (resK (.bool) dec_b) = slices_ContainsFunc_S_impl_Cell k p.1 p.2 := by
  kernel_rfl
theorem slices_ContainsFunc_S_impl_Cell_ok (k : Nat) : EntOK Try.prog tab mvs (slices_ContainsFunc_S_impl_Cell_e k) :=
  fn_ok (C := slices_ContainsFunc_S_impl_Cell_C k) tabOK eqTabOK (slices_ContainsFunc_S_impl_Cell_es k) rfl follows Try.func119 (by kernel_rfl) (by kernel_rfl) rfl (forall_getD _ 0 (0, Code.skip) (by kernel_rfl) fun i hi => by
      omega)
    dec_enc_rg dec_enc_b (slices_ContainsFunc_S_impl_Cell_run k)

def impl_Lawn_kind_C (k : Nat) : Cfg := ⟨tab, mvs, oraOf [], loOf []⟩
theorem impl_Lawn_kind_es (k : Nat) : ∀ e ∈ ([] : List Ent), EntOK Try.prog tab mvs e := by
  intro e he
  simp at he
def impl_Lawn_kind_e (k : Nat) : Ent := (62, callOf [.agg 30, .agg 64] dec_ll fun (p : (List Int) × (List Int)) R K => (impl_Lawn_kind k p.1 p.2).bind fun (b : Int) => K ((fV (.int .i64) (enc_i b)).1, none))
theorem impl_Lawn_kind_run (k : Nat) (p : (List Int) × (List Int)) : runF (impl_Lawn_kind_C k) Try.f62 false (fL [.agg 30, .agg 64] (enc_ll p)).1 (resK (.int .i64) dec_i) = impl_Lawn_kind k p.1 p.2 := by
  kernel_rfl
theorem impl_Lawn_kind_ok (k : Nat) : EntOK Try.prog tab mvs (impl_Lawn_kind_e k) :=
  fn_ok (C := impl_Lawn_kind_C k) tabOK eqTabOK (impl_Lawn_kind_es k) rfl follows Try.func62 (by kernel_rfl) (by kernel_rfl) rfl (forall_getD _ 0 (0, Code.skip) (by kernel_rfl) fun i hi => by
      omega)
    dec_enc_ll dec_enc_i (impl_Lawn_kind_run k)

def impl_Lawn_is_C (k : Nat) : Cfg := ⟨tab, mvs, oraOf [impl_Lawn_has_e k, impl_Lawn_kind_e k], loOf []⟩
theorem impl_Lawn_is_es (k : Nat) : ∀ e ∈ ([impl_Lawn_has_e k, impl_Lawn_kind_e k] : List Ent), EntOK Try.prog tab mvs e := by
  intro e he
  simp only [List.mem_cons, List.not_mem_nil, or_false] at he
  rcases he with rfl | rfl
  · exact impl_Lawn_has_ok k
  · exact impl_Lawn_kind_ok k
def impl_Lawn_is_e (k : Nat) : Ent := (129, callOf [.agg 30, .agg 64, .int .i64] dec_lli fun (p : (List Int) × (List Int) × Int) R K => (impl_Lawn_is k p.1 p.2.1 p.2.2).bind fun (b : Bool) => K ((fV (.bool) (enc_b b)).1, none))
theorem impl_Lawn_is_run (k : Nat) (p : (List Int) × (List Int) × Int) : runF (impl_Lawn_is_C k) Try.f129 false (fL [.agg 30, .agg 64, .int .i64] (enc_lli p)).1 (resK (.bool) dec_b) = impl_Lawn_is k p.1 p.2.1 p.2.2 := by
  kernel_rfl
theorem impl_Lawn_is_ok (k : Nat) : EntOK Try.prog tab mvs (impl_Lawn_is_e k) :=
  fn_ok (C := impl_Lawn_is_C k) tabOK eqTabOK (impl_Lawn_is_es k) rfl follows Try.func129 (by kernel_rfl) (by kernel_rfl) rfl (forall_getD _ 0 (0, Code.skip) (by kernel_rfl) fun i hi => by
      omega)
    dec_enc_lli dec_enc_b (impl_Lawn_is_run k)

def impl_Lawn_open_C (k : Nat) : Cfg := ⟨tab, mvs, oraOf [impl_Lawn_is_e k], loOf []⟩
theorem impl_Lawn_open_es (k : Nat) : ∀ e ∈ ([impl_Lawn_is_e k] : List Ent), EntOK Try.prog tab mvs e := by
  intro e he
  simp only [List.mem_cons, List.not_mem_nil, or_false] at he
  rcases he with rfl
  · exact impl_Lawn_is_ok k
def impl_Lawn_open_e (k : Nat) : Ent := (139, callOf [.agg 30, .agg 64] dec_ll fun (p : (List Int) × (List Int)) R K => (impl_Lawn_open k p.1 p.2).bind fun (b : Bool) => K ((fV (.bool) (enc_b b)).1, none))
theorem impl_Lawn_open_run (k : Nat) (p : (List Int) × (List Int)) : runF (impl_Lawn_open_C k) Try.f139 false (fL [.agg 30, .agg 64] (enc_ll p)).1 (resK (.bool) dec_b) = impl_Lawn_open k p.1 p.2 := by
  kernel_rfl
theorem impl_Lawn_open_ok (k : Nat) : EntOK Try.prog tab mvs (impl_Lawn_open_e k) :=
  fn_ok (C := impl_Lawn_open_C k) tabOK eqTabOK (impl_Lawn_open_es k) rfl follows Try.func139 (by kernel_rfl) (by kernel_rfl) rfl (forall_getD _ 0 (0, Code.skip) (by kernel_rfl) fun i hi => by
      omega)
    dec_enc_ll dec_enc_b (impl_Lawn_open_run k)

def impl_beside_C (k : Nat) : Cfg := ⟨tab, mvs, oraOf [], loOf []⟩
theorem impl_beside_es (k : Nat) : ∀ e ∈ ([] : List Ent), EntOK Try.prog tab mvs e := by
  intro e he
  simp at he
def impl_beside_e (k : Nat) : Ent := (141, callOf [.agg 64] dec_l fun (p : (List Int)) R K => (impl_beside k p).bind fun (b : (List Int)) => K ((fV (.slv 64) (enc_l b)).1, none))
theorem impl_beside_run (k : Nat) (p : (List Int)) : runF (impl_beside_C k) Try.f141 false (fL [.agg 64] (enc_l p)).1 (resK (.slv 64) dec_l) = impl_beside k p := by
  kernel_rfl
theorem impl_beside_ok (k : Nat) : EntOK Try.prog tab mvs (impl_beside_e k) :=
  fn_ok (C := impl_beside_C k) tabOK eqTabOK (impl_beside_es k) rfl follows Try.func141 (by kernel_rfl) (by kernel_rfl) rfl (forall_getD _ 0 (0, Code.skip) (by kernel_rfl) fun i hi => by
      omega)
    dec_enc_l dec_enc_l (impl_beside_run k)

def dec_liil (ps : List Pay) : Option ((List Int) × Int × Int × (List Int)) := match ps with
  | [.l x1, .i x2, .i x3, .l x4] => some (x1, x2, x3, x4)
  | _ => none
def enc_liil (p : (List Int) × Int × Int × (List Int)) : List Pay := [.l p.1, .i p.2.1, .i p.2.2.1, .l p.2.2.2]
theorem dec_enc_liil : ∀ (ps : List Pay) (p : (List Int) × Int × Int × (List Int)), dec_liil ps = some p → ps = enc_liil p := by
  intro ps p h
  unfold dec_liil at h
  split at h
  · injection h with h
    subst h
    rfl
  · cases h

def slices_Index_impl_Cell_t0 : StTm := ⟨19, [(0, .slv 64), (3, .ptr 3 0 64), (7, .int .i64), (8, .int .i64)], [(3, 64, true, .ints)]⟩
def slices_Index_impl_Cell_t0_1 : StTm := ⟨19, [(4, .int .i64)], []⟩
def slices_Index_impl_Cell_t0_2 : StTm := ⟨19, [], []⟩
def slices_Index_impl_Cell_w0 (k : Nat) (R : Type) (K : Ex → St → Option R) (rec : (List Int) × Int × Int × (List Int) → Option R) (p : (List Int) × Int × Int × (List Int)) : Option R := slices_Index_impl_Cell_s0 k (fun y1 => K .ret (fSt slices_Index_impl_Cell_t0_1 [.i y1])) (K (.exit 0) (fSt slices_Index_impl_Cell_t0_2 [])) (fun h1 h2 h3 h4 => rec (h1, h2, h3, h4)) p.1 p.2.1 p.2.2.1 p.2.2.2
def slices_Index_impl_Cell_c0 (k : Nat) : Lcall := lcallOf tab slices_Index_impl_Cell_t0 dec_liil [0, 3, 7, 8] k (slices_Index_impl_Cell_w0 k)
def slices_Index_impl_Cell_C (k : Nat) : Cfg := ⟨tab, mvs, oraOf [], loOf [(0, slices_Index_impl_Cell_c0 k)]⟩
theorem slices_Index_impl_Cell_es (k : Nat) : ∀ e ∈ ([] : List Ent), EntOK Try.prog tab mvs e := by
  intro e he
  simp at he
theorem slices_Index_impl_Cell_step0 (k : Nat) (R : Type) (K : Ex → St → Option R) (g : St → Option R) (p : (List Int) × Int × Int × (List Int)) : evCode (slices_Index_impl_Cell_C k) (loopP [0] (0, codeOf Try.f145)).2 (loopP [0] (0, codeOf Try.f145)).1 (fSt slices_Index_impl_Cell_t0 (enc_liil p)) (loopK tab [0, 3, 7, 8] [] [4] g K) = slices_Index_impl_Cell_w0 k R K (fun p => g (fSt slices_Index_impl_Cell_t0 (enc_liil p))) p := by
  kernel_rfl
theorem slices_Index_impl_Cell_lok0 (k : Nat) : LoopOK Try.prog tab (slices_Index_impl_Cell_C k).lo (loopP [0] (0, codeOf Try.f145)).1 (loopP [0] (0, codeOf Try.f145)).2 :=
  loopOK_of (C := slices_Index_impl_Cell_C k) tabOK eqTabOK (oraOf_ok (slices_Index_impl_Cell_es k)) (oraOf_nat (slices_Index_impl_Cell_es k)) follows (forall_getD _ 0 (0, Code.skip) (by kernel_rfl) fun i hi => by
      omega)
    (tm := slices_Index_impl_Cell_t0) (dec := dec_liil) (enc := enc_liil) (ksIn := [0, 3, 7, 8]) (ksOut := []) (ksRet := [4]) (k := k) (step := slices_Index_impl_Cell_w0 k) dec_enc_liil (fun p => by kernel_rfl) (fun s R K => by kernel_rfl) (slices_Index_impl_Cell_step0 k)
def slices_Index_impl_Cell_e (k : Nat) : Ent := (145, callOf [.slv 64, .agg 64] dec_ll fun (p : (List Int) × (List Int)) R K => (slices_Index_impl_Cell k p.1 p.2).bind fun (b : Int) => K ((fV (.int .i64) (enc_i b)).1, none))
theorem slices_Index_impl_Cell_run (k : Nat) (p : (List Int) × (List Int)) : runF (slices_Index_impl_Cell_C k) Try.f145 false (fL [.slv 64, .agg 64] (enc_ll p)).1 (resK (.int .i64) dec_i) = slices_Index_impl_Cell k p.1 p.2 := by
  kernel_rfl
theorem slices_Index_impl_Cell_ok (k : Nat) : EntOK Try.prog tab mvs (slices_Index_impl_Cell_e k) :=
  fn_ok (C := slices_Index_impl_Cell_C k) tabOK eqTabOK (slices_Index_impl_Cell_es k) rfl follows Try.func145 (by kernel_rfl) (by kernel_rfl) rfl (forall_getD _ 1 (0, Code.skip) (by kernel_rfl) fun i hi => by
      match i, hi with
      | 0, _ => exact slices_Index_impl_Cell_lok0 k
      | n + 1, h => omega)
    dec_enc_ll dec_enc_i (slices_Index_impl_Cell_run k)

def slices_Contains_impl_Cell_C (k : Nat) : Cfg := ⟨tab, mvs, oraOf [slices_Index_impl_Cell_e k], loOf []⟩
theorem slices_Contains_impl_Cell_es (k : Nat) : ∀ e ∈ ([slices_Index_impl_Cell_e k] : List Ent), EntOK Try.prog tab mvs e := by
  intro e he
  simp only [List.mem_cons, List.not_mem_nil, or_false] at he
  rcases he with rfl
  · exact slices_Index_impl_Cell_ok k
def slices_Contains_impl_Cell_e (k : Nat) : Ent := (140, callOf [.slv 64, .agg 64] dec_ll fun (p : (List Int) × (List Int)) R K => (slices_Contains_impl_Cell k p.1 p.2).bind fun (b : Bool) => K ((fV (.bool) (enc_b b)).1, none))
theorem slices_Contains_impl_Cell_run (k : Nat) (p : (List Int) × (List Int)) : runF (slices_Contains_impl_Cell_C k) Try.f140 false (fL [.slv 64, .agg 64] (enc_ll p)).1 (resK (.bool) dec_b) = slices_Contains_impl_Cell k p.1 p.2 := by
  kernel_rfl
theorem slices_Contains_impl_Cell_ok (k : Nat) : EntOK Try.prog tab mvs (slices_Contains_impl_Cell_e k) :=
  fn_ok (C := slices_Contains_impl_Cell_C k) tabOK eqTabOK (slices_Contains_impl_Cell_es k) rfl follows Try.func140 (by kernel_rfl) (by kernel_rfl) rfl (forall_getD _ 0 (0, Code.skip) (by kernel_rfl) fun i hi => by
      omega)
    dec_enc_ll dec_enc_b (slices_Contains_impl_Cell_run k)

def dec_lliil (ps : List Pay) : Option ((List Int) × (List Int) × Int × Int × (List Int)) := match ps with
  | [.l x1, .l x2, .i x3, .i x4, .l x5] => some (x1, x2, x3, x4, x5)
  | _ => none
def enc_lliil (p : (List Int) × (List Int) × Int × Int × (List Int)) : List Pay := [.l p.1, .l p.2.1, .i p.2.2.1, .i p.2.2.2.1, .l p.2.2.2.2]
theorem dec_enc_lliil : ∀ (ps : List Pay) (p : (List Int) × (List Int) × Int × Int × (List Int)), dec_lliil ps = some p → ps = enc_lliil p := by
  intro ps p h
  unfold dec_lliil at h
  split at h
  · injection h with h
    subst h
    rfl
  · cases h

def impl_Lawn_isWalk_t0 : StTm := ⟨46, [(1, .slv 64), (2, .ptr 2 0 30), (7, .slv 64), (8, .int .i64), (9, .int .i64)], [(2, 30, true, .ints)]⟩
def impl_Lawn_isWalk_t0_1 : StTm := ⟨46, [(4, .bool)], []⟩
def impl_Lawn_isWalk_t0_2 : StTm := ⟨46, [(1, .slv 64)], []⟩
def impl_Lawn_isWalk_w0 (k : Nat) (R : Type) (K : Ex → St → Option R) (rec : (List Int) × (List Int) × Int × Int × (List Int) → Option R) (p : (List Int) × (List Int) × Int × Int × (List Int)) : Option R := impl_Lawn_isWalk_s0 k (fun y1 => K .ret (fSt impl_Lawn_isWalk_t0_1 [.b y1])) (fun y1 => K (.exit 0) (fSt impl_Lawn_isWalk_t0_2 [.l y1])) (fun h1 h2 h3 h4 h5 => rec (h1, h2, h3, h4, h5)) p.1 p.2.1 p.2.2.1 p.2.2.2.1 p.2.2.2.2
def impl_Lawn_isWalk_c0 (k : Nat) : Lcall := lcallOf tab impl_Lawn_isWalk_t0 dec_lliil [1, 2, 7, 8, 9] k (impl_Lawn_isWalk_w0 k)
def impl_Lawn_isWalk_C (k : Nat) : Cfg := ⟨tab, mvs, oraOf [impl_Lawn_open_e k, impl_beside_e k, slices_Contains_impl_Cell_e k], loOf [(0, impl_Lawn_isWalk_c0 k)]⟩
theorem impl_Lawn_isWalk_es (k : Nat) : ∀ e ∈ ([impl_Lawn_open_e k, impl_beside_e k, slices_Contains_impl_Cell_e k] : List Ent), EntOK Try.prog tab mvs e := by
  intro e he
  simp only [List.mem_cons, List.not_mem_nil, or_false] at he
  rcases he with rfl | rfl | rfl
  · exact impl_Lawn_open_ok k
  · exact impl_beside_ok k
  · exact slices_Contains_impl_Cell_ok k
theorem impl_Lawn_isWalk_step0 (k : Nat) (R : Type) (K : Ex → St → Option R) (g : St → Option R) (p : (List Int) × (List Int) × Int × Int × (List Int)) : evCode (impl_Lawn_isWalk_C k) (loopP [0] (0, codeOf Try.f122)).2 (loopP [0] (0, codeOf Try.f122)).1 (fSt impl_Lawn_isWalk_t0 (enc_lliil p)) (loopK tab [1, 2, 7, 8, 9] [1] [4] g K) = impl_Lawn_isWalk_w0 k R K (fun p => g (fSt impl_Lawn_isWalk_t0 (enc_lliil p))) p := by
  kernel_rfl
theorem impl_Lawn_isWalk_lok0 (k : Nat) : LoopOK Try.prog tab (impl_Lawn_isWalk_C k).lo (loopP [0] (0, codeOf Try.f122)).1 (loopP [0] (0, codeOf Try.f122)).2 :=
  loopOK_of (C := impl_Lawn_isWalk_C k) tabOK eqTabOK (oraOf_ok (impl_Lawn_isWalk_es k)) (oraOf_nat (impl_Lawn_isWalk_es k)) follows (forall_getD _ 0 (0, Code.skip) (by kernel_rfl) fun i hi => by
      omega)
    (tm := impl_Lawn_isWalk_t0) (dec := dec_lliil) (enc := enc_lliil) (ksIn := [1, 2, 7, 8, 9]) (ksOut := [1]) (ksRet := [4]) (k := k) (step := impl_Lawn_isWalk_w0 k) dec_enc_lliil (fun p => by kernel_rfl) (fun s R K => by kernel_rfl) (impl_Lawn_isWalk_step0 k)
def impl_Lawn_isWalk_e (k : Nat) : Ent := (122, callOf [.agg 30, .slv 64] dec_ll fun (p : (List Int) × (List Int)) R K => (impl_Lawn_isWalk k p.1 p.2).bind fun (b : Bool) => K ((fV (.bool) (enc_b b)).1, none))
theorem impl_Lawn_isWalk_run (k : Nat) (p : (List Int) × (List Int)) : runF (impl_Lawn_isWalk_C k) Try.f122 false (fL [.agg 30, .slv 64] (enc_ll p)).1 (resK (.bool) dec_b) = impl_Lawn_isWalk k p.1 p.2 := by
  kernel_rfl
theorem impl_Lawn_isWalk_ok (k : Nat) : EntOK Try.prog tab mvs (impl_Lawn_isWalk_e k) :=
  fn_ok (C := impl_Lawn_isWalk_C k) tabOK eqTabOK (impl_Lawn_isWalk_es k) rfl follows Try.func122 (by kernel_rfl) (by kernel_rfl) rfl (forall_getD _ 1 (0, Code.skip) (by kernel_rfl) fun i hi => by
      match i, hi with
      | 0, _ => exact impl_Lawn_isWalk_lok0 k
      | n + 1, h => omega)
    dec_enc_ll dec_enc_b (impl_Lawn_isWalk_run k)

def impl_walkCode_2_C (k : Nat) : Cfg := ⟨tab, mvs, oraOf [impl_Lawn_isWalk_e k], loOf []⟩
theorem impl_walkCode_2_es (k : Nat) : ∀ e ∈ ([impl_Lawn_isWalk_e k] : List Ent), EntOK Try.prog tab mvs e := by
  intro e he
  simp only [List.mem_cons, List.not_mem_nil, or_false] at he
  rcases he with rfl
  · exact impl_Lawn_isWalk_ok k
def impl_walkCode_2_e (k : Nat) : Ent := (121, callOf [.slv 64, .pvi (some 30) 0 30] dec_ll fun (p : (List Int) × (List Int)) R K => (impl_walkCode_2 k p.1 p.2).bind fun (b : Bool) => K ((fV (.bool) (enc_b b)).1, none))
theorem impl_walkCode_2_run (k : Nat) (p : (List Int) × (List Int)) : runF (impl_walkCode_2_C k) Try.f121 false (fL [.slv 64, .pvi (some 30) 0 30] (enc_ll p)).1 (resK (.bool) dec_b) = impl_walkCode_2 k p.1 p.2 := by
  kernel_rfl
theorem impl_walkCode_2_ok (k : Nat) : EntOK Try.prog tab mvs (impl_walkCode_2_e k) :=
  fn_ok (C := impl_walkCode_2_C k) tabOK eqTabOK (impl_walkCode_2_es k) rfl follows Try.func121 (by kernel_rfl) (by kernel_rfl) rfl (forall_getD _ 0 (0, Code.skip) (by kernel_rfl) fun i hi => by
      omega)
    dec_enc_ll dec_enc_b (impl_walkCode_2_run k)

def dec_lr (ps : List Pay) : Option ((List Int) × (List (List Int))) := match ps with
  | [.l x1, .r x2] => some (x1, x2)
  | _ => none
def enc_lr (p : (List Int) × (List (List Int))) : List Pay := [.l p.1, .r p.2]
theorem dec_enc_lr : ∀ (ps : List Pay) (p : (List Int) × (List (List Int))), dec_lr ps = some p → ps = enc_lr p := by
  intro ps p h
  unfold dec_lr at h
  split at h
  · injection h with h
    subst h
    rfl
  · cases h

def impl_walkCode_C (k : Nat) : Cfg := ⟨tab, mvs, oraOf [impl_ValidLawn_e k, impl_walkCode_1_e k, slices_ContainsFunc_S_impl_Cell_e k, impl_walkCode_2_e k], loOf []⟩
theorem impl_walkCode_es (k : Nat) : ∀ e ∈ ([impl_ValidLawn_e k, impl_walkCode_1_e k, slices_ContainsFunc_S_impl_Cell_e k, impl_walkCode_2_e k] : List Ent), EntOK Try.prog tab mvs e := by
  intro e he
  simp only [List.mem_cons, List.not_mem_nil, or_false] at he
  rcases he with rfl | rfl | rfl | rfl
  · exact impl_ValidLawn_ok k
  · exact impl_walkCode_1_ok k
  · exact slices_ContainsFunc_S_impl_Cell_ok k
  · exact impl_walkCode_2_ok k
def impl_walkCode_e (k : Nat) : Ent := (76, callOf [.agg 30, .slr 27] dec_lr fun (p : (List Int) × (List (List Int))) R K => (impl_walkCode k p.1 p.2).bind fun (b : Int) => K ((fV (.int .i64) (enc_i b)).1, none))
theorem impl_walkCode_run (k : Nat) (p : (List Int) × (List (List Int))) : runF (impl_walkCode_C k) Try.f76 false (fL [.agg 30, .slr 27] (enc_lr p)).1 (resK (.int .i64) dec_i) = impl_walkCode k p.1 p.2 := by
  kernel_rfl
theorem impl_walkCode_ok (k : Nat) : EntOK Try.prog tab mvs (impl_walkCode_e k) :=
  fn_ok (C := impl_walkCode_C k) tabOK eqTabOK (impl_walkCode_es k) rfl follows Try.func76 (by kernel_rfl) (by kernel_rfl) rfl (forall_getD _ 0 (0, Code.skip) (by kernel_rfl) fun i hi => by
      omega)
    dec_enc_lr dec_enc_i (impl_walkCode_run k)

def impl_CheckWalk_C (k : Nat) : Cfg := ⟨tab, mvs, oraOf [impl_walkCode_e k], loOf []⟩
theorem impl_CheckWalk_es (k : Nat) : ∀ e ∈ ([impl_walkCode_e k] : List Ent), EntOK Try.prog tab mvs e := by
  intro e he
  simp only [List.mem_cons, List.not_mem_nil, or_false] at he
  rcases he with rfl
  · exact impl_walkCode_ok k
def impl_CheckWalk_e (k : Nat) : Ent := (27, callOf [.agg 30, .slv 64] dec_ll fun (p : (List Int) × (List Int)) R K => (impl_CheckWalk k p.1 p.2).bind fun (b : Bool × Int) => K ((fV (.tup [.bool, .int .i64]) (enc_bi b)).1, none))
theorem impl_CheckWalk_run (k : Nat) (p : (List Int) × (List Int)) : runF (impl_CheckWalk_C k) Try.f27 false (fL [.agg 30, .slv 64] (enc_ll p)).1 (resK (.tup [.bool, .int .i64]) dec_bi) = impl_CheckWalk k p.1 p.2 := by
  kernel_rfl
theorem impl_CheckWalk_ok (k : Nat) : EntOK Try.prog tab mvs (impl_CheckWalk_e k) :=
  fn_ok (C := impl_CheckWalk_C k) tabOK eqTabOK (impl_CheckWalk_es k) rfl follows Try.func27 (by kernel_rfl) (by kernel_rfl) rfl (forall_getD _ 0 (0, Code.skip) (by kernel_rfl) fun i hi => by
      omega)
    dec_enc_ll dec_enc_bi (impl_CheckWalk_run k)

def laws_eqCell_C (k : Nat) : Cfg := ⟨tab, mvs, oraOf [], loOf []⟩
theorem laws_eqCell_es (k : Nat) : ∀ e ∈ ([] : List Ent), EntOK Try.prog tab mvs e := by
  intro e he
  simp at he
def laws_eqCell_e (k : Nat) : Ent := (63, callOf [.agg 64, .agg 64] dec_ll fun (p : (List Int) × (List Int)) R K => (laws_eqCell k p.1 p.2).bind fun (b : Bool) => K ((fV (.bool) (enc_b b)).1, none))
theorem laws_eqCell_run (k : Nat) (p : (List Int) × (List Int)) : runF (laws_eqCell_C k) Try.f63 false (fL [.agg 64, .agg 64] (enc_ll p)).1 (resK (.bool) dec_b) = laws_eqCell k p.1 p.2 := by
  kernel_rfl
theorem laws_eqCell_ok (k : Nat) : EntOK Try.prog tab mvs (laws_eqCell_e k) :=
  fn_ok (C := laws_eqCell_C k) tabOK eqTabOK (laws_eqCell_es k) rfl follows Try.func63 (by kernel_rfl) (by kernel_rfl) rfl (forall_getD _ 0 (0, Code.skip) (by kernel_rfl) fun i hi => by
      omega)
    dec_enc_ll dec_enc_b (laws_eqCell_run k)

def laws_eqCellS_t0 : StTm := ⟨27, [(0, .slv 64), (1, .slv 64), (5, .int .i64)], []⟩
def laws_eqCellS_t0_1 : StTm := ⟨27, [(4, .bool)], []⟩
def laws_eqCellS_t0_2 : StTm := ⟨27, [], []⟩
def laws_eqCellS_w0 (k : Nat) (R : Type) (K : Ex → St → Option R) (rec : (List Int) × (List Int) × Int → Option R) (p : (List Int) × (List Int) × Int) : Option R := laws_eqCellS_s0 k (fun y1 => K .ret (fSt laws_eqCellS_t0_1 [.b y1])) (K (.exit 0) (fSt laws_eqCellS_t0_2 [])) (fun h1 h2 h3 => rec (h1, h2, h3)) p.1 p.2.1 p.2.2
def laws_eqCellS_c0 (k : Nat) : Lcall := lcallOf tab laws_eqCellS_t0 dec_lli [0, 1, 5] k (laws_eqCellS_w0 k)
def laws_eqCellS_C (k : Nat) : Cfg := ⟨tab, mvs, oraOf [laws_eqCell_e k], loOf [(0, laws_eqCellS_c0 k)]⟩
theorem laws_eqCellS_es (k : Nat) : ∀ e ∈ ([laws_eqCell_e k] : List Ent), EntOK Try.prog tab mvs e := by
  intro e he
  simp only [List.mem_cons, List.not_mem_nil, or_false] at he
  rcases he with rfl
  · exact laws_eqCell_ok k
theorem laws_eqCellS_step0 (k : Nat) (R : Type) (K : Ex → St → Option R) (g : St → Option R) (p : (List Int) × (List Int) × Int) : evCode (laws_eqCellS_C k) (loopP [0] (0, codeOf Try.f16)).2 (loopP [0] (0, codeOf Try.f16)).1 (fSt laws_eqCellS_t0 (enc_lli p)) (loopK tab [0, 1, 5] [] [4] g K) = laws_eqCellS_w0 k R K (fun p => g (fSt laws_eqCellS_t0 (enc_lli p))) p := by
  kernel_rfl
theorem laws_eqCellS_lok0 (k : Nat) : LoopOK Try.prog tab (laws_eqCellS_C k).lo (loopP [0] (0, codeOf Try.f16)).1 (loopP [0] (0, codeOf Try.f16)).2 :=
  loopOK_of (C := laws_eqCellS_C k) tabOK eqTabOK (oraOf_ok (laws_eqCellS_es k)) (oraOf_nat (laws_eqCellS_es k)) follows (forall_getD _ 0 (0, Code.skip) (by kernel_rfl) fun i hi => by
      omega)
    (tm := laws_eqCellS_t0) (dec := dec_lli) (enc := enc_lli) (ksIn := [0, 1, 5]) (ksOut := []) (ksRet := [4]) (k := k) (step := laws_eqCellS_w0 k) dec_enc_lli (fun p => by kernel_rfl) (fun s R K => by kernel_rfl) (laws_eqCellS_step0 k)
def laws_eqCellS_e (k : Nat) : Ent := (16, callOf [.slv 64, .slv 64] dec_ll fun (p : (List Int) × (List Int)) R K => (laws_eqCellS k p.1 p.2).bind fun (b : Bool) => K ((fV (.bool) (enc_b b)).1, none))
theorem laws_eqCellS_run (k : Nat) (p : (List Int) × (List Int)) : runF (laws_eqCellS_C k) Try.f16 false (fL [.slv 64, .slv 64] (enc_ll p)).1 (resK (.bool) dec_b) = laws_eqCellS k p.1 p.2 := by
  kernel_rfl
theorem laws_eqCellS_ok (k : Nat) : EntOK Try.prog tab mvs (laws_eqCellS_e k) :=
  fn_ok (C := laws_eqCellS_C k) tabOK eqTabOK (laws_eqCellS_es k) rfl follows Try.func16 (by kernel_rfl) (by kernel_rfl) rfl (forall_getD _ 1 (0, Code.skip) (by kernel_rfl) fun i hi => by
      match i, hi with
      | 0, _ => exact laws_eqCellS_lok0 k
      | n + 1, h => omega)
    dec_enc_ll dec_enc_b (laws_eqCellS_run k)

def laws_FnExactCheckWalk_C (k : Nat) : Cfg := ⟨tab, mvs, oraOf [laws_szCellS_e k, laws_toLawn_e k, laws_toCellS_e k, spec_CheckWalk_e k, impl_CheckWalk_e k, laws_eqCellS_e k], loOf []⟩
theorem laws_FnExactCheckWalk_es (k : Nat) : ∀ e ∈ ([laws_szCellS_e k, laws_toLawn_e k, laws_toCellS_e k, spec_CheckWalk_e k, impl_CheckWalk_e k, laws_eqCellS_e k] : List Ent), EntOK Try.prog tab mvs e := by
  intro e he
  simp only [List.mem_cons, List.not_mem_nil, or_false] at he
  rcases he with rfl | rfl | rfl | rfl | rfl | rfl
  · exact laws_szCellS_ok k
  · exact laws_toLawn_ok k
  · exact laws_toCellS_ok k
  · exact spec_CheckWalk_ok k
  · exact impl_CheckWalk_ok k
  · exact laws_eqCellS_ok k
def laws_FnExactCheckWalk_e (k : Nat) : Ent := (5, callOf [.agg 26, .slv 89] dec_ll fun (p : (List Int) × (List Int)) R K => (laws_FnExactCheckWalk k p.1 p.2).bind fun (b : Bool) => K ((fV (.bool) (enc_b b)).1, none))
theorem laws_FnExactCheckWalk_run (k : Nat) (p : (List Int) × (List Int)) : runF (laws_FnExactCheckWalk_C k) Try.f5 false (fL [.agg 26, .slv 89] (enc_ll p)).1 (resK (.bool) dec_b) = laws_FnExactCheckWalk k p.1 p.2 := by
  kernel_rfl
theorem laws_FnExactCheckWalk_ok (k : Nat) : EntOK Try.prog tab mvs (laws_FnExactCheckWalk_e k) :=
  fn_ok (C := laws_FnExactCheckWalk_C k) tabOK eqTabOK (laws_FnExactCheckWalk_es k) rfl follows Try.func5 (by kernel_rfl) (by kernel_rfl) rfl (forall_getD _ 0 (0, Code.skip) (by kernel_rfl) fun i hi => by
      omega)
    dec_enc_ll dec_enc_b (laws_FnExactCheckWalk_run k)

def laws_toInt8A10_t0 : StTm := ⟨15, [(1, .ptr 1 0 77), (2, .ptr 2 0 77), (3, .ptr 3 0 77), (4, .int .i64)], [(1, 77, true, .ints), (2, 77, true, .ints), (3, 77, true, .ints)]⟩
def laws_toInt8A10_t0_1 : StTm := ⟨15, [(2, .ptr 2 0 77), (3, .ptr 3 0 77)], [(2, 77, true, .ints), (3, 77, true, .ints)]⟩
def laws_toInt8A10_w0 (k : Nat) (R : Type) (K : Ex → St → Option R) (rec : Int × (List Int) × (List Int) × (List Int) → Option R) (p : Int × (List Int) × (List Int) × (List Int)) : Option R := laws_toInt8A10_s0 k (fun y1 y2 => K (.exit 0) (fSt laws_toInt8A10_t0_1 [.l y1, .l y2])) (fun h1 h2 h3 h4 => rec (h1, h2, h3, h4)) p.1 p.2.1 p.2.2.1 p.2.2.2
def laws_toInt8A10_c0 (k : Nat) : Lcall := lcallOf tab laws_toInt8A10_t0 dec_illl [1, 2, 3, 4] k (laws_toInt8A10_w0 k)
def laws_toInt8A10_C (k : Nat) : Cfg := ⟨tab, mvs, oraOf [], loOf [(0, laws_toInt8A10_c0 k)]⟩
theorem laws_toInt8A10_es (k : Nat) : ∀ e ∈ ([] : List Ent), EntOK Try.prog tab mvs e := by
  intro e he
  simp at he
theorem laws_toInt8A10_step0 (k : Nat) (R : Type) (K : Ex → St → Option R) (g : St → Option R) (p : Int × (List Int) × (List Int) × (List Int)) : evCode (laws_toInt8A10_C k) (loopP [0] (0, codeOf Try.f93)).2 (loopP [0] (0, codeOf Try.f93)).1 (fSt laws_toInt8A10_t0 (enc_illl p)) (loopK tab [1, 2, 3, 4] [2, 3] [2] g K) = laws_toInt8A10_w0 k R K (fun p => g (fSt laws_toInt8A10_t0 (enc_illl p))) p := by
  kernel_rfl
theorem laws_toInt8A10_lok0 (k : Nat) : LoopOK Try.prog tab (laws_toInt8A10_C k).lo (loopP [0] (0, codeOf Try.f93)).1 (loopP [0] (0, codeOf Try.f93)).2 :=
  loopOK_of (C := laws_toInt8A10_C k) tabOK eqTabOK (oraOf_ok (laws_toInt8A10_es k)) (oraOf_nat (laws_toInt8A10_es k)) follows (forall_getD _ 0 (0, Code.skip) (by kernel_rfl) fun i hi => by
      omega)
    (tm := laws_toInt8A10_t0) (dec := dec_illl) (enc := enc_illl) (ksIn := [1, 2, 3, 4]) (ksOut := [2, 3]) (ksRet := [2]) (k := k) (step := laws_toInt8A10_w0 k) dec_enc_illl (fun p => by kernel_rfl) (fun s R K => by kernel_rfl) (laws_toInt8A10_step0 k)
def laws_toInt8A10_e (k : Nat) : Ent := (93, callOf [.agg 77] dec_l fun (p : (List Int)) R K => (laws_toInt8A10 k p).bind fun (b : (List Int)) => K ((fV (.agg 77) (enc_l b)).1, none))
theorem laws_toInt8A10_run (k : Nat) (p : (List Int)) : runF (laws_toInt8A10_C k) Try.f93 false (fL [.agg 77] (enc_l p)).1 (resK (.agg 77) dec_l) = laws_toInt8A10 k p := by
  kernel_rfl
theorem laws_toInt8A10_ok (k : Nat) : EntOK Try.prog tab mvs (laws_toInt8A10_e k) :=
  fn_ok (C := laws_toInt8A10_C k) tabOK eqTabOK (laws_toInt8A10_es k) rfl follows Try.func93 (by kernel_rfl) (by kernel_rfl) rfl (forall_getD _ 1 (0, Code.skip) (by kernel_rfl) fun i hi => by
      match i, hi with
      | 0, _ => exact laws_toInt8A10_lok0 k
      | n + 1, h => omega)
    dec_enc_l dec_enc_l (laws_toInt8A10_run k)

def laws_toLevels_t0 : StTm := ⟨16, [(1, .ptr 1 0 78), (2, .ptr 2 0 79), (3, .ptr 3 0 79), (4, .int .i64)], [(1, 78, true, .ints), (2, 79, true, .ints), (3, 79, true, .ints)]⟩
def laws_toLevels_t0_1 : StTm := ⟨16, [(2, .ptr 2 0 79), (3, .ptr 3 0 79)], [(2, 79, true, .ints), (3, 79, true, .ints)]⟩
def laws_toLevels_w0 (k : Nat) (R : Type) (K : Ex → St → Option R) (rec : Int × (List Int) × (List Int) × (List Int) → Option R) (p : Int × (List Int) × (List Int) × (List Int)) : Option R := laws_toLevels_s0 k (fun y1 y2 => K (.exit 0) (fSt laws_toLevels_t0_1 [.l y1, .l y2])) (fun h1 h2 h3 h4 => rec (h1, h2, h3, h4)) p.1 p.2.1 p.2.2.1 p.2.2.2
def laws_toLevels_c0 (k : Nat) : Lcall := lcallOf tab laws_toLevels_t0 dec_illl [1, 2, 3, 4] k (laws_toLevels_w0 k)
def laws_toLevels_C (k : Nat) : Cfg := ⟨tab, mvs, oraOf [laws_toInt8A10_e k], loOf [(0, laws_toLevels_c0 k)]⟩
theorem laws_toLevels_es (k : Nat) : ∀ e ∈ ([laws_toInt8A10_e k] : List Ent), EntOK Try.prog tab mvs e := by
  intro e he
  simp only [List.mem_cons, List.not_mem_nil, or_false] at he
  rcases he with rfl
  · exact laws_toInt8A10_ok k
theorem laws_toLevels_step0 (k : Nat) (R : Type) (K : Ex → St → Option R) (g : St → Option R) (p : Int × (List Int) × (List Int) × (List Int)) : evCode (laws_toLevels_C k) (loopP [0] (0, codeOf Try.f47)).2 (loopP [0] (0, codeOf Try.f47)).1 (fSt laws_toLevels_t0 (enc_illl p)) (loopK tab [1, 2, 3, 4] [2, 3] [2] g K) = laws_toLevels_w0 k R K (fun p => g (fSt laws_toLevels_t0 (enc_illl p))) p := by
  kernel_rfl
theorem laws_toLevels_lok0 (k : Nat) : LoopOK Try.prog tab (laws_toLevels_C k).lo (loopP [0] (0, codeOf Try.f47)).1 (loopP [0] (0, codeOf Try.f47)).2 :=
  loopOK_of (C := laws_toLevels_C k) tabOK eqTabOK (oraOf_ok (laws_toLevels_es k)) (oraOf_nat (laws_toLevels_es k)) follows (forall_getD _ 0 (0, Code.skip) (by kernel_rfl) fun i hi => by
      omega)
    (tm := laws_toLevels_t0) (dec := dec_illl) (enc := enc_illl) (ksIn := [1, 2, 3, 4]) (ksOut := [2, 3]) (ksRet := [2]) (k := k) (step := laws_toLevels_w0 k) dec_enc_illl (fun p => by kernel_rfl) (fun s R K => by kernel_rfl) (laws_toLevels_step0 k)
def laws_toLevels_e (k : Nat) : Ent := (47, callOf [.agg 78] dec_l fun (p : (List Int)) R K => (laws_toLevels k p).bind fun (b : (List Int)) => K ((fV (.agg 79) (enc_l b)).1, none))
theorem laws_toLevels_run (k : Nat) (p : (List Int)) : runF (laws_toLevels_C k) Try.f47 false (fL [.agg 78] (enc_l p)).1 (resK (.agg 79) dec_l) = laws_toLevels k p := by
  kernel_rfl
theorem laws_toLevels_ok (k : Nat) : EntOK Try.prog tab mvs (laws_toLevels_e k) :=
  fn_ok (C := laws_toLevels_C k) tabOK eqTabOK (laws_toLevels_es k) rfl follows Try.func47 (by kernel_rfl) (by kernel_rfl) rfl (forall_getD _ 1 (0, Code.skip) (by kernel_rfl) fun i hi => by
      match i, hi with
      | 0, _ => exact laws_toLevels_lok0 k
      | n + 1, h => omega)
    dec_enc_l dec_enc_l (laws_toLevels_run k)

def spec_l06Level_C (k : Nat) : Cfg := ⟨tab, mvs, oraOf [spec_l00In_e k], loOf []⟩
theorem spec_l06Level_es (k : Nat) : ∀ e ∈ ([spec_l00In_e k] : List Ent), EntOK Try.prog tab mvs e := by
  intro e he
  simp only [List.mem_cons, List.not_mem_nil, or_false] at he
  rcases he with rfl
  · exact spec_l00In_ok k
def spec_l06Level_e (k : Nat) : Ent := (130, callOf [.int .i64] dec_i fun (p : Int) R K => (spec_l06Level k p).bind fun (b : Bool) => K ((fV (.bool) (enc_b b)).1, none))
theorem spec_l06Level_run (k : Nat) (p : Int) : runF (spec_l06Level_C k) Try.f130 false (fL [.int .i64] (enc_i p)).1 (resK (.bool) dec_b) = spec_l06Level k p := by
  kernel_rfl
theorem spec_l06Level_ok (k : Nat) : EntOK Try.prog tab mvs (spec_l06Level_e k) :=
  fn_ok (C := spec_l06Level_C k) tabOK eqTabOK (spec_l06Level_es k) rfl follows Try.func130 (by kernel_rfl) (by kernel_rfl) rfl (forall_getD _ 0 (0, Code.skip) (by kernel_rfl) fun i hi => by
      omega)
    dec_enc_i dec_enc_b (spec_l06Level_run k)

def spec_l01Grass_C (k : Nat) : Cfg := ⟨tab, mvs, oraOf [spec_l01Is_e k, spec_l01At_e k], loOf []⟩
theorem spec_l01Grass_es (k : Nat) : ∀ e ∈ ([spec_l01Is_e k, spec_l01At_e k] : List Ent), EntOK Try.prog tab mvs e := by
  intro e he
  simp only [List.mem_cons, List.not_mem_nil, or_false] at he
  rcases he with rfl | rfl
  · exact spec_l01Is_ok k
  · exact spec_l01At_ok k
def spec_l01Grass_e (k : Nat) : Ent := (102, callOf [.pvi (some 30) 0 30, .agg 64] dec_ll fun (p : (List Int) × (List Int)) R K => (spec_l01Grass k p.1 p.2).bind fun (b : Bool) => K ((fV (.bool) (enc_b b)).1, none))
theorem spec_l01Grass_run (k : Nat) (p : (List Int) × (List Int)) : runF (spec_l01Grass_C k) Try.f102 false (fL [.pvi (some 30) 0 30, .agg 64] (enc_ll p)).1 (resK (.bool) dec_b) = spec_l01Grass k p.1 p.2 := by
  kernel_rfl
theorem spec_l01Grass_ok (k : Nat) : EntOK Try.prog tab mvs (spec_l01Grass_e k) :=
  fn_ok (C := spec_l01Grass_C k) tabOK eqTabOK (spec_l01Grass_es k) rfl follows Try.func102 (by kernel_rfl) (by kernel_rfl) rfl (forall_getD _ 0 (0, Code.skip) (by kernel_rfl) fun i hi => by
      omega)
    dec_enc_ll dec_enc_b (spec_l01Grass_run k)

def dec_llii (ps : List Pay) : Option ((List Int) × (List Int) × Int × Int) := match ps with
  | [.l x1, .l x2, .i x3, .i x4] => some (x1, x2, x3, x4)
  | _ => none
def enc_llii (p : (List Int) × (List Int) × Int × Int) : List Pay := [.l p.1, .l p.2.1, .i p.2.2.1, .i p.2.2.2]
theorem dec_enc_llii : ∀ (ps : List Pay) (p : (List Int) × (List Int) × Int × Int), dec_llii ps = some p → ps = enc_llii p := by
  intro ps p h
  unfold dec_llii at h
  split at h
  · injection h with h
    subst h
    rfl
  · cases h

def spec_l06Ok_t0 : StTm := ⟨42, [(0, .pvi (some 30) 0 30), (1, .pvi (some 79) 0 79), (5, .int .i8), (6, .int .i8)], []⟩
def spec_l06Ok_t0_1 : StTm := ⟨42, [(4, .bool)], []⟩
def spec_l06Ok_t0_2 : StTm := ⟨42, [(0, .pvi (some 30) 0 30), (1, .pvi (some 79) 0 79), (5, .int .i8)], []⟩
def spec_l06Ok_w0 (k : Nat) (R : Type) (K : Ex → St → Option R) (rec : (List Int) × (List Int) × Int × Int → Option R) (p : (List Int) × (List Int) × Int × Int) : Option R := spec_l06Ok_s0 k (fun y1 => K .ret (fSt spec_l06Ok_t0_1 [.b y1])) (fun y1 y2 y3 => K (.exit 2) (fSt spec_l06Ok_t0_2 [.l y1, .l y2, .i y3])) (fun h1 h2 h3 h4 => rec (h1, h2, h3, h4)) p.1 p.2.1 p.2.2.1 p.2.2.2
def spec_l06Ok_c0 (k : Nat) : Lcall := lcallOf tab spec_l06Ok_t0 dec_llii [0, 1, 5, 6] k (spec_l06Ok_w0 k)
def spec_l06Ok_t1 : StTm := ⟨42, [(0, .pvi (some 30) 0 30), (1, .pvi (some 79) 0 79), (5, .int .i8)], []⟩
def spec_l06Ok_t1_1 : StTm := ⟨42, [(4, .bool)], []⟩
def spec_l06Ok_t1_2 : StTm := ⟨42, [], []⟩
def spec_l06Ok_w1 (k : Nat) (R : Type) (K : Ex → St → Option R) (rec : (List Int) × (List Int) × Int → Option R) (p : (List Int) × (List Int) × Int) : Option R := spec_l06Ok_s1 k (fun y1 => K .ret (fSt spec_l06Ok_t1_1 [.b y1])) (K (.exit 0) (fSt spec_l06Ok_t1_2 [])) (fun h1 h2 h3 => rec (h1, h2, h3)) p.1 p.2.1 p.2.2
def spec_l06Ok_c1 (k : Nat) : Lcall := lcallOf tab spec_l06Ok_t1 dec_lli [0, 1, 5] k (spec_l06Ok_w1 k)
def spec_l06Ok_C (k : Nat) : Cfg := ⟨tab, mvs, oraOf [spec_l01Ok_e k, spec_l06Level_e k, spec_l01Grass_e k], loOf [(2, spec_l06Ok_c0 k), (0, spec_l06Ok_c1 k)]⟩
theorem spec_l06Ok_es (k : Nat) : ∀ e ∈ ([spec_l01Ok_e k, spec_l06Level_e k, spec_l01Grass_e k] : List Ent), EntOK Try.prog tab mvs e := by
  intro e he
  simp only [List.mem_cons, List.not_mem_nil, or_false] at he
  rcases he with rfl | rfl | rfl
  · exact spec_l01Ok_ok k
  · exact spec_l06Level_ok k
  · exact spec_l01Grass_ok k
theorem spec_l06Ok_step0 (k : Nat) (R : Type) (K : Ex → St → Option R) (g : St → Option R) (p : (List Int) × (List Int) × Int × Int) : evCode (spec_l06Ok_C k) (loopP [0, 0] (0, codeOf Try.f92)).2 (loopP [0, 0] (0, codeOf Try.f92)).1 (fSt spec_l06Ok_t0 (enc_llii p)) (loopK tab [0, 1, 5, 6] [0, 1, 5] [4] g K) = spec_l06Ok_w0 k R K (fun p => g (fSt spec_l06Ok_t0 (enc_llii p))) p := by
  kernel_rfl
theorem spec_l06Ok_lok0 (k : Nat) : LoopOK Try.prog tab (spec_l06Ok_C k).lo (loopP [0, 0] (0, codeOf Try.f92)).1 (loopP [0, 0] (0, codeOf Try.f92)).2 :=
  loopOK_of (C := spec_l06Ok_C k) tabOK eqTabOK (oraOf_ok (spec_l06Ok_es k)) (oraOf_nat (spec_l06Ok_es k)) follows (forall_getD _ 0 (0, Code.skip) (by kernel_rfl) fun i hi => by
      omega)
    (tm := spec_l06Ok_t0) (dec := dec_llii) (enc := enc_llii) (ksIn := [0, 1, 5, 6]) (ksOut := [0, 1, 5]) (ksRet := [4]) (k := k) (step := spec_l06Ok_w0 k) dec_enc_llii (fun p => by kernel_rfl) (fun s R K => by kernel_rfl) (spec_l06Ok_step0 k)
theorem spec_l06Ok_step1 (k : Nat) (R : Type) (K : Ex → St → Option R) (g : St → Option R) (p : (List Int) × (List Int) × Int) : evCode (spec_l06Ok_C k) (loopP [0] (0, codeOf Try.f92)).2 (loopP [0] (0, codeOf Try.f92)).1 (fSt spec_l06Ok_t1 (enc_lli p)) (loopK tab [0, 1, 5] [] [4] g K) = spec_l06Ok_w1 k R K (fun p => g (fSt spec_l06Ok_t1 (enc_lli p))) p := by
  kernel_rfl
theorem spec_l06Ok_lok1 (k : Nat) : LoopOK Try.prog tab (spec_l06Ok_C k).lo (loopP [0] (0, codeOf Try.f92)).1 (loopP [0] (0, codeOf Try.f92)).2 :=
  loopOK_of (C := spec_l06Ok_C k) tabOK eqTabOK (oraOf_ok (spec_l06Ok_es k)) (oraOf_nat (spec_l06Ok_es k)) follows (forall_getD _ 1 (0, Code.skip) (by kernel_rfl) fun i hi => by
      match i, hi with
      | 0, _ => exact spec_l06Ok_lok0 k
      | n + 1, h => omega)
    (tm := spec_l06Ok_t1) (dec := dec_lli) (enc := enc_lli) (ksIn := [0, 1, 5]) (ksOut := []) (ksRet := [4]) (k := k) (step := spec_l06Ok_w1 k) dec_enc_lli (fun p => by kernel_rfl) (fun s R K => by kernel_rfl) (spec_l06Ok_step1 k)
def spec_l06Ok_e (k : Nat) : Ent := (92, callOf [.pvi (some 30) 0 30, .pvi (some 79) 0 79] dec_ll fun (p : (List Int) × (List Int)) R K => (spec_l06Ok k p.1 p.2).bind fun (b : Bool) => K ((fV (.bool) (enc_b b)).1, none))
theorem spec_l06Ok_run (k : Nat) (p : (List Int) × (List Int)) : runF (spec_l06Ok_C k) Try.f92 false (fL [.pvi (some 30) 0 30, .pvi (some 79) 0 79] (enc_ll p)).1 (resK (.bool) dec_b) = spec_l06Ok k p.1 p.2 := by
  kernel_rfl
theorem spec_l06Ok_ok (k : Nat) : EntOK Try.prog tab mvs (spec_l06Ok_e k) :=
  fn_ok (C := spec_l06Ok_C k) tabOK eqTabOK (spec_l06Ok_es k) rfl follows Try.func92 (by kernel_rfl) (by kernel_rfl) rfl (forall_getD _ 1 (0, Code.skip) (by kernel_rfl) fun i hi => by
      match i, hi with
      | 0, _ => exact spec_l06Ok_lok1 k
      | n + 1, h => omega)
    dec_enc_ll dec_enc_b (spec_l06Ok_run k)

def spec_l01All_t0 : StTm := ⟨30, [(0, .pvi (some 30) 0 30), (3, .slw 3 64), (4, .int .i8), (5, .int .i8)], [(3, 64, false, .ints)]⟩
def spec_l01All_t0_1 : StTm := ⟨30, [(0, .pvi (some 30) 0 30), (3, .slw 3 64), (4, .int .i8)], [(3, 64, false, .ints)]⟩
def spec_l01All_w0 (k : Nat) (R : Type) (K : Ex → St → Option R) (rec : (List Int) × Int × Int × (List Int) → Option R) (p : (List Int) × Int × Int × (List Int)) : Option R := spec_l01All_s0 k (fun y1 y2 y3 => K (.exit 2) (fSt spec_l01All_t0_1 [.l y1, .i y2, .l y3])) (fun h1 h2 h3 h4 => rec (h1, h2, h3, h4)) p.1 p.2.1 p.2.2.1 p.2.2.2
def spec_l01All_c0 (k : Nat) : Lcall := lcallOf tab spec_l01All_t0 dec_liil [0, 3, 4, 5] k (spec_l01All_w0 k)
def spec_l01All_t1 : StTm := ⟨30, [(0, .pvi (some 30) 0 30), (3, .slw 3 64), (4, .int .i8)], [(3, 64, false, .ints)]⟩
def spec_l01All_t1_1 : StTm := ⟨30, [(3, .slw 3 64)], [(3, 64, false, .ints)]⟩
def spec_l01All_w1 (k : Nat) (R : Type) (K : Ex → St → Option R) (rec : (List Int) × Int × (List Int) → Option R) (p : (List Int) × Int × (List Int)) : Option R := spec_l01All_s1 k (fun y1 => K (.exit 0) (fSt spec_l01All_t1_1 [.l y1])) (fun h1 h2 h3 => rec (h1, h2, h3)) p.1 p.2.1 p.2.2
def spec_l01All_c1 (k : Nat) : Lcall := lcallOf tab spec_l01All_t1 dec_lil [0, 3, 4] k (spec_l01All_w1 k)
def spec_l01All_C (k : Nat) : Cfg := ⟨tab, mvs, oraOf [], loOf [(2, spec_l01All_c0 k), (0, spec_l01All_c1 k)]⟩
theorem spec_l01All_es (k : Nat) : ∀ e ∈ ([] : List Ent), EntOK Try.prog tab mvs e := by
  intro e he
  simp at he
theorem spec_l01All_step0 (k : Nat) (R : Type) (K : Ex → St → Option R) (g : St → Option R) (p : (List Int) × Int × Int × (List Int)) : evCode (spec_l01All_C k) (loopP [0, 0] (0, codeOf Try.f56)).2 (loopP [0, 0] (0, codeOf Try.f56)).1 (fSt spec_l01All_t0 (enc_liil p)) (loopK tab [0, 3, 4, 5] [0, 3, 4] [2] g K) = spec_l01All_w0 k R K (fun p => g (fSt spec_l01All_t0 (enc_liil p))) p := by
  kernel_rfl
theorem spec_l01All_lok0 (k : Nat) : LoopOK Try.prog tab (spec_l01All_C k).lo (loopP [0, 0] (0, codeOf Try.f56)).1 (loopP [0, 0] (0, codeOf Try.f56)).2 :=
  loopOK_of (C := spec_l01All_C k) tabOK eqTabOK (oraOf_ok (spec_l01All_es k)) (oraOf_nat (spec_l01All_es k)) follows (forall_getD _ 0 (0, Code.skip) (by kernel_rfl) fun i hi => by
      omega)
    (tm := spec_l01All_t0) (dec := dec_liil) (enc := enc_liil) (ksIn := [0, 3, 4, 5]) (ksOut := [0, 3, 4]) (ksRet := [2]) (k := k) (step := spec_l01All_w0 k) dec_enc_liil (fun p => by kernel_rfl) (fun s R K => by kernel_rfl) (spec_l01All_step0 k)
theorem spec_l01All_step1 (k : Nat) (R : Type) (K : Ex → St → Option R) (g : St → Option R) (p : (List Int) × Int × (List Int)) : evCode (spec_l01All_C k) (loopP [0] (0, codeOf Try.f56)).2 (loopP [0] (0, codeOf Try.f56)).1 (fSt spec_l01All_t1 (enc_lil p)) (loopK tab [0, 3, 4] [3] [2] g K) = spec_l01All_w1 k R K (fun p => g (fSt spec_l01All_t1 (enc_lil p))) p := by
  kernel_rfl
theorem spec_l01All_lok1 (k : Nat) : LoopOK Try.prog tab (spec_l01All_C k).lo (loopP [0] (0, codeOf Try.f56)).1 (loopP [0] (0, codeOf Try.f56)).2 :=
  loopOK_of (C := spec_l01All_C k) tabOK eqTabOK (oraOf_ok (spec_l01All_es k)) (oraOf_nat (spec_l01All_es k)) follows (forall_getD _ 1 (0, Code.skip) (by kernel_rfl) fun i hi => by
      match i, hi with
      | 0, _ => exact spec_l01All_lok0 k
      | n + 1, h => omega)
    (tm := spec_l01All_t1) (dec := dec_lil) (enc := enc_lil) (ksIn := [0, 3, 4]) (ksOut := [3]) (ksRet := [2]) (k := k) (step := spec_l01All_w1 k) dec_enc_lil (fun p => by kernel_rfl) (fun s R K => by kernel_rfl) (spec_l01All_step1 k)
def spec_l01All_e (k : Nat) : Ent := (56, callOf [.pvi (some 30) 0 30] dec_l fun (p : (List Int)) R K => (spec_l01All k p).bind fun (b : (List Int)) => K ((fV (.slv 64) (enc_l b)).1, none))
theorem spec_l01All_run (k : Nat) (p : (List Int)) : runF (spec_l01All_C k) Try.f56 false (fL [.pvi (some 30) 0 30] (enc_l p)).1 (resK (.slv 64) dec_l) = spec_l01All k p := by
  kernel_rfl
theorem spec_l01All_ok (k : Nat) : EntOK Try.prog tab mvs (spec_l01All_e k) :=
  fn_ok (C := spec_l01All_C k) tabOK eqTabOK (spec_l01All_es k) rfl follows Try.func56 (by kernel_rfl) (by kernel_rfl) rfl (forall_getD _ 1 (0, Code.skip) (by kernel_rfl) fun i hi => by
      match i, hi with
      | 0, _ => exact spec_l01All_lok1 k
      | n + 1, h => omega)
    dec_enc_l dec_enc_l (spec_l01All_run k)

def dec_illlll (ps : List Pay) : Option (Int × (List Int) × (List Int) × (List Int) × (List Int) × (List Int)) := match ps with
  | [.i x1, .l x2, .l x3, .l x4, .l x5, .l x6] => some (x1, x2, x3, x4, x5, x6)
  | _ => none
def enc_illlll (p : Int × (List Int) × (List Int) × (List Int) × (List Int) × (List Int)) : List Pay := [.i p.1, .l p.2.1, .l p.2.2.1, .l p.2.2.2.1, .l p.2.2.2.2.1, .l p.2.2.2.2.2]
theorem dec_enc_illlll : ∀ (ps : List Pay) (p : Int × (List Int) × (List Int) × (List Int) × (List Int) × (List Int)), dec_illlll ps = some p → ps = enc_illlll p := by
  intro ps p h
  unfold dec_illlll at h
  split at h
  · injection h with h
    subst h
    rfl
  · cases h

def spec_MirrorLevels_t0 : StTm := ⟨53, [(2, .ptr 2 0 30), (3, .ptr 3 0 79), (4, .ptr 4 0 79), (6, .ptr 6 0 79), (7, .slw 7 64), (8, .int .i64)], [(2, 30, true, .ints), (3, 79, true, .ints), (4, 79, true, .ints), (6, 79, true, .ints), (7, 64, false, .ints)]⟩
def spec_MirrorLevels_t0_1 : StTm := ⟨53, [(2, .ptr 2 0 30), (4, .ptr 4 0 79), (6, .ptr 6 0 79)], [(2, 30, true, .ints), (4, 79, true, .ints), (6, 79, true, .ints)]⟩
def spec_MirrorLevels_w0 (k : Nat) (R : Type) (K : Ex → St → Option R) (rec : Int × (List Int) × (List Int) × (List Int) × (List Int) × (List Int) → Option R) (p : Int × (List Int) × (List Int) × (List Int) × (List Int) × (List Int)) : Option R := spec_MirrorLevels_s0 k (fun y1 y2 y3 => K (.exit 0) (fSt spec_MirrorLevels_t0_1 [.l y1, .l y2, .l y3])) (fun h1 h2 h3 h4 h5 h6 => rec (h1, h2, h3, h4, h5, h6)) p.1 p.2.1 p.2.2.1 p.2.2.2.1 p.2.2.2.2.1 p.2.2.2.2.2
def spec_MirrorLevels_c0 (k : Nat) : Lcall := lcallOf tab spec_MirrorLevels_t0 dec_illlll [2, 3, 4, 6, 7, 8] k (spec_MirrorLevels_w0 k)
def spec_MirrorLevels_C (k : Nat) : Cfg := ⟨tab, mvs, oraOf [spec_l06Ok_e k, spec_l01All_e k], loOf [(0, spec_MirrorLevels_c0 k)]⟩
theorem spec_MirrorLevels_es (k : Nat) : ∀ e ∈ ([spec_l06Ok_e k, spec_l01All_e k] : List Ent), EntOK Try.prog tab mvs e := by
  intro e he
  simp only [List.mem_cons, List.not_mem_nil, or_false] at he
  rcases he with rfl | rfl
  · exact spec_l06Ok_ok k
  · exact spec_l01All_ok k
theorem spec_MirrorLevels_step0 (k : Nat) (R : Type) (K : Ex → St → Option R) (g : St → Option R) (p : Int × (List Int) × (List Int) × (List Int) × (List Int) × (List Int)) : evCode (spec_MirrorLevels_C k) (loopP [0] (0, codeOf Try.f46)).2 (loopP [0] (0, codeOf Try.f46)).1 (fSt spec_MirrorLevels_t0 (enc_illlll p)) (loopK tab [2, 3, 4, 6, 7, 8] [2, 4, 6] [4, 5] g K) = spec_MirrorLevels_w0 k R K (fun p => g (fSt spec_MirrorLevels_t0 (enc_illlll p))) p := by
  kernel_rfl
theorem spec_MirrorLevels_lok0 (k : Nat) : LoopOK Try.prog tab (spec_MirrorLevels_C k).lo (loopP [0] (0, codeOf Try.f46)).1 (loopP [0] (0, codeOf Try.f46)).2 :=
  loopOK_of (C := spec_MirrorLevels_C k) tabOK eqTabOK (oraOf_ok (spec_MirrorLevels_es k)) (oraOf_nat (spec_MirrorLevels_es k)) follows (forall_getD _ 0 (0, Code.skip) (by kernel_rfl) fun i hi => by
      omega)
    (tm := spec_MirrorLevels_t0) (dec := dec_illlll) (enc := enc_illlll) (ksIn := [2, 3, 4, 6, 7, 8]) (ksOut := [2, 4, 6]) (ksRet := [4, 5]) (k := k) (step := spec_MirrorLevels_w0 k) dec_enc_illlll (fun p => by kernel_rfl) (fun s R K => by kernel_rfl) (spec_MirrorLevels_step0 k)
def spec_MirrorLevels_e (k : Nat) : Ent := (46, callOf [.agg 30, .agg 79] dec_ll fun (p : (List Int) × (List Int)) R K => (spec_MirrorLevels k p.1 p.2).bind fun (b : (List Int) × Int) => K ((fV (.tup [.agg 79, .int .i64]) (enc_li b)).1, none))
theorem spec_MirrorLevels_run (k : Nat) (p : (List Int) × (List Int)) : runF (spec_MirrorLevels_C k) Try.f46 false (fL [.agg 30, .agg 79] (enc_ll p)).1 (resK (.tup [.agg 79, .int .i64]) dec_li) = spec_MirrorLevels k p.1 p.2 := by
  kernel_rfl
theorem spec_MirrorLevels_ok (k : Nat) : EntOK Try.prog tab mvs (spec_MirrorLevels_e k) :=
  fn_ok (C := spec_MirrorLevels_C k) tabOK eqTabOK (spec_MirrorLevels_es k) rfl follows Try.func46 (by kernel_rfl) (by kernel_rfl) rfl (forall_getD _ 1 (0, Code.skip) (by kernel_rfl) fun i hi => by
      match i, hi with
      | 0, _ => exact spec_MirrorLevels_lok0 k
      | n + 1, h => omega)
    dec_enc_ll dec_enc_li (spec_MirrorLevels_run k)

def impl_Lawn_grass_C (k : Nat) : Cfg := ⟨tab, mvs, oraOf [impl_Lawn_is_e k], loOf []⟩
theorem impl_Lawn_grass_es (k : Nat) : ∀ e ∈ ([impl_Lawn_is_e k] : List Ent), EntOK Try.prog tab mvs e := by
  intro e he
  simp only [List.mem_cons, List.not_mem_nil, or_false] at he
  rcases he with rfl
  · exact impl_Lawn_is_ok k
def impl_Lawn_grass_e (k : Nat) : Ent := (89, callOf [.agg 30, .agg 64] dec_ll fun (p : (List Int) × (List Int)) R K => (impl_Lawn_grass k p.1 p.2).bind fun (b : Bool) => K ((fV (.bool) (enc_b b)).1, none))
theorem impl_Lawn_grass_run (k : Nat) (p : (List Int) × (List Int)) : runF (impl_Lawn_grass_C k) Try.f89 false (fL [.agg 30, .agg 64] (enc_ll p)).1 (resK (.bool) dec_b) = impl_Lawn_grass k p.1 p.2 := by
  kernel_rfl
theorem impl_Lawn_grass_ok (k : Nat) : EntOK Try.prog tab mvs (impl_Lawn_grass_e k) :=
  fn_ok (C := impl_Lawn_grass_C k) tabOK eqTabOK (impl_Lawn_grass_es k) rfl follows Try.func89 (by kernel_rfl) (by kernel_rfl) rfl (forall_getD _ 0 (0, Code.skip) (by kernel_rfl) fun i hi => by
      omega)
    dec_enc_ll dec_enc_b (impl_Lawn_grass_run k)

def dec_iiill (ps : List Pay) : Option (Int × Int × Int × (List Int) × (List Int)) := match ps with
  | [.i x1, .i x2, .i x3, .l x4, .l x5] => some (x1, x2, x3, x4, x5)
  | _ => none
def enc_iiill (p : Int × Int × Int × (List Int) × (List Int)) : List Pay := [.i p.1, .i p.2.1, .i p.2.2.1, .l p.2.2.2.1, .l p.2.2.2.2]
theorem dec_enc_iiill : ∀ (ps : List Pay) (p : Int × Int × Int × (List Int) × (List Int)), dec_iiill ps = some p → ps = enc_iiill p := by
  intro ps p h
  unfold dec_iiill at h
  split at h
  · injection h with h
    subst h
    rfl
  · cases h

def dec_ill (ps : List Pay) : Option (Int × (List Int) × (List Int)) := match ps with
  | [.i x1, .l x2, .l x3] => some (x1, x2, x3)
  | _ => none
def enc_ill (p : Int × (List Int) × (List Int)) : List Pay := [.i p.1, .l p.2.1, .l p.2.2]
theorem dec_enc_ill : ∀ (ps : List Pay) (p : Int × (List Int) × (List Int)), dec_ill ps = some p → ps = enc_ill p := by
  intro ps p h
  unfold dec_ill at h
  split at h
  · injection h with h
    subst h
    rfl
  · cases h

def impl_ValidLevels_t0 : StTm := ⟨41, [(2, .ptr 2 0 30), (3, .ptr 3 0 79), (5, .int .i8), (8, .int .i8), (11, .int .i8)], [(2, 30, true, .ints), (3, 79, true, .ints)]⟩
def impl_ValidLevels_t0_1 : StTm := ⟨41, [(4, .bool)], []⟩
def impl_ValidLevels_t0_2 : StTm := ⟨41, [(2, .ptr 2 0 30), (3, .ptr 3 0 79), (8, .int .i8)], [(2, 30, true, .ints), (3, 79, true, .ints)]⟩
def impl_ValidLevels_w0 (k : Nat) (R : Type) (K : Ex → St → Option R) (rec : Int × Int × Int × (List Int) × (List Int) → Option R) (p : Int × Int × Int × (List Int) × (List Int)) : Option R := impl_ValidLevels_s0 k (fun y1 => K .ret (fSt impl_ValidLevels_t0_1 [.b y1])) (fun y1 y2 y3 => K (.exit 2) (fSt impl_ValidLevels_t0_2 [.i y1, .l y2, .l y3])) (fun h1 h2 h3 h4 h5 => rec (h1, h2, h3, h4, h5)) p.1 p.2.1 p.2.2.1 p.2.2.2.1 p.2.2.2.2
def impl_ValidLevels_c0 (k : Nat) : Lcall := lcallOf tab impl_ValidLevels_t0 dec_iiill [2, 3, 5, 8, 11] k (impl_ValidLevels_w0 k)
def impl_ValidLevels_t1 : StTm := ⟨41, [(2, .ptr 2 0 30), (3, .ptr 3 0 79), (8, .int .i8)], [(2, 30, true, .ints), (3, 79, true, .ints)]⟩
def impl_ValidLevels_t1_1 : StTm := ⟨41, [(4, .bool)], []⟩
def impl_ValidLevels_t1_2 : StTm := ⟨41, [(2, .ptr 2 0 30)], [(2, 30, true, .ints)]⟩
def impl_ValidLevels_w1 (k : Nat) (R : Type) (K : Ex → St → Option R) (rec : Int × (List Int) × (List Int) → Option R) (p : Int × (List Int) × (List Int)) : Option R := impl_ValidLevels_s1 k (fun y1 => K .ret (fSt impl_ValidLevels_t1_1 [.b y1])) (fun y1 => K (.exit 0) (fSt impl_ValidLevels_t1_2 [.l y1])) (fun h1 h2 h3 => rec (h1, h2, h3)) p.1 p.2.1 p.2.2
def impl_ValidLevels_c1 (k : Nat) : Lcall := lcallOf tab impl_ValidLevels_t1 dec_ill [2, 3, 8] k (impl_ValidLevels_w1 k)
def impl_ValidLevels_C (k : Nat) : Cfg := ⟨tab, mvs, oraOf [impl_Lawn_grass_e k, impl_ValidLawn_e k], loOf [(2, impl_ValidLevels_c0 k), (0, impl_ValidLevels_c1 k)]⟩
theorem impl_ValidLevels_es (k : Nat) : ∀ e ∈ ([impl_Lawn_grass_e k, impl_ValidLawn_e k] : List Ent), EntOK Try.prog tab mvs e := by
  intro e he
  simp only [List.mem_cons, List.not_mem_nil, or_false] at he
  rcases he with rfl | rfl
  · exact impl_Lawn_grass_ok k
  · exact impl_ValidLawn_ok k
theorem impl_ValidLevels_step0 (k : Nat) (R : Type) (K : Ex → St → Option R) (g : St → Option R) (p : Int × Int × Int × (List Int) × (List Int)) : evCode (impl_ValidLevels_C k) (loopP [0, 0] (0, codeOf Try.f96)).2 (loopP [0, 0] (0, codeOf Try.f96)).1 (fSt impl_ValidLevels_t0 (enc_iiill p)) (loopK tab [2, 3, 5, 8, 11] [2, 3, 8] [4] g K) = impl_ValidLevels_w0 k R K (fun p => g (fSt impl_ValidLevels_t0 (enc_iiill p))) p := by
  kernel_rfl
theorem impl_ValidLevels_lok0 (k : Nat) : LoopOK Try.prog tab (impl_ValidLevels_C k).lo (loopP [0, 0] (0, codeOf Try.f96)).1 (loopP [0, 0] (0, codeOf Try.f96)).2 :=
  loopOK_of (C := impl_ValidLevels_C k) tabOK eqTabOK (oraOf_ok (impl_ValidLevels_es k)) (oraOf_nat (impl_ValidLevels_es k)) follows (forall_getD _ 0 (0, Code.skip) (by kernel_rfl) fun i hi => by
      omega)
    (tm := impl_ValidLevels_t0) (dec := dec_iiill) (enc := enc_iiill) (ksIn := [2, 3, 5, 8, 11]) (ksOut := [2, 3, 8]) (ksRet := [4]) (k := k) (step := impl_ValidLevels_w0 k) dec_enc_iiill (fun p => by kernel_rfl) (fun s R K => by kernel_rfl) (impl_ValidLevels_step0 k)
theorem impl_ValidLevels_step1 (k : Nat) (R : Type) (K : Ex → St → Option R) (g : St → Option R) (p : Int × (List Int) × (List Int)) : evCode (impl_ValidLevels_C k) (loopP [0] (0, codeOf Try.f96)).2 (loopP [0] (0, codeOf Try.f96)).1 (fSt impl_ValidLevels_t1 (enc_ill p)) (loopK tab [2, 3, 8] [2] [4] g K) = impl_ValidLevels_w1 k R K (fun p => g (fSt impl_ValidLevels_t1 (enc_ill p))) p := by
  kernel_rfl
theorem impl_ValidLevels_lok1 (k : Nat) : LoopOK Try.prog tab (impl_ValidLevels_C k).lo (loopP [0] (0, codeOf Try.f96)).1 (loopP [0] (0, codeOf Try.f96)).2 :=
  loopOK_of (C := impl_ValidLevels_C k) tabOK eqTabOK (oraOf_ok (impl_ValidLevels_es k)) (oraOf_nat (impl_ValidLevels_es k)) follows (forall_getD _ 1 (0, Code.skip) (by kernel_rfl) fun i hi => by
      match i, hi with
      | 0, _ => exact impl_ValidLevels_lok0 k
      | n + 1, h => omega)
    (tm := impl_ValidLevels_t1) (dec := dec_ill) (enc := enc_ill) (ksIn := [2, 3, 8]) (ksOut := [2]) (ksRet := [4]) (k := k) (step := impl_ValidLevels_w1 k) dec_enc_ill (fun p => by kernel_rfl) (fun s R K => by kernel_rfl) (impl_ValidLevels_step1 k)
def impl_ValidLevels_e (k : Nat) : Ent := (96, callOf [.agg 30, .agg 79] dec_ll fun (p : (List Int) × (List Int)) R K => (impl_ValidLevels k p.1 p.2).bind fun (b : Bool) => K ((fV (.bool) (enc_b b)).1, none))
theorem impl_ValidLevels_run (k : Nat) (p : (List Int) × (List Int)) : runF (impl_ValidLevels_C k) Try.f96 false (fL [.agg 30, .agg 79] (enc_ll p)).1 (resK (.bool) dec_b) = impl_ValidLevels k p.1 p.2 := by
  kernel_rfl
theorem impl_ValidLevels_ok (k : Nat) : EntOK Try.prog tab mvs (impl_ValidLevels_e k) :=
  fn_ok (C := impl_ValidLevels_C k) tabOK eqTabOK (impl_ValidLevels_es k) rfl follows Try.func96 (by kernel_rfl) (by kernel_rfl) rfl (forall_getD _ 1 (0, Code.skip) (by kernel_rfl) fun i hi => by
      match i, hi with
      | 0, _ => exact impl_ValidLevels_lok1 k
      | n + 1, h => omega)
    dec_enc_ll dec_enc_b (impl_ValidLevels_run k)

def impl_cellsCode_1_C (k : Nat) : Cfg := ⟨tab, mvs, oraOf [impl_Lawn_has_e k], loOf []⟩
theorem impl_cellsCode_1_es (k : Nat) : ∀ e ∈ ([impl_Lawn_has_e k] : List Ent), EntOK Try.prog tab mvs e := by
  intro e he
  simp only [List.mem_cons, List.not_mem_nil, or_false] at he
  rcases he with rfl
  · exact impl_Lawn_has_ok k
def impl_cellsCode_1_e (k : Nat) : Ent := (128, callOf [.agg 64, .pvi (some 30) 0 30] dec_ll fun (p : (List Int) × (List Int)) R K => (impl_cellsCode_1 k p.1 p.2).bind fun (b : Bool) => K ((fV (.bool) (enc_b b)).1, none))
theorem impl_cellsCode_1_run (k : Nat) (p : (List Int) × (List Int)) : runF (impl_cellsCode_1_C k) Try.f128 false (fL [.agg 64, .pvi (some 30) 0 30] (enc_ll p)).1 (resK (.bool) dec_b) = impl_cellsCode_1 k p.1 p.2 := by
  kernel_rfl
theorem impl_cellsCode_1_ok (k : Nat) : EntOK Try.prog tab mvs (impl_cellsCode_1_e k) :=
  fn_ok (C := impl_cellsCode_1_C k) tabOK eqTabOK (impl_cellsCode_1_es k) rfl follows Try.func128 (by kernel_rfl) (by kernel_rfl) rfl (forall_getD _ 0 (0, Code.skip) (by kernel_rfl) fun i hi => by
      omega)
    dec_enc_ll dec_enc_b (impl_cellsCode_1_run k)

def dec_lgii (ps : List Pay) : Option ((List Int) × (List Int → Option Bool) × Int × Int) := match ps with
  | [.l x1, .g x2, .i x3, .i x4] => some (x1, x2, x3, x4)
  | _ => none
def enc_lgii (p : (List Int) × (List Int → Option Bool) × Int × Int) : List Pay := [.l p.1, .g p.2.1, .i p.2.2.1, .i p.2.2.2]
theorem dec_enc_lgii : ∀ (ps : List Pay) (p : (List Int) × (List Int → Option Bool) × Int × Int), dec_lgii ps = some p → ps = enc_lgii p := by
  intro ps p h
  unfold dec_lgii at h
  split at h
  · injection h with h
    subst h
    rfl
  · cases h

def dec_lg (ps : List Pay) : Option ((List Int) × (List Int → Option Bool)) := match ps with
  | [.l x1, .g x2] => some (x1, x2)
  | _ => none
def enc_lg (p : (List Int) × (List Int → Option Bool)) : List Pay := [.l p.1, .g p.2]
theorem dec_enc_lg : ∀ (ps : List Pay) (p : (List Int) × (List Int → Option Bool)), dec_lg ps = some p → ps = enc_lg p := by
  intro ps p h
  unfold dec_lg at h
  split at h
  · injection h with h
    subst h
    rfl
  · cases h

def slices_IndexFunc_impl_Cell_t0 : StTm := ⟨19, [(0, .slv 64), (1, .cloB 64), (7, .int .i64), (8, .int .i64)], []⟩
def slices_IndexFunc_impl_Cell_t0_1 : StTm := ⟨19, [(4, .int .i64)], []⟩
def slices_IndexFunc_impl_Cell_t0_2 : StTm := ⟨19, [], []⟩
def slices_IndexFunc_impl_Cell_w0 (k : Nat) (R : Type) (K : Ex → St → Option R) (rec : (List Int) × (List Int → Option Bool) × Int × Int → Option R) (p : (List Int) × (List Int → Option Bool) × Int × Int) : Option R := slices_IndexFunc_impl_Cell_s0 k (fun y1 => K .ret (fSt slices_IndexFunc_impl_Cell_t0_1 [.i y1])) (K (.exit 0) (fSt slices_IndexFunc_impl_Cell_t0_2 [])) (fun h1 h2 h3 h4 => rec (h1, h2, h3, h4)) p.1 p.2.1 p.2.2.1 p.2.2.2
def slices_IndexFunc_impl_Cell_c0 (k : Nat) : Lcall := lcallOf tab slices_IndexFunc_impl_Cell_t0 dec_lgii [0, 1, 7, 8] k (slices_IndexFunc_impl_Cell_w0 k)
def slices_IndexFunc_impl_Cell_C (k : Nat) : Cfg := ⟨tab, mvs, oraOf [], loOf [(0, slices_IndexFunc_impl_Cell_c0 k)]⟩
theorem slices_IndexFunc_impl_Cell_es (k : Nat) : ∀ e ∈ ([] : List Ent), EntOK Try.prog tab mvs e := by
  intro e he
  simp at he
theorem slices_IndexFunc_impl_Cell_step0 (k : Nat) (R : Type) (K : Ex → St → Option R) (g : St → Option R) (p : (List Int) × (List Int → Option Bool) × Int × Int) : evCode (slices_IndexFunc_impl_Cell_C k) (loopP [0] (0, codeOf Try.f131)).2 (loopP [0] (0, codeOf Try.f131)).1 (fSt slices_IndexFunc_impl_Cell_t0 (enc_lgii p)) (loopK tab [0, 1, 7, 8] [] [4] g K) = slices_IndexFunc_impl_Cell_w0 k R K (fun p => g (fSt slices_IndexFunc_impl_Cell_t0 (enc_lgii p))) p := by
  kernel_rfl
theorem slices_IndexFunc_impl_Cell_lok0 (k : Nat) : LoopOK Try.prog tab (slices_IndexFunc_impl_Cell_C k).lo (loopP [0] (0, codeOf Try.f131)).1 (loopP [0] (0, codeOf Try.f131)).2 :=
  loopOK_of (C := slices_IndexFunc_impl_Cell_C k) tabOK eqTabOK (oraOf_ok (slices_IndexFunc_impl_Cell_es k)) (oraOf_nat (slices_IndexFunc_impl_Cell_es k)) follows (forall_getD _ 0 (0, Code.skip) (by kernel_rfl) fun i hi => by
      omega)
    (tm := slices_IndexFunc_impl_Cell_t0) (dec := dec_lgii) (enc := enc_lgii) (ksIn := [0, 1, 7, 8]) (ksOut := []) (ksRet := [4]) (k := k) (step := slices_IndexFunc_impl_Cell_w0 k) dec_enc_lgii (fun p => by kernel_rfl) (fun s R K => by kernel_rfl) (slices_IndexFunc_impl_Cell_step0 k)
def slices_IndexFunc_impl_Cell_e (k : Nat) : Ent := (131, callOf [.slv 64, .cloB 64] dec_lg fun (p : (List Int) × (List Int → Option Bool)) R K => (slices_IndexFunc_impl_Cell k p.1 p.2).bind fun (b : Int) => K ((fV (.int .i64) (enc_i b)).1, none))
theorem slices_IndexFunc_impl_Cell_run (k : Nat) (p : (List Int) × (List Int → Option Bool)) : runF (slices_IndexFunc_impl_Cell_C k) Try.f131 false (fL [.slv 64, .cloB 64] (enc_lg p)).1 (resK (.int .i64) dec_i) = slices_IndexFunc_impl_Cell k p.1 p.2 := by
  kernel_rfl
theorem slices_IndexFunc_impl_Cell_ok (k : Nat) : EntOK Try.prog tab mvs (slices_IndexFunc_impl_Cell_e k) :=
  fn_ok (C := slices_IndexFunc_impl_Cell_C k) tabOK eqTabOK (slices_IndexFunc_impl_Cell_es k) rfl follows Try.func131 (by kernel_rfl) (by kernel_rfl) rfl (forall_getD _ 1 (0, Code.skip) (by kernel_rfl) fun i hi => by
      match i, hi with
      | 0, _ => exact slices_IndexFunc_impl_Cell_lok0 k
      | n + 1, h => omega)
    dec_enc_lg dec_enc_i (slices_IndexFunc_impl_Cell_run k)

def slices_ContainsFunc_impl_Cell_C (k : Nat) : Cfg := ⟨tab, mvs, oraOf [slices_IndexFunc_impl_Cell_e k], loOf []⟩
theorem slices_ContainsFunc_impl_Cell_es (k : Nat) : ∀ e ∈ ([slices_IndexFunc_impl_Cell_e k] : List Ent), EntOK Try.prog tab mvs e := by
  intro e he
  simp only [List.mem_cons, List.not_mem_nil, or_false] at he
  rcases he with rfl
  · exact slices_IndexFunc_impl_Cell_ok k
def slices_ContainsFunc_impl_Cell_e (k : Nat) : Ent := (127, callOf [.slv 64, .cloB 64] dec_lg fun (p : (List Int) × (List Int → Option Bool)) R K => (slices_ContainsFunc_impl_Cell k p.1 p.2).bind fun (b : Bool) => K ((fV (.bool) (enc_b b)).1, none))
theorem slices_ContainsFunc_impl_Cell_run (k : Nat) (p : (List Int) × (List Int → Option Bool)) : runF (slices_ContainsFunc_impl_Cell_C k) Try.f127 false (fL [.slv 64, .cloB 64] (enc_lg p)).1 (resK (.bool) dec_b) = slices_ContainsFunc_impl_Cell k p.1 p.2 := by
  kernel_rfl
theorem slices_ContainsFunc_impl_Cell_ok (k : Nat) : EntOK Try.prog tab mvs (slices_ContainsFunc_impl_Cell_e k) :=
  fn_ok (C := slices_ContainsFunc_impl_Cell_C k) tabOK eqTabOK (slices_ContainsFunc_impl_Cell_es k) rfl follows Try.func127 (by kernel_rfl) (by kernel_rfl) rfl (forall_getD _ 0 (0, Code.skip) (by kernel_rfl) fun i hi => by
      omega)
    dec_enc_lg dec_enc_b (slices_ContainsFunc_impl_Cell_run k)

def impl_cellsCode_C (k : Nat) : Cfg := ⟨tab, mvs, oraOf [impl_ValidLawn_e k, impl_cellsCode_1_e k, slices_ContainsFunc_impl_Cell_e k], loOf []⟩
theorem impl_cellsCode_es (k : Nat) : ∀ e ∈ ([impl_ValidLawn_e k, impl_cellsCode_1_e k, slices_ContainsFunc_impl_Cell_e k] : List Ent), EntOK Try.prog tab mvs e := by
  intro e he
  simp only [List.mem_cons, List.not_mem_nil, or_false] at he
  rcases he with rfl | rfl | rfl
  · exact impl_ValidLawn_ok k
  · exact impl_cellsCode_1_ok k
  · exact slices_ContainsFunc_impl_Cell_ok k
def impl_cellsCode_e (k : Nat) : Ent := (83, callOf [.agg 30, .slv 64] dec_ll fun (p : (List Int) × (List Int)) R K => (impl_cellsCode k p.1 p.2).bind fun (b : Int) => K ((fV (.int .i64) (enc_i b)).1, none))
theorem impl_cellsCode_run (k : Nat) (p : (List Int) × (List Int)) : runF (impl_cellsCode_C k) Try.f83 false (fL [.agg 30, .slv 64] (enc_ll p)).1 (resK (.int .i64) dec_i) = impl_cellsCode k p.1 p.2 := by
  kernel_rfl
theorem impl_cellsCode_ok (k : Nat) : EntOK Try.prog tab mvs (impl_cellsCode_e k) :=
  fn_ok (C := impl_cellsCode_C k) tabOK eqTabOK (impl_cellsCode_es k) rfl follows Try.func83 (by kernel_rfl) (by kernel_rfl) rfl (forall_getD _ 0 (0, Code.skip) (by kernel_rfl) fun i hi => by
      omega)
    dec_enc_ll dec_enc_i (impl_cellsCode_run k)

def dec_lll (ps : List Pay) : Option ((List Int) × (List Int) × (List Int)) := match ps with
  | [.l x1, .l x2, .l x3] => some (x1, x2, x3)
  | _ => none
def enc_lll (p : (List Int) × (List Int) × (List Int)) : List Pay := [.l p.1, .l p.2.1, .l p.2.2]
theorem dec_enc_lll : ∀ (ps : List Pay) (p : (List Int) × (List Int) × (List Int)), dec_lll ps = some p → ps = enc_lll p := by
  intro ps p h
  unfold dec_lll at h
  split at h
  · injection h with h
    subst h
    rfl
  · cases h

def impl_soilCode_C (k : Nat) : Cfg := ⟨tab, mvs, oraOf [impl_ValidLevels_e k, impl_cellsCode_e k], loOf []⟩
theorem impl_soilCode_es (k : Nat) : ∀ e ∈ ([impl_ValidLevels_e k, impl_cellsCode_e k] : List Ent), EntOK Try.prog tab mvs e := by
  intro e he
  simp only [List.mem_cons, List.not_mem_nil, or_false] at he
  rcases he with rfl | rfl
  · exact impl_ValidLevels_ok k
  · exact impl_cellsCode_ok k
def impl_soilCode_e (k : Nat) : Ent := (94, callOf [.agg 30, .agg 79, .slv 64] dec_lll fun (p : (List Int) × (List Int) × (List Int)) R K => (impl_soilCode k p.1 p.2.1 p.2.2).bind fun (b : Int) => K ((fV (.int .i64) (enc_i b)).1, none))
theorem impl_soilCode_run (k : Nat) (p : (List Int) × (List Int) × (List Int)) : runF (impl_soilCode_C k) Try.f94 false (fL [.agg 30, .agg 79, .slv 64] (enc_lll p)).1 (resK (.int .i64) dec_i) = impl_soilCode k p.1 p.2.1 p.2.2 := by
  kernel_rfl
theorem impl_soilCode_ok (k : Nat) : EntOK Try.prog tab mvs (impl_soilCode_e k) :=
  fn_ok (C := impl_soilCode_C k) tabOK eqTabOK (impl_soilCode_es k) rfl follows Try.func94 (by kernel_rfl) (by kernel_rfl) rfl (forall_getD _ 0 (0, Code.skip) (by kernel_rfl) fun i hi => by
      omega)
    dec_enc_lll dec_enc_i (impl_soilCode_run k)

def dec_iiiiill (ps : List Pay) : Option (Int × Int × Int × Int × Int × (List Int) × (List Int)) := match ps with
  | [.i x1, .i x2, .i x3, .i x4, .i x5, .l x6, .l x7] => some (x1, x2, x3, x4, x5, x6, x7)
  | _ => none
def enc_iiiiill (p : Int × Int × Int × Int × Int × (List Int) × (List Int)) : List Pay := [.i p.1, .i p.2.1, .i p.2.2.1, .i p.2.2.2.1, .i p.2.2.2.2.1, .l p.2.2.2.2.2.1, .l p.2.2.2.2.2.2]
theorem dec_enc_iiiiill : ∀ (ps : List Pay) (p : Int × Int × Int × Int × Int × (List Int) × (List Int)), dec_iiiiill ps = some p → ps = enc_iiiiill p := by
  intro ps p h
  unfold dec_iiiiill at h
  split at h
  · injection h with h
    subst h
    rfl
  · cases h

def dec_iill (ps : List Pay) : Option (Int × Int × (List Int) × (List Int)) := match ps with
  | [.i x1, .i x2, .l x3, .l x4] => some (x1, x2, x3, x4)
  | _ => none
def enc_iill (p : Int × Int × (List Int) × (List Int)) : List Pay := [.i p.1, .i p.2.1, .l p.2.2.1, .l p.2.2.2]
theorem dec_enc_iill : ∀ (ps : List Pay) (p : Int × Int × (List Int) × (List Int)), dec_iill ps = some p → ps = enc_iill p := by
  intro ps p h
  unfold dec_iill at h
  split at h
  · injection h with h
    subst h
    rfl
  · cases h

def impl_Lawn_all_t0 : StTm := ⟨26, [(1, .ptr 1 0 30), (3, .slw 3 64), (4, .int .i8), (8, .int .i8), (9, .int .i8), (13, .int .i8), (14, .int .i8)], [(1, 30, true, .ints), (3, 64, false, .ints)]⟩
def impl_Lawn_all_t0_1 : StTm := ⟨26, [(1, .ptr 1 0 30), (3, .slw 3 64), (8, .int .i8), (9, .int .i8)], [(1, 30, true, .ints), (3, 64, false, .ints)]⟩
def impl_Lawn_all_w0 (k : Nat) (R : Type) (K : Ex → St → Option R) (rec : Int × Int × Int × Int × Int × (List Int) × (List Int) → Option R) (p : Int × Int × Int × Int × Int × (List Int) × (List Int)) : Option R := impl_Lawn_all_s0 k (fun y1 y2 y3 y4 => K (.exit 2) (fSt impl_Lawn_all_t0_1 [.i y1, .i y2, .l y3, .l y4])) (fun h1 h2 h3 h4 h5 h6 h7 => rec (h1, h2, h3, h4, h5, h6, h7)) p.1 p.2.1 p.2.2.1 p.2.2.2.1 p.2.2.2.2.1 p.2.2.2.2.2.1 p.2.2.2.2.2.2
def impl_Lawn_all_c0 (k : Nat) : Lcall := lcallOf tab impl_Lawn_all_t0 dec_iiiiill [1, 3, 4, 8, 9, 13, 14] k (impl_Lawn_all_w0 k)
def impl_Lawn_all_t1 : StTm := ⟨26, [(1, .ptr 1 0 30), (3, .slw 3 64), (8, .int .i8), (9, .int .i8)], [(1, 30, true, .ints), (3, 64, false, .ints)]⟩
def impl_Lawn_all_t1_1 : StTm := ⟨26, [(3, .slw 3 64)], [(3, 64, false, .ints)]⟩
def impl_Lawn_all_w1 (k : Nat) (R : Type) (K : Ex → St → Option R) (rec : Int × Int × (List Int) × (List Int) → Option R) (p : Int × Int × (List Int) × (List Int)) : Option R := impl_Lawn_all_s1 k (fun y1 => K (.exit 0) (fSt impl_Lawn_all_t1_1 [.l y1])) (fun h1 h2 h3 h4 => rec (h1, h2, h3, h4)) p.1 p.2.1 p.2.2.1 p.2.2.2
def impl_Lawn_all_c1 (k : Nat) : Lcall := lcallOf tab impl_Lawn_all_t1 dec_iill [1, 3, 8, 9] k (impl_Lawn_all_w1 k)
def impl_Lawn_all_C (k : Nat) : Cfg := ⟨tab, mvs, oraOf [], loOf [(2, impl_Lawn_all_c0 k), (0, impl_Lawn_all_c1 k)]⟩
theorem impl_Lawn_all_es (k : Nat) : ∀ e ∈ ([] : List Ent), EntOK Try.prog tab mvs e := by
  intro e he
  simp at he
theorem impl_Lawn_all_step0 (k : Nat) (R : Type) (K : Ex → St → Option R) (g : St → Option R) (p : Int × Int × Int × Int × Int × (List Int) × (List Int)) : evCode (impl_Lawn_all_C k) (loopP [0, 0] (0, codeOf Try.f95)).2 (loopP [0, 0] (0, codeOf Try.f95)).1 (fSt impl_Lawn_all_t0 (enc_iiiiill p)) (loopK tab [1, 3, 4, 8, 9, 13, 14] [1, 3, 8, 9] [2] g K) = impl_Lawn_all_w0 k R K (fun p => g (fSt impl_Lawn_all_t0 (enc_iiiiill p))) p := by
  kernel_rfl
theorem impl_Lawn_all_lok0 (k : Nat) : LoopOK Try.prog tab (impl_Lawn_all_C k).lo (loopP [0, 0] (0, codeOf Try.f95)).1 (loopP [0, 0] (0, codeOf Try.f95)).2 :=
  loopOK_of (C := impl_Lawn_all_C k) tabOK eqTabOK (oraOf_ok (impl_Lawn_all_es k)) (oraOf_nat (impl_Lawn_all_es k)) follows (forall_getD _ 0 (0, Code.skip) (by kernel_rfl) fun i hi => by
      omega)
    (tm := impl_Lawn_all_t0) (dec := dec_iiiiill) (enc := enc_iiiiill) (ksIn := [1, 3, 4, 8, 9, 13, 14]) (ksOut := [1, 3, 8, 9]) (ksRet := [2]) (k := k) (step := impl_Lawn_all_w0 k) dec_enc_iiiiill (fun p => by kernel_rfl) (fun s R K => by kernel_rfl) (impl_Lawn_all_step0 k)
theorem impl_Lawn_all_step1 (k : Nat) (R : Type) (K : Ex → St → Option R) (g : St → Option R) (p : Int × Int × (List Int) × (List Int)) : evCode (impl_Lawn_all_C k) (loopP [0] (0, codeOf Try.f95)).2 (loopP [0] (0, codeOf Try.f95)).1 (fSt impl_Lawn_all_t1 (enc_iill p)) (loopK tab [1, 3, 8, 9] [3] [2] g K) = impl_Lawn_all_w1 k R K (fun p => g (fSt impl_Lawn_all_t1 (enc_iill p))) p := by
  kernel_rfl
theorem impl_Lawn_all_lok1 (k : Nat) : LoopOK Try.prog tab (impl_Lawn_all_C k).lo (loopP [0] (0, codeOf Try.f95)).1 (loopP [0] (0, codeOf Try.f95)).2 :=
  loopOK_of (C := impl_Lawn_all_C k) tabOK eqTabOK (oraOf_ok (impl_Lawn_all_es k)) (oraOf_nat (impl_Lawn_all_es k)) follows (forall_getD _ 1 (0, Code.skip) (by kernel_rfl) fun i hi => by
      match i, hi with
      | 0, _ => exact impl_Lawn_all_lok0 k
      | n + 1, h => omega)
    (tm := impl_Lawn_all_t1) (dec := dec_iill) (enc := enc_iill) (ksIn := [1, 3, 8, 9]) (ksOut := [3]) (ksRet := [2]) (k := k) (step := impl_Lawn_all_w1 k) dec_enc_iill (fun p => by kernel_rfl) (fun s R K => by kernel_rfl) (impl_Lawn_all_step1 k)
def impl_Lawn_all_e (k : Nat) : Ent := (95, callOf [.agg 30] dec_l fun (p : (List Int)) R K => (impl_Lawn_all k p).bind fun (b : (List Int)) => K ((fV (.slv 64) (enc_l b)).1, none))
theorem impl_Lawn_all_run (k : Nat) (p : (List Int)) : runF (impl_Lawn_all_C k) Try.f95 false (fL [.agg 30] (enc_l p)).1 (resK (.slv 64) dec_l) = impl_Lawn_all k p := by
  kernel_rfl
theorem impl_Lawn_all_ok (k : Nat) : EntOK Try.prog tab mvs (impl_Lawn_all_e k) :=
  fn_ok (C := impl_Lawn_all_C k) tabOK eqTabOK (impl_Lawn_all_es k) rfl follows Try.func95 (by kernel_rfl) (by kernel_rfl) rfl (forall_getD _ 1 (0, Code.skip) (by kernel_rfl) fun i hi => by
      match i, hi with
      | 0, _ => exact impl_Lawn_all_lok1 k
      | n + 1, h => omega)
    dec_enc_l dec_enc_l (impl_Lawn_all_run k)

def dec_iilllll (ps : List Pay) : Option (Int × Int × (List Int) × (List Int) × (List Int) × (List Int) × (List Int)) := match ps with
  | [.i x1, .i x2, .l x3, .l x4, .l x5, .l x6, .l x7] => some (x1, x2, x3, x4, x5, x6, x7)
  | _ => none
def enc_iilllll (p : Int × Int × (List Int) × (List Int) × (List Int) × (List Int) × (List Int)) : List Pay := [.i p.1, .i p.2.1, .l p.2.2.1, .l p.2.2.2.1, .l p.2.2.2.2.1, .l p.2.2.2.2.2.1, .l p.2.2.2.2.2.2]
theorem dec_enc_iilllll : ∀ (ps : List Pay) (p : Int × Int × (List Int) × (List Int) × (List Int) × (List Int) × (List Int)), dec_iilllll ps = some p → ps = enc_iilllll p := by
  intro ps p h
  unfold dec_iilllll at h
  split at h
  · injection h with h
    subst h
    rfl
  · cases h

def impl_MirrorLevels_t0 : StTm := ⟨49, [(2, .ptr 2 0 30), (3, .ptr 3 0 79), (4, .ptr 4 0 79), (7, .ptr 7 0 79), (19, .slw 19 64), (20, .int .i64), (21, .int .i64)], [(2, 30, true, .ints), (3, 79, true, .ints), (4, 79, true, .ints), (7, 79, true, .ints), (19, 64, false, .ints)]⟩
def impl_MirrorLevels_t0_1 : StTm := ⟨49, [(2, .ptr 2 0 30), (4, .ptr 4 0 79), (7, .ptr 7 0 79)], [(2, 30, true, .ints), (4, 79, true, .ints), (7, 79, true, .ints)]⟩
def impl_MirrorLevels_w0 (k : Nat) (R : Type) (K : Ex → St → Option R) (rec : Int × Int × (List Int) × (List Int) × (List Int) × (List Int) × (List Int) → Option R) (p : Int × Int × (List Int) × (List Int) × (List Int) × (List Int) × (List Int)) : Option R := impl_MirrorLevels_s0 k (fun y1 y2 y3 => K (.exit 0) (fSt impl_MirrorLevels_t0_1 [.l y1, .l y2, .l y3])) (fun h1 h2 h3 h4 h5 h6 h7 => rec (h1, h2, h3, h4, h5, h6, h7)) p.1 p.2.1 p.2.2.1 p.2.2.2.1 p.2.2.2.2.1 p.2.2.2.2.2.1 p.2.2.2.2.2.2
def impl_MirrorLevels_c0 (k : Nat) : Lcall := lcallOf tab impl_MirrorLevels_t0 dec_iilllll [2, 3, 4, 7, 19, 20, 21] k (impl_MirrorLevels_w0 k)
def impl_MirrorLevels_C (k : Nat) : Cfg := ⟨tab, mvs, oraOf [impl_soilCode_e k, impl_Lawn_all_e k, impl_ValidLevels_e k], loOf [(0, impl_MirrorLevels_c0 k)]⟩
theorem impl_MirrorLevels_es (k : Nat) : ∀ e ∈ ([impl_soilCode_e k, impl_Lawn_all_e k, impl_ValidLevels_e k] : List Ent), EntOK Try.prog tab mvs e := by
  intro e he
  simp only [List.mem_cons, List.not_mem_nil, or_false] at he
  rcases he with rfl | rfl | rfl
  · exact impl_soilCode_ok k
  · exact impl_Lawn_all_ok k
  · exact impl_ValidLevels_ok k
theorem impl_MirrorLevels_step0 (k : Nat) (R : Type) (K : Ex → St → Option R) (g : St → Option R) (p : Int × Int × (List Int) × (List Int) × (List Int) × (List Int) × (List Int)) : evCode (impl_MirrorLevels_C k) (loopP [0] (0, codeOf Try.f48)).2 (loopP [0] (0, codeOf Try.f48)).1 (fSt impl_MirrorLevels_t0 (enc_iilllll p)) (loopK tab [2, 3, 4, 7, 19, 20, 21] [2, 4, 7] [4, 5] g K) = impl_MirrorLevels_w0 k R K (fun p => g (fSt impl_MirrorLevels_t0 (enc_iilllll p))) p := by
  kernel_rfl
theorem impl_MirrorLevels_lok0 (k : Nat) : LoopOK Try.prog tab (impl_MirrorLevels_C k).lo (loopP [0] (0, codeOf Try.f48)).1 (loopP [0] (0, codeOf Try.f48)).2 :=
  loopOK_of (C := impl_MirrorLevels_C k) tabOK eqTabOK (oraOf_ok (impl_MirrorLevels_es k)) (oraOf_nat (impl_MirrorLevels_es k)) follows (forall_getD _ 0 (0, Code.skip) (by kernel_rfl) fun i hi => by
      omega)
    (tm := impl_MirrorLevels_t0) (dec := dec_iilllll) (enc := enc_iilllll) (ksIn := [2, 3, 4, 7, 19, 20, 21]) (ksOut := [2, 4, 7]) (ksRet := [4, 5]) (k := k) (step := impl_MirrorLevels_w0 k) dec_enc_iilllll (fun p => by kernel_rfl) (fun s R K => by kernel_rfl) (impl_MirrorLevels_step0 k)
def impl_MirrorLevels_e (k : Nat) : Ent := (48, callOf [.agg 30, .agg 79] dec_ll fun (p : (List Int) × (List Int)) R K => (impl_MirrorLevels k p.1 p.2).bind fun (b : (List Int) × Int) => K ((fV (.tup [.agg 79, .int .i64]) (enc_li b)).1, none))
theorem impl_MirrorLevels_run (k : Nat) (p : (List Int) × (List Int)) : runF (impl_MirrorLevels_C k) Try.f48 false (fL [.agg 30, .agg 79] (enc_ll p)).1 (resK (.tup [.agg 79, .int .i64]) dec_li) = impl_MirrorLevels k p.1 p.2 := by
  kernel_rfl
theorem impl_MirrorLevels_ok (k : Nat) : EntOK Try.prog tab mvs (impl_MirrorLevels_e k) :=
  fn_ok (C := impl_MirrorLevels_C k) tabOK eqTabOK (impl_MirrorLevels_es k) rfl follows Try.func48 (by kernel_rfl) (by kernel_rfl) rfl (forall_getD _ 1 (0, Code.skip) (by kernel_rfl) fun i hi => by
      match i, hi with
      | 0, _ => exact impl_MirrorLevels_lok0 k
      | n + 1, h => omega)
    dec_enc_ll dec_enc_li (impl_MirrorLevels_run k)

def laws_eqInt8A10_t0 : StTm := ⟨17, [(2, .ptr 2 0 77), (3, .ptr 3 0 77), (5, .int .i64)], [(2, 77, true, .ints), (3, 77, true, .ints)]⟩
def laws_eqInt8A10_t0_1 : StTm := ⟨17, [(4, .bool)], []⟩
def laws_eqInt8A10_t0_2 : StTm := ⟨17, [], []⟩
def laws_eqInt8A10_w0 (k : Nat) (R : Type) (K : Ex → St → Option R) (rec : Int × (List Int) × (List Int) → Option R) (p : Int × (List Int) × (List Int)) : Option R := laws_eqInt8A10_s0 k (fun y1 => K .ret (fSt laws_eqInt8A10_t0_1 [.b y1])) (K (.exit 0) (fSt laws_eqInt8A10_t0_2 [])) (fun h1 h2 h3 => rec (h1, h2, h3)) p.1 p.2.1 p.2.2
def laws_eqInt8A10_c0 (k : Nat) : Lcall := lcallOf tab laws_eqInt8A10_t0 dec_ill [2, 3, 5] k (laws_eqInt8A10_w0 k)
def laws_eqInt8A10_C (k : Nat) : Cfg := ⟨tab, mvs, oraOf [], loOf [(0, laws_eqInt8A10_c0 k)]⟩
theorem laws_eqInt8A10_es (k : Nat) : ∀ e ∈ ([] : List Ent), EntOK Try.prog tab mvs e := by
  intro e he
  simp at he
theorem laws_eqInt8A10_step0 (k : Nat) (R : Type) (K : Ex → St → Option R) (g : St → Option R) (p : Int × (List Int) × (List Int)) : evCode (laws_eqInt8A10_C k) (loopP [0] (0, codeOf Try.f97)).2 (loopP [0] (0, codeOf Try.f97)).1 (fSt laws_eqInt8A10_t0 (enc_ill p)) (loopK tab [2, 3, 5] [] [4] g K) = laws_eqInt8A10_w0 k R K (fun p => g (fSt laws_eqInt8A10_t0 (enc_ill p))) p := by
  kernel_rfl
theorem laws_eqInt8A10_lok0 (k : Nat) : LoopOK Try.prog tab (laws_eqInt8A10_C k).lo (loopP [0] (0, codeOf Try.f97)).1 (loopP [0] (0, codeOf Try.f97)).2 :=
  loopOK_of (C := laws_eqInt8A10_C k) tabOK eqTabOK (oraOf_ok (laws_eqInt8A10_es k)) (oraOf_nat (laws_eqInt8A10_es k)) follows (forall_getD _ 0 (0, Code.skip) (by kernel_rfl) fun i hi => by
      omega)
    (tm := laws_eqInt8A10_t0) (dec := dec_ill) (enc := enc_ill) (ksIn := [2, 3, 5]) (ksOut := []) (ksRet := [4]) (k := k) (step := laws_eqInt8A10_w0 k) dec_enc_ill (fun p => by kernel_rfl) (fun s R K => by kernel_rfl) (laws_eqInt8A10_step0 k)
def laws_eqInt8A10_e (k : Nat) : Ent := (97, callOf [.agg 77, .agg 77] dec_ll fun (p : (List Int) × (List Int)) R K => (laws_eqInt8A10 k p.1 p.2).bind fun (b : Bool) => K ((fV (.bool) (enc_b b)).1, none))
theorem laws_eqInt8A10_run (k : Nat) (p : (List Int) × (List Int)) : runF (laws_eqInt8A10_C k) Try.f97 false (fL [.agg 77, .agg 77] (enc_ll p)).1 (resK (.bool) dec_b) = laws_eqInt8A10 k p.1 p.2 := by
  kernel_rfl
theorem laws_eqInt8A10_ok (k : Nat) : EntOK Try.prog tab mvs (laws_eqInt8A10_e k) :=
  fn_ok (C := laws_eqInt8A10_C k) tabOK eqTabOK (laws_eqInt8A10_es k) rfl follows Try.func97 (by kernel_rfl) (by kernel_rfl) rfl (forall_getD _ 1 (0, Code.skip) (by kernel_rfl) fun i hi => by
      match i, hi with
      | 0, _ => exact laws_eqInt8A10_lok0 k
      | n + 1, h => omega)
    dec_enc_ll dec_enc_b (laws_eqInt8A10_run k)

def laws_eqLevels_t0 : StTm := ⟨18, [(2, .ptr 2 0 79), (3, .ptr 3 0 79), (5, .int .i64)], [(2, 79, true, .ints), (3, 79, true, .ints)]⟩
def laws_eqLevels_t0_1 : StTm := ⟨18, [(4, .bool)], []⟩
def laws_eqLevels_t0_2 : StTm := ⟨18, [], []⟩
def laws_eqLevels_w0 (k : Nat) (R : Type) (K : Ex → St → Option R) (rec : Int × (List Int) × (List Int) → Option R) (p : Int × (List Int) × (List Int)) : Option R := laws_eqLevels_s0 k (fun y1 => K .ret (fSt laws_eqLevels_t0_1 [.b y1])) (K (.exit 0) (fSt laws_eqLevels_t0_2 [])) (fun h1 h2 h3 => rec (h1, h2, h3)) p.1 p.2.1 p.2.2
def laws_eqLevels_c0 (k : Nat) : Lcall := lcallOf tab laws_eqLevels_t0 dec_ill [2, 3, 5] k (laws_eqLevels_w0 k)
def laws_eqLevels_C (k : Nat) : Cfg := ⟨tab, mvs, oraOf [laws_eqInt8A10_e k], loOf [(0, laws_eqLevels_c0 k)]⟩
theorem laws_eqLevels_es (k : Nat) : ∀ e ∈ ([laws_eqInt8A10_e k] : List Ent), EntOK Try.prog tab mvs e := by
  intro e he
  simp only [List.mem_cons, List.not_mem_nil, or_false] at he
  rcases he with rfl
  · exact laws_eqInt8A10_ok k
theorem laws_eqLevels_step0 (k : Nat) (R : Type) (K : Ex → St → Option R) (g : St → Option R) (p : Int × (List Int) × (List Int)) : evCode (laws_eqLevels_C k) (loopP [0] (0, codeOf Try.f49)).2 (loopP [0] (0, codeOf Try.f49)).1 (fSt laws_eqLevels_t0 (enc_ill p)) (loopK tab [2, 3, 5] [] [4] g K) = laws_eqLevels_w0 k R K (fun p => g (fSt laws_eqLevels_t0 (enc_ill p))) p := by
  kernel_rfl
theorem laws_eqLevels_lok0 (k : Nat) : LoopOK Try.prog tab (laws_eqLevels_C k).lo (loopP [0] (0, codeOf Try.f49)).1 (loopP [0] (0, codeOf Try.f49)).2 :=
  loopOK_of (C := laws_eqLevels_C k) tabOK eqTabOK (oraOf_ok (laws_eqLevels_es k)) (oraOf_nat (laws_eqLevels_es k)) follows (forall_getD _ 0 (0, Code.skip) (by kernel_rfl) fun i hi => by
      omega)
    (tm := laws_eqLevels_t0) (dec := dec_ill) (enc := enc_ill) (ksIn := [2, 3, 5]) (ksOut := []) (ksRet := [4]) (k := k) (step := laws_eqLevels_w0 k) dec_enc_ill (fun p => by kernel_rfl) (fun s R K => by kernel_rfl) (laws_eqLevels_step0 k)
def laws_eqLevels_e (k : Nat) : Ent := (49, callOf [.agg 79, .agg 79] dec_ll fun (p : (List Int) × (List Int)) R K => (laws_eqLevels k p.1 p.2).bind fun (b : Bool) => K ((fV (.bool) (enc_b b)).1, none))
theorem laws_eqLevels_run (k : Nat) (p : (List Int) × (List Int)) : runF (laws_eqLevels_C k) Try.f49 false (fL [.agg 79, .agg 79] (enc_ll p)).1 (resK (.bool) dec_b) = laws_eqLevels k p.1 p.2 := by
  kernel_rfl
theorem laws_eqLevels_ok (k : Nat) : EntOK Try.prog tab mvs (laws_eqLevels_e k) :=
  fn_ok (C := laws_eqLevels_C k) tabOK eqTabOK (laws_eqLevels_es k) rfl follows Try.func49 (by kernel_rfl) (by kernel_rfl) rfl (forall_getD _ 1 (0, Code.skip) (by kernel_rfl) fun i hi => by
      match i, hi with
      | 0, _ => exact laws_eqLevels_lok0 k
      | n + 1, h => omega)
    dec_enc_ll dec_enc_b (laws_eqLevels_run k)

def laws_FnExactMirrorLevels_C (k : Nat) : Cfg := ⟨tab, mvs, oraOf [laws_toLawn_e k, laws_toLevels_e k, spec_MirrorLevels_e k, impl_MirrorLevels_e k, laws_eqLevels_e k], loOf []⟩
theorem laws_FnExactMirrorLevels_es (k : Nat) : ∀ e ∈ ([laws_toLawn_e k, laws_toLevels_e k, spec_MirrorLevels_e k, impl_MirrorLevels_e k, laws_eqLevels_e k] : List Ent), EntOK Try.prog tab mvs e := by
  intro e he
  simp only [List.mem_cons, List.not_mem_nil, or_false] at he
  rcases he with rfl | rfl | rfl | rfl | rfl
  · exact laws_toLawn_ok k
  · exact laws_toLevels_ok k
  · exact spec_MirrorLevels_ok k
  · exact impl_MirrorLevels_ok k
  · exact laws_eqLevels_ok k
def laws_FnExactMirrorLevels_e (k : Nat) : Ent := (9, callOf [.agg 26, .agg 78] dec_ll fun (p : (List Int) × (List Int)) R K => (laws_FnExactMirrorLevels k p.1 p.2).bind fun (b : Bool) => K ((fV (.bool) (enc_b b)).1, none))
theorem laws_FnExactMirrorLevels_run (k : Nat) (p : (List Int) × (List Int)) : runF (laws_FnExactMirrorLevels_C k) Try.f9 false (fL [.agg 26, .agg 78] (enc_ll p)).1 (resK (.bool) dec_b) = laws_FnExactMirrorLevels k p.1 p.2 := by
  kernel_rfl
theorem laws_FnExactMirrorLevels_ok (k : Nat) : EntOK Try.prog tab mvs (laws_FnExactMirrorLevels_e k) :=
  fn_ok (C := laws_FnExactMirrorLevels_C k) tabOK eqTabOK (laws_FnExactMirrorLevels_es k) rfl follows Try.func9 (by kernel_rfl) (by kernel_rfl) rfl (forall_getD _ 0 (0, Code.skip) (by kernel_rfl) fun i hi => by
      omega)
    dec_enc_ll dec_enc_b (laws_FnExactMirrorLevels_run k)

def dec_llb (ps : List Pay) : Option ((List Int) × (List Int) × Bool) := match ps with
  | [.l x1, .l x2, .b x3] => some (x1, x2, x3)
  | _ => none
def enc_llb (p : (List Int) × (List Int) × Bool) : List Pay := [.l p.1, .l p.2.1, .b p.2.2]
theorem dec_enc_llb : ∀ (ps : List Pay) (p : (List Int) × (List Int) × Bool), dec_llb ps = some p → ps = enc_llb p := by
  intro ps p h
  unfold dec_llb at h
  split at h
  · injection h with h
    subst h
    rfl
  · cases h

def spec_l06Asked_C (k : Nat) : Cfg := ⟨tab, mvs, oraOf [spec_l06Ok_e k], loOf []⟩
theorem spec_l06Asked_es (k : Nat) : ∀ e ∈ ([spec_l06Ok_e k] : List Ent), EntOK Try.prog tab mvs e := by
  intro e he
  simp only [List.mem_cons, List.not_mem_nil, or_false] at he
  rcases he with rfl
  · exact spec_l06Ok_ok k
def spec_l06Asked_e (k : Nat) : Ent := (99, callOf [.pvi (some 30) 0 30, .pvi (some 79) 0 79, .bool] dec_llb fun (p : (List Int) × (List Int) × Bool) R K => (spec_l06Asked k p.1 p.2.1 p.2.2).bind fun (b : Int) => K ((fV (.int .i64) (enc_i b)).1, none))
theorem spec_l06Asked_run (k : Nat) (p : (List Int) × (List Int) × Bool) : runF (spec_l06Asked_C k) Try.f99 false (fL [.pvi (some 30) 0 30, .pvi (some 79) 0 79, .bool] (enc_llb p)).1 (resK (.int .i64) dec_i) = spec_l06Asked k p.1 p.2.1 p.2.2 := by
  kernel_rfl
theorem spec_l06Asked_ok (k : Nat) : EntOK Try.prog tab mvs (spec_l06Asked_e k) :=
  fn_ok (C := spec_l06Asked_C k) tabOK eqTabOK (spec_l06Asked_es k) rfl follows Try.func99 (by kernel_rfl) (by kernel_rfl) rfl (forall_getD _ 0 (0, Code.skip) (by kernel_rfl) fun i hi => by
      omega)
    dec_enc_llb dec_enc_i (spec_l06Asked_run k)

def spec_l06At_C (k : Nat) : Cfg := ⟨tab, mvs, oraOf [], loOf []⟩
theorem spec_l06At_es (k : Nat) : ∀ e ∈ ([] : List Ent), EntOK Try.prog tab mvs e := by
  intro e he
  simp at he
def spec_l06At_e (k : Nat) : Ent := (101, callOf [.pvi (some 79) 0 79, .agg 64] dec_ll fun (p : (List Int) × (List Int)) R K => (spec_l06At k p.1 p.2).bind fun (b : Int) => K ((fV (.int .i64) (enc_i b)).1, none))
theorem spec_l06At_run (k : Nat) (p : (List Int) × (List Int)) : runF (spec_l06At_C k) Try.f101 false (fL [.pvi (some 79) 0 79, .agg 64] (enc_ll p)).1 (resK (.int .i64) dec_i) = spec_l06At k p.1 p.2 := by
  kernel_rfl
theorem spec_l06At_ok (k : Nat) : EntOK Try.prog tab mvs (spec_l06At_e k) :=
  fn_ok (C := spec_l06At_C k) tabOK eqTabOK (spec_l06At_es k) rfl follows Try.func101 (by kernel_rfl) (by kernel_rfl) rfl (forall_getD _ 0 (0, Code.skip) (by kernel_rfl) fun i hi => by
      omega)
    dec_enc_ll dec_enc_i (spec_l06At_run k)

def dec_iiilll (ps : List Pay) : Option (Int × Int × Int × (List Int) × (List Int) × (List Int)) := match ps with
  | [.i x1, .i x2, .i x3, .l x4, .l x5, .l x6] => some (x1, x2, x3, x4, x5, x6)
  | _ => none
def enc_iiilll (p : Int × Int × Int × (List Int) × (List Int) × (List Int)) : List Pay := [.i p.1, .i p.2.1, .i p.2.2.1, .l p.2.2.2.1, .l p.2.2.2.2.1, .l p.2.2.2.2.2]
theorem dec_enc_iiilll : ∀ (ps : List Pay) (p : Int × Int × Int × (List Int) × (List Int) × (List Int)), dec_iiilll ps = some p → ps = enc_iiilll p := by
  intro ps p h
  unfold dec_iiilll at h
  split at h
  · injection h with h
    subst h
    rfl
  · cases h

def spec_RollRow_t0 : StTm := ⟨86, [(2, .int .i64), (3, .ptr 3 0 30), (4, .ptr 4 0 79), (6, .ptr 6 0 79), (10, .int .i64), (11, .int .i8)], [(3, 30, true, .ints), (4, 79, true, .ints), (6, 79, true, .ints)]⟩
def spec_RollRow_t0_1 : StTm := ⟨86, [(4, .ptr 4 0 79), (6, .ptr 6 0 79), (10, .int .i64)], [(4, 79, true, .ints), (6, 79, true, .ints)]⟩
def spec_RollRow_w0 (k : Nat) (R : Type) (K : Ex → St → Option R) (rec : Int × Int × Int × (List Int) × (List Int) × (List Int) → Option R) (p : Int × Int × Int × (List Int) × (List Int) × (List Int)) : Option R := spec_RollRow_s0 k (fun y1 y2 y3 => K (.exit 0) (fSt spec_RollRow_t0_1 [.i y1, .l y2, .l y3])) (fun h1 h2 h3 h4 h5 h6 => rec (h1, h2, h3, h4, h5, h6)) p.1 p.2.1 p.2.2.1 p.2.2.2.1 p.2.2.2.2.1 p.2.2.2.2.2
def spec_RollRow_c0 (k : Nat) : Lcall := lcallOf tab spec_RollRow_t0 dec_iiilll [2, 3, 4, 6, 10, 11] k (spec_RollRow_w0 k)
def spec_RollRow_C (k : Nat) : Cfg := ⟨tab, mvs, oraOf [spec_l00In_e k, spec_l06Asked_e k, spec_l06At_e k, spec_l01Grass_e k], loOf [(0, spec_RollRow_c0 k)]⟩
theorem spec_RollRow_es (k : Nat) : ∀ e ∈ ([spec_l00In_e k, spec_l06Asked_e k, spec_l06At_e k, spec_l01Grass_e k] : List Ent), EntOK Try.prog tab mvs e := by
  intro e he
  simp only [List.mem_cons, List.not_mem_nil, or_false] at he
  rcases he with rfl | rfl | rfl | rfl
  · exact spec_l00In_ok k
  · exact spec_l06Asked_ok k
  · exact spec_l06At_ok k
  · exact spec_l01Grass_ok k
theorem spec_RollRow_step0 (k : Nat) (R : Type) (K : Ex → St → Option R) (g : St → Option R) (p : Int × Int × Int × (List Int) × (List Int) × (List Int)) : evCode (spec_RollRow_C k) (loopP [0] (0, codeOf Try.f51)).2 (loopP [0] (0, codeOf Try.f51)).1 (fSt spec_RollRow_t0 (enc_iiilll p)) (loopK tab [2, 3, 4, 6, 10, 11] [4, 6, 10] [6, 7, 8] g K) = spec_RollRow_w0 k R K (fun p => g (fSt spec_RollRow_t0 (enc_iiilll p))) p := by
  kernel_rfl
theorem spec_RollRow_lok0 (k : Nat) : LoopOK Try.prog tab (spec_RollRow_C k).lo (loopP [0] (0, codeOf Try.f51)).1 (loopP [0] (0, codeOf Try.f51)).2 :=
  loopOK_of (C := spec_RollRow_C k) tabOK eqTabOK (oraOf_ok (spec_RollRow_es k)) (oraOf_nat (spec_RollRow_es k)) follows (forall_getD _ 0 (0, Code.skip) (by kernel_rfl) fun i hi => by
      omega)
    (tm := spec_RollRow_t0) (dec := dec_iiilll) (enc := enc_iiilll) (ksIn := [2, 3, 4, 6, 10, 11]) (ksOut := [4, 6, 10]) (ksRet := [6, 7, 8]) (k := k) (step := spec_RollRow_w0 k) dec_enc_iiilll (fun p => by kernel_rfl) (fun s R K => by kernel_rfl) (spec_RollRow_step0 k)
def spec_RollRow_e (k : Nat) : Ent := (51, callOf [.agg 30, .agg 79, .int .i64] dec_lli fun (p : (List Int) × (List Int) × Int) R K => (spec_RollRow k p.1 p.2.1 p.2.2).bind fun (b : (List Int) × Int × Int) => K ((fV (.tup [.agg 79, .int .i64, .int .i64]) (enc_lii b)).1, none))
theorem spec_RollRow_run (k : Nat) (p : (List Int) × (List Int) × Int) : runF (spec_RollRow_C k) Try.f51 false (fL [.agg 30, .agg 79, .int .i64] (enc_lli p)).1 (resK (.tup [.agg 79, .int .i64, .int .i64]) dec_lii) = spec_RollRow k p.1 p.2.1 p.2.2 := by
  kernel_rfl
theorem spec_RollRow_ok (k : Nat) : EntOK Try.prog tab mvs (spec_RollRow_e k) :=
  fn_ok (C := spec_RollRow_C k) tabOK eqTabOK (spec_RollRow_es k) rfl follows Try.func51 (by kernel_rfl) (by kernel_rfl) rfl (forall_getD _ 1 (0, Code.skip) (by kernel_rfl) fun i hi => by
      match i, hi with
      | 0, _ => exact spec_RollRow_lok0 k
      | n + 1, h => omega)
    dec_enc_lli dec_enc_lii (spec_RollRow_run k)

def impl_Levels_of_C (k : Nat) : Cfg := ⟨tab, mvs, oraOf [], loOf []⟩
theorem impl_Levels_of_es (k : Nat) : ∀ e ∈ ([] : List Ent), EntOK Try.prog tab mvs e := by
  intro e he
  simp at he
def impl_Levels_of_e (k : Nat) : Ent := (103, callOf [.agg 79, .agg 64] dec_ll fun (p : (List Int) × (List Int)) R K => (impl_Levels_of k p.1 p.2).bind fun (b : Int) => K ((fV (.int .i64) (enc_i b)).1, none))
theorem impl_Levels_of_run (k : Nat) (p : (List Int) × (List Int)) : runF (impl_Levels_of_C k) Try.f103 false (fL [.agg 79, .agg 64] (enc_ll p)).1 (resK (.int .i64) dec_i) = impl_Levels_of k p.1 p.2 := by
  kernel_rfl
theorem impl_Levels_of_ok (k : Nat) : EntOK Try.prog tab mvs (impl_Levels_of_e k) :=
  fn_ok (C := impl_Levels_of_C k) tabOK eqTabOK (impl_Levels_of_es k) rfl follows Try.func103 (by kernel_rfl) (by kernel_rfl) rfl (forall_getD _ 0 (0, Code.skip) (by kernel_rfl) fun i hi => by
      omega)
    dec_enc_ll dec_enc_i (impl_Levels_of_run k)

def impl_Levels_more_C (k : Nat) : Cfg := ⟨tab, mvs, oraOf [], loOf []⟩
theorem impl_Levels_more_es (k : Nat) : ∀ e ∈ ([] : List Ent), EntOK Try.prog tab mvs e := by
  intro e he
  simp at he
def impl_Levels_more_e (k : Nat) : Ent := (104, callOf [.agg 79, .agg 64, .int .i64] dec_lli fun (p : (List Int) × (List Int) × Int) R K => (impl_Levels_more k p.1 p.2.1 p.2.2).bind fun (b : (List Int)) => K ((fV (.agg 79) (enc_l b)).1, none))
theorem impl_Levels_more_run (k : Nat) (p : (List Int) × (List Int) × Int) : runF (impl_Levels_more_C k) Try.f104 false (fL [.agg 79, .agg 64, .int .i64] (enc_lli p)).1 (resK (.agg 79) dec_l) = impl_Levels_more k p.1 p.2.1 p.2.2 := by
  kernel_rfl
theorem impl_Levels_more_ok (k : Nat) : EntOK Try.prog tab mvs (impl_Levels_more_e k) :=
  fn_ok (C := impl_Levels_more_C k) tabOK eqTabOK (impl_Levels_more_es k) rfl follows Try.func104 (by kernel_rfl) (by kernel_rfl) rfl (forall_getD _ 0 (0, Code.skip) (by kernel_rfl) fun i hi => by
      omega)
    dec_enc_lli dec_enc_l (impl_Levels_more_run k)

def dec_iiiilll (ps : List Pay) : Option (Int × Int × Int × Int × (List Int) × (List Int) × (List Int)) := match ps with
  | [.i x1, .i x2, .i x3, .i x4, .l x5, .l x6, .l x7] => some (x1, x2, x3, x4, x5, x6, x7)
  | _ => none
def enc_iiiilll (p : Int × Int × Int × Int × (List Int) × (List Int) × (List Int)) : List Pay := [.i p.1, .i p.2.1, .i p.2.2.1, .i p.2.2.2.1, .l p.2.2.2.2.1, .l p.2.2.2.2.2.1, .l p.2.2.2.2.2.2]
theorem dec_enc_iiiilll : ∀ (ps : List Pay) (p : Int × Int × Int × Int × (List Int) × (List Int) × (List Int)), dec_iiiilll ps = some p → ps = enc_iiiilll p := by
  intro ps p h
  unfold dec_iiiilll at h
  split at h
  · injection h with h
    subst h
    rfl
  · cases h

def impl_RollRow_t0 : StTm := ⟨83, [(2, .int .i64), (3, .ptr 3 0 30), (4, .ptr 4 0 79), (6, .ptr 6 0 79), (10, .int .i64), (34, .int .i8), (35, .int .i8)], [(3, 30, true, .ints), (4, 79, true, .ints), (6, 79, true, .ints)]⟩
def impl_RollRow_t0_1 : StTm := ⟨83, [(4, .ptr 4 0 79), (6, .ptr 6 0 79), (10, .int .i64)], [(4, 79, true, .ints), (6, 79, true, .ints)]⟩
def impl_RollRow_w0 (k : Nat) (R : Type) (K : Ex → St → Option R) (rec : Int × Int × Int × Int × (List Int) × (List Int) × (List Int) → Option R) (p : Int × Int × Int × Int × (List Int) × (List Int) × (List Int)) : Option R := impl_RollRow_s0 k (fun y1 y2 y3 => K (.exit 0) (fSt impl_RollRow_t0_1 [.i y1, .l y2, .l y3])) (fun h1 h2 h3 h4 h5 h6 h7 => rec (h1, h2, h3, h4, h5, h6, h7)) p.1 p.2.1 p.2.2.1 p.2.2.2.1 p.2.2.2.2.1 p.2.2.2.2.2.1 p.2.2.2.2.2.2
def impl_RollRow_c0 (k : Nat) : Lcall := lcallOf tab impl_RollRow_t0 dec_iiiilll [2, 3, 4, 6, 10, 34, 35] k (impl_RollRow_w0 k)
def impl_RollRow_C (k : Nat) : Cfg := ⟨tab, mvs, oraOf [impl_soilCode_e k, impl_within_e k, impl_Lawn_grass_e k, impl_Levels_of_e k, impl_Levels_more_e k], loOf [(0, impl_RollRow_c0 k)]⟩
theorem impl_RollRow_es (k : Nat) : ∀ e ∈ ([impl_soilCode_e k, impl_within_e k, impl_Lawn_grass_e k, impl_Levels_of_e k, impl_Levels_more_e k] : List Ent), EntOK Try.prog tab mvs e := by
  intro e he
  simp only [List.mem_cons, List.not_mem_nil, or_false] at he
  rcases he with rfl | rfl | rfl | rfl | rfl
  · exact impl_soilCode_ok k
  · exact impl_within_ok k
  · exact impl_Lawn_grass_ok k
  · exact impl_Levels_of_ok k
  · exact impl_Levels_more_ok k
theorem impl_RollRow_step0 (k : Nat) (R : Type) (K : Ex → St → Option R) (g : St → Option R) (p : Int × Int × Int × Int × (List Int) × (List Int) × (List Int)) : evCode (impl_RollRow_C k) (loopP [0] (0, codeOf Try.f52)).2 (loopP [0] (0, codeOf Try.f52)).1 (fSt impl_RollRow_t0 (enc_iiiilll p)) (loopK tab [2, 3, 4, 6, 10, 34, 35] [4, 6, 10] [6, 7, 8] g K) = impl_RollRow_w0 k R K (fun p => g (fSt impl_RollRow_t0 (enc_iiiilll p))) p := by
  kernel_rfl
theorem impl_RollRow_lok0 (k : Nat) : LoopOK Try.prog tab (impl_RollRow_C k).lo (loopP [0] (0, codeOf Try.f52)).1 (loopP [0] (0, codeOf Try.f52)).2 :=
  loopOK_of (C := impl_RollRow_C k) tabOK eqTabOK (oraOf_ok (impl_RollRow_es k)) (oraOf_nat (impl_RollRow_es k)) follows (forall_getD _ 0 (0, Code.skip) (by kernel_rfl) fun i hi => by
      omega)
    (tm := impl_RollRow_t0) (dec := dec_iiiilll) (enc := enc_iiiilll) (ksIn := [2, 3, 4, 6, 10, 34, 35]) (ksOut := [4, 6, 10]) (ksRet := [6, 7, 8]) (k := k) (step := impl_RollRow_w0 k) dec_enc_iiiilll (fun p => by kernel_rfl) (fun s R K => by kernel_rfl) (impl_RollRow_step0 k)
def impl_RollRow_e (k : Nat) : Ent := (52, callOf [.agg 30, .agg 79, .int .i64] dec_lli fun (p : (List Int) × (List Int) × Int) R K => (impl_RollRow k p.1 p.2.1 p.2.2).bind fun (b : (List Int) × Int × Int) => K ((fV (.tup [.agg 79, .int .i64, .int .i64]) (enc_lii b)).1, none))
theorem impl_RollRow_run (k : Nat) (p : (List Int) × (List Int) × Int) : runF (impl_RollRow_C k) Try.f52 false (fL [.agg 30, .agg 79, .int .i64] (enc_lli p)).1 (resK (.tup [.agg 79, .int .i64, .int .i64]) dec_lii) = impl_RollRow k p.1 p.2.1 p.2.2 := by
  kernel_rfl
theorem impl_RollRow_ok (k : Nat) : EntOK Try.prog tab mvs (impl_RollRow_e k) :=
  fn_ok (C := impl_RollRow_C k) tabOK eqTabOK (impl_RollRow_es k) rfl follows Try.func52 (by kernel_rfl) (by kernel_rfl) rfl (forall_getD _ 1 (0, Code.skip) (by kernel_rfl) fun i hi => by
      match i, hi with
      | 0, _ => exact impl_RollRow_lok0 k
      | n + 1, h => omega)
    dec_enc_lli dec_enc_lii (impl_RollRow_run k)

def laws_FnExactRollRow_C (k : Nat) : Cfg := ⟨tab, mvs, oraOf [laws_toLawn_e k, laws_toLevels_e k, spec_RollRow_e k, impl_RollRow_e k, laws_eqLevels_e k], loOf []⟩
theorem laws_FnExactRollRow_es (k : Nat) : ∀ e ∈ ([laws_toLawn_e k, laws_toLevels_e k, spec_RollRow_e k, impl_RollRow_e k, laws_eqLevels_e k] : List Ent), EntOK Try.prog tab mvs e := by
  intro e he
  simp only [List.mem_cons, List.not_mem_nil, or_false] at he
  rcases he with rfl | rfl | rfl | rfl | rfl
  · exact laws_toLawn_ok k
  · exact laws_toLevels_ok k
  · exact spec_RollRow_ok k
  · exact impl_RollRow_ok k
  · exact laws_eqLevels_ok k
def laws_FnExactRollRow_e (k : Nat) : Ent := (11, callOf [.agg 26, .agg 78, .int .i64] dec_lli fun (p : (List Int) × (List Int) × Int) R K => (laws_FnExactRollRow k p.1 p.2.1 p.2.2).bind fun (b : Bool) => K ((fV (.bool) (enc_b b)).1, none))
theorem laws_FnExactRollRow_run (k : Nat) (p : (List Int) × (List Int) × Int) : runF (laws_FnExactRollRow_C k) Try.f11 false (fL [.agg 26, .agg 78, .int .i64] (enc_lli p)).1 (resK (.bool) dec_b) = laws_FnExactRollRow k p.1 p.2.1 p.2.2 := by
  kernel_rfl
theorem laws_FnExactRollRow_ok (k : Nat) : EntOK Try.prog tab mvs (laws_FnExactRollRow_e k) :=
  fn_ok (C := laws_FnExactRollRow_C k) tabOK eqTabOK (laws_FnExactRollRow_es k) rfl follows Try.func11 (by kernel_rfl) (by kernel_rfl) rfl (forall_getD _ 0 (0, Code.skip) (by kernel_rfl) fun i hi => by
      omega)
    dec_enc_lli dec_enc_b (laws_FnExactRollRow_run k)

def dec_lb (ps : List Pay) : Option ((List Int) × Bool) := match ps with
  | [.l x1, .b x2] => some (x1, x2)
  | _ => none
def enc_lb (p : (List Int) × Bool) : List Pay := [.l p.1, .b p.2]
theorem dec_enc_lb : ∀ (ps : List Pay) (p : (List Int) × Bool), dec_lb ps = some p → ps = enc_lb p := by
  intro ps p h
  unfold dec_lb at h
  split at h
  · injection h with h
    subst h
    rfl
  · cases h

def spec_l01Told_C (k : Nat) : Cfg := ⟨tab, mvs, oraOf [spec_l01Ok_e k], loOf []⟩
theorem spec_l01Told_es (k : Nat) : ∀ e ∈ ([spec_l01Ok_e k] : List Ent), EntOK Try.prog tab mvs e := by
  intro e he
  simp only [List.mem_cons, List.not_mem_nil, or_false] at he
  rcases he with rfl
  · exact spec_l01Ok_ok k
def spec_l01Told_e (k : Nat) : Ent := (86, callOf [.pvi (some 30) 0 30, .bool] dec_lb fun (p : (List Int) × Bool) R K => (spec_l01Told k p.1 p.2).bind fun (b : Int) => K ((fV (.int .i64) (enc_i b)).1, none))
theorem spec_l01Told_run (k : Nat) (p : (List Int) × Bool) : runF (spec_l01Told_C k) Try.f86 false (fL [.pvi (some 30) 0 30, .bool] (enc_lb p)).1 (resK (.int .i64) dec_i) = spec_l01Told k p.1 p.2 := by
  kernel_rfl
theorem spec_l01Told_ok (k : Nat) : EntOK Try.prog tab mvs (spec_l01Told_e k) :=
  fn_ok (C := spec_l01Told_C k) tabOK eqTabOK (spec_l01Told_es k) rfl follows Try.func86 (by kernel_rfl) (by kernel_rfl) rfl (forall_getD _ 0 (0, Code.skip) (by kernel_rfl) fun i hi => by
      omega)
    dec_enc_lb dec_enc_i (spec_l01Told_run k)

def dec_liill (ps : List Pay) : Option ((List Int) × Int × Int × (List Int) × (List Int)) := match ps with
  | [.l x1, .i x2, .i x3, .l x4, .l x5] => some (x1, x2, x3, x4, x5)
  | _ => none
def enc_liill (p : (List Int) × Int × Int × (List Int) × (List Int)) : List Pay := [.l p.1, .i p.2.1, .i p.2.2.1, .l p.2.2.2.1, .l p.2.2.2.2]
theorem dec_enc_liill : ∀ (ps : List Pay) (p : (List Int) × Int × Int × (List Int) × (List Int)), dec_liill ps = some p → ps = enc_liill p := by
  intro ps p h
  unfold dec_liill at h
  split at h
  · injection h with h
    subst h
    rfl
  · cases h

def spec_l01Cells_t0 : StTm := ⟨33, [(0, .pvi (some 30) 0 30), (1, .int .i64), (5, .slw 5 64), (6, .slw 6 64), (7, .int .i64)], [(5, 64, false, .ints), (6, 64, false, .ints)]⟩
def spec_l01Cells_t0_1 : StTm := ⟨33, [(5, .slw 5 64)], [(5, 64, false, .ints)]⟩
def spec_l01Cells_w0 (k : Nat) (R : Type) (K : Ex → St → Option R) (rec : (List Int) × Int × Int × (List Int) × (List Int) → Option R) (p : (List Int) × Int × Int × (List Int) × (List Int)) : Option R := spec_l01Cells_s0 k (fun y1 => K (.exit 0) (fSt spec_l01Cells_t0_1 [.l y1])) (fun h1 h2 h3 h4 h5 => rec (h1, h2, h3, h4, h5)) p.1 p.2.1 p.2.2.1 p.2.2.2.1 p.2.2.2.2
def spec_l01Cells_c0 (k : Nat) : Lcall := lcallOf tab spec_l01Cells_t0 dec_liill [0, 1, 5, 6, 7] k (spec_l01Cells_w0 k)
def spec_l01Cells_C (k : Nat) : Cfg := ⟨tab, mvs, oraOf [spec_l01All_e k, spec_l01At_e k], loOf [(0, spec_l01Cells_c0 k)]⟩
theorem spec_l01Cells_es (k : Nat) : ∀ e ∈ ([spec_l01All_e k, spec_l01At_e k] : List Ent), EntOK Try.prog tab mvs e := by
  intro e he
  simp only [List.mem_cons, List.not_mem_nil, or_false] at he
  rcases he with rfl | rfl
  · exact spec_l01All_ok k
  · exact spec_l01At_ok k
theorem spec_l01Cells_step0 (k : Nat) (R : Type) (K : Ex → St → Option R) (g : St → Option R) (p : (List Int) × Int × Int × (List Int) × (List Int)) : evCode (spec_l01Cells_C k) (loopP [0] (0, codeOf Try.f88)).2 (loopP [0] (0, codeOf Try.f88)).1 (fSt spec_l01Cells_t0 (enc_liill p)) (loopK tab [0, 1, 5, 6, 7] [5] [4] g K) = spec_l01Cells_w0 k R K (fun p => g (fSt spec_l01Cells_t0 (enc_liill p))) p := by
  kernel_rfl
theorem spec_l01Cells_lok0 (k : Nat) : LoopOK Try.prog tab (spec_l01Cells_C k).lo (loopP [0] (0, codeOf Try.f88)).1 (loopP [0] (0, codeOf Try.f88)).2 :=
  loopOK_of (C := spec_l01Cells_C k) tabOK eqTabOK (oraOf_ok (spec_l01Cells_es k)) (oraOf_nat (spec_l01Cells_es k)) follows (forall_getD _ 0 (0, Code.skip) (by kernel_rfl) fun i hi => by
      omega)
    (tm := spec_l01Cells_t0) (dec := dec_liill) (enc := enc_liill) (ksIn := [0, 1, 5, 6, 7]) (ksOut := [5]) (ksRet := [4]) (k := k) (step := spec_l01Cells_w0 k) dec_enc_liill (fun p => by kernel_rfl) (fun s R K => by kernel_rfl) (spec_l01Cells_step0 k)
def spec_l01Cells_e (k : Nat) : Ent := (88, callOf [.pvi (some 30) 0 30, .int .i64] dec_li fun (p : (List Int) × Int) R K => (spec_l01Cells k p.1 p.2).bind fun (b : (List Int)) => K ((fV (.slv 64) (enc_l b)).1, none))
theorem spec_l01Cells_run (k : Nat) (p : (List Int) × Int) : runF (spec_l01Cells_C k) Try.f88 false (fL [.pvi (some 30) 0 30, .int .i64] (enc_li p)).1 (resK (.slv 64) dec_l) = spec_l01Cells k p.1 p.2 := by
  kernel_rfl
theorem spec_l01Cells_ok (k : Nat) : EntOK Try.prog tab mvs (spec_l01Cells_e k) :=
  fn_ok (C := spec_l01Cells_C k) tabOK eqTabOK (spec_l01Cells_es k) rfl follows Try.func88 (by kernel_rfl) (by kernel_rfl) rfl (forall_getD _ 1 (0, Code.skip) (by kernel_rfl) fun i hi => by
      match i, hi with
      | 0, _ => exact spec_l01Cells_lok0 k
      | n + 1, h => omega)
    dec_enc_li dec_enc_l (spec_l01Cells_run k)

def dec_lbi (ps : List Pay) : Option ((List Int) × Bool × Int) := match ps with
  | [.l x1, .b x2, .i x3] => some (x1, x2, x3)
  | _ => none
def enc_lbi (p : (List Int) × Bool × Int) : List Pay := [.l p.1, .b p.2.1, .i p.2.2]
theorem dec_enc_lbi : ∀ (ps : List Pay) (p : (List Int) × Bool × Int), dec_lbi ps = some p → ps = enc_lbi p := by
  intro ps p h
  unfold dec_lbi at h
  split at h
  · injection h with h
    subst h
    rfl
  · cases h

def spec_l01Back_C (k : Nat) : Cfg := ⟨tab, mvs, oraOf [], loOf []⟩
theorem spec_l01Back_es (k : Nat) : ∀ e ∈ ([] : List Ent), EntOK Try.prog tab mvs e := by
  intro e he
  simp at he
def spec_l01Back_e (k : Nat) : Ent := (106, callOf [.agg 64, .bool, .int .i8] dec_lbi fun (p : (List Int) × Bool × Int) R K => (spec_l01Back k p.1 p.2.1 p.2.2).bind fun (b : (List Int)) => K ((fV (.agg 64) (enc_l b)).1, none))
theorem spec_l01Back_run (k : Nat) (p : (List Int) × Bool × Int) : runF (spec_l01Back_C k) Try.f106 false (fL [.agg 64, .bool, .int .i8] (enc_lbi p)).1 (resK (.agg 64) dec_l) = spec_l01Back k p.1 p.2.1 p.2.2 := by
  kernel_rfl
theorem spec_l01Back_ok (k : Nat) : EntOK Try.prog tab mvs (spec_l01Back_e k) :=
  fn_ok (C := spec_l01Back_C k) tabOK eqTabOK (spec_l01Back_es k) rfl follows Try.func106 (by kernel_rfl) (by kernel_rfl) rfl (forall_getD _ 0 (0, Code.skip) (by kernel_rfl) fun i hi => by
      omega)
    dec_enc_lbi dec_enc_l (spec_l01Back_run k)

def dec_lbilll (ps : List Pay) : Option ((List Int) × Bool × Int × (List Int) × (List Int) × (List Int)) := match ps with
  | [.l x1, .b x2, .i x3, .l x4, .l x5, .l x6] => some (x1, x2, x3, x4, x5, x6)
  | _ => none
def enc_lbilll (p : (List Int) × Bool × Int × (List Int) × (List Int) × (List Int)) : List Pay := [.l p.1, .b p.2.1, .i p.2.2.1, .l p.2.2.2.1, .l p.2.2.2.2.1, .l p.2.2.2.2.2]
theorem dec_enc_lbilll : ∀ (ps : List Pay) (p : (List Int) × Bool × Int × (List Int) × (List Int) × (List Int)), dec_lbilll ps = some p → ps = enc_lbilll p := by
  intro ps p h
  unfold dec_lbilll at h
  split at h
  · injection h with h
    subst h
    rfl
  · cases h

def dec_lbill (ps : List Pay) : Option ((List Int) × Bool × Int × (List Int) × (List Int)) := match ps with
  | [.l x1, .b x2, .i x3, .l x4, .l x5] => some (x1, x2, x3, x4, x5)
  | _ => none
def enc_lbill (p : (List Int) × Bool × Int × (List Int) × (List Int)) : List Pay := [.l p.1, .b p.2.1, .i p.2.2.1, .l p.2.2.2.1, .l p.2.2.2.2]
theorem dec_enc_lbill : ∀ (ps : List Pay) (p : (List Int) × Bool × Int × (List Int) × (List Int)), dec_lbill ps = some p → ps = enc_lbill p := by
  intro ps p h
  unfold dec_lbill at h
  split at h
  · injection h with h
    subst h
    rfl
  · cases h

def spec_l01Runs_t0 : StTm := ⟨51, [(0, .pvi (some 30) 0 30), (1, .bool), (5, .slw 5 66), (6, .slw 6 64), (7, .int .i64), (8, .ptr 8 0 66)], [(5, 66, false, .ints), (6, 64, false, .ints), (8, 66, true, .ints)]⟩
def spec_l01Runs_t0_1 : StTm := ⟨51, [(0, .pvi (some 30) 0 30), (1, .bool), (5, .slw 5 66), (6, .slw 6 64), (7, .int .i64), (8, .ptr 8 0 66)], [(5, 66, false, .ints), (6, 64, false, .ints), (8, 66, true, .ints)]⟩
def spec_l01Runs_w0 (k : Nat) (R : Type) (K : Ex → St → Option R) (rec : (List Int) × Bool × Int × (List Int) × (List Int) × (List Int) → Option R) (p : (List Int) × Bool × Int × (List Int) × (List Int) × (List Int)) : Option R := spec_l01Runs_s0 k (fun y1 y2 y3 y4 y5 y6 => K (.exit 2) (fSt spec_l01Runs_t0_1 [.l y1, .b y2, .i y3, .l y4, .l y5, .l y6])) (fun h1 h2 h3 h4 h5 h6 => rec (h1, h2, h3, h4, h5, h6)) p.1 p.2.1 p.2.2.1 p.2.2.2.1 p.2.2.2.2.1 p.2.2.2.2.2
def spec_l01Runs_c0 (k : Nat) : Lcall := lcallOf tab spec_l01Runs_t0 dec_lbilll [0, 1, 5, 6, 7, 8] k (spec_l01Runs_w0 k)
def spec_l01Runs_t1 : StTm := ⟨51, [(0, .pvi (some 30) 0 30), (1, .bool), (5, .slw 5 66), (6, .slw 6 64), (7, .int .i64)], [(5, 66, false, .ints), (6, 64, false, .ints)]⟩
def spec_l01Runs_t1_1 : StTm := ⟨51, [(5, .slw 5 66)], [(5, 66, false, .ints)]⟩
def spec_l01Runs_w1 (k : Nat) (R : Type) (K : Ex → St → Option R) (rec : (List Int) × Bool × Int × (List Int) × (List Int) → Option R) (p : (List Int) × Bool × Int × (List Int) × (List Int)) : Option R := spec_l01Runs_s1 k (fun y1 => K (.exit 0) (fSt spec_l01Runs_t1_1 [.l y1])) (fun h1 h2 h3 h4 h5 => rec (h1, h2, h3, h4, h5)) p.1 p.2.1 p.2.2.1 p.2.2.2.1 p.2.2.2.2
def spec_l01Runs_c1 (k : Nat) : Lcall := lcallOf tab spec_l01Runs_t1 dec_lbill [0, 1, 5, 6, 7] k (spec_l01Runs_w1 k)
def spec_l01Runs_C (k : Nat) : Cfg := ⟨tab, mvs, oraOf [spec_l01Cells_e k, spec_l01Back_e k, spec_l01Grass_e k], loOf [(2, spec_l01Runs_c0 k), (0, spec_l01Runs_c1 k)]⟩
theorem spec_l01Runs_es (k : Nat) : ∀ e ∈ ([spec_l01Cells_e k, spec_l01Back_e k, spec_l01Grass_e k] : List Ent), EntOK Try.prog tab mvs e := by
  intro e he
  simp only [List.mem_cons, List.not_mem_nil, or_false] at he
  rcases he with rfl | rfl | rfl
  · exact spec_l01Cells_ok k
  · exact spec_l01Back_ok k
  · exact spec_l01Grass_ok k
theorem spec_l01Runs_step0 (k : Nat) (R : Type) (K : Ex → St → Option R) (g : St → Option R) (p : (List Int) × Bool × Int × (List Int) × (List Int) × (List Int)) : evCode (spec_l01Runs_C k) (loopP [0, 0] (0, codeOf Try.f85)).2 (loopP [0, 0] (0, codeOf Try.f85)).1 (fSt spec_l01Runs_t0 (enc_lbilll p)) (loopK tab [0, 1, 5, 6, 7, 8] [0, 1, 5, 6, 7, 8] [4] g K) = spec_l01Runs_w0 k R K (fun p => g (fSt spec_l01Runs_t0 (enc_lbilll p))) p := by
  kernel_rfl
theorem spec_l01Runs_lok0 (k : Nat) : LoopOK Try.prog tab (spec_l01Runs_C k).lo (loopP [0, 0] (0, codeOf Try.f85)).1 (loopP [0, 0] (0, codeOf Try.f85)).2 :=
  loopOK_of (C := spec_l01Runs_C k) tabOK eqTabOK (oraOf_ok (spec_l01Runs_es k)) (oraOf_nat (spec_l01Runs_es k)) follows (forall_getD _ 0 (0, Code.skip) (by kernel_rfl) fun i hi => by
      omega)
    (tm := spec_l01Runs_t0) (dec := dec_lbilll) (enc := enc_lbilll) (ksIn := [0, 1, 5, 6, 7, 8]) (ksOut := [0, 1, 5, 6, 7, 8]) (ksRet := [4]) (k := k) (step := spec_l01Runs_w0 k) dec_enc_lbilll (fun p => by kernel_rfl) (fun s R K => by kernel_rfl) (spec_l01Runs_step0 k)
theorem spec_l01Runs_step1 (k : Nat) (R : Type) (K : Ex → St → Option R) (g : St → Option R) (p : (List Int) × Bool × Int × (List Int) × (List Int)) : evCode (spec_l01Runs_C k) (loopP [0] (0, codeOf Try.f85)).2 (loopP [0] (0, codeOf Try.f85)).1 (fSt spec_l01Runs_t1 (enc_lbill p)) (loopK tab [0, 1, 5, 6, 7] [5] [4] g K) = spec_l01Runs_w1 k R K (fun p => g (fSt spec_l01Runs_t1 (enc_lbill p))) p := by
  kernel_rfl
theorem spec_l01Runs_lok1 (k : Nat) : LoopOK Try.prog tab (spec_l01Runs_C k).lo (loopP [0] (0, codeOf Try.f85)).1 (loopP [0] (0, codeOf Try.f85)).2 :=
  loopOK_of (C := spec_l01Runs_C k) tabOK eqTabOK (oraOf_ok (spec_l01Runs_es k)) (oraOf_nat (spec_l01Runs_es k)) follows (forall_getD _ 1 (0, Code.skip) (by kernel_rfl) fun i hi => by
      match i, hi with
      | 0, _ => exact spec_l01Runs_lok0 k
      | n + 1, h => omega)
    (tm := spec_l01Runs_t1) (dec := dec_lbill) (enc := enc_lbill) (ksIn := [0, 1, 5, 6, 7]) (ksOut := [5]) (ksRet := [4]) (k := k) (step := spec_l01Runs_w1 k) dec_enc_lbill (fun p => by kernel_rfl) (fun s R K => by kernel_rfl) (spec_l01Runs_step1 k)
def spec_l01Runs_e (k : Nat) : Ent := (85, callOf [.pvi (some 30) 0 30, .bool] dec_lb fun (p : (List Int) × Bool) R K => (spec_l01Runs k p.1 p.2).bind fun (b : (List Int)) => K ((fV (.slv 66) (enc_l b)).1, none))
theorem spec_l01Runs_run (k : Nat) (p : (List Int) × Bool) : runF (spec_l01Runs_C k) Try.f85 false (fL [.pvi (some 30) 0 30, .bool] (enc_lb p)).1 (resK (.slv 66) dec_l) = spec_l01Runs k p.1 p.2 := by
  kernel_rfl
theorem spec_l01Runs_ok (k : Nat) : EntOK Try.prog tab mvs (spec_l01Runs_e k) :=
  fn_ok (C := spec_l01Runs_C k) tabOK eqTabOK (spec_l01Runs_es k) rfl follows Try.func85 (by kernel_rfl) (by kernel_rfl) rfl (forall_getD _ 1 (0, Code.skip) (by kernel_rfl) fun i hi => by
      match i, hi with
      | 0, _ => exact spec_l01Runs_lok1 k
      | n + 1, h => omega)
    dec_enc_lb dec_enc_l (spec_l01Runs_run k)

def dec_biiill (ps : List Pay) : Option (Bool × Int × Int × Int × (List Int) × (List Int)) := match ps with
  | [.b x1, .i x2, .i x3, .i x4, .l x5, .l x6] => some (x1, x2, x3, x4, x5, x6)
  | _ => none
def enc_biiill (p : Bool × Int × Int × Int × (List Int) × (List Int)) : List Pay := [.b p.1, .i p.2.1, .i p.2.2.1, .i p.2.2.2.1, .l p.2.2.2.2.1, .l p.2.2.2.2.2]
theorem dec_enc_biiill : ∀ (ps : List Pay) (p : Bool × Int × Int × Int × (List Int) × (List Int)), dec_biiill ps = some p → ps = enc_biiill p := by
  intro ps p h
  unfold dec_biiill at h
  split at h
  · injection h with h
    subst h
    rfl
  · cases h

def dec_biill (ps : List Pay) : Option (Bool × Int × Int × (List Int) × (List Int)) := match ps with
  | [.b x1, .i x2, .i x3, .l x4, .l x5] => some (x1, x2, x3, x4, x5)
  | _ => none
def enc_biill (p : Bool × Int × Int × (List Int) × (List Int)) : List Pay := [.b p.1, .i p.2.1, .i p.2.2.1, .l p.2.2.2.1, .l p.2.2.2.2]
theorem dec_enc_biill : ∀ (ps : List Pay) (p : Bool × Int × Int × (List Int) × (List Int)), dec_biill ps = some p → ps = enc_biill p := by
  intro ps p h
  unfold dec_biill at h
  split at h
  · injection h with h
    subst h
    rfl
  · cases h

def dec_ii (ps : List Pay) : Option (Int × Int) := match ps with
  | [.i x1, .i x2] => some (x1, x2)
  | _ => none
def enc_ii (p : Int × Int) : List Pay := [.i p.1, .i p.2]
theorem dec_enc_ii : ∀ (ps : List Pay) (p : Int × Int), dec_ii ps = some p → ps = enc_ii p := by
  intro ps p h
  unfold dec_ii at h
  split at h
  · injection h with h
    subst h
    rfl
  · cases h

def spec_StripeOf_t0 : StTm := ⟨52, [(2, .bool), (4, .ptr 4 0 64), (9, .slw 9 66), (10, .int .i64), (11, .int .i64), (12, .int .i8)], [(4, 64, true, .ints), (9, 66, false, .ints)]⟩
def spec_StripeOf_t0_1 : StTm := ⟨52, [(2, .bool), (4, .ptr 4 0 64), (9, .slw 9 66), (10, .int .i64), (11, .int .i64)], [(4, 64, true, .ints), (9, 66, false, .ints)]⟩
def spec_StripeOf_w0 (k : Nat) (R : Type) (K : Ex → St → Option R) (rec : Bool × Int × Int × Int × (List Int) × (List Int) → Option R) (p : Bool × Int × Int × Int × (List Int) × (List Int)) : Option R := spec_StripeOf_s0 k (fun y1 y2 y3 y4 y5 => K (.exit 2) (fSt spec_StripeOf_t0_1 [.b y1, .i y2, .i y3, .l y4, .l y5])) (fun h1 h2 h3 h4 h5 h6 => rec (h1, h2, h3, h4, h5, h6)) p.1 p.2.1 p.2.2.1 p.2.2.2.1 p.2.2.2.2.1 p.2.2.2.2.2
def spec_StripeOf_c0 (k : Nat) : Lcall := lcallOf tab spec_StripeOf_t0 dec_biiill [2, 4, 9, 10, 11, 12] k (spec_StripeOf_w0 k)
def spec_StripeOf_t1 : StTm := ⟨52, [(2, .bool), (4, .ptr 4 0 64), (9, .slw 9 66), (10, .int .i64), (11, .int .i64)], [(4, 64, true, .ints), (9, 66, false, .ints)]⟩
def spec_StripeOf_t1_1 : StTm := ⟨52, [(10, .int .i64)], []⟩
def spec_StripeOf_w1 (k : Nat) (R : Type) (K : Ex → St → Option R) (rec : Bool × Int × Int × (List Int) × (List Int) → Option R) (p : Bool × Int × Int × (List Int) × (List Int)) : Option R := spec_StripeOf_s1 k (fun y1 => K (.exit 0) (fSt spec_StripeOf_t1_1 [.i y1])) (fun h1 h2 h3 h4 h5 => rec (h1, h2, h3, h4, h5)) p.1 p.2.1 p.2.2.1 p.2.2.2.1 p.2.2.2.2
def spec_StripeOf_c1 (k : Nat) : Lcall := lcallOf tab spec_StripeOf_t1 dec_biill [2, 4, 9, 10, 11] k (spec_StripeOf_w1 k)
def spec_StripeOf_C (k : Nat) : Cfg := ⟨tab, mvs, oraOf [spec_l01Is_e k, spec_l01Told_e k, spec_l01At_e k, spec_l01Runs_e k, spec_l01Back_e k], loOf [(2, spec_StripeOf_c0 k), (0, spec_StripeOf_c1 k)]⟩
theorem spec_StripeOf_es (k : Nat) : ∀ e ∈ ([spec_l01Is_e k, spec_l01Told_e k, spec_l01At_e k, spec_l01Runs_e k, spec_l01Back_e k] : List Ent), EntOK Try.prog tab mvs e := by
  intro e he
  simp only [List.mem_cons, List.not_mem_nil, or_false] at he
  rcases he with rfl | rfl | rfl | rfl | rfl
  · exact spec_l01Is_ok k
  · exact spec_l01Told_ok k
  · exact spec_l01At_ok k
  · exact spec_l01Runs_ok k
  · exact spec_l01Back_ok k
theorem spec_StripeOf_step0 (k : Nat) (R : Type) (K : Ex → St → Option R) (g : St → Option R) (p : Bool × Int × Int × Int × (List Int) × (List Int)) : evCode (spec_StripeOf_C k) (loopP [0, 0] (0, codeOf Try.f53)).2 (loopP [0, 0] (0, codeOf Try.f53)).1 (fSt spec_StripeOf_t0 (enc_biiill p)) (loopK tab [2, 4, 9, 10, 11, 12] [2, 4, 9, 10, 11] [6, 7] g K) = spec_StripeOf_w0 k R K (fun p => g (fSt spec_StripeOf_t0 (enc_biiill p))) p := by
  kernel_rfl
theorem spec_StripeOf_lok0 (k : Nat) : LoopOK Try.prog tab (spec_StripeOf_C k).lo (loopP [0, 0] (0, codeOf Try.f53)).1 (loopP [0, 0] (0, codeOf Try.f53)).2 :=
  loopOK_of (C := spec_StripeOf_C k) tabOK eqTabOK (oraOf_ok (spec_StripeOf_es k)) (oraOf_nat (spec_StripeOf_es k)) follows (forall_getD _ 0 (0, Code.skip) (by kernel_rfl) fun i hi => by
      omega)
    (tm := spec_StripeOf_t0) (dec := dec_biiill) (enc := enc_biiill) (ksIn := [2, 4, 9, 10, 11, 12]) (ksOut := [2, 4, 9, 10, 11]) (ksRet := [6, 7]) (k := k) (step := spec_StripeOf_w0 k) dec_enc_biiill (fun p => by kernel_rfl) (fun s R K => by kernel_rfl) (spec_StripeOf_step0 k)
theorem spec_StripeOf_step1 (k : Nat) (R : Type) (K : Ex → St → Option R) (g : St → Option R) (p : Bool × Int × Int × (List Int) × (List Int)) : evCode (spec_StripeOf_C k) (loopP [0] (0, codeOf Try.f53)).2 (loopP [0] (0, codeOf Try.f53)).1 (fSt spec_StripeOf_t1 (enc_biill p)) (loopK tab [2, 4, 9, 10, 11] [10] [6, 7] g K) = spec_StripeOf_w1 k R K (fun p => g (fSt spec_StripeOf_t1 (enc_biill p))) p := by
  kernel_rfl
theorem spec_StripeOf_lok1 (k : Nat) : LoopOK Try.prog tab (spec_StripeOf_C k).lo (loopP [0] (0, codeOf Try.f53)).1 (loopP [0] (0, codeOf Try.f53)).2 :=
  loopOK_of (C := spec_StripeOf_C k) tabOK eqTabOK (oraOf_ok (spec_StripeOf_es k)) (oraOf_nat (spec_StripeOf_es k)) follows (forall_getD _ 1 (0, Code.skip) (by kernel_rfl) fun i hi => by
      match i, hi with
      | 0, _ => exact spec_StripeOf_lok0 k
      | n + 1, h => omega)
    (tm := spec_StripeOf_t1) (dec := dec_biill) (enc := enc_biill) (ksIn := [2, 4, 9, 10, 11]) (ksOut := [10]) (ksRet := [6, 7]) (k := k) (step := spec_StripeOf_w1 k) dec_enc_biill (fun p => by kernel_rfl) (fun s R K => by kernel_rfl) (spec_StripeOf_step1 k)
def spec_StripeOf_e (k : Nat) : Ent := (53, callOf [.agg 30, .agg 64, .bool] dec_llb fun (p : (List Int) × (List Int) × Bool) R K => (spec_StripeOf k p.1 p.2.1 p.2.2).bind fun (b : Int × Int) => K ((fV (.tup [.int .i64, .int .i64]) (enc_ii b)).1, none))
theorem spec_StripeOf_run (k : Nat) (p : (List Int) × (List Int) × Bool) : runF (spec_StripeOf_C k) Try.f53 false (fL [.agg 30, .agg 64, .bool] (enc_llb p)).1 (resK (.tup [.int .i64, .int .i64]) dec_ii) = spec_StripeOf k p.1 p.2.1 p.2.2 := by
  kernel_rfl
theorem spec_StripeOf_ok (k : Nat) : EntOK Try.prog tab mvs (spec_StripeOf_e k) :=
  fn_ok (C := spec_StripeOf_C k) tabOK eqTabOK (spec_StripeOf_es k) rfl follows Try.func53 (by kernel_rfl) (by kernel_rfl) rfl (forall_getD _ 1 (0, Code.skip) (by kernel_rfl) fun i hi => by
      match i, hi with
      | 0, _ => exact spec_StripeOf_lok1 k
      | n + 1, h => omega)
    dec_enc_llb dec_enc_ii (spec_StripeOf_run k)

def dec_iiiiillll (ps : List Pay) : Option (Int × Int × Int × Int × Int × (List Int) × (List Int) × (List Int) × (List Int)) := match ps with
  | [.i x1, .i x2, .i x3, .i x4, .i x5, .l x6, .l x7, .l x8, .l x9] => some (x1, x2, x3, x4, x5, x6, x7, x8, x9)
  | _ => none
def enc_iiiiillll (p : Int × Int × Int × Int × Int × (List Int) × (List Int) × (List Int) × (List Int)) : List Pay := [.i p.1, .i p.2.1, .i p.2.2.1, .i p.2.2.2.1, .i p.2.2.2.2.1, .l p.2.2.2.2.2.1, .l p.2.2.2.2.2.2.1, .l p.2.2.2.2.2.2.2.1, .l p.2.2.2.2.2.2.2.2]
theorem dec_enc_iiiiillll : ∀ (ps : List Pay) (p : Int × Int × Int × Int × Int × (List Int) × (List Int) × (List Int) × (List Int)), dec_iiiiillll ps = some p → ps = enc_iiiiillll p := by
  intro ps p h
  unfold dec_iiiiillll at h
  split at h
  · injection h with h
    subst h
    rfl
  · cases h

def impl_Lawn_runs_t0 : StTm := ⟨63, [(2, .ptr 2 0 30), (5, .slw 5 66), (6, .int .i8), (7, .int .i8), (9, .ptr 9 0 64), (10, .int .i8), (15, .slw 15 64), (16, .int .i64), (17, .int .i64)], [(2, 30, true, .ints), (5, 66, false, .ints), (9, 64, true, .ints), (15, 64, false, .ints)]⟩
def impl_Lawn_runs_t0_1 : StTm := ⟨63, [(2, .ptr 2 0 30), (5, .slw 5 66), (6, .int .i8), (7, .int .i8), (9, .ptr 9 0 64), (10, .int .i8), (15, .slw 15 64), (16, .int .i64), (17, .int .i64)], [(2, 30, true, .ints), (5, 66, false, .ints), (9, 64, true, .ints), (15, 64, false, .ints)]⟩
def impl_Lawn_runs_w0 (k : Nat) (R : Type) (K : Ex → St → Option R) (rec : Int × Int × Int × Int × Int × (List Int) × (List Int) × (List Int) × (List Int) → Option R) (p : Int × Int × Int × Int × Int × (List Int) × (List Int) × (List Int) × (List Int)) : Option R := impl_Lawn_runs_s0 k (fun y1 y2 y3 y4 y5 y6 y7 y8 y9 => K (.exit 2) (fSt impl_Lawn_runs_t0_1 [.i y1, .i y2, .i y3, .i y4, .i y5, .l y6, .l y7, .l y8, .l y9])) (fun h1 h2 h3 h4 h5 h6 h7 h8 h9 => rec (h1, h2, h3, h4, h5, h6, h7, h8, h9)) p.1 p.2.1 p.2.2.1 p.2.2.2.1 p.2.2.2.2.1 p.2.2.2.2.2.1 p.2.2.2.2.2.2.1 p.2.2.2.2.2.2.2.1 p.2.2.2.2.2.2.2.2
def impl_Lawn_runs_c0 (k : Nat) : Lcall := lcallOf tab impl_Lawn_runs_t0 dec_iiiiillll [2, 5, 6, 7, 9, 10, 15, 16, 17] k (impl_Lawn_runs_w0 k)
def impl_Lawn_runs_t1 : StTm := ⟨63, [(2, .ptr 2 0 30), (5, .slw 5 66), (6, .int .i8), (7, .int .i8), (15, .slw 15 64), (16, .int .i64), (17, .int .i64)], [(2, 30, true, .ints), (5, 66, false, .ints), (15, 64, false, .ints)]⟩
def impl_Lawn_runs_t1_1 : StTm := ⟨63, [(5, .slw 5 66)], [(5, 66, false, .ints)]⟩
def impl_Lawn_runs_w1 (k : Nat) (R : Type) (K : Ex → St → Option R) (rec : Int × Int × Int × Int × (List Int) × (List Int) × (List Int) → Option R) (p : Int × Int × Int × Int × (List Int) × (List Int) × (List Int)) : Option R := impl_Lawn_runs_s1 k (fun y1 => K (.exit 0) (fSt impl_Lawn_runs_t1_1 [.l y1])) (fun h1 h2 h3 h4 h5 h6 h7 => rec (h1, h2, h3, h4, h5, h6, h7)) p.1 p.2.1 p.2.2.1 p.2.2.2.1 p.2.2.2.2.1 p.2.2.2.2.2.1 p.2.2.2.2.2.2
def impl_Lawn_runs_c1 (k : Nat) : Lcall := lcallOf tab impl_Lawn_runs_t1 dec_iiiilll [2, 5, 6, 7, 15, 16, 17] k (impl_Lawn_runs_w1 k)
def impl_Lawn_runs_C (k : Nat) : Cfg := ⟨tab, mvs, oraOf [impl_Lawn_all_e k, impl_Lawn_grass_e k], loOf [(2, impl_Lawn_runs_c0 k), (0, impl_Lawn_runs_c1 k)]⟩
theorem impl_Lawn_runs_es (k : Nat) : ∀ e ∈ ([impl_Lawn_all_e k, impl_Lawn_grass_e k] : List Ent), EntOK Try.prog tab mvs e := by
  intro e he
  simp only [List.mem_cons, List.not_mem_nil, or_false] at he
  rcases he with rfl | rfl
  · exact impl_Lawn_all_ok k
  · exact impl_Lawn_grass_ok k
theorem impl_Lawn_runs_step0 (k : Nat) (R : Type) (K : Ex → St → Option R) (g : St → Option R) (p : Int × Int × Int × Int × Int × (List Int) × (List Int) × (List Int) × (List Int)) : evCode (impl_Lawn_runs_C k) (loopP [0, 0] (0, codeOf Try.f84)).2 (loopP [0, 0] (0, codeOf Try.f84)).1 (fSt impl_Lawn_runs_t0 (enc_iiiiillll p)) (loopK tab [2, 5, 6, 7, 9, 10, 15, 16, 17] [2, 5, 6, 7, 9, 10, 15, 16, 17] [4] g K) = impl_Lawn_runs_w0 k R K (fun p => g (fSt impl_Lawn_runs_t0 (enc_iiiiillll p))) p := by
  kernel_rfl
theorem impl_Lawn_runs_lok0 (k : Nat) : LoopOK Try.prog tab (impl_Lawn_runs_C k).lo (loopP [0, 0] (0, codeOf Try.f84)).1 (loopP [0, 0] (0, codeOf Try.f84)).2 :=
  loopOK_of (C := impl_Lawn_runs_C k) tabOK eqTabOK (oraOf_ok (impl_Lawn_runs_es k)) (oraOf_nat (impl_Lawn_runs_es k)) follows (forall_getD _ 0 (0, Code.skip) (by kernel_rfl) fun i hi => by
      omega)
    (tm := impl_Lawn_runs_t0) (dec := dec_iiiiillll) (enc := enc_iiiiillll) (ksIn := [2, 5, 6, 7, 9, 10, 15, 16, 17]) (ksOut := [2, 5, 6, 7, 9, 10, 15, 16, 17]) (ksRet := [4]) (k := k) (step := impl_Lawn_runs_w0 k) dec_enc_iiiiillll (fun p => by kernel_rfl) (fun s R K => by kernel_rfl) (impl_Lawn_runs_step0 k)
theorem impl_Lawn_runs_step1 (k : Nat) (R : Type) (K : Ex → St → Option R) (g : St → Option R) (p : Int × Int × Int × Int × (List Int) × (List Int) × (List Int)) : evCode (impl_Lawn_runs_C k) (loopP [0] (0, codeOf Try.f84)).2 (loopP [0] (0, codeOf Try.f84)).1 (fSt impl_Lawn_runs_t1 (enc_iiiilll p)) (loopK tab [2, 5, 6, 7, 15, 16, 17] [5] [4] g K) = impl_Lawn_runs_w1 k R K (fun p => g (fSt impl_Lawn_runs_t1 (enc_iiiilll p))) p := by
  kernel_rfl
theorem impl_Lawn_runs_lok1 (k : Nat) : LoopOK Try.prog tab (impl_Lawn_runs_C k).lo (loopP [0] (0, codeOf Try.f84)).1 (loopP [0] (0, codeOf Try.f84)).2 :=
  loopOK_of (C := impl_Lawn_runs_C k) tabOK eqTabOK (oraOf_ok (impl_Lawn_runs_es k)) (oraOf_nat (impl_Lawn_runs_es k)) follows (forall_getD _ 1 (0, Code.skip) (by kernel_rfl) fun i hi => by
      match i, hi with
      | 0, _ => exact impl_Lawn_runs_lok0 k
      | n + 1, h => omega)
    (tm := impl_Lawn_runs_t1) (dec := dec_iiiilll) (enc := enc_iiiilll) (ksIn := [2, 5, 6, 7, 15, 16, 17]) (ksOut := [5]) (ksRet := [4]) (k := k) (step := impl_Lawn_runs_w1 k) dec_enc_iiiilll (fun p => by kernel_rfl) (fun s R K => by kernel_rfl) (impl_Lawn_runs_step1 k)
def impl_Lawn_runs_e (k : Nat) : Ent := (84, callOf [.agg 30, .bool] dec_lb fun (p : (List Int) × Bool) R K => (impl_Lawn_runs k p.1 p.2).bind fun (b : (List Int)) => K ((fV (.slv 66) (enc_l b)).1, none))
theorem impl_Lawn_runs_run (k : Nat) (p : (List Int) × Bool) : runF (impl_Lawn_runs_C k) Try.f84 false (fL [.agg 30, .bool] (enc_lb p)).1 (resK (.slv 66) dec_l) = impl_Lawn_runs k p.1 p.2 := by
  kernel_rfl
theorem impl_Lawn_runs_ok (k : Nat) : EntOK Try.prog tab mvs (impl_Lawn_runs_e k) :=
  fn_ok (C := impl_Lawn_runs_C k) tabOK eqTabOK (impl_Lawn_runs_es k) rfl follows Try.func84 (by kernel_rfl) (by kernel_rfl) rfl (forall_getD _ 1 (0, Code.skip) (by kernel_rfl) fun i hi => by
      match i, hi with
      | 0, _ => exact impl_Lawn_runs_lok1 k
      | n + 1, h => omega)
    dec_enc_lb dec_enc_l (impl_Lawn_runs_run k)

def impl_StripeOf_1_C (k : Nat) : Cfg := ⟨tab, mvs, oraOf [], loOf []⟩
theorem impl_StripeOf_1_es (k : Nat) : ∀ e ∈ ([] : List Ent), EntOK Try.prog tab mvs e := by
  intro e he
  simp at he
def impl_StripeOf_1_e (k : Nat) : Ent := (91, callOf [.agg 66, .pvi (some 4) 0 4, .pvi (some 64) 0 64] dec_lll fun (p : (List Int) × (List Int) × (List Int)) R K => (impl_StripeOf_1 k p.1 p.2.1 p.2.2).bind fun (b : Bool) => K ((fV (.bool) (enc_b b)).1, none))
theorem impl_StripeOf_1_run (k : Nat) (p : (List Int) × (List Int) × (List Int)) : runF (impl_StripeOf_1_C k) Try.f91 false (fL [.agg 66, .pvi (some 4) 0 4, .pvi (some 64) 0 64] (enc_lll p)).1 (resK (.bool) dec_b) = impl_StripeOf_1 k p.1 p.2.1 p.2.2 := by
  kernel_rfl
theorem impl_StripeOf_1_ok (k : Nat) : EntOK Try.prog tab mvs (impl_StripeOf_1_e k) :=
  fn_ok (C := impl_StripeOf_1_C k) tabOK eqTabOK (impl_StripeOf_1_es k) rfl follows Try.func91 (by kernel_rfl) (by kernel_rfl) rfl (forall_getD _ 0 (0, Code.skip) (by kernel_rfl) fun i hi => by
      omega)
    dec_enc_lll dec_enc_b (impl_StripeOf_1_run k)

def slices_IndexFunc_impl_Run_t0 : StTm := ⟨19, [(0, .slv 66), (1, .cloB 66), (7, .int .i64), (8, .int .i64)], []⟩
def slices_IndexFunc_impl_Run_t0_1 : StTm := ⟨19, [(4, .int .i64)], []⟩
def slices_IndexFunc_impl_Run_t0_2 : StTm := ⟨19, [], []⟩
def slices_IndexFunc_impl_Run_w0 (k : Nat) (R : Type) (K : Ex → St → Option R) (rec : (List Int) × (List Int → Option Bool) × Int × Int → Option R) (p : (List Int) × (List Int → Option Bool) × Int × Int) : Option R := slices_IndexFunc_impl_Run_s0 k (fun y1 => K .ret (fSt slices_IndexFunc_impl_Run_t0_1 [.i y1])) (K (.exit 0) (fSt slices_IndexFunc_impl_Run_t0_2 [])) (fun h1 h2 h3 h4 => rec (h1, h2, h3, h4)) p.1 p.2.1 p.2.2.1 p.2.2.2
def slices_IndexFunc_impl_Run_c0 (k : Nat) : Lcall := lcallOf tab slices_IndexFunc_impl_Run_t0 dec_lgii [0, 1, 7, 8] k (slices_IndexFunc_impl_Run_w0 k)
def slices_IndexFunc_impl_Run_C (k : Nat) : Cfg := ⟨tab, mvs, oraOf [], loOf [(0, slices_IndexFunc_impl_Run_c0 k)]⟩
theorem slices_IndexFunc_impl_Run_es (k : Nat) : ∀ e ∈ ([] : List Ent), EntOK Try.prog tab mvs e := by
  intro e he
  simp at he
theorem slices_IndexFunc_impl_Run_step0 (k : Nat) (R : Type) (K : Ex → St → Option R) (g : St → Option R) (p : (List Int) × (List Int → Option Bool) × Int × Int) : evCode (slices_IndexFunc_impl_Run_C k) (loopP [0] (0, codeOf Try.f90)).2 (loopP [0] (0, codeOf Try.f90)).1 (fSt slices_IndexFunc_impl_Run_t0 (enc_lgii p)) (loopK tab [0, 1, 7, 8] [] [4] g K) = slices_IndexFunc_impl_Run_w0 k R K (fun p => g (fSt slices_IndexFunc_impl_Run_t0 (enc_lgii p))) p := by
  kernel_rfl
theorem slices_IndexFunc_impl_Run_lok0 (k : Nat) : LoopOK Try.prog tab (slices_IndexFunc_impl_Run_C k).lo (loopP [0] (0, codeOf Try.f90)).1 (loopP [0] (0, codeOf Try.f90)).2 :=
  loopOK_of (C := slices_IndexFunc_impl_Run_C k) tabOK eqTabOK (oraOf_ok (slices_IndexFunc_impl_Run_es k)) (oraOf_nat (slices_IndexFunc_impl_Run_es k)) follows (forall_getD _ 0 (0, Code.skip) (by kernel_rfl) fun i hi => by
      omega)
    (tm := slices_IndexFunc_impl_Run_t0) (dec := dec_lgii) (enc := enc_lgii) (ksIn := [0, 1, 7, 8]) (ksOut := []) (ksRet := [4]) (k := k) (step := slices_IndexFunc_impl_Run_w0 k) dec_enc_lgii (fun p => by kernel_rfl) (fun s R K => by kernel_rfl) (slices_IndexFunc_impl_Run_step0 k)
def slices_IndexFunc_impl_Run_e (k : Nat) : Ent := (90, callOf [.slv 66, .cloB 66] dec_lg fun (p : (List Int) × (List Int → Option Bool)) R K => (slices_IndexFunc_impl_Run k p.1 p.2).bind fun (b : Int) => K ((fV (.int .i64) (enc_i b)).1, none))
theorem slices_IndexFunc_impl_Run_run (k : Nat) (p : (List Int) × (List Int → Option Bool)) : runF (slices_IndexFunc_impl_Run_C k) Try.f90 false (fL [.slv 66, .cloB 66] (enc_lg p)).1 (resK (.int .i64) dec_i) = slices_IndexFunc_impl_Run k p.1 p.2 := by
  kernel_rfl
theorem slices_IndexFunc_impl_Run_ok (k : Nat) : EntOK Try.prog tab mvs (slices_IndexFunc_impl_Run_e k) :=
  fn_ok (C := slices_IndexFunc_impl_Run_C k) tabOK eqTabOK (slices_IndexFunc_impl_Run_es k) rfl follows Try.func90 (by kernel_rfl) (by kernel_rfl) rfl (forall_getD _ 1 (0, Code.skip) (by kernel_rfl) fun i hi => by
      match i, hi with
      | 0, _ => exact slices_IndexFunc_impl_Run_lok0 k
      | n + 1, h => omega)
    dec_enc_lg dec_enc_i (slices_IndexFunc_impl_Run_run k)

def impl_StripeOf_C (k : Nat) : Cfg := ⟨tab, mvs, oraOf [impl_cellsCode_e k, impl_Lawn_grass_e k, impl_Lawn_runs_e k, impl_StripeOf_1_e k, slices_IndexFunc_impl_Run_e k], loOf []⟩
theorem impl_StripeOf_es (k : Nat) : ∀ e ∈ ([impl_cellsCode_e k, impl_Lawn_grass_e k, impl_Lawn_runs_e k, impl_StripeOf_1_e k, slices_IndexFunc_impl_Run_e k] : List Ent), EntOK Try.prog tab mvs e := by
  intro e he
  simp only [List.mem_cons, List.not_mem_nil, or_false] at he
  rcases he with rfl | rfl | rfl | rfl | rfl
  · exact impl_cellsCode_ok k
  · exact impl_Lawn_grass_ok k
  · exact impl_Lawn_runs_ok k
  · exact impl_StripeOf_1_ok k
  · exact slices_IndexFunc_impl_Run_ok k
def impl_StripeOf_e (k : Nat) : Ent := (45, callOf [.agg 30, .agg 64, .bool] dec_llb fun (p : (List Int) × (List Int) × Bool) R K => (impl_StripeOf k p.1 p.2.1 p.2.2).bind fun (b : Int × Int) => K ((fV (.tup [.int .i64, .int .i64]) (enc_ii b)).1, none))
theorem impl_StripeOf_run (k : Nat) (p : (List Int) × (List Int) × Bool) : runF (impl_StripeOf_C k) Try.f45 false (fL [.agg 30, .agg 64, .bool] (enc_llb p)).1 (resK (.tup [.int .i64, .int .i64]) dec_ii) = impl_StripeOf k p.1 p.2.1 p.2.2 := by
  kernel_rfl
theorem impl_StripeOf_ok (k : Nat) : EntOK Try.prog tab mvs (impl_StripeOf_e k) :=
  fn_ok (C := impl_StripeOf_C k) tabOK eqTabOK (impl_StripeOf_es k) rfl follows Try.func45 (by kernel_rfl) (by kernel_rfl) rfl (forall_getD _ 0 (0, Code.skip) (by kernel_rfl) fun i hi => by
      omega)
    dec_enc_llb dec_enc_ii (impl_StripeOf_run k)

def laws_FnExactStripeOf_C (k : Nat) : Cfg := ⟨tab, mvs, oraOf [laws_toLawn_e k, laws_toCell_e k, spec_StripeOf_e k, impl_StripeOf_e k], loOf []⟩
theorem laws_FnExactStripeOf_es (k : Nat) : ∀ e ∈ ([laws_toLawn_e k, laws_toCell_e k, spec_StripeOf_e k, impl_StripeOf_e k] : List Ent), EntOK Try.prog tab mvs e := by
  intro e he
  simp only [List.mem_cons, List.not_mem_nil, or_false] at he
  rcases he with rfl | rfl | rfl | rfl
  · exact laws_toLawn_ok k
  · exact laws_toCell_ok k
  · exact spec_StripeOf_ok k
  · exact impl_StripeOf_ok k
def laws_FnExactStripeOf_e (k : Nat) : Ent := (12, callOf [.agg 26, .agg 89, .bool] dec_llb fun (p : (List Int) × (List Int) × Bool) R K => (laws_FnExactStripeOf k p.1 p.2.1 p.2.2).bind fun (b : Bool) => K ((fV (.bool) (enc_b b)).1, none))
theorem laws_FnExactStripeOf_run (k : Nat) (p : (List Int) × (List Int) × Bool) : runF (laws_FnExactStripeOf_C k) Try.f12 false (fL [.agg 26, .agg 89, .bool] (enc_llb p)).1 (resK (.bool) dec_b) = laws_FnExactStripeOf k p.1 p.2.1 p.2.2 := by
  kernel_rfl
theorem laws_FnExactStripeOf_ok (k : Nat) : EntOK Try.prog tab mvs (laws_FnExactStripeOf_e k) :=
  fn_ok (C := laws_FnExactStripeOf_C k) tabOK eqTabOK (laws_FnExactStripeOf_es k) rfl follows Try.func12 (by kernel_rfl) (by kernel_rfl) rfl (forall_getD _ 0 (0, Code.skip) (by kernel_rfl) fun i hi => by
      omega)
    dec_enc_llb dec_enc_b (laws_FnExactStripeOf_run k)

def spec_l05Near_C (k : Nat) : Cfg := ⟨tab, mvs, oraOf [], loOf []⟩
theorem spec_l05Near_es (k : Nat) : ∀ e ∈ ([] : List Ent), EntOK Try.prog tab mvs e := by
  intro e he
  simp at he
def spec_l05Near_e (k : Nat) : Ent := (142, callOf [.agg 64] dec_l fun (p : (List Int)) R K => (spec_l05Near k p).bind fun (b : (List Int)) => K ((fV (.slv 64) (enc_l b)).1, none))
theorem spec_l05Near_run (k : Nat) (p : (List Int)) : runF (spec_l05Near_C k) Try.f142 false (fL [.agg 64] (enc_l p)).1 (resK (.slv 64) dec_l) = spec_l05Near k p := by
  kernel_rfl
theorem spec_l05Near_ok (k : Nat) : EntOK Try.prog tab mvs (spec_l05Near_e k) :=
  fn_ok (C := spec_l05Near_C k) tabOK eqTabOK (spec_l05Near_es k) rfl follows Try.func142 (by kernel_rfl) (by kernel_rfl) rfl (forall_getD _ 0 (0, Code.skip) (by kernel_rfl) fun i hi => by
      omega)
    dec_enc_l dec_enc_l (spec_l05Near_run k)

def dec_lilll (ps : List Pay) : Option ((List Int) × Int × (List Int) × (List Int) × (List Int)) := match ps with
  | [.l x1, .i x2, .l x3, .l x4, .l x5] => some (x1, x2, x3, x4, x5)
  | _ => none
def enc_lilll (p : (List Int) × Int × (List Int) × (List Int) × (List Int)) : List Pay := [.l p.1, .i p.2.1, .l p.2.2.1, .l p.2.2.2.1, .l p.2.2.2.2]
theorem dec_enc_lilll : ∀ (ps : List Pay) (p : (List Int) × Int × (List Int) × (List Int) × (List Int)), dec_lilll ps = some p → ps = enc_lilll p := by
  intro ps p h
  unfold dec_lilll at h
  split at h
  · injection h with h
    subst h
    rfl
  · cases h

def spec_l05At_t0 : StTm := ⟨38, [(0, .pvi (some 30) 0 30), (4, .ptr 4 0 50), (5, .ptr 5 0 50), (6, .slw 6 64), (7, .int .i64)], [(4, 50, true, .ints), (5, 50, true, .ints), (6, 64, false, .ints)]⟩
def spec_l05At_t0_1 : StTm := ⟨38, [(4, .ptr 4 0 50), (5, .ptr 5 0 50)], [(4, 50, true, .ints), (5, 50, true, .ints)]⟩
def spec_l05At_w0 (k : Nat) (R : Type) (K : Ex → St → Option R) (rec : (List Int) × Int × (List Int) × (List Int) × (List Int) → Option R) (p : (List Int) × Int × (List Int) × (List Int) × (List Int)) : Option R := spec_l05At_s0 k (fun y1 y2 => K (.exit 0) (fSt spec_l05At_t0_1 [.l y1, .l y2])) (fun h1 h2 h3 h4 h5 => rec (h1, h2, h3, h4, h5)) p.1 p.2.1 p.2.2.1 p.2.2.2.1 p.2.2.2.2
def spec_l05At_c0 (k : Nat) : Lcall := lcallOf tab spec_l05At_t0 dec_lilll [0, 4, 5, 6, 7] k (spec_l05At_w0 k)
def spec_l05At_C (k : Nat) : Cfg := ⟨tab, mvs, oraOf [spec_l05Near_e k, spec_l01Is_e k, spec_l01At_e k], loOf [(0, spec_l05At_c0 k)]⟩
theorem spec_l05At_es (k : Nat) : ∀ e ∈ ([spec_l05Near_e k, spec_l01Is_e k, spec_l01At_e k] : List Ent), EntOK Try.prog tab mvs e := by
  intro e he
  simp only [List.mem_cons, List.not_mem_nil, or_false] at he
  rcases he with rfl | rfl | rfl
  · exact spec_l05Near_ok k
  · exact spec_l01Is_ok k
  · exact spec_l01At_ok k
theorem spec_l05At_step0 (k : Nat) (R : Type) (K : Ex → St → Option R) (g : St → Option R) (p : (List Int) × Int × (List Int) × (List Int) × (List Int)) : evCode (spec_l05At_C k) (loopP [0] (0, codeOf Try.f123)).2 (loopP [0] (0, codeOf Try.f123)).1 (fSt spec_l05At_t0 (enc_lilll p)) (loopK tab [0, 4, 5, 6, 7] [4, 5] [4] g K) = spec_l05At_w0 k R K (fun p => g (fSt spec_l05At_t0 (enc_lilll p))) p := by
  kernel_rfl
theorem spec_l05At_lok0 (k : Nat) : LoopOK Try.prog tab (spec_l05At_C k).lo (loopP [0] (0, codeOf Try.f123)).1 (loopP [0] (0, codeOf Try.f123)).2 :=
  loopOK_of (C := spec_l05At_C k) tabOK eqTabOK (oraOf_ok (spec_l05At_es k)) (oraOf_nat (spec_l05At_es k)) follows (forall_getD _ 0 (0, Code.skip) (by kernel_rfl) fun i hi => by
      omega)
    (tm := spec_l05At_t0) (dec := dec_lilll) (enc := enc_lilll) (ksIn := [0, 4, 5, 6, 7]) (ksOut := [4, 5]) (ksRet := [4]) (k := k) (step := spec_l05At_w0 k) dec_enc_lilll (fun p => by kernel_rfl) (fun s R K => by kernel_rfl) (spec_l05At_step0 k)
def spec_l05At_e (k : Nat) : Ent := (123, callOf [.pvi (some 30) 0 30, .agg 64] dec_ll fun (p : (List Int) × (List Int)) R K => (spec_l05At k p.1 p.2).bind fun (b : (List Int)) => K ((fV (.agg 50) (enc_l b)).1, none))
theorem spec_l05At_run (k : Nat) (p : (List Int) × (List Int)) : runF (spec_l05At_C k) Try.f123 false (fL [.pvi (some 30) 0 30, .agg 64] (enc_ll p)).1 (resK (.agg 50) dec_l) = spec_l05At k p.1 p.2 := by
  kernel_rfl
theorem spec_l05At_ok (k : Nat) : EntOK Try.prog tab mvs (spec_l05At_e k) :=
  fn_ok (C := spec_l05At_C k) tabOK eqTabOK (spec_l05At_es k) rfl follows Try.func123 (by kernel_rfl) (by kernel_rfl) rfl (forall_getD _ 1 (0, Code.skip) (by kernel_rfl) fun i hi => by
      match i, hi with
      | 0, _ => exact spec_l05At_lok0 k
      | n + 1, h => omega)
    dec_enc_ll dec_enc_l (spec_l05At_run k)

def dec_liillll (ps : List Pay) : Option ((List Int) × Int × Int × (List Int) × (List Int) × (List Int) × (List Int)) := match ps with
  | [.l x1, .i x2, .i x3, .l x4, .l x5, .l x6, .l x7] => some (x1, x2, x3, x4, x5, x6, x7)
  | _ => none
def enc_liillll (p : (List Int) × Int × Int × (List Int) × (List Int) × (List Int) × (List Int)) : List Pay := [.l p.1, .i p.2.1, .i p.2.2.1, .l p.2.2.2.1, .l p.2.2.2.2.1, .l p.2.2.2.2.2.1, .l p.2.2.2.2.2.2]
theorem dec_enc_liillll : ∀ (ps : List Pay) (p : (List Int) × Int × Int × (List Int) × (List Int) × (List Int) × (List Int)), dec_liillll ps = some p → ps = enc_liillll p := by
  intro ps p h
  unfold dec_liillll at h
  split at h
  · injection h with h
    subst h
    rfl
  · cases h

def spec_l05All_t0 : StTm := ⟨36, [(0, .pvi (some 30) 0 30), (2, .ptr 2 0 50), (3, .ptr 3 0 50), (4, .slw 4 64), (5, .int .i64), (6, .ptr 6 0 50), (7, .int .i64)], [(2, 50, true, .ints), (3, 50, true, .ints), (4, 64, false, .ints), (6, 50, true, .ints)]⟩
def spec_l05All_t0_1 : StTm := ⟨36, [(0, .pvi (some 30) 0 30), (2, .ptr 2 0 50), (3, .ptr 3 0 50), (4, .slw 4 64), (5, .int .i64)], [(2, 50, true, .ints), (3, 50, true, .ints), (4, 64, false, .ints)]⟩
def spec_l05All_w0 (k : Nat) (R : Type) (K : Ex → St → Option R) (rec : (List Int) × Int × Int × (List Int) × (List Int) × (List Int) × (List Int) → Option R) (p : (List Int) × Int × Int × (List Int) × (List Int) × (List Int) × (List Int)) : Option R := spec_l05All_s0 k (fun y1 y2 y3 y4 y5 => K (.exit 2) (fSt spec_l05All_t0_1 [.l y1, .i y2, .l y3, .l y4, .l y5])) (fun h1 h2 h3 h4 h5 h6 h7 => rec (h1, h2, h3, h4, h5, h6, h7)) p.1 p.2.1 p.2.2.1 p.2.2.2.1 p.2.2.2.2.1 p.2.2.2.2.2.1 p.2.2.2.2.2.2
def spec_l05All_c0 (k : Nat) : Lcall := lcallOf tab spec_l05All_t0 dec_liillll [0, 2, 3, 4, 5, 6, 7] k (spec_l05All_w0 k)
def spec_l05All_t1 : StTm := ⟨36, [(0, .pvi (some 30) 0 30), (2, .ptr 2 0 50), (3, .ptr 3 0 50), (4, .slw 4 64), (5, .int .i64)], [(2, 50, true, .ints), (3, 50, true, .ints), (4, 64, false, .ints)]⟩
def spec_l05All_t1_1 : StTm := ⟨36, [(2, .ptr 2 0 50), (3, .ptr 3 0 50)], [(2, 50, true, .ints), (3, 50, true, .ints)]⟩
def spec_l05All_w1 (k : Nat) (R : Type) (K : Ex → St → Option R) (rec : (List Int) × Int × (List Int) × (List Int) × (List Int) → Option R) (p : (List Int) × Int × (List Int) × (List Int) × (List Int)) : Option R := spec_l05All_s1 k (fun y1 y2 => K (.exit 0) (fSt spec_l05All_t1_1 [.l y1, .l y2])) (fun h1 h2 h3 h4 h5 => rec (h1, h2, h3, h4, h5)) p.1 p.2.1 p.2.2.1 p.2.2.2.1 p.2.2.2.2
def spec_l05All_c1 (k : Nat) : Lcall := lcallOf tab spec_l05All_t1 dec_lilll [0, 2, 3, 4, 5] k (spec_l05All_w1 k)
def spec_l05All_C (k : Nat) : Cfg := ⟨tab, mvs, oraOf [spec_l01Cells_e k, spec_l05At_e k], loOf [(2, spec_l05All_c0 k), (0, spec_l05All_c1 k)]⟩
theorem spec_l05All_es (k : Nat) : ∀ e ∈ ([spec_l01Cells_e k, spec_l05At_e k] : List Ent), EntOK Try.prog tab mvs e := by
  intro e he
  simp only [List.mem_cons, List.not_mem_nil, or_false] at he
  rcases he with rfl | rfl
  · exact spec_l01Cells_ok k
  · exact spec_l05At_ok k
theorem spec_l05All_step0 (k : Nat) (R : Type) (K : Ex → St → Option R) (g : St → Option R) (p : (List Int) × Int × Int × (List Int) × (List Int) × (List Int) × (List Int)) : evCode (spec_l05All_C k) (loopP [0, 0] (0, codeOf Try.f77)).2 (loopP [0, 0] (0, codeOf Try.f77)).1 (fSt spec_l05All_t0 (enc_liillll p)) (loopK tab [0, 2, 3, 4, 5, 6, 7] [0, 2, 3, 4, 5] [2] g K) = spec_l05All_w0 k R K (fun p => g (fSt spec_l05All_t0 (enc_liillll p))) p := by
  kernel_rfl
theorem spec_l05All_lok0 (k : Nat) : LoopOK Try.prog tab (spec_l05All_C k).lo (loopP [0, 0] (0, codeOf Try.f77)).1 (loopP [0, 0] (0, codeOf Try.f77)).2 :=
  loopOK_of (C := spec_l05All_C k) tabOK eqTabOK (oraOf_ok (spec_l05All_es k)) (oraOf_nat (spec_l05All_es k)) follows (forall_getD _ 0 (0, Code.skip) (by kernel_rfl) fun i hi => by
      omega)
    (tm := spec_l05All_t0) (dec := dec_liillll) (enc := enc_liillll) (ksIn := [0, 2, 3, 4, 5, 6, 7]) (ksOut := [0, 2, 3, 4, 5]) (ksRet := [2]) (k := k) (step := spec_l05All_w0 k) dec_enc_liillll (fun p => by kernel_rfl) (fun s R K => by kernel_rfl) (spec_l05All_step0 k)
theorem spec_l05All_step1 (k : Nat) (R : Type) (K : Ex → St → Option R) (g : St → Option R) (p : (List Int) × Int × (List Int) × (List Int) × (List Int)) : evCode (spec_l05All_C k) (loopP [0] (0, codeOf Try.f77)).2 (loopP [0] (0, codeOf Try.f77)).1 (fSt spec_l05All_t1 (enc_lilll p)) (loopK tab [0, 2, 3, 4, 5] [2, 3] [2] g K) = spec_l05All_w1 k R K (fun p => g (fSt spec_l05All_t1 (enc_lilll p))) p := by
  kernel_rfl
theorem spec_l05All_lok1 (k : Nat) : LoopOK Try.prog tab (spec_l05All_C k).lo (loopP [0] (0, codeOf Try.f77)).1 (loopP [0] (0, codeOf Try.f77)).2 :=
  loopOK_of (C := spec_l05All_C k) tabOK eqTabOK (oraOf_ok (spec_l05All_es k)) (oraOf_nat (spec_l05All_es k)) follows (forall_getD _ 1 (0, Code.skip) (by kernel_rfl) fun i hi => by
      match i, hi with
      | 0, _ => exact spec_l05All_lok0 k
      | n + 1, h => omega)
    (tm := spec_l05All_t1) (dec := dec_lilll) (enc := enc_lilll) (ksIn := [0, 2, 3, 4, 5]) (ksOut := [2, 3]) (ksRet := [2]) (k := k) (step := spec_l05All_w1 k) dec_enc_lilll (fun p => by kernel_rfl) (fun s R K => by kernel_rfl) (spec_l05All_step1 k)
def spec_l05All_e (k : Nat) : Ent := (77, callOf [.pvi (some 30) 0 30] dec_l fun (p : (List Int)) R K => (spec_l05All k p).bind fun (b : (List Int)) => K ((fV (.agg 50) (enc_l b)).1, none))
theorem spec_l05All_run (k : Nat) (p : (List Int)) : runF (spec_l05All_C k) Try.f77 false (fL [.pvi (some 30) 0 30] (enc_l p)).1 (resK (.agg 50) dec_l) = spec_l05All k p := by
  kernel_rfl
theorem spec_l05All_ok (k : Nat) : EntOK Try.prog tab mvs (spec_l05All_e k) :=
  fn_ok (C := spec_l05All_C k) tabOK eqTabOK (spec_l05All_es k) rfl follows Try.func77 (by kernel_rfl) (by kernel_rfl) rfl (forall_getD _ 1 (0, Code.skip) (by kernel_rfl) fun i hi => by
      match i, hi with
      | 0, _ => exact spec_l05All_lok1 k
      | n + 1, h => omega)
    dec_enc_l dec_enc_l (spec_l05All_run k)

def spec_SidesOf_C (k : Nat) : Cfg := ⟨tab, mvs, oraOf [spec_l01Ok_e k, spec_l05All_e k], loOf []⟩
theorem spec_SidesOf_es (k : Nat) : ∀ e ∈ ([spec_l01Ok_e k, spec_l05All_e k] : List Ent), EntOK Try.prog tab mvs e := by
  intro e he
  simp only [List.mem_cons, List.not_mem_nil, or_false] at he
  rcases he with rfl | rfl
  · exact spec_l01Ok_ok k
  · exact spec_l05All_ok k
def spec_SidesOf_e (k : Nat) : Ent := (28, callOf [.agg 30] dec_l fun (p : (List Int)) R K => (spec_SidesOf k p).bind fun (b : (List Int) × Int) => K ((fV (.tup [.agg 50, .int .i64]) (enc_li b)).1, none))
theorem spec_SidesOf_run (k : Nat) (p : (List Int)) : runF (spec_SidesOf_C k) Try.f28 false (fL [.agg 30] (enc_l p)).1 (resK (.tup [.agg 50, .int .i64]) dec_li) = spec_SidesOf k p := by
  kernel_rfl
theorem spec_SidesOf_ok (k : Nat) : EntOK Try.prog tab mvs (spec_SidesOf_e k) :=
  fn_ok (C := spec_SidesOf_C k) tabOK eqTabOK (spec_SidesOf_es k) rfl follows Try.func28 (by kernel_rfl) (by kernel_rfl) rfl (forall_getD _ 0 (0, Code.skip) (by kernel_rfl) fun i hi => by
      omega)
    dec_enc_l dec_enc_li (spec_SidesOf_run k)

def impl_Lawn_those_1_C (k : Nat) : Cfg := ⟨tab, mvs, oraOf [], loOf []⟩
theorem impl_Lawn_those_1_es (k : Nat) : ∀ e ∈ ([] : List Ent), EntOK Try.prog tab mvs e := by
  intro e he
  simp at he
def impl_Lawn_those_1_e (k : Nat) : Ent := (111, callOf [.agg 64, .pvv [.cloB 64] 0 100] dec_lg fun (p : (List Int) × (List Int → Option Bool)) R K => (impl_Lawn_those_1 k p.1 p.2).bind fun (b : Bool) => K ((fV (.bool) (enc_b b)).1, none))
theorem impl_Lawn_those_1_run (k : Nat) (p : (List Int) × (List Int → Option Bool)) : runF (impl_Lawn_those_1_C k) Try.f111 false (fL [.agg 64, .pvv [.cloB 64] 0 100] (enc_lg p)).1 (resK (.bool) dec_b) = impl_Lawn_those_1 k p.1 p.2 := by
  kernel_rfl
theorem impl_Lawn_those_1_ok (k : Nat) : EntOK Try.prog tab mvs (impl_Lawn_those_1_e k) :=
  fn_ok (C := impl_Lawn_those_1_C k) tabOK eqTabOK (impl_Lawn_those_1_es k) rfl follows Try.func111 (by kernel_rfl) (by kernel_rfl) rfl (forall_getD _ 0 (0, Code.skip) (by kernel_rfl) fun i hi => by
      omega)
    dec_enc_lg dec_enc_b (impl_Lawn_those_1_run k)

def dec_giil (ps : List Pay) : Option ((List Int → Option Bool) × Int × Int × (List Int)) := match ps with
  | [.g x1, .i x2, .i x3, .l x4] => some (x1, x2, x3, x4)
  | _ => none
def enc_giil (p : (List Int → Option Bool) × Int × Int × (List Int)) : List Pay := [.g p.1, .i p.2.1, .i p.2.2.1, .l p.2.2.2]
theorem dec_enc_giil : ∀ (ps : List Pay) (p : (List Int → Option Bool) × Int × Int × (List Int)), dec_giil ps = some p → ps = enc_giil p := by
  intro ps p h
  unfold dec_giil at h
  split at h
  · injection h with h
    subst h
    rfl
  · cases h

def slices_DeleteFunc_impl_Cell_t0 : StTm := ⟨42, [(0, .slw 0 64), (1, .cloB 64), (5, .int .i64), (6, .int .i64)], [(0, 64, false, .ints)]⟩
def slices_DeleteFunc_impl_Cell_t0_1 : StTm := ⟨42, [(0, .slw 0 64), (5, .int .i64)], [(0, 64, false, .ints)]⟩
def slices_DeleteFunc_impl_Cell_w0 (k : Nat) (R : Type) (K : Ex → St → Option R) (rec : (List Int → Option Bool) × Int × Int × (List Int) → Option R) (p : (List Int → Option Bool) × Int × Int × (List Int)) : Option R := slices_DeleteFunc_impl_Cell_s0 k (fun y1 y2 => K (.exit 0) (fSt slices_DeleteFunc_impl_Cell_t0_1 [.i y1, .l y2])) (fun h1 h2 h3 h4 => rec (h1, h2, h3, h4)) p.1 p.2.1 p.2.2.1 p.2.2.2
def slices_DeleteFunc_impl_Cell_c0 (k : Nat) : Lcall := lcallOf tab slices_DeleteFunc_impl_Cell_t0 dec_giil [0, 1, 5, 6] k (slices_DeleteFunc_impl_Cell_w0 k)
def slices_DeleteFunc_impl_Cell_C (k : Nat) : Cfg := ⟨tab, mvs, oraOf [slices_IndexFunc_impl_Cell_e k], loOf [(0, slices_DeleteFunc_impl_Cell_c0 k)]⟩
theorem slices_DeleteFunc_impl_Cell_es (k : Nat) : ∀ e ∈ ([slices_IndexFunc_impl_Cell_e k] : List Ent), EntOK Try.prog tab mvs e := by
  intro e he
  simp only [List.mem_cons, List.not_mem_nil, or_false] at he
  rcases he with rfl
  · exact slices_IndexFunc_impl_Cell_ok k
theorem slices_DeleteFunc_impl_Cell_step0 (k : Nat) (R : Type) (K : Ex → St → Option R) (g : St → Option R) (p : (List Int → Option Bool) × Int × Int × (List Int)) : evCode (slices_DeleteFunc_impl_Cell_C k) (loopP [0] (0, codeOf Try.f110)).2 (loopP [0] (0, codeOf Try.f110)).1 (fSt slices_DeleteFunc_impl_Cell_t0 (enc_giil p)) (loopK tab [0, 1, 5, 6] [0, 5] [4] g K) = slices_DeleteFunc_impl_Cell_w0 k R K (fun p => g (fSt slices_DeleteFunc_impl_Cell_t0 (enc_giil p))) p := by
  kernel_rfl
theorem slices_DeleteFunc_impl_Cell_lok0 (k : Nat) : LoopOK Try.prog tab (slices_DeleteFunc_impl_Cell_C k).lo (loopP [0] (0, codeOf Try.f110)).1 (loopP [0] (0, codeOf Try.f110)).2 :=
  loopOK_of (C := slices_DeleteFunc_impl_Cell_C k) tabOK eqTabOK (oraOf_ok (slices_DeleteFunc_impl_Cell_es k)) (oraOf_nat (slices_DeleteFunc_impl_Cell_es k)) follows (forall_getD _ 0 (0, Code.skip) (by kernel_rfl) fun i hi => by
      omega)
    (tm := slices_DeleteFunc_impl_Cell_t0) (dec := dec_giil) (enc := enc_giil) (ksIn := [0, 1, 5, 6]) (ksOut := [0, 5]) (ksRet := [4]) (k := k) (step := slices_DeleteFunc_impl_Cell_w0 k) dec_enc_giil (fun p => by kernel_rfl) (fun s R K => by kernel_rfl) (slices_DeleteFunc_impl_Cell_step0 k)
def slices_DeleteFunc_impl_Cell_e (k : Nat) : Ent := (110, callOf [.slv 64, .cloB 64] dec_lg fun (p : (List Int) × (List Int → Option Bool)) R K => (slices_DeleteFunc_impl_Cell k p.1 p.2).bind fun (b : (List Int)) => K ((fV (.slv 64) (enc_l b)).1, none))
theorem slices_DeleteFunc_impl_Cell_run (k : Nat) (p : (List Int) × (List Int → Option Bool)) : runF (slices_DeleteFunc_impl_Cell_C k) Try.f110 true (fL [.slv 64, .cloB 64] (enc_lg p)).1 (resK (.slv 64) dec_l) = slices_DeleteFunc_impl_Cell k p.1 p.2 := by
  kernel_rfl
theorem slices_DeleteFunc_impl_Cell_ok (k : Nat) : EntOK Try.prog tab mvs (slices_DeleteFunc_impl_Cell_e k) :=
  fnm_ok (C := slices_DeleteFunc_impl_Cell_C k) tabOK eqTabOK (slices_DeleteFunc_impl_Cell_es k) rfl follows Try.func110 (by kernel_rfl) (by kernel_rfl) rfl (forall_getD _ 1 (0, Code.skip) (by kernel_rfl) fun i hi => by
      match i, hi with
      | 0, _ => exact slices_DeleteFunc_impl_Cell_lok0 k
      | n + 1, h => omega)
    dec_enc_lg dec_enc_l (slices_DeleteFunc_impl_Cell_run k)

def impl_Lawn_those_C (k : Nat) : Cfg := ⟨tab, mvs, oraOf [impl_Lawn_all_e k, impl_Lawn_those_1_e k, slices_DeleteFunc_impl_Cell_e k], loOf []⟩
theorem impl_Lawn_those_es (k : Nat) : ∀ e ∈ ([impl_Lawn_all_e k, impl_Lawn_those_1_e k, slices_DeleteFunc_impl_Cell_e k] : List Ent), EntOK Try.prog tab mvs e := by
  intro e he
  simp only [List.mem_cons, List.not_mem_nil, or_false] at he
  rcases he with rfl | rfl | rfl
  · exact impl_Lawn_all_ok k
  · exact impl_Lawn_those_1_ok k
  · exact slices_DeleteFunc_impl_Cell_ok k
def impl_Lawn_those_e (k : Nat) : Ent := (60, callOf [.agg 30, .cloB 64] dec_lg fun (p : (List Int) × (List Int → Option Bool)) R K => (impl_Lawn_those k p.1 p.2).bind fun (b : (List Int)) => K ((fV (.slv 64) (enc_l b)).1, none))
theorem impl_Lawn_those_run (k : Nat) (p : (List Int) × (List Int → Option Bool)) : runF (impl_Lawn_those_C k) Try.f60 false (fL [.agg 30, .cloB 64] (enc_lg p)).1 (resK (.slv 64) dec_l) = impl_Lawn_those k p.1 p.2 := by
  kernel_rfl
theorem impl_Lawn_those_ok (k : Nat) : EntOK Try.prog tab mvs (impl_Lawn_those_e k) :=
  fn_ok (C := impl_Lawn_those_C k) tabOK eqTabOK (impl_Lawn_those_es k) rfl follows Try.func60 (by kernel_rfl) (by kernel_rfl) rfl (forall_getD _ 0 (0, Code.skip) (by kernel_rfl) fun i hi => by
      omega)
    dec_enc_lg dec_enc_l (impl_Lawn_those_run k)

def dec_iillll (ps : List Pay) : Option (Int × Int × (List Int) × (List Int) × (List Int) × (List Int)) := match ps with
  | [.i x1, .i x2, .l x3, .l x4, .l x5, .l x6] => some (x1, x2, x3, x4, x5, x6)
  | _ => none
def enc_iillll (p : Int × Int × (List Int) × (List Int) × (List Int) × (List Int)) : List Pay := [.i p.1, .i p.2.1, .l p.2.2.1, .l p.2.2.2.1, .l p.2.2.2.2.1, .l p.2.2.2.2.2]
theorem dec_enc_iillll : ∀ (ps : List Pay) (p : Int × Int × (List Int) × (List Int) × (List Int) × (List Int)), dec_iillll ps = some p → ps = enc_iillll p := by
  intro ps p h
  unfold dec_iillll at h
  split at h
  · injection h with h
    subst h
    rfl
  · cases h

def impl_Lawn_around_t0 : StTm := ⟨32, [(2, .ptr 2 0 30), (4, .ptr 4 0 50), (5, .ptr 5 0 50), (10, .slw 10 64), (11, .int .i64), (12, .int .i64)], [(2, 30, true, .ints), (4, 50, true, .ints), (5, 50, true, .ints), (10, 64, false, .ints)]⟩
def impl_Lawn_around_t0_1 : StTm := ⟨32, [(4, .ptr 4 0 50), (5, .ptr 5 0 50)], [(4, 50, true, .ints), (5, 50, true, .ints)]⟩
def impl_Lawn_around_w0 (k : Nat) (R : Type) (K : Ex → St → Option R) (rec : Int × Int × (List Int) × (List Int) × (List Int) × (List Int) → Option R) (p : Int × Int × (List Int) × (List Int) × (List Int) × (List Int)) : Option R := impl_Lawn_around_s0 k (fun y1 y2 => K (.exit 0) (fSt impl_Lawn_around_t0_1 [.l y1, .l y2])) (fun h1 h2 h3 h4 h5 h6 => rec (h1, h2, h3, h4, h5, h6)) p.1 p.2.1 p.2.2.1 p.2.2.2.1 p.2.2.2.2.1 p.2.2.2.2.2
def impl_Lawn_around_c0 (k : Nat) : Lcall := lcallOf tab impl_Lawn_around_t0 dec_iillll [2, 4, 5, 10, 11, 12] k (impl_Lawn_around_w0 k)
def impl_Lawn_around_C (k : Nat) : Cfg := ⟨tab, mvs, oraOf [impl_beside_e k, impl_Lawn_has_e k, impl_Lawn_kind_e k], loOf [(0, impl_Lawn_around_c0 k)]⟩
theorem impl_Lawn_around_es (k : Nat) : ∀ e ∈ ([impl_beside_e k, impl_Lawn_has_e k, impl_Lawn_kind_e k] : List Ent), EntOK Try.prog tab mvs e := by
  intro e he
  simp only [List.mem_cons, List.not_mem_nil, or_false] at he
  rcases he with rfl | rfl | rfl
  · exact impl_beside_ok k
  · exact impl_Lawn_has_ok k
  · exact impl_Lawn_kind_ok k
theorem impl_Lawn_around_step0 (k : Nat) (R : Type) (K : Ex → St → Option R) (g : St → Option R) (p : Int × Int × (List Int) × (List Int) × (List Int) × (List Int)) : evCode (impl_Lawn_around_C k) (loopP [0] (0, codeOf Try.f124)).2 (loopP [0] (0, codeOf Try.f124)).1 (fSt impl_Lawn_around_t0 (enc_iillll p)) (loopK tab [2, 4, 5, 10, 11, 12] [4, 5] [4] g K) = impl_Lawn_around_w0 k R K (fun p => g (fSt impl_Lawn_around_t0 (enc_iillll p))) p := by
  kernel_rfl
theorem impl_Lawn_around_lok0 (k : Nat) : LoopOK Try.prog tab (impl_Lawn_around_C k).lo (loopP [0] (0, codeOf Try.f124)).1 (loopP [0] (0, codeOf Try.f124)).2 :=
  loopOK_of (C := impl_Lawn_around_C k) tabOK eqTabOK (oraOf_ok (impl_Lawn_around_es k)) (oraOf_nat (impl_Lawn_around_es k)) follows (forall_getD _ 0 (0, Code.skip) (by kernel_rfl) fun i hi => by
      omega)
    (tm := impl_Lawn_around_t0) (dec := dec_iillll) (enc := enc_iillll) (ksIn := [2, 4, 5, 10, 11, 12]) (ksOut := [4, 5]) (ksRet := [4]) (k := k) (step := impl_Lawn_around_w0 k) dec_enc_iillll (fun p => by kernel_rfl) (fun s R K => by kernel_rfl) (impl_Lawn_around_step0 k)
def impl_Lawn_around_e (k : Nat) : Ent := (124, callOf [.agg 30, .agg 64] dec_ll fun (p : (List Int) × (List Int)) R K => (impl_Lawn_around k p.1 p.2).bind fun (b : (List Int)) => K ((fV (.agg 50) (enc_l b)).1, none))
theorem impl_Lawn_around_run (k : Nat) (p : (List Int) × (List Int)) : runF (impl_Lawn_around_C k) Try.f124 false (fL [.agg 30, .agg 64] (enc_ll p)).1 (resK (.agg 50) dec_l) = impl_Lawn_around k p.1 p.2 := by
  kernel_rfl
theorem impl_Lawn_around_ok (k : Nat) : EntOK Try.prog tab mvs (impl_Lawn_around_e k) :=
  fn_ok (C := impl_Lawn_around_C k) tabOK eqTabOK (impl_Lawn_around_es k) rfl follows Try.func124 (by kernel_rfl) (by kernel_rfl) rfl (forall_getD _ 1 (0, Code.skip) (by kernel_rfl) fun i hi => by
      match i, hi with
      | 0, _ => exact impl_Lawn_around_lok0 k
      | n + 1, h => omega)
    dec_enc_ll dec_enc_l (impl_Lawn_around_run k)

def dec_iilillll (ps : List Pay) : Option (Int × Int × (List Int) × Int × (List Int) × (List Int) × (List Int) × (List Int)) := match ps with
  | [.i x1, .i x2, .l x3, .i x4, .l x5, .l x6, .l x7, .l x8] => some (x1, x2, x3, x4, x5, x6, x7, x8)
  | _ => none
def enc_iilillll (p : Int × Int × (List Int) × Int × (List Int) × (List Int) × (List Int) × (List Int)) : List Pay := [.i p.1, .i p.2.1, .l p.2.2.1, .i p.2.2.2.1, .l p.2.2.2.2.1, .l p.2.2.2.2.2.1, .l p.2.2.2.2.2.2.1, .l p.2.2.2.2.2.2.2]
theorem dec_enc_iilillll : ∀ (ps : List Pay) (p : Int × Int × (List Int) × Int × (List Int) × (List Int) × (List Int) × (List Int)), dec_iilillll ps = some p → ps = enc_iilillll p := by
  intro ps p h
  unfold dec_iilillll at h
  split at h
  · injection h with h
    subst h
    rfl
  · cases h

def impl_Lawn_sides_t0 : StTm := ⟨34, [(1, .ptr 1 0 30), (2, .ptr 2 0 50), (3, .ptr 3 0 50), (12, .slw 12 64), (13, .int .i64), (14, .int .i64), (20, .agg 50), (21, .int .i64)], [(1, 30, true, .ints), (2, 50, true, .ints), (3, 50, true, .ints), (12, 64, false, .ints)]⟩
def impl_Lawn_sides_t0_1 : StTm := ⟨34, [(1, .ptr 1 0 30), (2, .ptr 2 0 50), (3, .ptr 3 0 50), (12, .slw 12 64), (13, .int .i64), (14, .int .i64)], [(1, 30, true, .ints), (2, 50, true, .ints), (3, 50, true, .ints), (12, 64, false, .ints)]⟩
def impl_Lawn_sides_w0 (k : Nat) (R : Type) (K : Ex → St → Option R) (rec : Int × Int × (List Int) × Int × (List Int) × (List Int) × (List Int) × (List Int) → Option R) (p : Int × Int × (List Int) × Int × (List Int) × (List Int) × (List Int) × (List Int)) : Option R := impl_Lawn_sides_s0 k (fun y1 y2 y3 y4 y5 y6 => K (.exit 2) (fSt impl_Lawn_sides_t0_1 [.i y1, .i y2, .l y3, .l y4, .l y5, .l y6])) (fun h1 h2 h3 h4 h5 h6 h7 h8 => rec (h1, h2, h3, h4, h5, h6, h7, h8)) p.1 p.2.1 p.2.2.1 p.2.2.2.1 p.2.2.2.2.1 p.2.2.2.2.2.1 p.2.2.2.2.2.2.1 p.2.2.2.2.2.2.2
def impl_Lawn_sides_c0 (k : Nat) : Lcall := lcallOf tab impl_Lawn_sides_t0 dec_iilillll [1, 2, 3, 12, 13, 14, 20, 21] k (impl_Lawn_sides_w0 k)
def impl_Lawn_sides_t1 : StTm := ⟨34, [(1, .ptr 1 0 30), (2, .ptr 2 0 50), (3, .ptr 3 0 50), (12, .slw 12 64), (13, .int .i64), (14, .int .i64)], [(1, 30, true, .ints), (2, 50, true, .ints), (3, 50, true, .ints), (12, 64, false, .ints)]⟩
def impl_Lawn_sides_t1_1 : StTm := ⟨34, [(2, .ptr 2 0 50), (3, .ptr 3 0 50)], [(2, 50, true, .ints), (3, 50, true, .ints)]⟩
def impl_Lawn_sides_w1 (k : Nat) (R : Type) (K : Ex → St → Option R) (rec : Int × Int × (List Int) × (List Int) × (List Int) × (List Int) → Option R) (p : Int × Int × (List Int) × (List Int) × (List Int) × (List Int)) : Option R := impl_Lawn_sides_s1 k (fun y1 y2 => K (.exit 0) (fSt impl_Lawn_sides_t1_1 [.l y1, .l y2])) (fun h1 h2 h3 h4 h5 h6 => rec (h1, h2, h3, h4, h5, h6)) p.1 p.2.1 p.2.2.1 p.2.2.2.1 p.2.2.2.2.1 p.2.2.2.2.2
def impl_Lawn_sides_c1 (k : Nat) : Lcall := lcallOf tab impl_Lawn_sides_t1 dec_iillll [1, 2, 3, 12, 13, 14] k (impl_Lawn_sides_w1 k)
def impl_Lawn_sides_C (k : Nat) : Cfg := ⟨tab, mvs, oraOf [impl_Lawn_grass_e k, impl_Lawn_those_e k, impl_Lawn_around_e k], loOf [(2, impl_Lawn_sides_c0 k), (0, impl_Lawn_sides_c1 k)]⟩
theorem impl_Lawn_sides_es (k : Nat) : ∀ e ∈ ([impl_Lawn_grass_e k, impl_Lawn_those_e k, impl_Lawn_around_e k] : List Ent), EntOK Try.prog tab mvs e := by
  intro e he
  simp only [List.mem_cons, List.not_mem_nil, or_false] at he
  rcases he with rfl | rfl | rfl
  · exact impl_Lawn_grass_ok k
  · exact impl_Lawn_those_ok k
  · exact impl_Lawn_around_ok k
theorem impl_Lawn_sides_step0 (k : Nat) (R : Type) (K : Ex → St → Option R) (g : St → Option R) (p : Int × Int × (List Int) × Int × (List Int) × (List Int) × (List Int) × (List Int)) : evCode (impl_Lawn_sides_C k) (loopP [0, 0] (0, codeOf Try.f78)).2 (loopP [0, 0] (0, codeOf Try.f78)).1 (fSt impl_Lawn_sides_t0 (enc_iilillll p)) (loopK tab [1, 2, 3, 12, 13, 14, 20, 21] [1, 2, 3, 12, 13, 14] [2] g K) = impl_Lawn_sides_w0 k R K (fun p => g (fSt impl_Lawn_sides_t0 (enc_iilillll p))) p := by
  kernel_rfl
theorem impl_Lawn_sides_lok0 (k : Nat) : LoopOK Try.prog tab (impl_Lawn_sides_C k).lo (loopP [0, 0] (0, codeOf Try.f78)).1 (loopP [0, 0] (0, codeOf Try.f78)).2 :=
  loopOK_of (C := impl_Lawn_sides_C k) tabOK eqTabOK (oraOf_ok (impl_Lawn_sides_es k)) (oraOf_nat (impl_Lawn_sides_es k)) follows (forall_getD _ 0 (0, Code.skip) (by kernel_rfl) fun i hi => by
      omega)
    (tm := impl_Lawn_sides_t0) (dec := dec_iilillll) (enc := enc_iilillll) (ksIn := [1, 2, 3, 12, 13, 14, 20, 21]) (ksOut := [1, 2, 3, 12, 13, 14]) (ksRet := [2]) (k := k) (step := impl_Lawn_sides_w0 k) dec_enc_iilillll (fun p => by kernel_rfl) (fun s R K => by kernel_rfl) (impl_Lawn_sides_step0 k)
theorem impl_Lawn_sides_step1 (k : Nat) (R : Type) (K : Ex → St → Option R) (g : St → Option R) (p : Int × Int × (List Int) × (List Int) × (List Int) × (List Int)) : evCode (impl_Lawn_sides_C k) (loopP [0] (0, codeOf Try.f78)).2 (loopP [0] (0, codeOf Try.f78)).1 (fSt impl_Lawn_sides_t1 (enc_iillll p)) (loopK tab [1, 2, 3, 12, 13, 14] [2, 3] [2] g K) = impl_Lawn_sides_w1 k R K (fun p => g (fSt impl_Lawn_sides_t1 (enc_iillll p))) p := by
  kernel_rfl
theorem impl_Lawn_sides_lok1 (k : Nat) : LoopOK Try.prog tab (impl_Lawn_sides_C k).lo (loopP [0] (0, codeOf Try.f78)).1 (loopP [0] (0, codeOf Try.f78)).2 :=
  loopOK_of (C := impl_Lawn_sides_C k) tabOK eqTabOK (oraOf_ok (impl_Lawn_sides_es k)) (oraOf_nat (impl_Lawn_sides_es k)) follows (forall_getD _ 1 (0, Code.skip) (by kernel_rfl) fun i hi => by
      match i, hi with
      | 0, _ => exact impl_Lawn_sides_lok0 k
      | n + 1, h => omega)
    (tm := impl_Lawn_sides_t1) (dec := dec_iillll) (enc := enc_iillll) (ksIn := [1, 2, 3, 12, 13, 14]) (ksOut := [2, 3]) (ksRet := [2]) (k := k) (step := impl_Lawn_sides_w1 k) dec_enc_iillll (fun p => by kernel_rfl) (fun s R K => by kernel_rfl) (impl_Lawn_sides_step1 k)
def impl_Lawn_sides_e (k : Nat) : Ent := (78, callOf [.agg 30] dec_l fun (p : (List Int)) R K => (impl_Lawn_sides k p).bind fun (b : (List Int)) => K ((fV (.agg 50) (enc_l b)).1, none))
theorem impl_Lawn_sides_run (k : Nat) (p : (List Int)) : runF (impl_Lawn_sides_C k) Try.f78 false (fL [.agg 30] (enc_l p)).1 (resK (.agg 50) dec_l) = impl_Lawn_sides k p := by
  kernel_rfl
theorem impl_Lawn_sides_ok (k : Nat) : EntOK Try.prog tab mvs (impl_Lawn_sides_e k) :=
  fn_ok (C := impl_Lawn_sides_C k) tabOK eqTabOK (impl_Lawn_sides_es k) rfl follows Try.func78 (by kernel_rfl) (by kernel_rfl) rfl (forall_getD _ 1 (0, Code.skip) (by kernel_rfl) fun i hi => by
      match i, hi with
      | 0, _ => exact impl_Lawn_sides_lok1 k
      | n + 1, h => omega)
    dec_enc_l dec_enc_l (impl_Lawn_sides_run k)

def impl_SidesOf_C (k : Nat) : Cfg := ⟨tab, mvs, oraOf [impl_ValidLawn_e k, impl_Lawn_sides_e k], loOf []⟩
theorem impl_SidesOf_es (k : Nat) : ∀ e ∈ ([impl_ValidLawn_e k, impl_Lawn_sides_e k] : List Ent), EntOK Try.prog tab mvs e := by
  intro e he
  simp only [List.mem_cons, List.not_mem_nil, or_false] at he
  rcases he with rfl | rfl
  · exact impl_ValidLawn_ok k
  · exact impl_Lawn_sides_ok k
def impl_SidesOf_e (k : Nat) : Ent := (29, callOf [.agg 30] dec_l fun (p : (List Int)) R K => (impl_SidesOf k p).bind fun (b : (List Int) × Int) => K ((fV (.tup [.agg 50, .int .i64]) (enc_li b)).1, none))
theorem impl_SidesOf_run (k : Nat) (p : (List Int)) : runF (impl_SidesOf_C k) Try.f29 false (fL [.agg 30] (enc_l p)).1 (resK (.tup [.agg 50, .int .i64]) dec_li) = impl_SidesOf k p := by
  kernel_rfl
theorem impl_SidesOf_ok (k : Nat) : EntOK Try.prog tab mvs (impl_SidesOf_e k) :=
  fn_ok (C := impl_SidesOf_C k) tabOK eqTabOK (impl_SidesOf_es k) rfl follows Try.func29 (by kernel_rfl) (by kernel_rfl) rfl (forall_getD _ 0 (0, Code.skip) (by kernel_rfl) fun i hi => by
      omega)
    dec_enc_l dec_enc_li (impl_SidesOf_run k)

def laws_eqSides_t0 : StTm := ⟨17, [(2, .ptr 2 0 50), (3, .ptr 3 0 50), (5, .int .i64)], [(2, 50, true, .ints), (3, 50, true, .ints)]⟩
def laws_eqSides_t0_1 : StTm := ⟨17, [(4, .bool)], []⟩
def laws_eqSides_t0_2 : StTm := ⟨17, [], []⟩
def laws_eqSides_w0 (k : Nat) (R : Type) (K : Ex → St → Option R) (rec : Int × (List Int) × (List Int) → Option R) (p : Int × (List Int) × (List Int)) : Option R := laws_eqSides_s0 k (fun y1 => K .ret (fSt laws_eqSides_t0_1 [.b y1])) (K (.exit 0) (fSt laws_eqSides_t0_2 [])) (fun h1 h2 h3 => rec (h1, h2, h3)) p.1 p.2.1 p.2.2
def laws_eqSides_c0 (k : Nat) : Lcall := lcallOf tab laws_eqSides_t0 dec_ill [2, 3, 5] k (laws_eqSides_w0 k)
def laws_eqSides_C (k : Nat) : Cfg := ⟨tab, mvs, oraOf [], loOf [(0, laws_eqSides_c0 k)]⟩
theorem laws_eqSides_es (k : Nat) : ∀ e ∈ ([] : List Ent), EntOK Try.prog tab mvs e := by
  intro e he
  simp at he
theorem laws_eqSides_step0 (k : Nat) (R : Type) (K : Ex → St → Option R) (g : St → Option R) (p : Int × (List Int) × (List Int)) : evCode (laws_eqSides_C k) (loopP [0] (0, codeOf Try.f30)).2 (loopP [0] (0, codeOf Try.f30)).1 (fSt laws_eqSides_t0 (enc_ill p)) (loopK tab [2, 3, 5] [] [4] g K) = laws_eqSides_w0 k R K (fun p => g (fSt laws_eqSides_t0 (enc_ill p))) p := by
  kernel_rfl
theorem laws_eqSides_lok0 (k : Nat) : LoopOK Try.prog tab (laws_eqSides_C k).lo (loopP [0] (0, codeOf Try.f30)).1 (loopP [0] (0, codeOf Try.f30)).2 :=
  loopOK_of (C := laws_eqSides_C k) tabOK eqTabOK (oraOf_ok (laws_eqSides_es k)) (oraOf_nat (laws_eqSides_es k)) follows (forall_getD _ 0 (0, Code.skip) (by kernel_rfl) fun i hi => by
      omega)
    (tm := laws_eqSides_t0) (dec := dec_ill) (enc := enc_ill) (ksIn := [2, 3, 5]) (ksOut := []) (ksRet := [4]) (k := k) (step := laws_eqSides_w0 k) dec_enc_ill (fun p => by kernel_rfl) (fun s R K => by kernel_rfl) (laws_eqSides_step0 k)
def laws_eqSides_e (k : Nat) : Ent := (30, callOf [.agg 50, .agg 50] dec_ll fun (p : (List Int) × (List Int)) R K => (laws_eqSides k p.1 p.2).bind fun (b : Bool) => K ((fV (.bool) (enc_b b)).1, none))
theorem laws_eqSides_run (k : Nat) (p : (List Int) × (List Int)) : runF (laws_eqSides_C k) Try.f30 false (fL [.agg 50, .agg 50] (enc_ll p)).1 (resK (.bool) dec_b) = laws_eqSides k p.1 p.2 := by
  kernel_rfl
theorem laws_eqSides_ok (k : Nat) : EntOK Try.prog tab mvs (laws_eqSides_e k) :=
  fn_ok (C := laws_eqSides_C k) tabOK eqTabOK (laws_eqSides_es k) rfl follows Try.func30 (by kernel_rfl) (by kernel_rfl) rfl (forall_getD _ 1 (0, Code.skip) (by kernel_rfl) fun i hi => by
      match i, hi with
      | 0, _ => exact laws_eqSides_lok0 k
      | n + 1, h => omega)
    dec_enc_ll dec_enc_b (laws_eqSides_run k)

def laws_FnExactSidesOf_C (k : Nat) : Cfg := ⟨tab, mvs, oraOf [laws_toLawn_e k, spec_SidesOf_e k, impl_SidesOf_e k, laws_eqSides_e k], loOf []⟩
theorem laws_FnExactSidesOf_es (k : Nat) : ∀ e ∈ ([laws_toLawn_e k, spec_SidesOf_e k, impl_SidesOf_e k, laws_eqSides_e k] : List Ent), EntOK Try.prog tab mvs e := by
  intro e he
  simp only [List.mem_cons, List.not_mem_nil, or_false] at he
  rcases he with rfl | rfl | rfl | rfl
  · exact laws_toLawn_ok k
  · exact spec_SidesOf_ok k
  · exact impl_SidesOf_ok k
  · exact laws_eqSides_ok k
def laws_FnExactSidesOf_e (k : Nat) : Ent := (6, callOf [.agg 26] dec_l fun (p : (List Int)) R K => (laws_FnExactSidesOf k p).bind fun (b : Bool) => K ((fV (.bool) (enc_b b)).1, none))
theorem laws_FnExactSidesOf_run (k : Nat) (p : (List Int)) : runF (laws_FnExactSidesOf_C k) Try.f6 false (fL [.agg 26] (enc_l p)).1 (resK (.bool) dec_b) = laws_FnExactSidesOf k p := by
  kernel_rfl
theorem laws_FnExactSidesOf_ok (k : Nat) : EntOK Try.prog tab mvs (laws_FnExactSidesOf_e k) :=
  fn_ok (C := laws_FnExactSidesOf_C k) tabOK eqTabOK (laws_FnExactSidesOf_es k) rfl follows Try.func6 (by kernel_rfl) (by kernel_rfl) rfl (forall_getD _ 0 (0, Code.skip) (by kernel_rfl) fun i hi => by
      omega)
    dec_enc_l dec_enc_b (laws_FnExactSidesOf_run k)

def spec_l05Edge_C (k : Nat) : Cfg := ⟨tab, mvs, oraOf [spec_l05All_e k], loOf []⟩
theorem spec_l05Edge_es (k : Nat) : ∀ e ∈ ([spec_l05All_e k] : List Ent), EntOK Try.prog tab mvs e := by
  intro e he
  simp only [List.mem_cons, List.not_mem_nil, or_false] at he
  rcases he with rfl
  · exact spec_l05All_ok k
def spec_l05Edge_e (k : Nat) : Ent := (79, callOf [.pvi (some 30) 0 30] dec_l fun (p : (List Int)) R K => (spec_l05Edge k p).bind fun (b : Int) => K ((fV (.int .i64) (enc_i b)).1, none))
theorem spec_l05Edge_run (k : Nat) (p : (List Int)) : runF (spec_l05Edge_C k) Try.f79 false (fL [.pvi (some 30) 0 30] (enc_l p)).1 (resK (.int .i64) dec_i) = spec_l05Edge k p := by
  kernel_rfl
theorem spec_l05Edge_ok (k : Nat) : EntOK Try.prog tab mvs (spec_l05Edge_e k) :=
  fn_ok (C := spec_l05Edge_C k) tabOK eqTabOK (spec_l05Edge_es k) rfl follows Try.func79 (by kernel_rfl) (by kernel_rfl) rfl (forall_getD _ 0 (0, Code.skip) (by kernel_rfl) fun i hi => by
      omega)
    dec_enc_l dec_enc_i (spec_l05Edge_run k)

def spec_EdgeLong_C (k : Nat) : Cfg := ⟨tab, mvs, oraOf [spec_l01Ok_e k, spec_l05Edge_e k], loOf []⟩
theorem spec_EdgeLong_es (k : Nat) : ∀ e ∈ ([spec_l01Ok_e k, spec_l05Edge_e k] : List Ent), EntOK Try.prog tab mvs e := by
  intro e he
  simp only [List.mem_cons, List.not_mem_nil, or_false] at he
  rcases he with rfl | rfl
  · exact spec_l01Ok_ok k
  · exact spec_l05Edge_ok k
def spec_EdgeLong_e (k : Nat) : Ent := (31, callOf [.agg 30] dec_l fun (p : (List Int)) R K => (spec_EdgeLong k p).bind fun (b : Int × Int) => K ((fV (.tup [.int .i64, .int .i64]) (enc_ii b)).1, none))
theorem spec_EdgeLong_run (k : Nat) (p : (List Int)) : runF (spec_EdgeLong_C k) Try.f31 false (fL [.agg 30] (enc_l p)).1 (resK (.tup [.int .i64, .int .i64]) dec_ii) = spec_EdgeLong k p := by
  kernel_rfl
theorem spec_EdgeLong_ok (k : Nat) : EntOK Try.prog tab mvs (spec_EdgeLong_e k) :=
  fn_ok (C := spec_EdgeLong_C k) tabOK eqTabOK (spec_EdgeLong_es k) rfl follows Try.func31 (by kernel_rfl) (by kernel_rfl) rfl (forall_getD _ 0 (0, Code.skip) (by kernel_rfl) fun i hi => by
      omega)
    dec_enc_l dec_enc_ii (spec_EdgeLong_run k)

def impl_Lawn_edge_C (k : Nat) : Cfg := ⟨tab, mvs, oraOf [impl_Lawn_sides_e k], loOf []⟩
theorem impl_Lawn_edge_es (k : Nat) : ∀ e ∈ ([impl_Lawn_sides_e k] : List Ent), EntOK Try.prog tab mvs e := by
  intro e he
  simp only [List.mem_cons, List.not_mem_nil, or_false] at he
  rcases he with rfl
  · exact impl_Lawn_sides_ok k
def impl_Lawn_edge_e (k : Nat) : Ent := (80, callOf [.agg 30] dec_l fun (p : (List Int)) R K => (impl_Lawn_edge k p).bind fun (b : Int) => K ((fV (.int .i64) (enc_i b)).1, none))
theorem impl_Lawn_edge_run (k : Nat) (p : (List Int)) : runF (impl_Lawn_edge_C k) Try.f80 false (fL [.agg 30] (enc_l p)).1 (resK (.int .i64) dec_i) = impl_Lawn_edge k p := by
  kernel_rfl
theorem impl_Lawn_edge_ok (k : Nat) : EntOK Try.prog tab mvs (impl_Lawn_edge_e k) :=
  fn_ok (C := impl_Lawn_edge_C k) tabOK eqTabOK (impl_Lawn_edge_es k) rfl follows Try.func80 (by kernel_rfl) (by kernel_rfl) rfl (forall_getD _ 0 (0, Code.skip) (by kernel_rfl) fun i hi => by
      omega)
    dec_enc_l dec_enc_i (impl_Lawn_edge_run k)

def impl_EdgeLong_C (k : Nat) : Cfg := ⟨tab, mvs, oraOf [impl_ValidLawn_e k, impl_Lawn_edge_e k], loOf []⟩
theorem impl_EdgeLong_es (k : Nat) : ∀ e ∈ ([impl_ValidLawn_e k, impl_Lawn_edge_e k] : List Ent), EntOK Try.prog tab mvs e := by
  intro e he
  simp only [List.mem_cons, List.not_mem_nil, or_false] at he
  rcases he with rfl | rfl
  · exact impl_ValidLawn_ok k
  · exact impl_Lawn_edge_ok k
def impl_EdgeLong_e (k : Nat) : Ent := (32, callOf [.agg 30] dec_l fun (p : (List Int)) R K => (impl_EdgeLong k p).bind fun (b : Int × Int) => K ((fV (.tup [.int .i64, .int .i64]) (enc_ii b)).1, none))
theorem impl_EdgeLong_run (k : Nat) (p : (List Int)) : runF (impl_EdgeLong_C k) Try.f32 false (fL [.agg 30] (enc_l p)).1 (resK (.tup [.int .i64, .int .i64]) dec_ii) = impl_EdgeLong k p := by
  kernel_rfl
theorem impl_EdgeLong_ok (k : Nat) : EntOK Try.prog tab mvs (impl_EdgeLong_e k) :=
  fn_ok (C := impl_EdgeLong_C k) tabOK eqTabOK (impl_EdgeLong_es k) rfl follows Try.func32 (by kernel_rfl) (by kernel_rfl) rfl (forall_getD _ 0 (0, Code.skip) (by kernel_rfl) fun i hi => by
      omega)
    dec_enc_l dec_enc_ii (impl_EdgeLong_run k)

def laws_FnExactEdgeLong_C (k : Nat) : Cfg := ⟨tab, mvs, oraOf [laws_toLawn_e k, spec_EdgeLong_e k, impl_EdgeLong_e k], loOf []⟩
theorem laws_FnExactEdgeLong_es (k : Nat) : ∀ e ∈ ([laws_toLawn_e k, spec_EdgeLong_e k, impl_EdgeLong_e k] : List Ent), EntOK Try.prog tab mvs e := by
  intro e he
  simp only [List.mem_cons, List.not_mem_nil, or_false] at he
  rcases he with rfl | rfl | rfl
  · exact laws_toLawn_ok k
  · exact spec_EdgeLong_ok k
  · exact impl_EdgeLong_ok k
def laws_FnExactEdgeLong_e (k : Nat) : Ent := (7, callOf [.agg 26] dec_l fun (p : (List Int)) R K => (laws_FnExactEdgeLong k p).bind fun (b : Bool) => K ((fV (.bool) (enc_b b)).1, none))
theorem laws_FnExactEdgeLong_run (k : Nat) (p : (List Int)) : runF (laws_FnExactEdgeLong_C k) Try.f7 false (fL [.agg 26] (enc_l p)).1 (resK (.bool) dec_b) = laws_FnExactEdgeLong k p := by
  kernel_rfl
theorem laws_FnExactEdgeLong_ok (k : Nat) : EntOK Try.prog tab mvs (laws_FnExactEdgeLong_e k) :=
  fn_ok (C := laws_FnExactEdgeLong_C k) tabOK eqTabOK (laws_FnExactEdgeLong_es k) rfl follows Try.func7 (by kernel_rfl) (by kernel_rfl) rfl (forall_getD _ 0 (0, Code.skip) (by kernel_rfl) fun i hi => by
      omega)
    dec_enc_l dec_enc_b (laws_FnExactEdgeLong_run k)


end Go.Proofs.Ytbibnmaoagcfgaa.Tt
