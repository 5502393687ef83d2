/- The code is what the functions in plain Lean say. -/
import Derived.Test.YtkdpdmfkomnalaaTab
import Derived.Test.YtkdpdmfkomnalaaSh
set_option linter.unusedVariables false
set_option linter.unusedSimpArgs false
set_option linter.unusedVariables false
namespace Go.Proofs.Ytkdpdmfkomnalaa.Tt
open Go.Ev Go
set_option maxRecDepth 100000


def mvs : List Nat := [136, 91, 32, 66, 70]

def dec_li (ps : List Pay) : Option ((List Int) × Int) := match ps with
  | [.l x1, .i x2] => some (x1, x2)
  | _ => none
def enc_li (p : (List Int) × Int) : List Pay := [.l p.1, .i p.2]
theorem dec_enc_li : ∀ (ps : List Pay) (p : (List Int) × Int), dec_li ps = some p → ps = enc_li p := by
  intro ps p h
  unfold dec_li at h
  split at h
  · injection h with h
    subst h
    rfl
  · cases h

def dec_i (ps : List Pay) : Option (Int) := match ps with
  | [.i x1] => some x1
  | _ => none
def enc_i (p : Int) : List Pay := [.i p]
theorem dec_enc_i : ∀ (ps : List Pay) (p : Int), dec_i ps = some p → ps = enc_i p := by
  intro ps p h
  unfold dec_i at h
  split at h
  · injection h with h
    subst h
    rfl
  · cases h

def laws_szCellS_C (k : Nat) : Cfg := ⟨tab, mvs, oraOf [], loOf []⟩
theorem laws_szCellS_es (k : Nat) : ∀ e ∈ ([] : List Ent), EntOK Try.prog tab mvs e := by
  intro e he
  simp at he
def laws_szCellS_e (k : Nat) : Ent := (76, callOf [.slv 70, .int .i64] dec_li fun (p : (List Int) × Int) R K => (laws_szCellS k p.1 p.2).bind fun (b : Int) => K ((fV (.int .i64) (enc_i b)).1, none))
theorem laws_szCellS_run (k : Nat) (p : (List Int) × Int) : runF (laws_szCellS_C k) Try.f76 false (fL [.slv 70, .int .i64] (enc_li p)).1 (resK (.int .i64) dec_i) = laws_szCellS k p.1 p.2 := by
  kernel_rfl
theorem laws_szCellS_ok (k : Nat) : EntOK Try.prog tab mvs (laws_szCellS_e k) :=
  fn_ok (C := laws_szCellS_C k) tabOK eqTabOK (laws_szCellS_es k) rfl follows Try.func76 (by kernel_rfl) (by kernel_rfl) rfl (forall_getD _ 0 (0, Code.skip) (by kernel_rfl) fun i hi => by
      omega)
    dec_enc_li dec_enc_i (laws_szCellS_run k)

def dec_rii (ps : List Pay) : Option ((List (List Int)) × Int × Int) := match ps with
  | [.r x1, .i x2, .i x3] => some (x1, x2, x3)
  | _ => none
def enc_rii (p : (List (List Int)) × Int × Int) : List Pay := [.r p.1, .i p.2.1, .i p.2.2]
theorem dec_enc_rii : ∀ (ps : List Pay) (p : (List (List Int)) × Int × Int), dec_rii ps = some p → ps = enc_rii p := by
  intro ps p h
  unfold dec_rii at h
  split at h
  · injection h with h
    subst h
    rfl
  · cases h

def dec_ri (ps : List Pay) : Option ((List (List Int)) × Int) := match ps with
  | [.r x1, .i x2] => some (x1, x2)
  | _ => none
def enc_ri (p : (List (List Int)) × Int) : List Pay := [.r p.1, .i p.2]
theorem dec_enc_ri : ∀ (ps : List Pay) (p : (List (List Int)) × Int), dec_ri ps = some p → ps = enc_ri p := by
  intro ps p h
  unfold dec_ri at h
  split at h
  · injection h with h
    subst h
    rfl
  · cases h

def laws_szCellSS_t0 : StTm := ⟨27, [(0, .slr 116), (1, .int .i64), (5, .int .i64)], []⟩
def laws_szCellSS_t0_1 : StTm := ⟨27, [(4, .int .i64)], []⟩
def laws_szCellSS_t0_2 : StTm := ⟨27, [(1, .int .i64)], []⟩
def laws_szCellSS_w0 (k : Nat) (R : Type) (K : Ex → St → Option R) (rec : (List (List Int)) × Int × Int → Option R) (p : (List (List Int)) × Int × Int) : Option R := laws_szCellSS_s0 k (fun y1 => K .ret (fSt laws_szCellSS_t0_1 [.i y1])) (fun y1 => K (.exit 0) (fSt laws_szCellSS_t0_2 [.i y1])) (fun h1 h2 h3 => rec (h1, h2, h3)) p.1 p.2.1 p.2.2
def laws_szCellSS_c0 (k : Nat) : Lcall := lcallOf tab laws_szCellSS_t0 dec_rii [0, 1, 5] k (laws_szCellSS_w0 k)
def laws_szCellSS_C (k : Nat) : Cfg := ⟨tab, mvs, oraOf [laws_szCellS_e k], loOf [(0, laws_szCellSS_c0 k)]⟩
theorem laws_szCellSS_es (k : Nat) : ∀ e ∈ ([laws_szCellS_e k] : List Ent), EntOK Try.prog tab mvs e := by
  intro e he
  simp only [List.mem_cons, List.not_mem_nil, or_false] at he
  rcases he with rfl
  · exact laws_szCellS_ok k
theorem laws_szCellSS_step0 (k : Nat) (R : Type) (K : Ex → St → Option R) (g : St → Option R) (p : (List (List Int)) × Int × Int) : evCode (laws_szCellSS_C k) (loopP [0] (0, codeOf Try.f30)).2 (loopP [0] (0, codeOf Try.f30)).1 (fSt laws_szCellSS_t0 (enc_rii p)) (loopK tab [0, 1, 5] [1] [4] g K) = laws_szCellSS_w0 k R K (fun p => g (fSt laws_szCellSS_t0 (enc_rii p))) p := by
  kernel_rfl
theorem laws_szCellSS_lok0 (k : Nat) : LoopOK Try.prog tab (laws_szCellSS_C k).lo (loopP [0] (0, codeOf Try.f30)).1 (loopP [0] (0, codeOf Try.f30)).2 :=
  loopOK_of (C := laws_szCellSS_C k) tabOK eqTabOK (oraOf_ok (laws_szCellSS_es k)) (oraOf_nat (laws_szCellSS_es k)) follows (forall_getD _ 0 (0, Code.skip) (by kernel_rfl) fun i hi => by
      omega)
    (tm := laws_szCellSS_t0) (dec := dec_rii) (enc := enc_rii) (ksIn := [0, 1, 5]) (ksOut := [1]) (ksRet := [4]) (k := k) (step := laws_szCellSS_w0 k) dec_enc_rii (fun p => by kernel_rfl) (fun s R K => by kernel_rfl) (laws_szCellSS_step0 k)
def laws_szCellSS_e (k : Nat) : Ent := (30, callOf [.slr 116, .int .i64] dec_ri fun (p : (List (List Int)) × Int) R K => (laws_szCellSS k p.1 p.2).bind fun (b : Int) => K ((fV (.int .i64) (enc_i b)).1, none))
theorem laws_szCellSS_run (k : Nat) (p : (List (List Int)) × Int) : runF (laws_szCellSS_C k) Try.f30 false (fL [.slr 116, .int .i64] (enc_ri p)).1 (resK (.int .i64) dec_i) = laws_szCellSS k p.1 p.2 := by
  kernel_rfl
theorem laws_szCellSS_ok (k : Nat) : EntOK Try.prog tab mvs (laws_szCellSS_e k) :=
  fn_ok (C := laws_szCellSS_C k) tabOK eqTabOK (laws_szCellSS_es k) rfl follows Try.func30 (by kernel_rfl) (by kernel_rfl) rfl (forall_getD _ 1 (0, Code.skip) (by kernel_rfl) fun i hi => by
      match i, hi with
      | 0, _ => exact laws_szCellSS_lok0 k
      | n + 1, h => omega)
    dec_enc_ri dec_enc_i (laws_szCellSS_run k)

def dec_illl (ps : List Pay) : Option (Int × (List Int) × (List Int) × (List Int)) := match ps with
  | [.i x1, .l x2, .l x3, .l x4] => some (x1, x2, x3, x4)
  | _ => none
def enc_illl (p : Int × (List Int) × (List Int) × (List Int)) : List Pay := [.i p.1, .l p.2.1, .l p.2.2.1, .l p.2.2.2]
theorem dec_enc_illl : ∀ (ps : List Pay) (p : Int × (List Int) × (List Int) × (List Int)), dec_illl ps = some p → ps = enc_illl p := by
  intro ps p h
  unfold dec_illl at h
  split at h
  · injection h with h
    subst h
    rfl
  · cases h

def dec_l (ps : List Pay) : Option ((List Int)) := match ps with
  | [.l x1] => some x1
  | _ => none
def enc_l (p : (List Int)) : List Pay := [.l p]
theorem dec_enc_l : ∀ (ps : List Pay) (p : (List Int)), dec_l ps = some p → ps = enc_l p := by
  intro ps p h
  unfold dec_l at h
  split at h
  · injection h with h
    subst h
    rfl
  · cases h

def laws_toByteA10_t0 : StTm := ⟨15, [(1, .ptr 1 0 33), (2, .ptr 2 0 33), (3, .ptr 3 0 33), (4, .int .i64)], [(1, 33, true, .ints), (2, 33, true, .ints), (3, 33, true, .ints)]⟩
def laws_toByteA10_t0_1 : StTm := ⟨15, [(2, .ptr 2 0 33), (3, .ptr 3 0 33)], [(2, 33, true, .ints), (3, 33, true, .ints)]⟩
def laws_toByteA10_w0 (k : Nat) (R : Type) (K : Ex → St → Option R) (rec : Int × (List Int) × (List Int) × (List Int) → Option R) (p : Int × (List Int) × (List Int) × (List Int)) : Option R := laws_toByteA10_s0 k (fun y1 y2 => K (.exit 0) (fSt laws_toByteA10_t0_1 [.l y1, .l y2])) (fun h1 h2 h3 h4 => rec (h1, h2, h3, h4)) p.1 p.2.1 p.2.2.1 p.2.2.2
def laws_toByteA10_c0 (k : Nat) : Lcall := lcallOf tab laws_toByteA10_t0 dec_illl [1, 2, 3, 4] k (laws_toByteA10_w0 k)
def laws_toByteA10_C (k : Nat) : Cfg := ⟨tab, mvs, oraOf [], loOf [(0, laws_toByteA10_c0 k)]⟩
theorem laws_toByteA10_es (k : Nat) : ∀ e ∈ ([] : List Ent), EntOK Try.prog tab mvs e := by
  intro e he
  simp at he
theorem laws_toByteA10_step0 (k : Nat) (R : Type) (K : Ex → St → Option R) (g : St → Option R) (p : Int × (List Int) × (List Int) × (List Int)) : evCode (laws_toByteA10_C k) (loopP [0] (0, codeOf Try.f112)).2 (loopP [0] (0, codeOf Try.f112)).1 (fSt laws_toByteA10_t0 (enc_illl p)) (loopK tab [1, 2, 3, 4] [2, 3] [2] g K) = laws_toByteA10_w0 k R K (fun p => g (fSt laws_toByteA10_t0 (enc_illl p))) p := by
  kernel_rfl
theorem laws_toByteA10_lok0 (k : Nat) : LoopOK Try.prog tab (laws_toByteA10_C k).lo (loopP [0] (0, codeOf Try.f112)).1 (loopP [0] (0, codeOf Try.f112)).2 :=
  loopOK_of (C := laws_toByteA10_C k) tabOK eqTabOK (oraOf_ok (laws_toByteA10_es k)) (oraOf_nat (laws_toByteA10_es k)) follows (forall_getD _ 0 (0, Code.skip) (by kernel_rfl) fun i hi => by
      omega)
    (tm := laws_toByteA10_t0) (dec := dec_illl) (enc := enc_illl) (ksIn := [1, 2, 3, 4]) (ksOut := [2, 3]) (ksRet := [2]) (k := k) (step := laws_toByteA10_w0 k) dec_enc_illl (fun p => by kernel_rfl) (fun s R K => by kernel_rfl) (laws_toByteA10_step0 k)
def laws_toByteA10_e (k : Nat) : Ent := (112, callOf [.agg 33] dec_l fun (p : (List Int)) R K => (laws_toByteA10 k p).bind fun (b : (List Int)) => K ((fV (.agg 33) (enc_l b)).1, none))
theorem laws_toByteA10_run (k : Nat) (p : (List Int)) : runF (laws_toByteA10_C k) Try.f112 false (fL [.agg 33] (enc_l p)).1 (resK (.agg 33) dec_l) = laws_toByteA10 k p := by
  kernel_rfl
theorem laws_toByteA10_ok (k : Nat) : EntOK Try.prog tab mvs (laws_toByteA10_e k) :=
  fn_ok (C := laws_toByteA10_C k) tabOK eqTabOK (laws_toByteA10_es k) rfl follows Try.func112 (by kernel_rfl) (by kernel_rfl) rfl (forall_getD _ 1 (0, Code.skip) (by kernel_rfl) fun i hi => by
      match i, hi with
      | 0, _ => exact laws_toByteA10_lok0 k
      | n + 1, h => omega)
    dec_enc_l dec_enc_l (laws_toByteA10_run k)

def laws_toByteA10A10_t0 : StTm := ⟨16, [(1, .ptr 1 0 34), (2, .ptr 2 0 34), (3, .ptr 3 0 34), (4, .int .i64)], [(1, 34, true, .ints), (2, 34, true, .ints), (3, 34, true, .ints)]⟩
def laws_toByteA10A10_t0_1 : StTm := ⟨16, [(2, .ptr 2 0 34), (3, .ptr 3 0 34)], [(2, 34, true, .ints), (3, 34, true, .ints)]⟩
def laws_toByteA10A10_w0 (k : Nat) (R : Type) (K : Ex → St → Option R) (rec : Int × (List Int) × (List Int) × (List Int) → Option R) (p : Int × (List Int) × (List Int) × (List Int)) : Option R := laws_toByteA10A10_s0 k (fun y1 y2 => K (.exit 0) (fSt laws_toByteA10A10_t0_1 [.l y1, .l y2])) (fun h1 h2 h3 h4 => rec (h1, h2, h3, h4)) p.1 p.2.1 p.2.2.1 p.2.2.2
def laws_toByteA10A10_c0 (k : Nat) : Lcall := lcallOf tab laws_toByteA10A10_t0 dec_illl [1, 2, 3, 4] k (laws_toByteA10A10_w0 k)
def laws_toByteA10A10_C (k : Nat) : Cfg := ⟨tab, mvs, oraOf [laws_toByteA10_e k], loOf [(0, laws_toByteA10A10_c0 k)]⟩
theorem laws_toByteA10A10_es (k : Nat) : ∀ e ∈ ([laws_toByteA10_e k] : List Ent), EntOK Try.prog tab mvs e := by
  intro e he
  simp only [List.mem_cons, List.not_mem_nil, or_false] at he
  rcases he with rfl
  · exact laws_toByteA10_ok k
theorem laws_toByteA10A10_step0 (k : Nat) (R : Type) (K : Ex → St → Option R) (g : St → Option R) (p : Int × (List Int) × (List Int) × (List Int)) : evCode (laws_toByteA10A10_C k) (loopP [0] (0, codeOf Try.f68)).2 (loopP [0] (0, codeOf Try.f68)).1 (fSt laws_toByteA10A10_t0 (enc_illl p)) (loopK tab [1, 2, 3, 4] [2, 3] [2] g K) = laws_toByteA10A10_w0 k R K (fun p => g (fSt laws_toByteA10A10_t0 (enc_illl p))) p := by
  kernel_rfl
theorem laws_toByteA10A10_lok0 (k : Nat) : LoopOK Try.prog tab (laws_toByteA10A10_C k).lo (loopP [0] (0, codeOf Try.f68)).1 (loopP [0] (0, codeOf Try.f68)).2 :=
  loopOK_of (C := laws_toByteA10A10_C k) tabOK eqTabOK (oraOf_ok (laws_toByteA10A10_es k)) (oraOf_nat (laws_toByteA10A10_es k)) follows (forall_getD _ 0 (0, Code.skip) (by kernel_rfl) fun i hi => by
      omega)
    (tm := laws_toByteA10A10_t0) (dec := dec_illl) (enc := enc_illl) (ksIn := [1, 2, 3, 4]) (ksOut := [2, 3]) (ksRet := [2]) (k := k) (step := laws_toByteA10A10_w0 k) dec_enc_illl (fun p => by kernel_rfl) (fun s R K => by kernel_rfl) (laws_toByteA10A10_step0 k)
def laws_toByteA10A10_e (k : Nat) : Ent := (68, callOf [.agg 34] dec_l fun (p : (List Int)) R K => (laws_toByteA10A10 k p).bind fun (b : (List Int)) => K ((fV (.agg 34) (enc_l b)).1, none))
theorem laws_toByteA10A10_run (k : Nat) (p : (List Int)) : runF (laws_toByteA10A10_C k) Try.f68 false (fL [.agg 34] (enc_l p)).1 (resK (.agg 34) dec_l) = laws_toByteA10A10 k p := by
  kernel_rfl
theorem laws_toByteA10A10_ok (k : Nat) : EntOK Try.prog tab mvs (laws_toByteA10A10_e k) :=
  fn_ok (C := laws_toByteA10A10_C k) tabOK eqTabOK (laws_toByteA10A10_es k) rfl follows Try.func68 (by kernel_rfl) (by kernel_rfl) rfl (forall_getD _ 1 (0, Code.skip) (by kernel_rfl) fun i hi => by
      match i, hi with
      | 0, _ => exact laws_toByteA10A10_lok0 k
      | n + 1, h => omega)
    dec_enc_l dec_enc_l (laws_toByteA10A10_run k)

def laws_toLawn_C (k : Nat) : Cfg := ⟨tab, mvs, oraOf [laws_toByteA10A10_e k], loOf []⟩
theorem laws_toLawn_es (k : Nat) : ∀ e ∈ ([laws_toByteA10A10_e k] : List Ent), EntOK Try.prog tab mvs e := by
  intro e he
  simp only [List.mem_cons, List.not_mem_nil, or_false] at he
  rcases he with rfl
  · exact laws_toByteA10A10_ok k
def laws_toLawn_e (k : Nat) : Ent := (28, callOf [.agg 58] dec_l fun (p : (List Int)) R K => (laws_toLawn k p).bind fun (b : (List Int)) => K ((fV (.agg 36) (enc_l b)).1, none))
theorem laws_toLawn_run (k : Nat) (p : (List Int)) : runF (laws_toLawn_C k) Try.f28 false (fL [.agg 58] (enc_l p)).1 (resK (.agg 36) dec_l) = laws_toLawn k p := by
  kernel_rfl
theorem laws_toLawn_ok (k : Nat) : EntOK Try.prog tab mvs (laws_toLawn_e k) :=
  fn_ok (C := laws_toLawn_C k) tabOK eqTabOK (laws_toLawn_es k) rfl follows Try.func28 (by kernel_rfl) (by kernel_rfl) rfl (forall_getD _ 0 (0, Code.skip) (by kernel_rfl) fun i hi => by
      omega)
    dec_enc_l dec_enc_l (laws_toLawn_run k)

def laws_toCell_C (k : Nat) : Cfg := ⟨tab, mvs, oraOf [], loOf []⟩
theorem laws_toCell_es (k : Nat) : ∀ e ∈ ([] : List Ent), EntOK Try.prog tab mvs e := by
  intro e he
  simp at he
def laws_toCell_e (k : Nat) : Ent := (36, callOf [.agg 70] dec_l fun (p : (List Int)) R K => (laws_toCell k p).bind fun (b : (List Int)) => K ((fV (.agg 43) (enc_l b)).1, none))
theorem laws_toCell_run (k : Nat) (p : (List Int)) : runF (laws_toCell_C k) Try.f36 false (fL [.agg 70] (enc_l p)).1 (resK (.agg 43) dec_l) = laws_toCell k p := by
  kernel_rfl
theorem laws_toCell_ok (k : Nat) : EntOK Try.prog tab mvs (laws_toCell_e k) :=
  fn_ok (C := laws_toCell_C k) tabOK eqTabOK (laws_toCell_es k) rfl follows Try.func36 (by kernel_rfl) (by kernel_rfl) rfl (forall_getD _ 0 (0, Code.skip) (by kernel_rfl) fun i hi => by
      omega)
    dec_enc_l dec_enc_l (laws_toCell_run k)

def dec_lil (ps : List Pay) : Option ((List Int) × Int × (List Int)) := match ps with
  | [.l x1, .i x2, .l x3] => some (x1, x2, x3)
  | _ => none
def enc_lil (p : (List Int) × Int × (List Int)) : List Pay := [.l p.1, .i p.2.1, .l p.2.2]
theorem dec_enc_lil : ∀ (ps : List Pay) (p : (List Int) × Int × (List Int)), dec_lil ps = some p → ps = enc_lil p := by
  intro ps p h
  unfold dec_lil at h
  split at h
  · injection h with h
    subst h
    rfl
  · cases h

def laws_toCellS_t0 : StTm := ⟨23, [(0, .slv 70), (3, .slw 3 43), (4, .int .i64)], [(3, 43, false, .ints)]⟩
def laws_toCellS_t0_1 : StTm := ⟨23, [(3, .slw 3 43)], [(3, 43, false, .ints)]⟩
def laws_toCellS_w0 (k : Nat) (R : Type) (K : Ex → St → Option R) (rec : (List Int) × Int × (List Int) → Option R) (p : (List Int) × Int × (List Int)) : Option R := laws_toCellS_s0 k (fun y1 => K (.exit 0) (fSt laws_toCellS_t0_1 [.l y1])) (fun h1 h2 h3 => rec (h1, h2, h3)) p.1 p.2.1 p.2.2
def laws_toCellS_c0 (k : Nat) : Lcall := lcallOf tab laws_toCellS_t0 dec_lil [0, 3, 4] k (laws_toCellS_w0 k)
def laws_toCellS_C (k : Nat) : Cfg := ⟨tab, mvs, oraOf [laws_toCell_e k], loOf [(0, laws_toCellS_c0 k)]⟩
theorem laws_toCellS_es (k : Nat) : ∀ e ∈ ([laws_toCell_e k] : List Ent), EntOK Try.prog tab mvs e := by
  intro e he
  simp only [List.mem_cons, List.not_mem_nil, or_false] at he
  rcases he with rfl
  · exact laws_toCell_ok k
theorem laws_toCellS_step0 (k : Nat) (R : Type) (K : Ex → St → Option R) (g : St → Option R) (p : (List Int) × Int × (List Int)) : evCode (laws_toCellS_C k) (loopP [0] (0, codeOf Try.f79)).2 (loopP [0] (0, codeOf Try.f79)).1 (fSt laws_toCellS_t0 (enc_lil p)) (loopK tab [0, 3, 4] [3] [2] g K) = laws_toCellS_w0 k R K (fun p => g (fSt laws_toCellS_t0 (enc_lil p))) p := by
  kernel_rfl
theorem laws_toCellS_lok0 (k : Nat) : LoopOK Try.prog tab (laws_toCellS_C k).lo (loopP [0] (0, codeOf Try.f79)).1 (loopP [0] (0, codeOf Try.f79)).2 :=
  loopOK_of (C := laws_toCellS_C k) tabOK eqTabOK (oraOf_ok (laws_toCellS_es k)) (oraOf_nat (laws_toCellS_es k)) follows (forall_getD _ 0 (0, Code.skip) (by kernel_rfl) fun i hi => by
      omega)
    (tm := laws_toCellS_t0) (dec := dec_lil) (enc := enc_lil) (ksIn := [0, 3, 4]) (ksOut := [3]) (ksRet := [2]) (k := k) (step := laws_toCellS_w0 k) dec_enc_lil (fun p => by kernel_rfl) (fun s R K => by kernel_rfl) (laws_toCellS_step0 k)
def laws_toCellS_e (k : Nat) : Ent := (79, callOf [.slv 70] dec_l fun (p : (List Int)) R K => (laws_toCellS k p).bind fun (b : (List Int)) => K ((fV (.slv 43) (enc_l b)).1, none))
theorem laws_toCellS_run (k : Nat) (p : (List Int)) : runF (laws_toCellS_C k) Try.f79 false (fL [.slv 70] (enc_l p)).1 (resK (.slv 43) dec_l) = laws_toCellS k p := by
  kernel_rfl
theorem laws_toCellS_ok (k : Nat) : EntOK Try.prog tab mvs (laws_toCellS_e k) :=
  fn_ok (C := laws_toCellS_C k) tabOK eqTabOK (laws_toCellS_es k) rfl follows Try.func79 (by kernel_rfl) (by kernel_rfl) rfl (forall_getD _ 1 (0, Code.skip) (by kernel_rfl) fun i hi => by
      match i, hi with
      | 0, _ => exact laws_toCellS_lok0 k
      | n + 1, h => omega)
    dec_enc_l dec_enc_l (laws_toCellS_run k)

def dec_rir (ps : List Pay) : Option ((List (List Int)) × Int × (List (List Int))) := match ps with
  | [.r x1, .i x2, .r x3] => some (x1, x2, x3)
  | _ => none
def enc_rir (p : (List (List Int)) × Int × (List (List Int))) : List Pay := [.r p.1, .i p.2.1, .r p.2.2]
theorem dec_enc_rir : ∀ (ps : List Pay) (p : (List (List Int)) × Int × (List (List Int))), dec_rir ps = some p → ps = enc_rir p := by
  intro ps p h
  unfold dec_rir at h
  split at h
  · injection h with h
    subst h
    rfl
  · cases h

def dec_r (ps : List Pay) : Option ((List (List Int))) := match ps with
  | [.r x1] => some x1
  | _ => none
def enc_r (p : (List (List Int))) : List Pay := [.r p]
theorem dec_enc_r : ∀ (ps : List Pay) (p : (List (List Int))), dec_r ps = some p → ps = enc_r p := by
  intro ps p h
  unfold dec_r at h
  split at h
  · injection h with h
    subst h
    rfl
  · cases h

def laws_toCellSS_t0 : StTm := ⟨23, [(0, .slr 116), (3, .slw 3 50), (4, .int .i64)], [(3, 50, false, .rows)]⟩
def laws_toCellSS_t0_1 : StTm := ⟨23, [(3, .slw 3 50)], [(3, 50, false, .rows)]⟩
def laws_toCellSS_w0 (k : Nat) (R : Type) (K : Ex → St → Option R) (rec : (List (List Int)) × Int × (List (List Int)) → Option R) (p : (List (List Int)) × Int × (List (List Int))) : Option R := laws_toCellSS_s0 k (fun y1 => K (.exit 0) (fSt laws_toCellSS_t0_1 [.r y1])) (fun h1 h2 h3 => rec (h1, h2, h3)) p.1 p.2.1 p.2.2
def laws_toCellSS_c0 (k : Nat) : Lcall := lcallOf tab laws_toCellSS_t0 dec_rir [0, 3, 4] k (laws_toCellSS_w0 k)
def laws_toCellSS_C (k : Nat) : Cfg := ⟨tab, mvs, oraOf [laws_toCellS_e k], loOf [(0, laws_toCellSS_c0 k)]⟩
theorem laws_toCellSS_es (k : Nat) : ∀ e ∈ ([laws_toCellS_e k] : List Ent), EntOK Try.prog tab mvs e := by
  intro e he
  simp only [List.mem_cons, List.not_mem_nil, or_false] at he
  rcases he with rfl
  · exact laws_toCellS_ok k
theorem laws_toCellSS_step0 (k : Nat) (R : Type) (K : Ex → St → Option R) (g : St → Option R) (p : (List (List Int)) × Int × (List (List Int))) : evCode (laws_toCellSS_C k) (loopP [0] (0, codeOf Try.f32)).2 (loopP [0] (0, codeOf Try.f32)).1 (fSt laws_toCellSS_t0 (enc_rir p)) (loopK tab [0, 3, 4] [3] [2] g K) = laws_toCellSS_w0 k R K (fun p => g (fSt laws_toCellSS_t0 (enc_rir p))) p := by
  kernel_rfl
theorem laws_toCellSS_lok0 (k : Nat) : LoopOK Try.prog tab (laws_toCellSS_C k).lo (loopP [0] (0, codeOf Try.f32)).1 (loopP [0] (0, codeOf Try.f32)).2 :=
  loopOK_of (C := laws_toCellSS_C k) tabOK eqTabOK (oraOf_ok (laws_toCellSS_es k)) (oraOf_nat (laws_toCellSS_es k)) follows (forall_getD _ 0 (0, Code.skip) (by kernel_rfl) fun i hi => by
      omega)
    (tm := laws_toCellSS_t0) (dec := dec_rir) (enc := enc_rir) (ksIn := [0, 3, 4]) (ksOut := [3]) (ksRet := [2]) (k := k) (step := laws_toCellSS_w0 k) dec_enc_rir (fun p => by kernel_rfl) (fun s R K => by kernel_rfl) (laws_toCellSS_step0 k)
def laws_toCellSS_e (k : Nat) : Ent := (32, callOf [.slr 116] dec_r fun (p : (List (List Int))) R K => (laws_toCellSS k p).bind fun (b : ((List (List Int))) × List Int) => K ((fV (.slr 50) (enc_r b.1)).1, some b.2))
theorem laws_toCellSS_run (k : Nat) (p : (List (List Int))) : runF (laws_toCellSS_C k) Try.f32 true (fL [.slr 116] (enc_r p)).1 (resB (.slr 50) dec_r) = laws_toCellSS k p := by
  kernel_rfl
theorem laws_toCellSS_ok (k : Nat) : EntOK Try.prog tab mvs (laws_toCellSS_e k) :=
  fnb_ok (C := laws_toCellSS_C k) tabOK eqTabOK (laws_toCellSS_es k) rfl follows Try.func32 (by kernel_rfl) (by kernel_rfl) rfl (forall_getD _ 1 (0, Code.skip) (by kernel_rfl) fun i hi => by
      match i, hi with
      | 0, _ => exact laws_toCellSS_lok0 k
      | n + 1, h => omega)
    dec_enc_r dec_enc_r (laws_toCellSS_run k)

def dec_iii (ps : List Pay) : Option (Int × Int × Int) := match ps with
  | [.i x1, .i x2, .i x3] => some (x1, x2, x3)
  | _ => none
def enc_iii (p : Int × Int × Int) : List Pay := [.i p.1, .i p.2.1, .i p.2.2]
theorem dec_enc_iii : ∀ (ps : List Pay) (p : Int × Int × Int), dec_iii ps = some p → ps = enc_iii p := by
  intro ps p h
  unfold dec_iii at h
  split at h
  · injection h with h
    subst h
    rfl
  · cases h

def dec_b (ps : List Pay) : Option (Bool) := match ps with
  | [.b x1] => some x1
  | _ => none
def enc_b (p : Bool) : List Pay := [.b p]
theorem dec_enc_b : ∀ (ps : List Pay) (p : Bool), dec_b ps = some p → ps = enc_b p := by
  intro ps p h
  unfold dec_b at h
  split at h
  · injection h with h
    subst h
    rfl
  · cases h

def spec_l00In_C (k : Nat) : Cfg := ⟨tab, mvs, oraOf [], loOf []⟩
theorem spec_l00In_es (k : Nat) : ∀ e ∈ ([] : List Ent), EntOK Try.prog tab mvs e := by
  intro e he
  simp at he
def spec_l00In_e (k : Nat) : Ent := (94, callOf [.int .i64, .int .i64, .int .i64] dec_iii fun (p : Int × Int × Int) R K => (spec_l00In k p.1 p.2.1 p.2.2).bind fun (b : Bool) => K ((fV (.bool) (enc_b b)).1, none))
theorem spec_l00In_run (k : Nat) (p : Int × Int × Int) : runF (spec_l00In_C k) Try.f94 false (fL [.int .i64, .int .i64, .int .i64] (enc_iii p)).1 (resK (.bool) dec_b) = spec_l00In k p.1 p.2.1 p.2.2 := by
  kernel_rfl
theorem spec_l00In_ok (k : Nat) : EntOK Try.prog tab mvs (spec_l00In_e k) :=
  fn_ok (C := spec_l00In_C k) tabOK eqTabOK (spec_l00In_es k) rfl follows Try.func94 (by kernel_rfl) (by kernel_rfl) rfl (forall_getD _ 0 (0, Code.skip) (by kernel_rfl) fun i hi => by
      omega)
    dec_enc_iii dec_enc_b (spec_l00In_run k)

def spec_l01Side_C (k : Nat) : Cfg := ⟨tab, mvs, oraOf [spec_l00In_e k], loOf []⟩
theorem spec_l01Side_es (k : Nat) : ∀ e ∈ ([spec_l00In_e k] : List Ent), EntOK Try.prog tab mvs e := by
  intro e he
  simp only [List.mem_cons, List.not_mem_nil, or_false] at he
  rcases he with rfl
  · exact spec_l00In_ok k
def spec_l01Side_e (k : Nat) : Ent := (105, callOf [.int .i64] dec_i fun (p : Int) R K => (spec_l01Side k p).bind fun (b : Bool) => K ((fV (.bool) (enc_b b)).1, none))
theorem spec_l01Side_run (k : Nat) (p : Int) : runF (spec_l01Side_C k) Try.f105 false (fL [.int .i64] (enc_i p)).1 (resK (.bool) dec_b) = spec_l01Side k p := by
  kernel_rfl
theorem spec_l01Side_ok (k : Nat) : EntOK Try.prog tab mvs (spec_l01Side_e k) :=
  fn_ok (C := spec_l01Side_C k) tabOK eqTabOK (spec_l01Side_es k) rfl follows Try.func105 (by kernel_rfl) (by kernel_rfl) rfl (forall_getD _ 0 (0, Code.skip) (by kernel_rfl) fun i hi => by
      omega)
    dec_enc_i dec_enc_b (spec_l01Side_run k)

def spec_l01Kind_C (k : Nat) : Cfg := ⟨tab, mvs, oraOf [spec_l00In_e k], loOf []⟩
theorem spec_l01Kind_es (k : Nat) : ∀ e ∈ ([spec_l00In_e k] : List Ent), EntOK Try.prog tab mvs e := by
  intro e he
  simp only [List.mem_cons, List.not_mem_nil, or_false] at he
  rcases he with rfl
  · exact spec_l00In_ok k
def spec_l01Kind_e (k : Nat) : Ent := (60, callOf [.int .i64] dec_i fun (p : Int) R K => (spec_l01Kind k p).bind fun (b : Bool) => K ((fV (.bool) (enc_b b)).1, none))
theorem spec_l01Kind_run (k : Nat) (p : Int) : runF (spec_l01Kind_C k) Try.f60 false (fL [.int .i64] (enc_i p)).1 (resK (.bool) dec_b) = spec_l01Kind k p := by
  kernel_rfl
theorem spec_l01Kind_ok (k : Nat) : EntOK Try.prog tab mvs (spec_l01Kind_e k) :=
  fn_ok (C := spec_l01Kind_C k) tabOK eqTabOK (spec_l01Kind_es k) rfl follows Try.func60 (by kernel_rfl) (by kernel_rfl) rfl (forall_getD _ 0 (0, Code.skip) (by kernel_rfl) fun i hi => by
      omega)
    dec_enc_i dec_enc_b (spec_l01Kind_run k)

def dec_ll (ps : List Pay) : Option ((List Int) × (List Int)) := match ps with
  | [.l x1, .l x2] => some (x1, x2)
  | _ => none
def enc_ll (p : (List Int) × (List Int)) : List Pay := [.l p.1, .l p.2]
theorem dec_enc_ll : ∀ (ps : List Pay) (p : (List Int) × (List Int)), dec_ll ps = some p → ps = enc_ll p := by
  intro ps p h
  unfold dec_ll at h
  split at h
  · injection h with h
    subst h
    rfl
  · cases h

def spec_l01Is_C (k : Nat) : Cfg := ⟨tab, mvs, oraOf [spec_l00In_e k], loOf []⟩
theorem spec_l01Is_es (k : Nat) : ∀ e ∈ ([spec_l00In_e k] : List Ent), EntOK Try.prog tab mvs e := by
  intro e he
  simp only [List.mem_cons, List.not_mem_nil, or_false] at he
  rcases he with rfl
  · exact spec_l00In_ok k
def spec_l01Is_e (k : Nat) : Ent := (106, callOf [.pvi (some 36) 0 36, .agg 43] dec_ll fun (p : (List Int) × (List Int)) R K => (spec_l01Is k p.1 p.2).bind fun (b : Bool) => K ((fV (.bool) (enc_b b)).1, none))
theorem spec_l01Is_run (k : Nat) (p : (List Int) × (List Int)) : runF (spec_l01Is_C k) Try.f106 false (fL [.pvi (some 36) 0 36, .agg 43] (enc_ll p)).1 (resK (.bool) dec_b) = spec_l01Is k p.1 p.2 := by
  kernel_rfl
theorem spec_l01Is_ok (k : Nat) : EntOK Try.prog tab mvs (spec_l01Is_e k) :=
  fn_ok (C := spec_l01Is_C k) tabOK eqTabOK (spec_l01Is_es k) rfl follows Try.func106 (by kernel_rfl) (by kernel_rfl) rfl (forall_getD _ 0 (0, Code.skip) (by kernel_rfl) fun i hi => by
      omega)
    dec_enc_ll dec_enc_b (spec_l01Is_run k)

def dec_lii (ps : List Pay) : Option ((List Int) × Int × Int) := match ps with
  | [.l x1, .i x2, .i x3] => some (x1, x2, x3)
  | _ => none
def enc_lii (p : (List Int) × Int × Int) : List Pay := [.l p.1, .i p.2.1, .i p.2.2]
theorem dec_enc_lii : ∀ (ps : List Pay) (p : (List Int) × Int × Int), dec_lii ps = some p → ps = enc_lii p := by
  intro ps p h
  unfold dec_lii at h
  split at h
  · injection h with h
    subst h
    rfl
  · cases h

def spec_l01Ok_t0 : StTm := ⟨54, [(0, .pvi (some 36) 0 36), (3, .int .i8), (4, .int .i8)], []⟩
def spec_l01Ok_t0_1 : StTm := ⟨54, [(2, .bool)], []⟩
def spec_l01Ok_t0_2 : StTm := ⟨54, [(0, .pvi (some 36) 0 36), (3, .int .i8)], []⟩
def spec_l01Ok_w0 (k : Nat) (R : Type) (K : Ex → St → Option R) (rec : (List Int) × Int × Int → Option R) (p : (List Int) × Int × Int) : Option R := spec_l01Ok_s0 k (fun y1 => K .ret (fSt spec_l01Ok_t0_1 [.b y1])) (fun y1 y2 => K (.exit 2) (fSt spec_l01Ok_t0_2 [.l y1, .i y2])) (fun h1 h2 h3 => rec (h1, h2, h3)) p.1 p.2.1 p.2.2
def spec_l01Ok_c0 (k : Nat) : Lcall := lcallOf tab spec_l01Ok_t0 dec_lii [0, 3, 4] k (spec_l01Ok_w0 k)
def spec_l01Ok_t1 : StTm := ⟨54, [(0, .pvi (some 36) 0 36), (3, .int .i8)], []⟩
def spec_l01Ok_t1_1 : StTm := ⟨54, [(2, .bool)], []⟩
def spec_l01Ok_t1_2 : StTm := ⟨54, [], []⟩
def spec_l01Ok_w1 (k : Nat) (R : Type) (K : Ex → St → Option R) (rec : (List Int) × Int → Option R) (p : (List Int) × Int) : Option R := spec_l01Ok_s1 k (fun y1 => K .ret (fSt spec_l01Ok_t1_1 [.b y1])) (K (.exit 0) (fSt spec_l01Ok_t1_2 [])) (fun h1 h2 => rec (h1, h2)) p.1 p.2
def spec_l01Ok_c1 (k : Nat) : Lcall := lcallOf tab spec_l01Ok_t1 dec_li [0, 3] k (spec_l01Ok_w1 k)
def spec_l01Ok_C (k : Nat) : Cfg := ⟨tab, mvs, oraOf [spec_l01Side_e k, spec_l01Kind_e k, spec_l01Is_e k], loOf [(2, spec_l01Ok_c0 k), (0, spec_l01Ok_c1 k)]⟩
theorem spec_l01Ok_es (k : Nat) : ∀ e ∈ ([spec_l01Side_e k, spec_l01Kind_e k, spec_l01Is_e k] : List Ent), EntOK Try.prog tab mvs e := by
  intro e he
  simp only [List.mem_cons, List.not_mem_nil, or_false] at he
  rcases he with rfl | rfl | rfl
  · exact spec_l01Side_ok k
  · exact spec_l01Kind_ok k
  · exact spec_l01Is_ok k
theorem spec_l01Ok_step0 (k : Nat) (R : Type) (K : Ex → St → Option R) (g : St → Option R) (p : (List Int) × Int × Int) : evCode (spec_l01Ok_C k) (loopP [0, 0] (0, codeOf Try.f57)).2 (loopP [0, 0] (0, codeOf Try.f57)).1 (fSt spec_l01Ok_t0 (enc_lii p)) (loopK tab [0, 3, 4] [0, 3] [2] g K) = spec_l01Ok_w0 k R K (fun p => g (fSt spec_l01Ok_t0 (enc_lii p))) p := by
  kernel_rfl
theorem spec_l01Ok_lok0 (k : Nat) : LoopOK Try.prog tab (spec_l01Ok_C k).lo (loopP [0, 0] (0, codeOf Try.f57)).1 (loopP [0, 0] (0, codeOf Try.f57)).2 :=
  loopOK_of (C := spec_l01Ok_C k) tabOK eqTabOK (oraOf_ok (spec_l01Ok_es k)) (oraOf_nat (spec_l01Ok_es k)) follows (forall_getD _ 0 (0, Code.skip) (by kernel_rfl) fun i hi => by
      omega)
    (tm := spec_l01Ok_t0) (dec := dec_lii) (enc := enc_lii) (ksIn := [0, 3, 4]) (ksOut := [0, 3]) (ksRet := [2]) (k := k) (step := spec_l01Ok_w0 k) dec_enc_lii (fun p => by kernel_rfl) (fun s R K => by kernel_rfl) (spec_l01Ok_step0 k)
theorem spec_l01Ok_step1 (k : Nat) (R : Type) (K : Ex → St → Option R) (g : St → Option R) (p : (List Int) × Int) : evCode (spec_l01Ok_C k) (loopP [0] (0, codeOf Try.f57)).2 (loopP [0] (0, codeOf Try.f57)).1 (fSt spec_l01Ok_t1 (enc_li p)) (loopK tab [0, 3] [] [2] g K) = spec_l01Ok_w1 k R K (fun p => g (fSt spec_l01Ok_t1 (enc_li p))) p := by
  kernel_rfl
theorem spec_l01Ok_lok1 (k : Nat) : LoopOK Try.prog tab (spec_l01Ok_C k).lo (loopP [0] (0, codeOf Try.f57)).1 (loopP [0] (0, codeOf Try.f57)).2 :=
  loopOK_of (C := spec_l01Ok_C k) tabOK eqTabOK (oraOf_ok (spec_l01Ok_es k)) (oraOf_nat (spec_l01Ok_es k)) follows (forall_getD _ 1 (0, Code.skip) (by kernel_rfl) fun i hi => by
      match i, hi with
      | 0, _ => exact spec_l01Ok_lok0 k
      | n + 1, h => omega)
    (tm := spec_l01Ok_t1) (dec := dec_li) (enc := enc_li) (ksIn := [0, 3]) (ksOut := []) (ksRet := [2]) (k := k) (step := spec_l01Ok_w1 k) dec_enc_li (fun p => by kernel_rfl) (fun s R K => by kernel_rfl) (spec_l01Ok_step1 k)
def spec_l01Ok_e (k : Nat) : Ent := (57, callOf [.pvi (some 36) 0 36] dec_l fun (p : (List Int)) R K => (spec_l01Ok k p).bind fun (b : Bool) => K ((fV (.bool) (enc_b b)).1, none))
theorem spec_l01Ok_run (k : Nat) (p : (List Int)) : runF (spec_l01Ok_C k) Try.f57 false (fL [.pvi (some 36) 0 36] (enc_l p)).1 (resK (.bool) dec_b) = spec_l01Ok k p := by
  kernel_rfl
theorem spec_l01Ok_ok (k : Nat) : EntOK Try.prog tab mvs (spec_l01Ok_e k) :=
  fn_ok (C := spec_l01Ok_C k) tabOK eqTabOK (spec_l01Ok_es k) rfl follows Try.func57 (by kernel_rfl) (by kernel_rfl) rfl (forall_getD _ 1 (0, Code.skip) (by kernel_rfl) fun i hi => by
      match i, hi with
      | 0, _ => exact spec_l01Ok_lok1 k
      | n + 1, h => omega)
    dec_enc_l dec_enc_b (spec_l01Ok_run k)

def spec_l01At_C (k : Nat) : Cfg := ⟨tab, mvs, oraOf [], loOf []⟩
theorem spec_l01At_es (k : Nat) : ∀ e ∈ ([] : List Ent), EntOK Try.prog tab mvs e := by
  intro e he
  simp at he
def spec_l01At_e (k : Nat) : Ent := (109, callOf [.pvi (some 36) 0 36, .agg 43] dec_ll fun (p : (List Int) × (List Int)) R K => (spec_l01At k p.1 p.2).bind fun (b : Int) => K ((fV (.int .i64) (enc_i b)).1, none))
theorem spec_l01At_run (k : Nat) (p : (List Int) × (List Int)) : runF (spec_l01At_C k) Try.f109 false (fL [.pvi (some 36) 0 36, .agg 43] (enc_ll p)).1 (resK (.int .i64) dec_i) = spec_l01At k p.1 p.2 := by
  kernel_rfl
theorem spec_l01At_ok (k : Nat) : EntOK Try.prog tab mvs (spec_l01At_e k) :=
  fn_ok (C := spec_l01At_C k) tabOK eqTabOK (spec_l01At_es k) rfl follows Try.func109 (by kernel_rfl) (by kernel_rfl) rfl (forall_getD _ 0 (0, Code.skip) (by kernel_rfl) fun i hi => by
      omega)
    dec_enc_ll dec_enc_i (spec_l01At_run k)

def spec_l01Open_C (k : Nat) : Cfg := ⟨tab, mvs, oraOf [spec_l01At_e k], loOf []⟩
theorem spec_l01Open_es (k : Nat) : ∀ e ∈ ([spec_l01At_e k] : List Ent), EntOK Try.prog tab mvs e := by
  intro e he
  simp only [List.mem_cons, List.not_mem_nil, or_false] at he
  rcases he with rfl
  · exact spec_l01At_ok k
def spec_l01Open_e (k : Nat) : Ent := (125, callOf [.pvi (some 36) 0 36, .agg 43] dec_ll fun (p : (List Int) × (List Int)) R K => (spec_l01Open k p.1 p.2).bind fun (b : Bool) => K ((fV (.bool) (enc_b b)).1, none))
theorem spec_l01Open_run (k : Nat) (p : (List Int) × (List Int)) : runF (spec_l01Open_C k) Try.f125 false (fL [.pvi (some 36) 0 36, .agg 43] (enc_ll p)).1 (resK (.bool) dec_b) = spec_l01Open k p.1 p.2 := by
  kernel_rfl
theorem spec_l01Open_ok (k : Nat) : EntOK Try.prog tab mvs (spec_l01Open_e k) :=
  fn_ok (C := spec_l01Open_C k) tabOK eqTabOK (spec_l01Open_es k) rfl follows Try.func125 (by kernel_rfl) (by kernel_rfl) rfl (forall_getD _ 0 (0, Code.skip) (by kernel_rfl) fun i hi => by
      omega)
    dec_enc_ll dec_enc_b (spec_l01Open_run k)

def spec_l04Open_C (k : Nat) : Cfg := ⟨tab, mvs, oraOf [spec_l01Is_e k, spec_l01Open_e k], loOf []⟩
theorem spec_l04Open_es (k : Nat) : ∀ e ∈ ([spec_l01Is_e k, spec_l01Open_e k] : List Ent), EntOK Try.prog tab mvs e := by
  intro e he
  simp only [List.mem_cons, List.not_mem_nil, or_false] at he
  rcases he with rfl | rfl
  · exact spec_l01Is_ok k
  · exact spec_l01Open_ok k
def spec_l04Open_e (k : Nat) : Ent := (138, callOf [.pvi (some 36) 0 36, .agg 43] dec_ll fun (p : (List Int) × (List Int)) R K => (spec_l04Open k p.1 p.2).bind fun (b : Bool) => K ((fV (.bool) (enc_b b)).1, none))
theorem spec_l04Open_run (k : Nat) (p : (List Int) × (List Int)) : runF (spec_l04Open_C k) Try.f138 false (fL [.pvi (some 36) 0 36, .agg 43] (enc_ll p)).1 (resK (.bool) dec_b) = spec_l04Open k p.1 p.2 := by
  kernel_rfl
theorem spec_l04Open_ok (k : Nat) : EntOK Try.prog tab mvs (spec_l04Open_e k) :=
  fn_ok (C := spec_l04Open_C k) tabOK eqTabOK (spec_l04Open_es k) rfl follows Try.func138 (by kernel_rfl) (by kernel_rfl) rfl (forall_getD _ 0 (0, Code.skip) (by kernel_rfl) fun i hi => by
      omega)
    dec_enc_ll dec_enc_b (spec_l04Open_run k)

def spec_l04Beside_C (k : Nat) : Cfg := ⟨tab, mvs, oraOf [], loOf []⟩
theorem spec_l04Beside_es (k : Nat) : ∀ e ∈ ([] : List Ent), EntOK Try.prog tab mvs e := by
  intro e he
  simp at he
def spec_l04Beside_e (k : Nat) : Ent := (139, callOf [.agg 43, .agg 43] dec_ll fun (p : (List Int) × (List Int)) R K => (spec_l04Beside k p.1 p.2).bind fun (b : Bool) => K ((fV (.bool) (enc_b b)).1, none))
theorem spec_l04Beside_run (k : Nat) (p : (List Int) × (List Int)) : runF (spec_l04Beside_C k) Try.f139 false (fL [.agg 43, .agg 43] (enc_ll p)).1 (resK (.bool) dec_b) = spec_l04Beside k p.1 p.2 := by
  kernel_rfl
theorem spec_l04Beside_ok (k : Nat) : EntOK Try.prog tab mvs (spec_l04Beside_e k) :=
  fn_ok (C := spec_l04Beside_C k) tabOK eqTabOK (spec_l04Beside_es k) rfl follows Try.func139 (by kernel_rfl) (by kernel_rfl) rfl (forall_getD _ 0 (0, Code.skip) (by kernel_rfl) fun i hi => by
      omega)
    dec_enc_ll dec_enc_b (spec_l04Beside_run k)

def dec_lli (ps : List Pay) : Option ((List Int) × (List Int) × Int) := match ps with
  | [.l x1, .l x2, .i x3] => some (x1, x2, x3)
  | _ => none
def enc_lli (p : (List Int) × (List Int) × Int) : List Pay := [.l p.1, .l p.2.1, .i p.2.2]
theorem dec_enc_lli : ∀ (ps : List Pay) (p : (List Int) × (List Int) × Int), dec_lli ps = some p → ps = enc_lli p := by
  intro ps p h
  unfold dec_lli at h
  split at h
  · injection h with h
    subst h
    rfl
  · cases h

def spec_l04Right_t0 : StTm := ⟨39, [(0, .pvi (some 36) 0 36), (1, .slv 43), (5, .int .i64)], []⟩
def spec_l04Right_t0_1 : StTm := ⟨39, [(4, .bool)], []⟩
def spec_l04Right_t0_2 : StTm := ⟨39, [(1, .slv 43)], []⟩
def spec_l04Right_w0 (k : Nat) (R : Type) (K : Ex → St → Option R) (rec : (List Int) × (List Int) × Int → Option R) (p : (List Int) × (List Int) × Int) : Option R := spec_l04Right_s0 k (fun y1 => K .ret (fSt spec_l04Right_t0_1 [.b y1])) (fun y1 => K (.exit 0) (fSt spec_l04Right_t0_2 [.l y1])) (fun h1 h2 h3 => rec (h1, h2, h3)) p.1 p.2.1 p.2.2
def spec_l04Right_c0 (k : Nat) : Lcall := lcallOf tab spec_l04Right_t0 dec_lli [0, 1, 5] k (spec_l04Right_w0 k)
def spec_l04Right_C (k : Nat) : Cfg := ⟨tab, mvs, oraOf [spec_l04Open_e k, spec_l04Beside_e k], loOf [(0, spec_l04Right_c0 k)]⟩
theorem spec_l04Right_es (k : Nat) : ∀ e ∈ ([spec_l04Open_e k, spec_l04Beside_e k] : List Ent), EntOK Try.prog tab mvs e := by
  intro e he
  simp only [List.mem_cons, List.not_mem_nil, or_false] at he
  rcases he with rfl | rfl
  · exact spec_l04Open_ok k
  · exact spec_l04Beside_ok k
theorem spec_l04Right_step0 (k : Nat) (R : Type) (K : Ex → St → Option R) (g : St → Option R) (p : (List Int) × (List Int) × Int) : evCode (spec_l04Right_C k) (loopP [0] (0, codeOf Try.f116)).2 (loopP [0] (0, codeOf Try.f116)).1 (fSt spec_l04Right_t0 (enc_lli p)) (loopK tab [0, 1, 5] [1] [4] g K) = spec_l04Right_w0 k R K (fun p => g (fSt spec_l04Right_t0 (enc_lli p))) p := by
  kernel_rfl
theorem spec_l04Right_lok0 (k : Nat) : LoopOK Try.prog tab (spec_l04Right_C k).lo (loopP [0] (0, codeOf Try.f116)).1 (loopP [0] (0, codeOf Try.f116)).2 :=
  loopOK_of (C := spec_l04Right_C k) tabOK eqTabOK (oraOf_ok (spec_l04Right_es k)) (oraOf_nat (spec_l04Right_es k)) follows (forall_getD _ 0 (0, Code.skip) (by kernel_rfl) fun i hi => by
      omega)
    (tm := spec_l04Right_t0) (dec := dec_lli) (enc := enc_lli) (ksIn := [0, 1, 5]) (ksOut := [1]) (ksRet := [4]) (k := k) (step := spec_l04Right_w0 k) dec_enc_lli (fun p => by kernel_rfl) (fun s R K => by kernel_rfl) (spec_l04Right_step0 k)
def spec_l04Right_e (k : Nat) : Ent := (116, callOf [.pvi (some 36) 0 36, .slv 43] dec_ll fun (p : (List Int) × (List Int)) R K => (spec_l04Right k p.1 p.2).bind fun (b : Bool) => K ((fV (.bool) (enc_b b)).1, none))
theorem spec_l04Right_run (k : Nat) (p : (List Int) × (List Int)) : runF (spec_l04Right_C k) Try.f116 false (fL [.pvi (some 36) 0 36, .slv 43] (enc_ll p)).1 (resK (.bool) dec_b) = spec_l04Right k p.1 p.2 := by
  kernel_rfl
theorem spec_l04Right_ok (k : Nat) : EntOK Try.prog tab mvs (spec_l04Right_e k) :=
  fn_ok (C := spec_l04Right_C k) tabOK eqTabOK (spec_l04Right_es k) rfl follows Try.func116 (by kernel_rfl) (by kernel_rfl) rfl (forall_getD _ 1 (0, Code.skip) (by kernel_rfl) fun i hi => by
      match i, hi with
      | 0, _ => exact spec_l04Right_lok0 k
      | n + 1, h => omega)
    dec_enc_ll dec_enc_b (spec_l04Right_run k)

def dec_lri (ps : List Pay) : Option ((List Int) × (List (List Int)) × Int) := match ps with
  | [.l x1, .r x2, .i x3] => some (x1, x2, x3)
  | _ => none
def enc_lri (p : (List Int) × (List (List Int)) × Int) : List Pay := [.l p.1, .r p.2.1, .i p.2.2]
theorem dec_enc_lri : ∀ (ps : List Pay) (p : (List Int) × (List (List Int)) × Int), dec_lri ps = some p → ps = enc_lri p := by
  intro ps p h
  unfold dec_lri at h
  split at h
  · injection h with h
    subst h
    rfl
  · cases h

def dec_lr (ps : List Pay) : Option ((List Int) × (List (List Int))) := match ps with
  | [.l x1, .r x2] => some (x1, x2)
  | _ => none
def enc_lr (p : (List Int) × (List (List Int))) : List Pay := [.l p.1, .r p.2]
theorem dec_enc_lr : ∀ (ps : List Pay) (p : (List Int) × (List (List Int))), dec_lr ps = some p → ps = enc_lr p := by
  intro ps p h
  unfold dec_lr at h
  split at h
  · injection h with h
    subst h
    rfl
  · cases h

def spec_l04Several_t0 : StTm := ⟨38, [(0, .pvi (some 36) 0 36), (1, .slr 50), (5, .int .i64)], []⟩
def spec_l04Several_t0_1 : StTm := ⟨38, [(4, .int .i64)], []⟩
def spec_l04Several_t0_2 : StTm := ⟨38, [(0, .pvi (some 36) 0 36), (1, .slr 50)], []⟩
def spec_l04Several_w0 (k : Nat) (R : Type) (K : Ex → St → Option R) (rec : (List Int) × (List (List Int)) × Int → Option R) (p : (List Int) × (List (List Int)) × Int) : Option R := spec_l04Several_s0 k (fun y1 => K .ret (fSt spec_l04Several_t0_1 [.i y1])) (fun y1 y2 => K (.exit 0) (fSt spec_l04Several_t0_2 [.l y1, .r y2])) (fun h1 h2 h3 => rec (h1, h2, h3)) p.1 p.2.1 p.2.2
def spec_l04Several_c0 (k : Nat) : Lcall := lcallOf tab spec_l04Several_t0 dec_lri [0, 1, 5] k (spec_l04Several_w0 k)
def spec_l04Several_t1 : StTm := ⟨38, [(0, .pvi (some 36) 0 36), (1, .slr 50), (6, .int .i64)], []⟩
def spec_l04Several_t1_1 : StTm := ⟨38, [(4, .int .i64)], []⟩
def spec_l04Several_t1_2 : StTm := ⟨38, [], []⟩
def spec_l04Several_w1 (k : Nat) (R : Type) (K : Ex → St → Option R) (rec : (List Int) × (List (List Int)) × Int → Option R) (p : (List Int) × (List (List Int)) × Int) : Option R := spec_l04Several_s1 k (fun y1 => K .ret (fSt spec_l04Several_t1_1 [.i y1])) (K (.exit 2) (fSt spec_l04Several_t1_2 [])) (fun h1 h2 h3 => rec (h1, h2, h3)) p.1 p.2.1 p.2.2
def spec_l04Several_c1 (k : Nat) : Lcall := lcallOf tab spec_l04Several_t1 dec_lri [0, 1, 6] k (spec_l04Several_w1 k)
def spec_l04Several_C (k : Nat) : Cfg := ⟨tab, mvs, oraOf [spec_l01Ok_e k, spec_l04Right_e k], loOf [(0, spec_l04Several_c0 k), (2, spec_l04Several_c1 k)]⟩
theorem spec_l04Several_es (k : Nat) : ∀ e ∈ ([spec_l01Ok_e k, spec_l04Right_e k] : List Ent), EntOK Try.prog tab mvs e := by
  intro e he
  simp only [List.mem_cons, List.not_mem_nil, or_false] at he
  rcases he with rfl | rfl
  · exact spec_l01Ok_ok k
  · exact spec_l04Right_ok k
theorem spec_l04Several_step0 (k : Nat) (R : Type) (K : Ex → St → Option R) (g : St → Option R) (p : (List Int) × (List (List Int)) × Int) : evCode (spec_l04Several_C k) (loopP [0] (0, codeOf Try.f77)).2 (loopP [0] (0, codeOf Try.f77)).1 (fSt spec_l04Several_t0 (enc_lri p)) (loopK tab [0, 1, 5] [0, 1] [4] g K) = spec_l04Several_w0 k R K (fun p => g (fSt spec_l04Several_t0 (enc_lri p))) p := by
  kernel_rfl
theorem spec_l04Several_lok0 (k : Nat) : LoopOK Try.prog tab (spec_l04Several_C k).lo (loopP [0] (0, codeOf Try.f77)).1 (loopP [0] (0, codeOf Try.f77)).2 :=
  loopOK_of (C := spec_l04Several_C k) tabOK eqTabOK (oraOf_ok (spec_l04Several_es k)) (oraOf_nat (spec_l04Several_es k)) follows (forall_getD _ 0 (0, Code.skip) (by kernel_rfl) fun i hi => by
      omega)
    (tm := spec_l04Several_t0) (dec := dec_lri) (enc := enc_lri) (ksIn := [0, 1, 5]) (ksOut := [0, 1]) (ksRet := [4]) (k := k) (step := spec_l04Several_w0 k) dec_enc_lri (fun p => by kernel_rfl) (fun s R K => by kernel_rfl) (spec_l04Several_step0 k)
theorem spec_l04Several_step1 (k : Nat) (R : Type) (K : Ex → St → Option R) (g : St → Option R) (p : (List Int) × (List (List Int)) × Int) : evCode (spec_l04Several_C k) (loopP [1] (0, codeOf Try.f77)).2 (loopP [1] (0, codeOf Try.f77)).1 (fSt spec_l04Several_t1 (enc_lri p)) (loopK tab [0, 1, 6] [] [4] g K) = spec_l04Several_w1 k R K (fun p => g (fSt spec_l04Several_t1 (enc_lri p))) p := by
  kernel_rfl
theorem spec_l04Several_lok1 (k : Nat) : LoopOK Try.prog tab (spec_l04Several_C k).lo (loopP [1] (0, codeOf Try.f77)).1 (loopP [1] (0, codeOf Try.f77)).2 :=
  loopOK_of (C := spec_l04Several_C k) tabOK eqTabOK (oraOf_ok (spec_l04Several_es k)) (oraOf_nat (spec_l04Several_es k)) follows (forall_getD _ 0 (0, Code.skip) (by kernel_rfl) fun i hi => by
      omega)
    (tm := spec_l04Several_t1) (dec := dec_lri) (enc := enc_lri) (ksIn := [0, 1, 6]) (ksOut := []) (ksRet := [4]) (k := k) (step := spec_l04Several_w1 k) dec_enc_lri (fun p => by kernel_rfl) (fun s R K => by kernel_rfl) (spec_l04Several_step1 k)
def spec_l04Several_e (k : Nat) : Ent := (77, callOf [.pvi (some 36) 0 36, .slr 50] dec_lr fun (p : (List Int) × (List (List Int))) R K => (spec_l04Several k p.1 p.2).bind fun (b : Int) => K ((fV (.int .i64) (enc_i b)).1, none))
theorem spec_l04Several_run (k : Nat) (p : (List Int) × (List (List Int))) : runF (spec_l04Several_C k) Try.f77 false (fL [.pvi (some 36) 0 36, .slr 50] (enc_lr p)).1 (resK (.int .i64) dec_i) = spec_l04Several k p.1 p.2 := by
  kernel_rfl
theorem spec_l04Several_ok (k : Nat) : EntOK Try.prog tab mvs (spec_l04Several_e k) :=
  fn_ok (C := spec_l04Several_C k) tabOK eqTabOK (spec_l04Several_es k) rfl follows Try.func77 (by kernel_rfl) (by kernel_rfl) rfl (forall_getD _ 2 (0, Code.skip) (by kernel_rfl) fun i hi => by
      match i, hi with
      | 0, _ => exact spec_l04Several_lok0 k
      | 1, _ => exact spec_l04Several_lok1 k
      | n + 2, h => omega)
    dec_enc_lr dec_enc_i (spec_l04Several_run k)

def spec_l04Longest_t0 : StTm := ⟨24, [(0, .slr 50), (3, .int .i64), (4, .int .i64)], []⟩
def spec_l04Longest_t0_1 : StTm := ⟨24, [(3, .int .i64)], []⟩
def spec_l04Longest_w0 (k : Nat) (R : Type) (K : Ex → St → Option R) (rec : (List (List Int)) × Int × Int → Option R) (p : (List (List Int)) × Int × Int) : Option R := spec_l04Longest_s0 k (fun y1 => K (.exit 0) (fSt spec_l04Longest_t0_1 [.i y1])) (fun h1 h2 h3 => rec (h1, h2, h3)) p.1 p.2.1 p.2.2
def spec_l04Longest_c0 (k : Nat) : Lcall := lcallOf tab spec_l04Longest_t0 dec_rii [0, 3, 4] k (spec_l04Longest_w0 k)
def spec_l04Longest_C (k : Nat) : Cfg := ⟨tab, mvs, oraOf [], loOf [(0, spec_l04Longest_c0 k)]⟩
theorem spec_l04Longest_es (k : Nat) : ∀ e ∈ ([] : List Ent), EntOK Try.prog tab mvs e := by
  intro e he
  simp at he
theorem spec_l04Longest_step0 (k : Nat) (R : Type) (K : Ex → St → Option R) (g : St → Option R) (p : (List (List Int)) × Int × Int) : evCode (spec_l04Longest_C k) (loopP [0] (0, codeOf Try.f117)).2 (loopP [0] (0, codeOf Try.f117)).1 (fSt spec_l04Longest_t0 (enc_rii p)) (loopK tab [0, 3, 4] [3] [2] g K) = spec_l04Longest_w0 k R K (fun p => g (fSt spec_l04Longest_t0 (enc_rii p))) p := by
  kernel_rfl
theorem spec_l04Longest_lok0 (k : Nat) : LoopOK Try.prog tab (spec_l04Longest_C k).lo (loopP [0] (0, codeOf Try.f117)).1 (loopP [0] (0, codeOf Try.f117)).2 :=
  loopOK_of (C := spec_l04Longest_C k) tabOK eqTabOK (oraOf_ok (spec_l04Longest_es k)) (oraOf_nat (spec_l04Longest_es k)) follows (forall_getD _ 0 (0, Code.skip) (by kernel_rfl) fun i hi => by
      omega)
    (tm := spec_l04Longest_t0) (dec := dec_rii) (enc := enc_rii) (ksIn := [0, 3, 4]) (ksOut := [3]) (ksRet := [2]) (k := k) (step := spec_l04Longest_w0 k) dec_enc_rii (fun p => by kernel_rfl) (fun s R K => by kernel_rfl) (spec_l04Longest_step0 k)
def spec_l04Longest_e (k : Nat) : Ent := (117, callOf [.slr 50] dec_r fun (p : (List (List Int))) R K => (spec_l04Longest k p).bind fun (b : Int) => K ((fV (.int .i64) (enc_i b)).1, none))
theorem spec_l04Longest_run (k : Nat) (p : (List (List Int))) : runF (spec_l04Longest_C k) Try.f117 false (fL [.slr 50] (enc_r p)).1 (resK (.int .i64) dec_i) = spec_l04Longest k p := by
  kernel_rfl
theorem spec_l04Longest_ok (k : Nat) : EntOK Try.prog tab mvs (spec_l04Longest_e k) :=
  fn_ok (C := spec_l04Longest_C k) tabOK eqTabOK (spec_l04Longest_es k) rfl follows Try.func117 (by kernel_rfl) (by kernel_rfl) rfl (forall_getD _ 1 (0, Code.skip) (by kernel_rfl) fun i hi => by
      match i, hi with
      | 0, _ => exact spec_l04Longest_lok0 k
      | n + 1, h => omega)
    dec_enc_r dec_enc_i (spec_l04Longest_run k)

def spec_l04Where_C (k : Nat) : Cfg := ⟨tab, mvs, oraOf [], loOf []⟩
theorem spec_l04Where_es (k : Nat) : ∀ e ∈ ([] : List Ent), EntOK Try.prog tab mvs e := by
  intro e he
  simp at he
def spec_l04Where_e (k : Nat) : Ent := (140, callOf [.slv 43, .int .i64] dec_li fun (p : (List Int) × Int) R K => (spec_l04Where k p.1 p.2).bind fun (b : (List Int)) => K ((fV (.agg 43) (enc_l b)).1, none))
theorem spec_l04Where_run (k : Nat) (p : (List Int) × Int) : runF (spec_l04Where_C k) Try.f140 false (fL [.slv 43, .int .i64] (enc_li p)).1 (resK (.agg 43) dec_l) = spec_l04Where k p.1 p.2 := by
  kernel_rfl
theorem spec_l04Where_ok (k : Nat) : EntOK Try.prog tab mvs (spec_l04Where_e k) :=
  fn_ok (C := spec_l04Where_C k) tabOK eqTabOK (spec_l04Where_es k) rfl follows Try.func140 (by kernel_rfl) (by kernel_rfl) rfl (forall_getD _ 0 (0, Code.skip) (by kernel_rfl) fun i hi => by
      omega)
    dec_enc_li dec_enc_l (spec_l04Where_run k)

def spec_l04Meet_C (k : Nat) : Cfg := ⟨tab, mvs, oraOf [spec_l04Where_e k], loOf []⟩
theorem spec_l04Meet_es (k : Nat) : ∀ e ∈ ([spec_l04Where_e k] : List Ent), EntOK Try.prog tab mvs e := by
  intro e he
  simp only [List.mem_cons, List.not_mem_nil, or_false] at he
  rcases he with rfl
  · exact spec_l04Where_ok k
def spec_l04Meet_e (k : Nat) : Ent := (118, callOf [.slv 43, .slv 43, .int .i64] dec_lli fun (p : (List Int) × (List Int) × Int) R K => (spec_l04Meet k p.1 p.2.1 p.2.2).bind fun (b : Bool) => K ((fV (.bool) (enc_b b)).1, none))
theorem spec_l04Meet_run (k : Nat) (p : (List Int) × (List Int) × Int) : runF (spec_l04Meet_C k) Try.f118 false (fL [.slv 43, .slv 43, .int .i64] (enc_lli p)).1 (resK (.bool) dec_b) = spec_l04Meet k p.1 p.2.1 p.2.2 := by
  kernel_rfl
theorem spec_l04Meet_ok (k : Nat) : EntOK Try.prog tab mvs (spec_l04Meet_e k) :=
  fn_ok (C := spec_l04Meet_C k) tabOK eqTabOK (spec_l04Meet_es k) rfl follows Try.func118 (by kernel_rfl) (by kernel_rfl) rfl (forall_getD _ 0 (0, Code.skip) (by kernel_rfl) fun i hi => by
      omega)
    dec_enc_lli dec_enc_b (spec_l04Meet_run k)

def dec_riiii (ps : List Pay) : Option ((List (List Int)) × Int × Int × Int × Int) := match ps with
  | [.r x1, .i x2, .i x3, .i x4, .i x5] => some (x1, x2, x3, x4, x5)
  | _ => none
def enc_riiii (p : (List (List Int)) × Int × Int × Int × Int) : List Pay := [.r p.1, .i p.2.1, .i p.2.2.1, .i p.2.2.2.1, .i p.2.2.2.2]
theorem dec_enc_riiii : ∀ (ps : List Pay) (p : (List (List Int)) × Int × Int × Int × Int), dec_riiii ps = some p → ps = enc_riiii p := by
  intro ps p h
  unfold dec_riiii at h
  split at h
  · injection h with h
    subst h
    rfl
  · cases h

def dec_riii (ps : List Pay) : Option ((List (List Int)) × Int × Int × Int) := match ps with
  | [.r x1, .i x2, .i x3, .i x4] => some (x1, x2, x3, x4)
  | _ => none
def enc_riii (p : (List (List Int)) × Int × Int × Int) : List Pay := [.r p.1, .i p.2.1, .i p.2.2.1, .i p.2.2.2]
theorem dec_enc_riii : ∀ (ps : List Pay) (p : (List (List Int)) × Int × Int × Int), dec_riii ps = some p → ps = enc_riii p := by
  intro ps p h
  unfold dec_riii at h
  split at h
  · injection h with h
    subst h
    rfl
  · cases h

def dec_iiib (ps : List Pay) : Option (Int × Int × Int × Bool) := match ps with
  | [.i x1, .i x2, .i x3, .b x4] => some (x1, x2, x3, x4)
  | _ => none
def enc_iiib (p : Int × Int × Int × Bool) : List Pay := [.i p.1, .i p.2.1, .i p.2.2.1, .b p.2.2.2]
theorem dec_enc_iiib : ∀ (ps : List Pay) (p : Int × Int × Int × Bool), dec_iiib ps = some p → ps = enc_iiib p := by
  intro ps p h
  unfold dec_iiib at h
  split at h
  · injection h with h
    subst h
    rfl
  · cases h

def spec_l04Clash_t0 : StTm := ⟨44, [(0, .slr 50), (6, .int .i64), (7, .int .i64), (8, .int .i64), (9, .int .i64)], []⟩
def spec_l04Clash_t0_1 : StTm := ⟨44, [(2, .int .i64), (3, .int .i64), (4, .int .i64), (5, .bool)], []⟩
def spec_l04Clash_t0_2 : StTm := ⟨44, [(0, .slr 50), (6, .int .i64), (7, .int .i64), (8, .int .i64)], []⟩
def spec_l04Clash_w0 (k : Nat) (R : Type) (K : Ex → St → Option R) (rec : (List (List Int)) × Int × Int × Int × Int → Option R) (p : (List (List Int)) × Int × Int × Int × Int) : Option R := spec_l04Clash_s0 k (fun y1 y2 y3 y4 => K .ret (fSt spec_l04Clash_t0_1 [.i y1, .i y2, .i y3, .b y4])) (fun y1 y2 y3 y4 => K (.exit 4) (fSt spec_l04Clash_t0_2 [.r y1, .i y2, .i y3, .i y4])) (fun h1 h2 h3 h4 h5 => rec (h1, h2, h3, h4, h5)) p.1 p.2.1 p.2.2.1 p.2.2.2.1 p.2.2.2.2
def spec_l04Clash_c0 (k : Nat) : Lcall := lcallOf tab spec_l04Clash_t0 dec_riiii [0, 6, 7, 8, 9] k (spec_l04Clash_w0 k)
def spec_l04Clash_t1 : StTm := ⟨44, [(0, .slr 50), (6, .int .i64), (7, .int .i64), (8, .int .i64)], []⟩
def spec_l04Clash_t1_1 : StTm := ⟨44, [(2, .int .i64), (3, .int .i64), (4, .int .i64), (5, .bool)], []⟩
def spec_l04Clash_t1_2 : StTm := ⟨44, [(0, .slr 50), (6, .int .i64), (7, .int .i64)], []⟩
def spec_l04Clash_w1 (k : Nat) (R : Type) (K : Ex → St → Option R) (rec : (List (List Int)) × Int × Int × Int → Option R) (p : (List (List Int)) × Int × Int × Int) : Option R := spec_l04Clash_s1 k (fun y1 y2 y3 y4 => K .ret (fSt spec_l04Clash_t1_1 [.i y1, .i y2, .i y3, .b y4])) (fun y1 y2 y3 => K (.exit 2) (fSt spec_l04Clash_t1_2 [.r y1, .i y2, .i y3])) (fun h1 h2 h3 h4 => rec (h1, h2, h3, h4)) p.1 p.2.1 p.2.2.1 p.2.2.2
def spec_l04Clash_c1 (k : Nat) : Lcall := lcallOf tab spec_l04Clash_t1 dec_riii [0, 6, 7, 8] k (spec_l04Clash_w1 k)
def spec_l04Clash_t2 : StTm := ⟨44, [(0, .slr 50), (6, .int .i64), (7, .int .i64)], []⟩
def spec_l04Clash_t2_1 : StTm := ⟨44, [(2, .int .i64), (3, .int .i64), (4, .int .i64), (5, .bool)], []⟩
def spec_l04Clash_t2_2 : StTm := ⟨44, [], []⟩
def spec_l04Clash_w2 (k : Nat) (R : Type) (K : Ex → St → Option R) (rec : (List (List Int)) × Int × Int → Option R) (p : (List (List Int)) × Int × Int) : Option R := spec_l04Clash_s2 k (fun y1 y2 y3 y4 => K .ret (fSt spec_l04Clash_t2_1 [.i y1, .i y2, .i y3, .b y4])) (K (.exit 0) (fSt spec_l04Clash_t2_2 [])) (fun h1 h2 h3 => rec (h1, h2, h3)) p.1 p.2.1 p.2.2
def spec_l04Clash_c2 (k : Nat) : Lcall := lcallOf tab spec_l04Clash_t2 dec_rii [0, 6, 7] k (spec_l04Clash_w2 k)
def spec_l04Clash_C (k : Nat) : Cfg := ⟨tab, mvs, oraOf [spec_l04Longest_e k, spec_l04Meet_e k], loOf [(4, spec_l04Clash_c0 k), (2, spec_l04Clash_c1 k), (0, spec_l04Clash_c2 k)]⟩
theorem spec_l04Clash_es (k : Nat) : ∀ e ∈ ([spec_l04Longest_e k, spec_l04Meet_e k] : List Ent), EntOK Try.prog tab mvs e := by
  intro e he
  simp only [List.mem_cons, List.not_mem_nil, or_false] at he
  rcases he with rfl | rfl
  · exact spec_l04Longest_ok k
  · exact spec_l04Meet_ok k
theorem spec_l04Clash_step0 (k : Nat) (R : Type) (K : Ex → St → Option R) (g : St → Option R) (p : (List (List Int)) × Int × Int × Int × Int) : evCode (spec_l04Clash_C k) (loopP [0, 0, 0] (0, codeOf Try.f78)).2 (loopP [0, 0, 0] (0, codeOf Try.f78)).1 (fSt spec_l04Clash_t0 (enc_riiii p)) (loopK tab [0, 6, 7, 8, 9] [0, 6, 7, 8] [2, 3, 4, 5] g K) = spec_l04Clash_w0 k R K (fun p => g (fSt spec_l04Clash_t0 (enc_riiii p))) p := by
  kernel_rfl
theorem spec_l04Clash_lok0 (k : Nat) : LoopOK Try.prog tab (spec_l04Clash_C k).lo (loopP [0, 0, 0] (0, codeOf Try.f78)).1 (loopP [0, 0, 0] (0, codeOf Try.f78)).2 :=
  loopOK_of (C := spec_l04Clash_C k) tabOK eqTabOK (oraOf_ok (spec_l04Clash_es k)) (oraOf_nat (spec_l04Clash_es k)) follows (forall_getD _ 0 (0, Code.skip) (by kernel_rfl) fun i hi => by
      omega)
    (tm := spec_l04Clash_t0) (dec := dec_riiii) (enc := enc_riiii) (ksIn := [0, 6, 7, 8, 9]) (ksOut := [0, 6, 7, 8]) (ksRet := [2, 3, 4, 5]) (k := k) (step := spec_l04Clash_w0 k) dec_enc_riiii (fun p => by kernel_rfl) (fun s R K => by kernel_rfl) (spec_l04Clash_step0 k)
theorem spec_l04Clash_step1 (k : Nat) (R : Type) (K : Ex → St → Option R) (g : St → Option R) (p : (List (List Int)) × Int × Int × Int) : evCode (spec_l04Clash_C k) (loopP [0, 0] (0, codeOf Try.f78)).2 (loopP [0, 0] (0, codeOf Try.f78)).1 (fSt spec_l04Clash_t1 (enc_riii p)) (loopK tab [0, 6, 7, 8] [0, 6, 7] [2, 3, 4, 5] g K) = spec_l04Clash_w1 k R K (fun p => g (fSt spec_l04Clash_t1 (enc_riii p))) p := by
  kernel_rfl
theorem spec_l04Clash_lok1 (k : Nat) : LoopOK Try.prog tab (spec_l04Clash_C k).lo (loopP [0, 0] (0, codeOf Try.f78)).1 (loopP [0, 0] (0, codeOf Try.f78)).2 :=
  loopOK_of (C := spec_l04Clash_C k) tabOK eqTabOK (oraOf_ok (spec_l04Clash_es k)) (oraOf_nat (spec_l04Clash_es k)) follows (forall_getD _ 1 (0, Code.skip) (by kernel_rfl) fun i hi => by
      match i, hi with
      | 0, _ => exact spec_l04Clash_lok0 k
      | n + 1, h => omega)
    (tm := spec_l04Clash_t1) (dec := dec_riii) (enc := enc_riii) (ksIn := [0, 6, 7, 8]) (ksOut := [0, 6, 7]) (ksRet := [2, 3, 4, 5]) (k := k) (step := spec_l04Clash_w1 k) dec_enc_riii (fun p => by kernel_rfl) (fun s R K => by kernel_rfl) (spec_l04Clash_step1 k)
theorem spec_l04Clash_step2 (k : Nat) (R : Type) (K : Ex → St → Option R) (g : St → Option R) (p : (List (List Int)) × Int × Int) : evCode (spec_l04Clash_C k) (loopP [0] (0, codeOf Try.f78)).2 (loopP [0] (0, codeOf Try.f78)).1 (fSt spec_l04Clash_t2 (enc_rii p)) (loopK tab [0, 6, 7] [] [2, 3, 4, 5] g K) = spec_l04Clash_w2 k R K (fun p => g (fSt spec_l04Clash_t2 (enc_rii p))) p := by
  kernel_rfl
theorem spec_l04Clash_lok2 (k : Nat) : LoopOK Try.prog tab (spec_l04Clash_C k).lo (loopP [0] (0, codeOf Try.f78)).1 (loopP [0] (0, codeOf Try.f78)).2 :=
  loopOK_of (C := spec_l04Clash_C k) tabOK eqTabOK (oraOf_ok (spec_l04Clash_es k)) (oraOf_nat (spec_l04Clash_es k)) follows (forall_getD _ 1 (0, Code.skip) (by kernel_rfl) fun i hi => by
      match i, hi with
      | 0, _ => exact spec_l04Clash_lok1 k
      | n + 1, h => omega)
    (tm := spec_l04Clash_t2) (dec := dec_rii) (enc := enc_rii) (ksIn := [0, 6, 7]) (ksOut := []) (ksRet := [2, 3, 4, 5]) (k := k) (step := spec_l04Clash_w2 k) dec_enc_rii (fun p => by kernel_rfl) (fun s R K => by kernel_rfl) (spec_l04Clash_step2 k)
def spec_l04Clash_e (k : Nat) : Ent := (78, callOf [.slr 50] dec_r fun (p : (List (List Int))) R K => (spec_l04Clash k p).bind fun (b : Int × Int × Int × Bool) => K ((fV (.tup [.int .i64, .int .i64, .int .i64, .bool]) (enc_iiib b)).1, none))
theorem spec_l04Clash_run (k : Nat) (p : (List (List Int))) : runF (spec_l04Clash_C k) Try.f78 false (fL [.slr 50] (enc_r p)).1 (resK (.tup [.int .i64, .int .i64, .int .i64, .bool]) dec_iiib) = spec_l04Clash k p := by
  kernel_rfl
theorem spec_l04Clash_ok (k : Nat) : EntOK Try.prog tab mvs (spec_l04Clash_e k) :=
  fn_ok (C := spec_l04Clash_C k) tabOK eqTabOK (spec_l04Clash_es k) rfl follows Try.func78 (by kernel_rfl) (by kernel_rfl) rfl (forall_getD _ 1 (0, Code.skip) (by kernel_rfl) fun i hi => by
      match i, hi with
      | 0, _ => exact spec_l04Clash_lok2 k
      | n + 1, h => omega)
    dec_enc_r dec_enc_iiib (spec_l04Clash_run k)

def dec_iiii (ps : List Pay) : Option (Int × Int × Int × Int) := match ps with
  | [.i x1, .i x2, .i x3, .i x4] => some (x1, x2, x3, x4)
  | _ => none
def enc_iiii (p : Int × Int × Int × Int) : List Pay := [.i p.1, .i p.2.1, .i p.2.2.1, .i p.2.2.2]
theorem dec_enc_iiii : ∀ (ps : List Pay) (p : Int × Int × Int × Int), dec_iiii ps = some p → ps = enc_iiii p := by
  intro ps p h
  unfold dec_iiii at h
  split at h
  · injection h with h
    subst h
    rfl
  · cases h

def spec_FirstClash_C (k : Nat) : Cfg := ⟨tab, mvs, oraOf [spec_l04Several_e k, spec_l04Clash_e k], loOf []⟩
theorem spec_FirstClash_es (k : Nat) : ∀ e ∈ ([spec_l04Several_e k, spec_l04Clash_e k] : List Ent), EntOK Try.prog tab mvs e := by
  intro e he
  simp only [List.mem_cons, List.not_mem_nil, or_false] at he
  rcases he with rfl | rfl
  · exact spec_l04Several_ok k
  · exact spec_l04Clash_ok k
def spec_FirstClash_e (k : Nat) : Ent := (31, callOf [.agg 36, .slr 50] dec_lr fun (p : (List Int) × (List (List Int))) R K => (spec_FirstClash k p.1 p.2).bind fun (b : Int × Int × Int × Int) => K ((fV (.tup [.int .i64, .int .i64, .int .i64, .int .i64]) (enc_iiii b)).1, none))
theorem spec_FirstClash_run (k : Nat) (p : (List Int) × (List (List Int))) : runF (spec_FirstClash_C k) Try.f31 false (fL [.agg 36, .slr 50] (enc_lr p)).1 (resK (.tup [.int .i64, .int .i64, .int .i64, .int .i64]) dec_iiii) = spec_FirstClash k p.1 p.2 := by
  kernel_rfl
theorem spec_FirstClash_ok (k : Nat) : EntOK Try.prog tab mvs (spec_FirstClash_e k) :=
  fn_ok (C := spec_FirstClash_C k) tabOK eqTabOK (spec_FirstClash_es k) rfl follows Try.func31 (by kernel_rfl) (by kernel_rfl) rfl (forall_getD _ 0 (0, Code.skip) (by kernel_rfl) fun i hi => by
      omega)
    dec_enc_lr dec_enc_iiii (spec_FirstClash_run k)

def impl_within_C (k : Nat) : Cfg := ⟨tab, mvs, oraOf [], loOf []⟩
theorem impl_within_es (k : Nat) : ∀ e ∈ ([] : List Ent), EntOK Try.prog tab mvs e := by
  intro e he
  simp at he
def impl_within_e (k : Nat) : Ent := (49, callOf [.int .i64, .int .i64, .int .i64] dec_iii fun (p : Int × Int × Int) R K => (impl_within k p.1 p.2.1 p.2.2).bind fun (b : Bool) => K ((fV (.bool) (enc_b b)).1, none))
theorem impl_within_run (k : Nat) (p : Int × Int × Int) : runF (impl_within_C k) Try.f49 false (fL [.int .i64, .int .i64, .int .i64] (enc_iii p)).1 (resK (.bool) dec_b) = impl_within k p.1 p.2.1 p.2.2 := by
  kernel_rfl
theorem impl_within_ok (k : Nat) : EntOK Try.prog tab mvs (impl_within_e k) :=
  fn_ok (C := impl_within_C k) tabOK eqTabOK (impl_within_es k) rfl follows Try.func49 (by kernel_rfl) (by kernel_rfl) rfl (forall_getD _ 0 (0, Code.skip) (by kernel_rfl) fun i hi => by
      omega)
    dec_enc_iii dec_enc_b (impl_within_run k)

def impl_Lawn_has_C (k : Nat) : Cfg := ⟨tab, mvs, oraOf [], loOf []⟩
theorem impl_Lawn_has_es (k : Nat) : ∀ e ∈ ([] : List Ent), EntOK Try.prog tab mvs e := by
  intro e he
  simp at he
def impl_Lawn_has_e (k : Nat) : Ent := (103, callOf [.agg 36, .agg 43] dec_ll fun (p : (List Int) × (List Int)) R K => (impl_Lawn_has k p.1 p.2).bind fun (b : Bool) => K ((fV (.bool) (enc_b b)).1, none))
theorem impl_Lawn_has_run (k : Nat) (p : (List Int) × (List Int)) : runF (impl_Lawn_has_C k) Try.f103 false (fL [.agg 36, .agg 43] (enc_ll p)).1 (resK (.bool) dec_b) = impl_Lawn_has k p.1 p.2 := by
  kernel_rfl
theorem impl_Lawn_has_ok (k : Nat) : EntOK Try.prog tab mvs (impl_Lawn_has_e k) :=
  fn_ok (C := impl_Lawn_has_C k) tabOK eqTabOK (impl_Lawn_has_es k) rfl follows Try.func103 (by kernel_rfl) (by kernel_rfl) rfl (forall_getD _ 0 (0, Code.skip) (by kernel_rfl) fun i hi => by
      omega)
    dec_enc_ll dec_enc_b (impl_Lawn_has_run k)

def dec_iiil (ps : List Pay) : Option (Int × Int × Int × (List Int)) := match ps with
  | [.i x1, .i x2, .i x3, .l x4] => some (x1, x2, x3, x4)
  | _ => none
def enc_iiil (p : Int × Int × Int × (List Int)) : List Pay := [.i p.1, .i p.2.1, .i p.2.2.1, .l p.2.2.2]
theorem dec_enc_iiil : ∀ (ps : List Pay) (p : Int × Int × Int × (List Int)), dec_iiil ps = some p → ps = enc_iiil p := by
  intro ps p h
  unfold dec_iiil at h
  split at h
  · injection h with h
    subst h
    rfl
  · cases h

def dec_il (ps : List Pay) : Option (Int × (List Int)) := match ps with
  | [.i x1, .l x2] => some (x1, x2)
  | _ => none
def enc_il (p : Int × (List Int)) : List Pay := [.i p.1, .l p.2]
theorem dec_enc_il : ∀ (ps : List Pay) (p : Int × (List Int)), dec_il ps = some p → ps = enc_il p := by
  intro ps p h
  unfold dec_il at h
  split at h
  · injection h with h
    subst h
    rfl
  · cases h

def impl_ValidLawn_t0 : StTm := ⟨46, [(1, .ptr 1 0 36), (3, .int .i8), (18, .int .i8), (21, .int .i8)], [(1, 36, true, .ints)]⟩
def impl_ValidLawn_t0_1 : StTm := ⟨46, [(2, .bool)], []⟩
def impl_ValidLawn_t0_2 : StTm := ⟨46, [(1, .ptr 1 0 36), (18, .int .i8)], [(1, 36, true, .ints)]⟩
def impl_ValidLawn_w0 (k : Nat) (R : Type) (K : Ex → St → Option R) (rec : Int × Int × Int × (List Int) → Option R) (p : Int × Int × Int × (List Int)) : Option R := impl_ValidLawn_s0 k (fun y1 => K .ret (fSt impl_ValidLawn_t0_1 [.b y1])) (fun y1 y2 => K (.exit 2) (fSt impl_ValidLawn_t0_2 [.i y1, .l y2])) (fun h1 h2 h3 h4 => rec (h1, h2, h3, h4)) p.1 p.2.1 p.2.2.1 p.2.2.2
def impl_ValidLawn_c0 (k : Nat) : Lcall := lcallOf tab impl_ValidLawn_t0 dec_iiil [1, 3, 18, 21] k (impl_ValidLawn_w0 k)
def impl_ValidLawn_t1 : StTm := ⟨46, [(1, .ptr 1 0 36), (18, .int .i8)], [(1, 36, true, .ints)]⟩
def impl_ValidLawn_t1_1 : StTm := ⟨46, [(2, .bool)], []⟩
def impl_ValidLawn_t1_2 : StTm := ⟨46, [], []⟩
def impl_ValidLawn_w1 (k : Nat) (R : Type) (K : Ex → St → Option R) (rec : Int × (List Int) → Option R) (p : Int × (List Int)) : Option R := impl_ValidLawn_s1 k (fun y1 => K .ret (fSt impl_ValidLawn_t1_1 [.b y1])) (K (.exit 0) (fSt impl_ValidLawn_t1_2 [])) (fun h1 h2 => rec (h1, h2)) p.1 p.2
def impl_ValidLawn_c1 (k : Nat) : Lcall := lcallOf tab impl_ValidLawn_t1 dec_il [1, 18] k (impl_ValidLawn_w1 k)
def impl_ValidLawn_C (k : Nat) : Cfg := ⟨tab, mvs, oraOf [impl_within_e k, impl_Lawn_has_e k], loOf [(2, impl_ValidLawn_c0 k), (0, impl_ValidLawn_c1 k)]⟩
theorem impl_ValidLawn_es (k : Nat) : ∀ e ∈ ([impl_within_e k, impl_Lawn_has_e k] : List Ent), EntOK Try.prog tab mvs e := by
  intro e he
  simp only [List.mem_cons, List.not_mem_nil, or_false] at he
  rcases he with rfl | rfl
  · exact impl_within_ok k
  · exact impl_Lawn_has_ok k
theorem impl_ValidLawn_step0 (k : Nat) (R : Type) (K : Ex → St → Option R) (g : St → Option R) (p : Int × Int × Int × (List Int)) : evCode (impl_ValidLawn_C k) (loopP [0, 0] (0, codeOf Try.f69)).2 (loopP [0, 0] (0, codeOf Try.f69)).1 (fSt impl_ValidLawn_t0 (enc_iiil p)) (loopK tab [1, 3, 18, 21] [1, 18] [2] g K) = impl_ValidLawn_w0 k R K (fun p => g (fSt impl_ValidLawn_t0 (enc_iiil p))) p := by
  kernel_rfl
theorem impl_ValidLawn_lok0 (k : Nat) : LoopOK Try.prog tab (impl_ValidLawn_C k).lo (loopP [0, 0] (0, codeOf Try.f69)).1 (loopP [0, 0] (0, codeOf Try.f69)).2 :=
  loopOK_of (C := impl_ValidLawn_C k) tabOK eqTabOK (oraOf_ok (impl_ValidLawn_es k)) (oraOf_nat (impl_ValidLawn_es k)) follows (forall_getD _ 0 (0, Code.skip) (by kernel_rfl) fun i hi => by
      omega)
    (tm := impl_ValidLawn_t0) (dec := dec_iiil) (enc := enc_iiil) (ksIn := [1, 3, 18, 21]) (ksOut := [1, 18]) (ksRet := [2]) (k := k) (step := impl_ValidLawn_w0 k) dec_enc_iiil (fun p => by kernel_rfl) (fun s R K => by kernel_rfl) (impl_ValidLawn_step0 k)
theorem impl_ValidLawn_step1 (k : Nat) (R : Type) (K : Ex → St → Option R) (g : St → Option R) (p : Int × (List Int)) : evCode (impl_ValidLawn_C k) (loopP [0] (0, codeOf Try.f69)).2 (loopP [0] (0, codeOf Try.f69)).1 (fSt impl_ValidLawn_t1 (enc_il p)) (loopK tab [1, 18] [] [2] g K) = impl_ValidLawn_w1 k R K (fun p => g (fSt impl_ValidLawn_t1 (enc_il p))) p := by
  kernel_rfl
theorem impl_ValidLawn_lok1 (k : Nat) : LoopOK Try.prog tab (impl_ValidLawn_C k).lo (loopP [0] (0, codeOf Try.f69)).1 (loopP [0] (0, codeOf Try.f69)).2 :=
  loopOK_of (C := impl_ValidLawn_C k) tabOK eqTabOK (oraOf_ok (impl_ValidLawn_es k)) (oraOf_nat (impl_ValidLawn_es k)) follows (forall_getD _ 1 (0, Code.skip) (by kernel_rfl) fun i hi => by
      match i, hi with
      | 0, _ => exact impl_ValidLawn_lok0 k
      | n + 1, h => omega)
    (tm := impl_ValidLawn_t1) (dec := dec_il) (enc := enc_il) (ksIn := [1, 18]) (ksOut := []) (ksRet := [2]) (k := k) (step := impl_ValidLawn_w1 k) dec_enc_il (fun p => by kernel_rfl) (fun s R K => by kernel_rfl) (impl_ValidLawn_step1 k)
def impl_ValidLawn_e (k : Nat) : Ent := (69, callOf [.agg 36] dec_l fun (p : (List Int)) R K => (impl_ValidLawn k p).bind fun (b : Bool) => K ((fV (.bool) (enc_b b)).1, none))
theorem impl_ValidLawn_run (k : Nat) (p : (List Int)) : runF (impl_ValidLawn_C k) Try.f69 false (fL [.agg 36] (enc_l p)).1 (resK (.bool) dec_b) = impl_ValidLawn k p := by
  kernel_rfl
theorem impl_ValidLawn_ok (k : Nat) : EntOK Try.prog tab mvs (impl_ValidLawn_e k) :=
  fn_ok (C := impl_ValidLawn_C k) tabOK eqTabOK (impl_ValidLawn_es k) rfl follows Try.func69 (by kernel_rfl) (by kernel_rfl) rfl (forall_getD _ 1 (0, Code.skip) (by kernel_rfl) fun i hi => by
      match i, hi with
      | 0, _ => exact impl_ValidLawn_lok1 k
      | n + 1, h => omega)
    dec_enc_l dec_enc_b (impl_ValidLawn_run k)

def impl_walkCode_1_C (k : Nat) : Cfg := ⟨tab, mvs, oraOf [], loOf []⟩
theorem impl_walkCode_1_es (k : Nat) : ∀ e ∈ ([] : List Ent), EntOK Try.prog tab mvs e := by
  intro e he
  simp at he
def impl_walkCode_1_e (k : Nat) : Ent := (120, callOf [.slv 43] dec_l fun (p : (List Int)) R K => (impl_walkCode_1 k p).bind fun (b : Bool) => K ((fV (.bool) (enc_b b)).1, none))
theorem impl_walkCode_1_run (k : Nat) (p : (List Int)) : runF (impl_walkCode_1_C k) Try.f120 false (fL [.slv 43] (enc_l p)).1 (resK (.bool) dec_b) = impl_walkCode_1 k p := by
  kernel_rfl
theorem impl_walkCode_1_ok (k : Nat) : EntOK Try.prog tab mvs (impl_walkCode_1_e k) :=
  fn_ok (C := impl_walkCode_1_C k) tabOK eqTabOK (impl_walkCode_1_es k) rfl follows Try.func120 (by kernel_rfl) (by kernel_rfl) rfl (forall_getD _ 0 (0, Code.skip) (by kernel_rfl) fun i hi => by
      omega)
    dec_enc_l dec_enc_b (impl_walkCode_1_run k)

def dec_rgii (ps : List Pay) : Option ((List (List Int)) × (List Int → Option Bool) × Int × Int) := match ps with
  | [.r x1, .g x2, .i x3, .i x4] => some (x1, x2, x3, x4)
  | _ => none
def enc_rgii (p : (List (List Int)) × (List Int → Option Bool) × Int × Int) : List Pay := [.r p.1, .g p.2.1, .i p.2.2.1, .i p.2.2.2]
theorem dec_enc_rgii : ∀ (ps : List Pay) (p : (List (List Int)) × (List Int → Option Bool) × Int × Int), dec_rgii ps = some p → ps = enc_rgii p := by
  intro ps p h
  unfold dec_rgii at h
  split at h
  · injection h with h
    subst h
    rfl
  · cases h

def dec_rg (ps : List Pay) : Option ((List (List Int)) × (List Int → Option Bool)) := match ps with
  | [.r x1, .g x2] => some (x1, x2)
  | _ => none
def enc_rg (p : (List (List Int)) × (List Int → Option Bool)) : List Pay := [.r p.1, .g p.2]
theorem dec_enc_rg : ∀ (ps : List Pay) (p : (List (List Int)) × (List Int → Option Bool)), dec_rg ps = some p → ps = enc_rg p := by
  intro ps p h
  unfold dec_rg at h
  split at h
  · injection h with h
    subst h
    rfl
  · cases h

def slices_IndexFunc_S_impl_Cell_t0 : StTm := ⟨19, [(0, .slr 50), (1, .cloB 50), (7, .int .i64), (8, .int .i64)], []⟩
def slices_IndexFunc_S_impl_Cell_t0_1 : StTm := ⟨19, [(4, .int .i64)], []⟩
def slices_IndexFunc_S_impl_Cell_t0_2 : StTm := ⟨19, [], []⟩
def slices_IndexFunc_S_impl_Cell_w0 (k : Nat) (R : Type) (K : Ex → St → Option R) (rec : (List (List Int)) × (List Int → Option Bool) × Int × Int → Option R) (p : (List (List Int)) × (List Int → Option Bool) × Int × Int) : Option R := slices_IndexFunc_S_impl_Cell_s0 k (fun y1 => K .ret (fSt slices_IndexFunc_S_impl_Cell_t0_1 [.i y1])) (K (.exit 0) (fSt slices_IndexFunc_S_impl_Cell_t0_2 [])) (fun h1 h2 h3 h4 => rec (h1, h2, h3, h4)) p.1 p.2.1 p.2.2.1 p.2.2.2
def slices_IndexFunc_S_impl_Cell_c0 (k : Nat) : Lcall := lcallOf tab slices_IndexFunc_S_impl_Cell_t0 dec_rgii [0, 1, 7, 8] k (slices_IndexFunc_S_impl_Cell_w0 k)
def slices_IndexFunc_S_impl_Cell_C (k : Nat) : Cfg := ⟨tab, mvs, oraOf [], loOf [(0, slices_IndexFunc_S_impl_Cell_c0 k)]⟩
theorem slices_IndexFunc_S_impl_Cell_es (k : Nat) : ∀ e ∈ ([] : List Ent), EntOK Try.prog tab mvs e := by
  intro e he
  simp at he
theorem slices_IndexFunc_S_impl_Cell_step0 (k : Nat) (R : Type) (K : Ex → St → Option R) (g : St → Option R) (p : (List (List Int)) × (List Int → Option Bool) × Int × Int) : evCode (slices_IndexFunc_S_impl_Cell_C k) (loopP [0] (0, codeOf Try.f141)).2 (loopP [0] (0, codeOf Try.f141)).1 (fSt slices_IndexFunc_S_impl_Cell_t0 (enc_rgii p)) (loopK tab [0, 1, 7, 8] [] [4] g K) = slices_IndexFunc_S_impl_Cell_w0 k R K (fun p => g (fSt slices_IndexFunc_S_impl_Cell_t0 (enc_rgii p))) p := by
  kernel_rfl
theorem slices_IndexFunc_S_impl_Cell_lok0 (k : Nat) : LoopOK Try.prog tab (slices_IndexFunc_S_impl_Cell_C k).lo (loopP [0] (0, codeOf Try.f141)).1 (loopP [0] (0, codeOf Try.f141)).2 :=
  loopOK_of (C := slices_IndexFunc_S_impl_Cell_C k) tabOK eqTabOK (oraOf_ok (slices_IndexFunc_S_impl_Cell_es k)) (oraOf_nat (slices_IndexFunc_S_impl_Cell_es k)) follows (forall_getD _ 0 (0, Code.skip) (by kernel_rfl) fun i hi => by
      omega)
    (tm := slices_IndexFunc_S_impl_Cell_t0) (dec := dec_rgii) (enc := enc_rgii) (ksIn := [0, 1, 7, 8]) (ksOut := []) (ksRet := [4]) (k := k) (step := slices_IndexFunc_S_impl_Cell_w0 k) dec_enc_rgii (fun p => by kernel_rfl) (fun s R K => by kernel_rfl) (slices_IndexFunc_S_impl_Cell_step0 k)
def slices_IndexFunc_S_impl_Cell_e (k : Nat) : Ent := (141, callOf [.slr 50, .cloB 50] dec_rg fun (p : (List (List Int)) × (List Int → Option Bool)) R K => (slices_IndexFunc_S_impl_Cell k p.1 p.2).bind fun (b : Int) => K ((fV (.int .i64) (enc_i b)).1, none))
theorem slices_IndexFunc_S_impl_Cell_run (k : Nat) (p : (List (List Int)) × (List Int → Option Bool)) : runF (slices_IndexFunc_S_impl_Cell_C k) Try.f141 false (fL [.slr 50, .cloB 50] (enc_rg p)).1 (resK (.int .i64) dec_i) = slices_IndexFunc_S_impl_Cell k p.1 p.2 := by
  kernel_rfl
theorem slices_IndexFunc_S_impl_Cell_ok (k : Nat) : EntOK Try.prog tab mvs (slices_IndexFunc_S_impl_Cell_e k) :=
  fn_ok (C := slices_IndexFunc_S_impl_Cell_C k) tabOK eqTabOK (slices_IndexFunc_S_impl_Cell_es k) rfl follows Try.func141 (by kernel_rfl) (by kernel_rfl) rfl (forall_getD _ 1 (0, Code.skip) (by kernel_rfl) fun i hi => by
      match i, hi with
      | 0, _ => exact slices_IndexFunc_S_impl_Cell_lok0 k
      | n + 1, h => omega)
    dec_enc_rg dec_enc_i (slices_IndexFunc_S_impl_Cell_run k)

def slices_ContainsFunc_S_impl_Cell_C (k : Nat) : Cfg := ⟨tab, mvs, oraOf [slices_IndexFunc_S_impl_Cell_e k], loOf []⟩
theorem slices_ContainsFunc_S_impl_Cell_es (k : Nat) : ∀ e ∈ ([slices_IndexFunc_S_impl_Cell_e k] : List Ent), EntOK Try.prog tab mvs e := by
  intro e he
  simp only [List.mem_cons, List.not_mem_nil, or_false] at he
  rcases he with rfl
  · exact slices_IndexFunc_S_impl_Cell_ok k
def slices_ContainsFunc_S_impl_Cell_e (k : Nat) : Ent := (119, callOf [.slr 50, .cloB 50] dec_rg fun (p : (List (List Int)) × (List Int → Option Bool)) R K => (slices_ContainsFunc_S_impl_Cell k p.1 p.2).bind fun (b : Bool) => K ((fV (.bool) (enc_b b)).1, none))
theorem slices_ContainsFunc_S_impl_Cell_run (k : Nat) (p : (List (List Int)) × (List Int → Option Bool)) : runF (slices_ContainsFunc_S_impl_Cell_C k) Try.f119 false (fL [.slr 50, .cloB 50] (enc_rg p)).1 (resK (.bool) dec_b) = slices_ContainsFunc_S_impl_Cell k p.1 p.2 := by
  kernel_rfl
theorem slices_ContainsFunc_S_impl_Cell_ok (k : Nat) : EntOK Try.prog tab mvs (slices_ContainsFunc_S_impl_Cell_e k) :=
  fn_ok (C := slices_ContainsFunc_S_impl_Cell_C k) tabOK eqTabOK (slices_ContainsFunc_S_impl_Cell_es k) rfl follows Try.func119 (by kernel_rfl) (by kernel_rfl) rfl (forall_getD _ 0 (0, Code.skip) (by kernel_rfl) fun i hi => by
      omega)
    dec_enc_rg dec_enc_b (slices_ContainsFunc_S_impl_Cell_run k)

def impl_Lawn_kind_C (k : Nat) : Cfg := ⟨tab, mvs, oraOf [], loOf []⟩
theorem impl_Lawn_kind_es (k : Nat) : ∀ e ∈ ([] : List Ent), EntOK Try.prog tab mvs e := by
  intro e he
  simp at he
def impl_Lawn_kind_e (k : Nat) : Ent := (62, callOf [.agg 36, .agg 43] dec_ll fun (p : (List Int) × (List Int)) R K => (impl_Lawn_kind k p.1 p.2).bind fun (b : Int) => K ((fV (.int .i64) (enc_i b)).1, none))
theorem impl_Lawn_kind_run (k : Nat) (p : (List Int) × (List Int)) : runF (impl_Lawn_kind_C k) Try.f62 false (fL [.agg 36, .agg 43] (enc_ll p)).1 (resK (.int .i64) dec_i) = impl_Lawn_kind k p.1 p.2 := by
  kernel_rfl
theorem impl_Lawn_kind_ok (k : Nat) : EntOK Try.prog tab mvs (impl_Lawn_kind_e k) :=
  fn_ok (C := impl_Lawn_kind_C k) tabOK eqTabOK (impl_Lawn_kind_es k) rfl follows Try.func62 (by kernel_rfl) (by kernel_rfl) rfl (forall_getD _ 0 (0, Code.skip) (by kernel_rfl) fun i hi => by
      omega)
    dec_enc_ll dec_enc_i (impl_Lawn_kind_run k)

def impl_Lawn_is_C (k : Nat) : Cfg := ⟨tab, mvs, oraOf [impl_Lawn_has_e k, impl_Lawn_kind_e k], loOf []⟩
theorem impl_Lawn_is_es (k : Nat) : ∀ e ∈ ([impl_Lawn_has_e k, impl_Lawn_kind_e k] : List Ent), EntOK Try.prog tab mvs e := by
  intro e he
  simp only [List.mem_cons, List.not_mem_nil, or_false] at he
  rcases he with rfl | rfl
  · exact impl_Lawn_has_ok k
  · exact impl_Lawn_kind_ok k
def impl_Lawn_is_e (k : Nat) : Ent := (110, callOf [.agg 36, .agg 43, .int .i64] dec_lli fun (p : (List Int) × (List Int) × Int) R K => (impl_Lawn_is k p.1 p.2.1 p.2.2).bind fun (b : Bool) => K ((fV (.bool) (enc_b b)).1, none))
theorem impl_Lawn_is_run (k : Nat) (p : (List Int) × (List Int) × Int) : runF (impl_Lawn_is_C k) Try.f110 false (fL [.agg 36, .agg 43, .int .i64] (enc_lli p)).1 (resK (.bool) dec_b) = impl_Lawn_is k p.1 p.2.1 p.2.2 := by
  kernel_rfl
theorem impl_Lawn_is_ok (k : Nat) : EntOK Try.prog tab mvs (impl_Lawn_is_e k) :=
  fn_ok (C := impl_Lawn_is_C k) tabOK eqTabOK (impl_Lawn_is_es k) rfl follows Try.func110 (by kernel_rfl) (by kernel_rfl) rfl (forall_getD _ 0 (0, Code.skip) (by kernel_rfl) fun i hi => by
      omega)
    dec_enc_lli dec_enc_b (impl_Lawn_is_run k)

def impl_Lawn_open_C (k : Nat) : Cfg := ⟨tab, mvs, oraOf [impl_Lawn_is_e k], loOf []⟩
theorem impl_Lawn_open_es (k : Nat) : ∀ e ∈ ([impl_Lawn_is_e k] : List Ent), EntOK Try.prog tab mvs e := by
  intro e he
  simp only [List.mem_cons, List.not_mem_nil, or_false] at he
  rcases he with rfl
  · exact impl_Lawn_is_ok k
def impl_Lawn_open_e (k : Nat) : Ent := (127, callOf [.agg 36, .agg 43] dec_ll fun (p : (List Int) × (List Int)) R K => (impl_Lawn_open k p.1 p.2).bind fun (b : Bool) => K ((fV (.bool) (enc_b b)).1, none))
theorem impl_Lawn_open_run (k : Nat) (p : (List Int) × (List Int)) : runF (impl_Lawn_open_C k) Try.f127 false (fL [.agg 36, .agg 43] (enc_ll p)).1 (resK (.bool) dec_b) = impl_Lawn_open k p.1 p.2 := by
  kernel_rfl
theorem impl_Lawn_open_ok (k : Nat) : EntOK Try.prog tab mvs (impl_Lawn_open_e k) :=
  fn_ok (C := impl_Lawn_open_C k) tabOK eqTabOK (impl_Lawn_open_es k) rfl follows Try.func127 (by kernel_rfl) (by kernel_rfl) rfl (forall_getD _ 0 (0, Code.skip) (by kernel_rfl) fun i hi => by
      omega)
    dec_enc_ll dec_enc_b (impl_Lawn_open_run k)

def impl_beside_C (k : Nat) : Cfg := ⟨tab, mvs, oraOf [], loOf []⟩
theorem impl_beside_es (k : Nat) : ∀ e ∈ ([] : List Ent), EntOK Try.prog tab mvs e := by
  intro e he
  simp at he
def impl_beside_e (k : Nat) : Ent := (71, callOf [.agg 43] dec_l fun (p : (List Int)) R K => (impl_beside k p).bind fun (b : (List Int)) => K ((fV (.slv 43) (enc_l b)).1, none))
theorem impl_beside_run (k : Nat) (p : (List Int)) : runF (impl_beside_C k) Try.f71 false (fL [.agg 43] (enc_l p)).1 (resK (.slv 43) dec_l) = impl_beside k p := by
  kernel_rfl
theorem impl_beside_ok (k : Nat) : EntOK Try.prog tab mvs (impl_beside_e k) :=
  fn_ok (C := impl_beside_C k) tabOK eqTabOK (impl_beside_es k) rfl follows Try.func71 (by kernel_rfl) (by kernel_rfl) rfl (forall_getD _ 0 (0, Code.skip) (by kernel_rfl) fun i hi => by
      omega)
    dec_enc_l dec_enc_l (impl_beside_run k)

def dec_liil (ps : List Pay) : Option ((List Int) × Int × Int × (List Int)) := match ps with
  | [.l x1, .i x2, .i x3, .l x4] => some (x1, x2, x3, x4)
  | _ => none
def enc_liil (p : (List Int) × Int × Int × (List Int)) : List Pay := [.l p.1, .i p.2.1, .i p.2.2.1, .l p.2.2.2]
theorem dec_enc_liil : ∀ (ps : List Pay) (p : (List Int) × Int × Int × (List Int)), dec_liil ps = some p → ps = enc_liil p := by
  intro ps p h
  unfold dec_liil at h
  split at h
  · injection h with h
    subst h
    rfl
  · cases h

def slices_Index_impl_Cell_t0 : StTm := ⟨19, [(0, .slv 43), (3, .ptr 3 0 43), (7, .int .i64), (8, .int .i64)], [(3, 43, true, .ints)]⟩
def slices_Index_impl_Cell_t0_1 : StTm := ⟨19, [(4, .int .i64)], []⟩
def slices_Index_impl_Cell_t0_2 : StTm := ⟨19, [], []⟩
def slices_Index_impl_Cell_w0 (k : Nat) (R : Type) (K : Ex → St → Option R) (rec : (List Int) × Int × Int × (List Int) → Option R) (p : (List Int) × Int × Int × (List Int)) : Option R := slices_Index_impl_Cell_s0 k (fun y1 => K .ret (fSt slices_Index_impl_Cell_t0_1 [.i y1])) (K (.exit 0) (fSt slices_Index_impl_Cell_t0_2 [])) (fun h1 h2 h3 h4 => rec (h1, h2, h3, h4)) p.1 p.2.1 p.2.2.1 p.2.2.2
def slices_Index_impl_Cell_c0 (k : Nat) : Lcall := lcallOf tab slices_Index_impl_Cell_t0 dec_liil [0, 3, 7, 8] k (slices_Index_impl_Cell_w0 k)
def slices_Index_impl_Cell_C (k : Nat) : Cfg := ⟨tab, mvs, oraOf [], loOf [(0, slices_Index_impl_Cell_c0 k)]⟩
theorem slices_Index_impl_Cell_es (k : Nat) : ∀ e ∈ ([] : List Ent), EntOK Try.prog tab mvs e := by
  intro e he
  simp at he
theorem slices_Index_impl_Cell_step0 (k : Nat) (R : Type) (K : Ex → St → Option R) (g : St → Option R) (p : (List Int) × Int × Int × (List Int)) : evCode (slices_Index_impl_Cell_C k) (loopP [0] (0, codeOf Try.f146)).2 (loopP [0] (0, codeOf Try.f146)).1 (fSt slices_Index_impl_Cell_t0 (enc_liil p)) (loopK tab [0, 3, 7, 8] [] [4] g K) = slices_Index_impl_Cell_w0 k R K (fun p => g (fSt slices_Index_impl_Cell_t0 (enc_liil p))) p := by
  kernel_rfl
theorem slices_Index_impl_Cell_lok0 (k : Nat) : LoopOK Try.prog tab (slices_Index_impl_Cell_C k).lo (loopP [0] (0, codeOf Try.f146)).1 (loopP [0] (0, codeOf Try.f146)).2 :=
  loopOK_of (C := slices_Index_impl_Cell_C k) tabOK eqTabOK (oraOf_ok (slices_Index_impl_Cell_es k)) (oraOf_nat (slices_Index_impl_Cell_es k)) follows (forall_getD _ 0 (0, Code.skip) (by kernel_rfl) fun i hi => by
      omega)
    (tm := slices_Index_impl_Cell_t0) (dec := dec_liil) (enc := enc_liil) (ksIn := [0, 3, 7, 8]) (ksOut := []) (ksRet := [4]) (k := k) (step := slices_Index_impl_Cell_w0 k) dec_enc_liil (fun p => by kernel_rfl) (fun s R K => by kernel_rfl) (slices_Index_impl_Cell_step0 k)
def slices_Index_impl_Cell_e (k : Nat) : Ent := (146, callOf [.slv 43, .agg 43] dec_ll fun (p : (List Int) × (List Int)) R K => (slices_Index_impl_Cell k p.1 p.2).bind fun (b : Int) => K ((fV (.int .i64) (enc_i b)).1, none))
theorem slices_Index_impl_Cell_run (k : Nat) (p : (List Int) × (List Int)) : runF (slices_Index_impl_Cell_C k) Try.f146 false (fL [.slv 43, .agg 43] (enc_ll p)).1 (resK (.int .i64) dec_i) = slices_Index_impl_Cell k p.1 p.2 := by
  kernel_rfl
theorem slices_Index_impl_Cell_ok (k : Nat) : EntOK Try.prog tab mvs (slices_Index_impl_Cell_e k) :=
  fn_ok (C := slices_Index_impl_Cell_C k) tabOK eqTabOK (slices_Index_impl_Cell_es k) rfl follows Try.func146 (by kernel_rfl) (by kernel_rfl) rfl (forall_getD _ 1 (0, Code.skip) (by kernel_rfl) fun i hi => by
      match i, hi with
      | 0, _ => exact slices_Index_impl_Cell_lok0 k
      | n + 1, h => omega)
    dec_enc_ll dec_enc_i (slices_Index_impl_Cell_run k)

def slices_Contains_impl_Cell_C (k : Nat) : Cfg := ⟨tab, mvs, oraOf [slices_Index_impl_Cell_e k], loOf []⟩
theorem slices_Contains_impl_Cell_es (k : Nat) : ∀ e ∈ ([slices_Index_impl_Cell_e k] : List Ent), EntOK Try.prog tab mvs e := by
  intro e he
  simp only [List.mem_cons, List.not_mem_nil, or_false] at he
  rcases he with rfl
  · exact slices_Index_impl_Cell_ok k
def slices_Contains_impl_Cell_e (k : Nat) : Ent := (142, callOf [.slv 43, .agg 43] dec_ll fun (p : (List Int) × (List Int)) R K => (slices_Contains_impl_Cell k p.1 p.2).bind fun (b : Bool) => K ((fV (.bool) (enc_b b)).1, none))
theorem slices_Contains_impl_Cell_run (k : Nat) (p : (List Int) × (List Int)) : runF (slices_Contains_impl_Cell_C k) Try.f142 false (fL [.slv 43, .agg 43] (enc_ll p)).1 (resK (.bool) dec_b) = slices_Contains_impl_Cell k p.1 p.2 := by
  kernel_rfl
theorem slices_Contains_impl_Cell_ok (k : Nat) : EntOK Try.prog tab mvs (slices_Contains_impl_Cell_e k) :=
  fn_ok (C := slices_Contains_impl_Cell_C k) tabOK eqTabOK (slices_Contains_impl_Cell_es k) rfl follows Try.func142 (by kernel_rfl) (by kernel_rfl) rfl (forall_getD _ 0 (0, Code.skip) (by kernel_rfl) fun i hi => by
      omega)
    dec_enc_ll dec_enc_b (slices_Contains_impl_Cell_run k)

def dec_lliil (ps : List Pay) : Option ((List Int) × (List Int) × Int × Int × (List Int)) := match ps with
  | [.l x1, .l x2, .i x3, .i x4, .l x5] => some (x1, x2, x3, x4, x5)
  | _ => none
def enc_lliil (p : (List Int) × (List Int) × Int × Int × (List Int)) : List Pay := [.l p.1, .l p.2.1, .i p.2.2.1, .i p.2.2.2.1, .l p.2.2.2.2]
theorem dec_enc_lliil : ∀ (ps : List Pay) (p : (List Int) × (List Int) × Int × Int × (List Int)), dec_lliil ps = some p → ps = enc_lliil p := by
  intro ps p h
  unfold dec_lliil at h
  split at h
  · injection h with h
    subst h
    rfl
  · cases h

def impl_Lawn_isWalk_t0 : StTm := ⟨46, [(1, .slv 43), (2, .ptr 2 0 36), (7, .slv 43), (8, .int .i64), (9, .int .i64)], [(2, 36, true, .ints)]⟩
def impl_Lawn_isWalk_t0_1 : StTm := ⟨46, [(4, .bool)], []⟩
def impl_Lawn_isWalk_t0_2 : StTm := ⟨46, [(1, .slv 43)], []⟩
def impl_Lawn_isWalk_w0 (k : Nat) (R : Type) (K : Ex → St → Option R) (rec : (List Int) × (List Int) × Int × Int × (List Int) → Option R) (p : (List Int) × (List Int) × Int × Int × (List Int)) : Option R := impl_Lawn_isWalk_s0 k (fun y1 => K .ret (fSt impl_Lawn_isWalk_t0_1 [.b y1])) (fun y1 => K (.exit 0) (fSt impl_Lawn_isWalk_t0_2 [.l y1])) (fun h1 h2 h3 h4 h5 => rec (h1, h2, h3, h4, h5)) p.1 p.2.1 p.2.2.1 p.2.2.2.1 p.2.2.2.2
def impl_Lawn_isWalk_c0 (k : Nat) : Lcall := lcallOf tab impl_Lawn_isWalk_t0 dec_lliil [1, 2, 7, 8, 9] k (impl_Lawn_isWalk_w0 k)
def impl_Lawn_isWalk_C (k : Nat) : Cfg := ⟨tab, mvs, oraOf [impl_Lawn_open_e k, impl_beside_e k, slices_Contains_impl_Cell_e k], loOf [(0, impl_Lawn_isWalk_c0 k)]⟩
theorem impl_Lawn_isWalk_es (k : Nat) : ∀ e ∈ ([impl_Lawn_open_e k, impl_beside_e k, slices_Contains_impl_Cell_e k] : List Ent), EntOK Try.prog tab mvs e := by
  intro e he
  simp only [List.mem_cons, List.not_mem_nil, or_false] at he
  rcases he with rfl | rfl | rfl
  · exact impl_Lawn_open_ok k
  · exact impl_beside_ok k
  · exact slices_Contains_impl_Cell_ok k
theorem impl_Lawn_isWalk_step0 (k : Nat) (R : Type) (K : Ex → St → Option R) (g : St → Option R) (p : (List Int) × (List Int) × Int × Int × (List Int)) : evCode (impl_Lawn_isWalk_C k) (loopP [0] (0, codeOf Try.f122)).2 (loopP [0] (0, codeOf Try.f122)).1 (fSt impl_Lawn_isWalk_t0 (enc_lliil p)) (loopK tab [1, 2, 7, 8, 9] [1] [4] g K) = impl_Lawn_isWalk_w0 k R K (fun p => g (fSt impl_Lawn_isWalk_t0 (enc_lliil p))) p := by
  kernel_rfl
theorem impl_Lawn_isWalk_lok0 (k : Nat) : LoopOK Try.prog tab (impl_Lawn_isWalk_C k).lo (loopP [0] (0, codeOf Try.f122)).1 (loopP [0] (0, codeOf Try.f122)).2 :=
  loopOK_of (C := impl_Lawn_isWalk_C k) tabOK eqTabOK (oraOf_ok (impl_Lawn_isWalk_es k)) (oraOf_nat (impl_Lawn_isWalk_es k)) follows (forall_getD _ 0 (0, Code.skip) (by kernel_rfl) fun i hi => by
      omega)
    (tm := impl_Lawn_isWalk_t0) (dec := dec_lliil) (enc := enc_lliil) (ksIn := [1, 2, 7, 8, 9]) (ksOut := [1]) (ksRet := [4]) (k := k) (step := impl_Lawn_isWalk_w0 k) dec_enc_lliil (fun p => by kernel_rfl) (fun s R K => by kernel_rfl) (impl_Lawn_isWalk_step0 k)
def impl_Lawn_isWalk_e (k : Nat) : Ent := (122, callOf [.agg 36, .slv 43] dec_ll fun (p : (List Int) × (List Int)) R K => (impl_Lawn_isWalk k p.1 p.2).bind fun (b : Bool) => K ((fV (.bool) (enc_b b)).1, none))
theorem impl_Lawn_isWalk_run (k : Nat) (p : (List Int) × (List Int)) : runF (impl_Lawn_isWalk_C k) Try.f122 false (fL [.agg 36, .slv 43] (enc_ll p)).1 (resK (.bool) dec_b) = impl_Lawn_isWalk k p.1 p.2 := by
  kernel_rfl
theorem impl_Lawn_isWalk_ok (k : Nat) : EntOK Try.prog tab mvs (impl_Lawn_isWalk_e k) :=
  fn_ok (C := impl_Lawn_isWalk_C k) tabOK eqTabOK (impl_Lawn_isWalk_es k) rfl follows Try.func122 (by kernel_rfl) (by kernel_rfl) rfl (forall_getD _ 1 (0, Code.skip) (by kernel_rfl) fun i hi => by
      match i, hi with
      | 0, _ => exact impl_Lawn_isWalk_lok0 k
      | n + 1, h => omega)
    dec_enc_ll dec_enc_b (impl_Lawn_isWalk_run k)

def impl_walkCode_2_C (k : Nat) : Cfg := ⟨tab, mvs, oraOf [impl_Lawn_isWalk_e k], loOf []⟩
theorem impl_walkCode_2_es (k : Nat) : ∀ e ∈ ([impl_Lawn_isWalk_e k] : List Ent), EntOK Try.prog tab mvs e := by
  intro e he
  simp only [List.mem_cons, List.not_mem_nil, or_false] at he
  rcases he with rfl
  · exact impl_Lawn_isWalk_ok k
def impl_walkCode_2_e (k : Nat) : Ent := (121, callOf [.slv 43, .pvi (some 36) 0 36] dec_ll fun (p : (List Int) × (List Int)) R K => (impl_walkCode_2 k p.1 p.2).bind fun (b : Bool) => K ((fV (.bool) (enc_b b)).1, none))
theorem impl_walkCode_2_run (k : Nat) (p : (List Int) × (List Int)) : runF (impl_walkCode_2_C k) Try.f121 false (fL [.slv 43, .pvi (some 36) 0 36] (enc_ll p)).1 (resK (.bool) dec_b) = impl_walkCode_2 k p.1 p.2 := by
  kernel_rfl
theorem impl_walkCode_2_ok (k : Nat) : EntOK Try.prog tab mvs (impl_walkCode_2_e k) :=
  fn_ok (C := impl_walkCode_2_C k) tabOK eqTabOK (impl_walkCode_2_es k) rfl follows Try.func121 (by kernel_rfl) (by kernel_rfl) rfl (forall_getD _ 0 (0, Code.skip) (by kernel_rfl) fun i hi => by
      omega)
    dec_enc_ll dec_enc_b (impl_walkCode_2_run k)

def impl_walkCode_C (k : Nat) : Cfg := ⟨tab, mvs, oraOf [impl_ValidLawn_e k, impl_walkCode_1_e k, slices_ContainsFunc_S_impl_Cell_e k, impl_walkCode_2_e k], loOf []⟩
theorem impl_walkCode_es (k : Nat) : ∀ e ∈ ([impl_ValidLawn_e k, impl_walkCode_1_e k, slices_ContainsFunc_S_impl_Cell_e k, impl_walkCode_2_e k] : List Ent), EntOK Try.prog tab mvs e := by
  intro e he
  simp only [List.mem_cons, List.not_mem_nil, or_false] at he
  rcases he with rfl | rfl | rfl | rfl
  · exact impl_ValidLawn_ok k
  · exact impl_walkCode_1_ok k
  · exact slices_ContainsFunc_S_impl_Cell_ok k
  · exact impl_walkCode_2_ok k
def impl_walkCode_e (k : Nat) : Ent := (80, callOf [.agg 36, .slr 50] dec_lr fun (p : (List Int) × (List (List Int))) R K => (impl_walkCode k p.1 p.2).bind fun (b : Int) => K ((fV (.int .i64) (enc_i b)).1, none))
theorem impl_walkCode_run (k : Nat) (p : (List Int) × (List (List Int))) : runF (impl_walkCode_C k) Try.f80 false (fL [.agg 36, .slr 50] (enc_lr p)).1 (resK (.int .i64) dec_i) = impl_walkCode k p.1 p.2 := by
  kernel_rfl
theorem impl_walkCode_ok (k : Nat) : EntOK Try.prog tab mvs (impl_walkCode_e k) :=
  fn_ok (C := impl_walkCode_C k) tabOK eqTabOK (impl_walkCode_es k) rfl follows Try.func80 (by kernel_rfl) (by kernel_rfl) rfl (forall_getD _ 0 (0, Code.skip) (by kernel_rfl) fun i hi => by
      omega)
    dec_enc_lr dec_enc_i (impl_walkCode_run k)

def impl_at_C (k : Nat) : Cfg := ⟨tab, mvs, oraOf [], loOf []⟩
theorem impl_at_es (k : Nat) : ∀ e ∈ ([] : List Ent), EntOK Try.prog tab mvs e := by
  intro e he
  simp at he
def impl_at_e (k : Nat) : Ent := (123, callOf [.slv 43, .int .i64] dec_li fun (p : (List Int) × Int) R K => (impl_at k p.1 p.2).bind fun (b : (List Int)) => K ((fV (.agg 43) (enc_l b)).1, none))
theorem impl_at_run (k : Nat) (p : (List Int) × Int) : runF (impl_at_C k) Try.f123 false (fL [.slv 43, .int .i64] (enc_li p)).1 (resK (.agg 43) dec_l) = impl_at k p.1 p.2 := by
  kernel_rfl
theorem impl_at_ok (k : Nat) : EntOK Try.prog tab mvs (impl_at_e k) :=
  fn_ok (C := impl_at_C k) tabOK eqTabOK (impl_at_es k) rfl follows Try.func123 (by kernel_rfl) (by kernel_rfl) rfl (forall_getD _ 0 (0, Code.skip) (by kernel_rfl) fun i hi => by
      omega)
    dec_enc_li dec_enc_l (impl_at_run k)

def impl_clash_C (k : Nat) : Cfg := ⟨tab, mvs, oraOf [impl_at_e k], loOf []⟩
theorem impl_clash_es (k : Nat) : ∀ e ∈ ([impl_at_e k] : List Ent), EntOK Try.prog tab mvs e := by
  intro e he
  simp only [List.mem_cons, List.not_mem_nil, or_false] at he
  rcases he with rfl
  · exact impl_at_ok k
def impl_clash_e (k : Nat) : Ent := (81, callOf [.slv 43, .slv 43, .int .i64] dec_lli fun (p : (List Int) × (List Int) × Int) R K => (impl_clash k p.1 p.2.1 p.2.2).bind fun (b : Bool) => K ((fV (.bool) (enc_b b)).1, none))
theorem impl_clash_run (k : Nat) (p : (List Int) × (List Int) × Int) : runF (impl_clash_C k) Try.f81 false (fL [.slv 43, .slv 43, .int .i64] (enc_lli p)).1 (resK (.bool) dec_b) = impl_clash k p.1 p.2.1 p.2.2 := by
  kernel_rfl
theorem impl_clash_ok (k : Nat) : EntOK Try.prog tab mvs (impl_clash_e k) :=
  fn_ok (C := impl_clash_C k) tabOK eqTabOK (impl_clash_es k) rfl follows Try.func81 (by kernel_rfl) (by kernel_rfl) rfl (forall_getD _ 0 (0, Code.skip) (by kernel_rfl) fun i hi => by
      omega)
    dec_enc_lli dec_enc_b (impl_clash_run k)

def dec_riiiiii (ps : List Pay) : Option ((List (List Int)) × Int × Int × Int × Int × Int × Int) := match ps with
  | [.r x1, .i x2, .i x3, .i x4, .i x5, .i x6, .i x7] => some (x1, x2, x3, x4, x5, x6, x7)
  | _ => none
def enc_riiiiii (p : (List (List Int)) × Int × Int × Int × Int × Int × Int) : List Pay := [.r p.1, .i p.2.1, .i p.2.2.1, .i p.2.2.2.1, .i p.2.2.2.2.1, .i p.2.2.2.2.2.1, .i p.2.2.2.2.2.2]
theorem dec_enc_riiiiii : ∀ (ps : List Pay) (p : (List (List Int)) × Int × Int × Int × Int × Int × Int), dec_riiiiii ps = some p → ps = enc_riiiiii p := by
  intro ps p h
  unfold dec_riiiiii at h
  split at h
  · injection h with h
    subst h
    rfl
  · cases h

def impl_FirstClash_t0 : StTm := ⟨56, [(1, .slr 50), (9, .int .i64), (10, .int .i64), (11, .int .i64), (25, .int .i64), (29, .int .i64), (30, .int .i64)], []⟩
def impl_FirstClash_t0_1 : StTm := ⟨56, [(4, .int .i64), (5, .int .i64), (6, .int .i64), (7, .int .i64)], []⟩
def impl_FirstClash_t0_2 : StTm := ⟨56, [(1, .slr 50), (9, .int .i64), (25, .int .i64), (29, .int .i64), (30, .int .i64)], []⟩
def impl_FirstClash_w0 (k : Nat) (R : Type) (K : Ex → St → Option R) (rec : (List (List Int)) × Int × Int × Int × Int × Int × Int → Option R) (p : (List (List Int)) × Int × Int × Int × Int × Int × Int) : Option R := impl_FirstClash_s0 k (fun y1 y2 y3 y4 => K .ret (fSt impl_FirstClash_t0_1 [.i y1, .i y2, .i y3, .i y4])) (fun y1 y2 y3 y4 y5 => K (.exit 4) (fSt impl_FirstClash_t0_2 [.r y1, .i y2, .i y3, .i y4, .i y5])) (fun h1 h2 h3 h4 h5 h6 h7 => rec (h1, h2, h3, h4, h5, h6, h7)) p.1 p.2.1 p.2.2.1 p.2.2.2.1 p.2.2.2.2.1 p.2.2.2.2.2.1 p.2.2.2.2.2.2
def impl_FirstClash_c0 (k : Nat) : Lcall := lcallOf tab impl_FirstClash_t0 dec_riiiiii [1, 9, 10, 11, 25, 29, 30] k (impl_FirstClash_w0 k)
def impl_FirstClash_t1 : StTm := ⟨56, [(1, .slr 50), (9, .int .i64), (25, .int .i64), (29, .int .i64), (30, .int .i64)], []⟩
def impl_FirstClash_t1_1 : StTm := ⟨56, [(4, .int .i64), (5, .int .i64), (6, .int .i64), (7, .int .i64)], []⟩
def impl_FirstClash_t1_2 : StTm := ⟨56, [(1, .slr 50), (25, .int .i64)], []⟩
def impl_FirstClash_w1 (k : Nat) (R : Type) (K : Ex → St → Option R) (rec : (List (List Int)) × Int × Int × Int × Int → Option R) (p : (List (List Int)) × Int × Int × Int × Int) : Option R := impl_FirstClash_s1 k (fun y1 y2 y3 y4 => K .ret (fSt impl_FirstClash_t1_1 [.i y1, .i y2, .i y3, .i y4])) (fun y1 y2 => K (.exit 2) (fSt impl_FirstClash_t1_2 [.r y1, .i y2])) (fun h1 h2 h3 h4 h5 => rec (h1, h2, h3, h4, h5)) p.1 p.2.1 p.2.2.1 p.2.2.2.1 p.2.2.2.2
def impl_FirstClash_c1 (k : Nat) : Lcall := lcallOf tab impl_FirstClash_t1 dec_riiii [1, 9, 25, 29, 30] k (impl_FirstClash_w1 k)
def impl_FirstClash_t2 : StTm := ⟨56, [(1, .slr 50), (25, .int .i64)], []⟩
def impl_FirstClash_t2_1 : StTm := ⟨56, [(4, .int .i64), (5, .int .i64), (6, .int .i64), (7, .int .i64)], []⟩
def impl_FirstClash_t2_2 : StTm := ⟨56, [], []⟩
def impl_FirstClash_w2 (k : Nat) (R : Type) (K : Ex → St → Option R) (rec : (List (List Int)) × Int → Option R) (p : (List (List Int)) × Int) : Option R := impl_FirstClash_s2 k (fun y1 y2 y3 y4 => K .ret (fSt impl_FirstClash_t2_1 [.i y1, .i y2, .i y3, .i y4])) (K (.exit 0) (fSt impl_FirstClash_t2_2 [])) (fun h1 h2 => rec (h1, h2)) p.1 p.2
def impl_FirstClash_c2 (k : Nat) : Lcall := lcallOf tab impl_FirstClash_t2 dec_ri [1, 25] k (impl_FirstClash_w2 k)
def impl_FirstClash_C (k : Nat) : Cfg := ⟨tab, mvs, oraOf [impl_walkCode_e k, impl_ValidLawn_e k, impl_clash_e k], loOf [(4, impl_FirstClash_c0 k), (2, impl_FirstClash_c1 k), (0, impl_FirstClash_c2 k)]⟩
theorem impl_FirstClash_es (k : Nat) : ∀ e ∈ ([impl_walkCode_e k, impl_ValidLawn_e k, impl_clash_e k] : List Ent), EntOK Try.prog tab mvs e := by
  intro e he
  simp only [List.mem_cons, List.not_mem_nil, or_false] at he
  rcases he with rfl | rfl | rfl
  · exact impl_walkCode_ok k
  · exact impl_ValidLawn_ok k
  · exact impl_clash_ok k
theorem impl_FirstClash_step0 (k : Nat) (R : Type) (K : Ex → St → Option R) (g : St → Option R) (p : (List (List Int)) × Int × Int × Int × Int × Int × Int) : evCode (impl_FirstClash_C k) (loopP [0, 0, 0] (0, codeOf Try.f33)).2 (loopP [0, 0, 0] (0, codeOf Try.f33)).1 (fSt impl_FirstClash_t0 (enc_riiiiii p)) (loopK tab [1, 9, 10, 11, 25, 29, 30] [1, 9, 25, 29, 30] [4, 5, 6, 7] g K) = impl_FirstClash_w0 k R K (fun p => g (fSt impl_FirstClash_t0 (enc_riiiiii p))) p := by
  kernel_rfl
theorem impl_FirstClash_lok0 (k : Nat) : LoopOK Try.prog tab (impl_FirstClash_C k).lo (loopP [0, 0, 0] (0, codeOf Try.f33)).1 (loopP [0, 0, 0] (0, codeOf Try.f33)).2 :=
  loopOK_of (C := impl_FirstClash_C k) tabOK eqTabOK (oraOf_ok (impl_FirstClash_es k)) (oraOf_nat (impl_FirstClash_es k)) follows (forall_getD _ 0 (0, Code.skip) (by kernel_rfl) fun i hi => by
      omega)
    (tm := impl_FirstClash_t0) (dec := dec_riiiiii) (enc := enc_riiiiii) (ksIn := [1, 9, 10, 11, 25, 29, 30]) (ksOut := [1, 9, 25, 29, 30]) (ksRet := [4, 5, 6, 7]) (k := k) (step := impl_FirstClash_w0 k) dec_enc_riiiiii (fun p => by kernel_rfl) (fun s R K => by kernel_rfl) (impl_FirstClash_step0 k)
theorem impl_FirstClash_step1 (k : Nat) (R : Type) (K : Ex → St → Option R) (g : St → Option R) (p : (List (List Int)) × Int × Int × Int × Int) : evCode (impl_FirstClash_C k) (loopP [0, 0] (0, codeOf Try.f33)).2 (loopP [0, 0] (0, codeOf Try.f33)).1 (fSt impl_FirstClash_t1 (enc_riiii p)) (loopK tab [1, 9, 25, 29, 30] [1, 25] [4, 5, 6, 7] g K) = impl_FirstClash_w1 k R K (fun p => g (fSt impl_FirstClash_t1 (enc_riiii p))) p := by
  kernel_rfl
theorem impl_FirstClash_lok1 (k : Nat) : LoopOK Try.prog tab (impl_FirstClash_C k).lo (loopP [0, 0] (0, codeOf Try.f33)).1 (loopP [0, 0] (0, codeOf Try.f33)).2 :=
  loopOK_of (C := impl_FirstClash_C k) tabOK eqTabOK (oraOf_ok (impl_FirstClash_es k)) (oraOf_nat (impl_FirstClash_es k)) follows (forall_getD _ 1 (0, Code.skip) (by kernel_rfl) fun i hi => by
      match i, hi with
      | 0, _ => exact impl_FirstClash_lok0 k
      | n + 1, h => omega)
    (tm := impl_FirstClash_t1) (dec := dec_riiii) (enc := enc_riiii) (ksIn := [1, 9, 25, 29, 30]) (ksOut := [1, 25]) (ksRet := [4, 5, 6, 7]) (k := k) (step := impl_FirstClash_w1 k) dec_enc_riiii (fun p => by kernel_rfl) (fun s R K => by kernel_rfl) (impl_FirstClash_step1 k)
theorem impl_FirstClash_step2 (k : Nat) (R : Type) (K : Ex → St → Option R) (g : St → Option R) (p : (List (List Int)) × Int) : evCode (impl_FirstClash_C k) (loopP [0] (0, codeOf Try.f33)).2 (loopP [0] (0, codeOf Try.f33)).1 (fSt impl_FirstClash_t2 (enc_ri p)) (loopK tab [1, 25] [] [4, 5, 6, 7] g K) = impl_FirstClash_w2 k R K (fun p => g (fSt impl_FirstClash_t2 (enc_ri p))) p := by
  kernel_rfl
theorem impl_FirstClash_lok2 (k : Nat) : LoopOK Try.prog tab (impl_FirstClash_C k).lo (loopP [0] (0, codeOf Try.f33)).1 (loopP [0] (0, codeOf Try.f33)).2 :=
  loopOK_of (C := impl_FirstClash_C k) tabOK eqTabOK (oraOf_ok (impl_FirstClash_es k)) (oraOf_nat (impl_FirstClash_es k)) follows (forall_getD _ 1 (0, Code.skip) (by kernel_rfl) fun i hi => by
      match i, hi with
      | 0, _ => exact impl_FirstClash_lok1 k
      | n + 1, h => omega)
    (tm := impl_FirstClash_t2) (dec := dec_ri) (enc := enc_ri) (ksIn := [1, 25]) (ksOut := []) (ksRet := [4, 5, 6, 7]) (k := k) (step := impl_FirstClash_w2 k) dec_enc_ri (fun p => by kernel_rfl) (fun s R K => by kernel_rfl) (impl_FirstClash_step2 k)
def impl_FirstClash_e (k : Nat) : Ent := (33, callOf [.agg 36, .slr 50] dec_lr fun (p : (List Int) × (List (List Int))) R K => (impl_FirstClash k p.1 p.2).bind fun (b : Int × Int × Int × Int) => K ((fV (.tup [.int .i64, .int .i64, .int .i64, .int .i64]) (enc_iiii b)).1, none))
theorem impl_FirstClash_run (k : Nat) (p : (List Int) × (List (List Int))) : runF (impl_FirstClash_C k) Try.f33 false (fL [.agg 36, .slr 50] (enc_lr p)).1 (resK (.tup [.int .i64, .int .i64, .int .i64, .int .i64]) dec_iiii) = impl_FirstClash k p.1 p.2 := by
  kernel_rfl
theorem impl_FirstClash_ok (k : Nat) : EntOK Try.prog tab mvs (impl_FirstClash_e k) :=
  fn_ok (C := impl_FirstClash_C k) tabOK eqTabOK (impl_FirstClash_es k) rfl follows Try.func33 (by kernel_rfl) (by kernel_rfl) rfl (forall_getD _ 1 (0, Code.skip) (by kernel_rfl) fun i hi => by
      match i, hi with
      | 0, _ => exact impl_FirstClash_lok2 k
      | n + 1, h => omega)
    dec_enc_lr dec_enc_iiii (impl_FirstClash_run k)

def laws_eqCell_C (k : Nat) : Cfg := ⟨tab, mvs, oraOf [], loOf []⟩
theorem laws_eqCell_es (k : Nat) : ∀ e ∈ ([] : List Ent), EntOK Try.prog tab mvs e := by
  intro e he
  simp at he
def laws_eqCell_e (k : Nat) : Ent := (124, callOf [.agg 43, .agg 43] dec_ll fun (p : (List Int) × (List Int)) R K => (laws_eqCell k p.1 p.2).bind fun (b : Bool) => K ((fV (.bool) (enc_b b)).1, none))
theorem laws_eqCell_run (k : Nat) (p : (List Int) × (List Int)) : runF (laws_eqCell_C k) Try.f124 false (fL [.agg 43, .agg 43] (enc_ll p)).1 (resK (.bool) dec_b) = laws_eqCell k p.1 p.2 := by
  kernel_rfl
theorem laws_eqCell_ok (k : Nat) : EntOK Try.prog tab mvs (laws_eqCell_e k) :=
  fn_ok (C := laws_eqCell_C k) tabOK eqTabOK (laws_eqCell_es k) rfl follows Try.func124 (by kernel_rfl) (by kernel_rfl) rfl (forall_getD _ 0 (0, Code.skip) (by kernel_rfl) fun i hi => by
      omega)
    dec_enc_ll dec_enc_b (laws_eqCell_run k)

def laws_eqCellS_t0 : StTm := ⟨27, [(0, .slv 43), (1, .slv 43), (5, .int .i64)], []⟩
def laws_eqCellS_t0_1 : StTm := ⟨27, [(4, .bool)], []⟩
def laws_eqCellS_t0_2 : StTm := ⟨27, [], []⟩
def laws_eqCellS_w0 (k : Nat) (R : Type) (K : Ex → St → Option R) (rec : (List Int) × (List Int) × Int → Option R) (p : (List Int) × (List Int) × Int) : Option R := laws_eqCellS_s0 k (fun y1 => K .ret (fSt laws_eqCellS_t0_1 [.b y1])) (K (.exit 0) (fSt laws_eqCellS_t0_2 [])) (fun h1 h2 h3 => rec (h1, h2, h3)) p.1 p.2.1 p.2.2
def laws_eqCellS_c0 (k : Nat) : Lcall := lcallOf tab laws_eqCellS_t0 dec_lli [0, 1, 5] k (laws_eqCellS_w0 k)
def laws_eqCellS_C (k : Nat) : Cfg := ⟨tab, mvs, oraOf [laws_eqCell_e k], loOf [(0, laws_eqCellS_c0 k)]⟩
theorem laws_eqCellS_es (k : Nat) : ∀ e ∈ ([laws_eqCell_e k] : List Ent), EntOK Try.prog tab mvs e := by
  intro e he
  simp only [List.mem_cons, List.not_mem_nil, or_false] at he
  rcases he with rfl
  · exact laws_eqCell_ok k
theorem laws_eqCellS_step0 (k : Nat) (R : Type) (K : Ex → St → Option R) (g : St → Option R) (p : (List Int) × (List Int) × Int) : evCode (laws_eqCellS_C k) (loopP [0] (0, codeOf Try.f82)).2 (loopP [0] (0, codeOf Try.f82)).1 (fSt laws_eqCellS_t0 (enc_lli p)) (loopK tab [0, 1, 5] [] [4] g K) = laws_eqCellS_w0 k R K (fun p => g (fSt laws_eqCellS_t0 (enc_lli p))) p := by
  kernel_rfl
theorem laws_eqCellS_lok0 (k : Nat) : LoopOK Try.prog tab (laws_eqCellS_C k).lo (loopP [0] (0, codeOf Try.f82)).1 (loopP [0] (0, codeOf Try.f82)).2 :=
  loopOK_of (C := laws_eqCellS_C k) tabOK eqTabOK (oraOf_ok (laws_eqCellS_es k)) (oraOf_nat (laws_eqCellS_es k)) follows (forall_getD _ 0 (0, Code.skip) (by kernel_rfl) fun i hi => by
      omega)
    (tm := laws_eqCellS_t0) (dec := dec_lli) (enc := enc_lli) (ksIn := [0, 1, 5]) (ksOut := []) (ksRet := [4]) (k := k) (step := laws_eqCellS_w0 k) dec_enc_lli (fun p => by kernel_rfl) (fun s R K => by kernel_rfl) (laws_eqCellS_step0 k)
def laws_eqCellS_e (k : Nat) : Ent := (82, callOf [.slv 43, .slv 43] dec_ll fun (p : (List Int) × (List Int)) R K => (laws_eqCellS k p.1 p.2).bind fun (b : Bool) => K ((fV (.bool) (enc_b b)).1, none))
theorem laws_eqCellS_run (k : Nat) (p : (List Int) × (List Int)) : runF (laws_eqCellS_C k) Try.f82 false (fL [.slv 43, .slv 43] (enc_ll p)).1 (resK (.bool) dec_b) = laws_eqCellS k p.1 p.2 := by
  kernel_rfl
theorem laws_eqCellS_ok (k : Nat) : EntOK Try.prog tab mvs (laws_eqCellS_e k) :=
  fn_ok (C := laws_eqCellS_C k) tabOK eqTabOK (laws_eqCellS_es k) rfl follows Try.func82 (by kernel_rfl) (by kernel_rfl) rfl (forall_getD _ 1 (0, Code.skip) (by kernel_rfl) fun i hi => by
      match i, hi with
      | 0, _ => exact laws_eqCellS_lok0 k
      | n + 1, h => omega)
    dec_enc_ll dec_enc_b (laws_eqCellS_run k)

def dec_rri (ps : List Pay) : Option ((List (List Int)) × (List (List Int)) × Int) := match ps with
  | [.r x1, .r x2, .i x3] => some (x1, x2, x3)
  | _ => none
def enc_rri (p : (List (List Int)) × (List (List Int)) × Int) : List Pay := [.r p.1, .r p.2.1, .i p.2.2]
theorem dec_enc_rri : ∀ (ps : List Pay) (p : (List (List Int)) × (List (List Int)) × Int), dec_rri ps = some p → ps = enc_rri p := by
  intro ps p h
  unfold dec_rri at h
  split at h
  · injection h with h
    subst h
    rfl
  · cases h

def dec_rr (ps : List Pay) : Option ((List (List Int)) × (List (List Int))) := match ps with
  | [.r x1, .r x2] => some (x1, x2)
  | _ => none
def enc_rr (p : (List (List Int)) × (List (List Int))) : List Pay := [.r p.1, .r p.2]
theorem dec_enc_rr : ∀ (ps : List Pay) (p : (List (List Int)) × (List (List Int))), dec_rr ps = some p → ps = enc_rr p := by
  intro ps p h
  unfold dec_rr at h
  split at h
  · injection h with h
    subst h
    rfl
  · cases h

def laws_eqCellSS_t0 : StTm := ⟨27, [(0, .slr 50), (1, .slr 50), (5, .int .i64)], []⟩
def laws_eqCellSS_t0_1 : StTm := ⟨27, [(4, .bool)], []⟩
def laws_eqCellSS_t0_2 : StTm := ⟨27, [], []⟩
def laws_eqCellSS_w0 (k : Nat) (R : Type) (K : Ex → St → Option R) (rec : (List (List Int)) × (List (List Int)) × Int → Option R) (p : (List (List Int)) × (List (List Int)) × Int) : Option R := laws_eqCellSS_s0 k (fun y1 => K .ret (fSt laws_eqCellSS_t0_1 [.b y1])) (K (.exit 0) (fSt laws_eqCellSS_t0_2 [])) (fun h1 h2 h3 => rec (h1, h2, h3)) p.1 p.2.1 p.2.2
def laws_eqCellSS_c0 (k : Nat) : Lcall := lcallOf tab laws_eqCellSS_t0 dec_rri [0, 1, 5] k (laws_eqCellSS_w0 k)
def laws_eqCellSS_C (k : Nat) : Cfg := ⟨tab, mvs, oraOf [laws_eqCellS_e k], loOf [(0, laws_eqCellSS_c0 k)]⟩
theorem laws_eqCellSS_es (k : Nat) : ∀ e ∈ ([laws_eqCellS_e k] : List Ent), EntOK Try.prog tab mvs e := by
  intro e he
  simp only [List.mem_cons, List.not_mem_nil, or_false] at he
  rcases he with rfl
  · exact laws_eqCellS_ok k
theorem laws_eqCellSS_step0 (k : Nat) (R : Type) (K : Ex → St → Option R) (g : St → Option R) (p : (List (List Int)) × (List (List Int)) × Int) : evCode (laws_eqCellSS_C k) (loopP [0] (0, codeOf Try.f34)).2 (loopP [0] (0, codeOf Try.f34)).1 (fSt laws_eqCellSS_t0 (enc_rri p)) (loopK tab [0, 1, 5] [] [4] g K) = laws_eqCellSS_w0 k R K (fun p => g (fSt laws_eqCellSS_t0 (enc_rri p))) p := by
  kernel_rfl
theorem laws_eqCellSS_lok0 (k : Nat) : LoopOK Try.prog tab (laws_eqCellSS_C k).lo (loopP [0] (0, codeOf Try.f34)).1 (loopP [0] (0, codeOf Try.f34)).2 :=
  loopOK_of (C := laws_eqCellSS_C k) tabOK eqTabOK (oraOf_ok (laws_eqCellSS_es k)) (oraOf_nat (laws_eqCellSS_es k)) follows (forall_getD _ 0 (0, Code.skip) (by kernel_rfl) fun i hi => by
      omega)
    (tm := laws_eqCellSS_t0) (dec := dec_rri) (enc := enc_rri) (ksIn := [0, 1, 5]) (ksOut := []) (ksRet := [4]) (k := k) (step := laws_eqCellSS_w0 k) dec_enc_rri (fun p => by kernel_rfl) (fun s R K => by kernel_rfl) (laws_eqCellSS_step0 k)
def laws_eqCellSS_e (k : Nat) : Ent := (34, callOf [.slr 50, .slr 50] dec_rr fun (p : (List (List Int)) × (List (List Int))) R K => (laws_eqCellSS k p.1 p.2).bind fun (b : Bool) => K ((fV (.bool) (enc_b b)).1, none))
theorem laws_eqCellSS_run (k : Nat) (p : (List (List Int)) × (List (List Int))) : runF (laws_eqCellSS_C k) Try.f34 false (fL [.slr 50, .slr 50] (enc_rr p)).1 (resK (.bool) dec_b) = laws_eqCellSS k p.1 p.2 := by
  kernel_rfl
theorem laws_eqCellSS_ok (k : Nat) : EntOK Try.prog tab mvs (laws_eqCellSS_e k) :=
  fn_ok (C := laws_eqCellSS_C k) tabOK eqTabOK (laws_eqCellSS_es k) rfl follows Try.func34 (by kernel_rfl) (by kernel_rfl) rfl (forall_getD _ 1 (0, Code.skip) (by kernel_rfl) fun i hi => by
      match i, hi with
      | 0, _ => exact laws_eqCellSS_lok0 k
      | n + 1, h => omega)
    dec_enc_rr dec_enc_b (laws_eqCellSS_run k)

def laws_FnExactFirstClash_C (k : Nat) : Cfg := ⟨tab, mvs, oraOf [laws_szCellSS_e k, laws_toLawn_e k, laws_toCellSS_e k, spec_FirstClash_e k, impl_FirstClash_e k, laws_eqCellSS_e k], loOf []⟩
theorem laws_FnExactFirstClash_es (k : Nat) : ∀ e ∈ ([laws_szCellSS_e k, laws_toLawn_e k, laws_toCellSS_e k, spec_FirstClash_e k, impl_FirstClash_e k, laws_eqCellSS_e k] : List Ent), EntOK Try.prog tab mvs e := by
  intro e he
  simp only [List.mem_cons, List.not_mem_nil, or_false] at he
  rcases he with rfl | rfl | rfl | rfl | rfl | rfl
  · exact laws_szCellSS_ok k
  · exact laws_toLawn_ok k
  · exact laws_toCellSS_ok k
  · exact spec_FirstClash_ok k
  · exact impl_FirstClash_ok k
  · exact laws_eqCellSS_ok k
def laws_FnExactFirstClash_e (k : Nat) : Ent := (6, callOf [.agg 58, .slr 116] dec_lr fun (p : (List Int) × (List (List Int))) R K => (laws_FnExactFirstClash k p.1 p.2).bind fun (b : Bool) => K ((fV (.bool) (enc_b b)).1, none))
theorem laws_FnExactFirstClash_run (k : Nat) (p : (List Int) × (List (List Int))) : runF (laws_FnExactFirstClash_C k) Try.f6 false (fL [.agg 58, .slr 116] (enc_lr p)).1 (resK (.bool) dec_b) = laws_FnExactFirstClash k p.1 p.2 := by
  kernel_rfl
theorem laws_FnExactFirstClash_ok (k : Nat) : EntOK Try.prog tab mvs (laws_FnExactFirstClash_e k) :=
  fn_ok (C := laws_FnExactFirstClash_C k) tabOK eqTabOK (laws_FnExactFirstClash_es k) rfl follows Try.func6 (by kernel_rfl) (by kernel_rfl) rfl (forall_getD _ 0 (0, Code.skip) (by kernel_rfl) fun i hi => by
      omega)
    dec_enc_lr dec_enc_b (laws_FnExactFirstClash_run k)




end Go.Proofs.Ytkdpdmfkomnalaa.Tt
