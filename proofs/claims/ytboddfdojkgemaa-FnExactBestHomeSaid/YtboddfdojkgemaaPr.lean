/- The code is what the functions in plain Lean say. -/
import Derived.Test.YtboddfdojkgemaaTab
import Derived.Test.YtboddfdojkgemaaSh
set_option linter.unusedVariables false
set_option linter.unusedSimpArgs false
set_option linter.unusedVariables false
namespace Go.Proofs.Ytboddfdojkgemaa.Tt
open Go.Ev Go
set_option maxRecDepth 100000


def mvs : List Nat := [60, 35]

def dec_illl (ps : List Pay) : Option (Int × (List Int) × (List Int) × (List Int)) := match ps with
  | [.i x1, .l x2, .l x3, .l x4] => some (x1, x2, x3, x4)
  | _ => none
def enc_illl (p : Int × (List Int) × (List Int) × (List Int)) : List Pay := [.i p.1, .l p.2.1, .l p.2.2.1, .l p.2.2.2]
theorem dec_enc_illl : ∀ (ps : List Pay) (p : Int × (List Int) × (List Int) × (List Int)), dec_illl ps = some p → ps = enc_illl p := by
  intro ps p h
  unfold dec_illl at h
  split at h
  · injection h with h
    subst h
    rfl
  · cases h

def dec_l (ps : List Pay) : Option ((List Int)) := match ps with
  | [.l x1] => some x1
  | _ => none
def enc_l (p : (List Int)) : List Pay := [.l p]
theorem dec_enc_l : ∀ (ps : List Pay) (p : (List Int)), dec_l ps = some p → ps = enc_l p := by
  intro ps p h
  unfold dec_l at h
  split at h
  · injection h with h
    subst h
    rfl
  · cases h

def laws_toByteA10_t0 : StTm := ⟨15, [(1, .ptr 1 0 23), (2, .ptr 2 0 23), (3, .ptr 3 0 23), (4, .int .i64)], [(1, 23, true, .ints), (2, 23, true, .ints), (3, 23, true, .ints)]⟩
def laws_toByteA10_t0_1 : StTm := ⟨15, [(2, .ptr 2 0 23), (3, .ptr 3 0 23)], [(2, 23, true, .ints), (3, 23, true, .ints)]⟩
def laws_toByteA10_w0 (k : Nat) (R : Type) (K : Ex → St → Option R) (rec : Int × (List Int) × (List Int) × (List Int) → Option R) (p : Int × (List Int) × (List Int) × (List Int)) : Option R := laws_toByteA10_s0 k (fun y1 y2 => K (.exit 0) (fSt laws_toByteA10_t0_1 [.l y1, .l y2])) (fun h1 h2 h3 h4 => rec (h1, h2, h3, h4)) p.1 p.2.1 p.2.2.1 p.2.2.2
def laws_toByteA10_c0 (k : Nat) : Lcall := lcallOf tab laws_toByteA10_t0 dec_illl [1, 2, 3, 4] k (laws_toByteA10_w0 k)
def laws_toByteA10_C (k : Nat) : Cfg := ⟨tab, mvs, oraOf [], loOf [(0, laws_toByteA10_c0 k)]⟩
theorem laws_toByteA10_es (k : Nat) : ∀ e ∈ ([] : List Ent), EntOK Try.prog tab mvs e := by
  intro e he
  simp at he
theorem laws_toByteA10_step0 (k : Nat) (R : Type) (K : Ex → St → Option R) (g : St → Option R) (p : Int × (List Int) × (List Int) × (List Int)) : evCode (laws_toByteA10_C k) (loopP [0] (0, codeOf Try.f47)).2 (loopP [0] (0, codeOf Try.f47)).1 (fSt laws_toByteA10_t0 (enc_illl p)) (loopK tab [1, 2, 3, 4] [2, 3] [2] g K) = laws_toByteA10_w0 k R K (fun p => g (fSt laws_toByteA10_t0 (enc_illl p))) p := by
  kernel_rfl
theorem laws_toByteA10_lok0 (k : Nat) : LoopOK Try.prog tab (laws_toByteA10_C k).lo (loopP [0] (0, codeOf Try.f47)).1 (loopP [0] (0, codeOf Try.f47)).2 :=
  loopOK_of (C := laws_toByteA10_C k) tabOK eqTabOK (oraOf_ok (laws_toByteA10_es k)) (oraOf_nat (laws_toByteA10_es k)) follows (forall_getD _ 0 (0, Code.skip) (by kernel_rfl) fun i hi => by
      omega)
    (tm := laws_toByteA10_t0) (dec := dec_illl) (enc := enc_illl) (ksIn := [1, 2, 3, 4]) (ksOut := [2, 3]) (ksRet := [2]) (k := k) (step := laws_toByteA10_w0 k) dec_enc_illl (fun p => by kernel_rfl) (fun s R K => by kernel_rfl) (laws_toByteA10_step0 k)
def laws_toByteA10_e (k : Nat) : Ent := (47, callOf [.agg 23] dec_l fun (p : (List Int)) R K => (laws_toByteA10 k p).bind fun (b : (List Int)) => K ((fV (.agg 23) (enc_l b)).1, none))
theorem laws_toByteA10_run (k : Nat) (p : (List Int)) : runF (laws_toByteA10_C k) Try.f47 false (fL [.agg 23] (enc_l p)).1 (resK (.agg 23) dec_l) = laws_toByteA10 k p := by
  kernel_rfl
theorem laws_toByteA10_ok (k : Nat) : EntOK Try.prog tab mvs (laws_toByteA10_e k) :=
  fn_ok (C := laws_toByteA10_C k) tabOK eqTabOK (laws_toByteA10_es k) rfl follows Try.func47 (by kernel_rfl) (by kernel_rfl) rfl (forall_getD _ 1 (0, Code.skip) (by kernel_rfl) fun i hi => by
      match i, hi with
      | 0, _ => exact laws_toByteA10_lok0 k
      | n + 1, h => omega)
    dec_enc_l dec_enc_l (laws_toByteA10_run k)

def laws_toByteA10A10_t0 : StTm := ⟨16, [(1, .ptr 1 0 24), (2, .ptr 2 0 24), (3, .ptr 3 0 24), (4, .int .i64)], [(1, 24, true, .ints), (2, 24, true, .ints), (3, 24, true, .ints)]⟩
def laws_toByteA10A10_t0_1 : StTm := ⟨16, [(2, .ptr 2 0 24), (3, .ptr 3 0 24)], [(2, 24, true, .ints), (3, 24, true, .ints)]⟩
def laws_toByteA10A10_w0 (k : Nat) (R : Type) (K : Ex → St → Option R) (rec : Int × (List Int) × (List Int) × (List Int) → Option R) (p : Int × (List Int) × (List Int) × (List Int)) : Option R := laws_toByteA10A10_s0 k (fun y1 y2 => K (.exit 0) (fSt laws_toByteA10A10_t0_1 [.l y1, .l y2])) (fun h1 h2 h3 h4 => rec (h1, h2, h3, h4)) p.1 p.2.1 p.2.2.1 p.2.2.2
def laws_toByteA10A10_c0 (k : Nat) : Lcall := lcallOf tab laws_toByteA10A10_t0 dec_illl [1, 2, 3, 4] k (laws_toByteA10A10_w0 k)
def laws_toByteA10A10_C (k : Nat) : Cfg := ⟨tab, mvs, oraOf [laws_toByteA10_e k], loOf [(0, laws_toByteA10A10_c0 k)]⟩
theorem laws_toByteA10A10_es (k : Nat) : ∀ e ∈ ([laws_toByteA10_e k] : List Ent), EntOK Try.prog tab mvs e := by
  intro e he
  simp only [List.mem_cons, List.not_mem_nil, or_false] at he
  rcases he with rfl
  · exact laws_toByteA10_ok k
theorem laws_toByteA10A10_step0 (k : Nat) (R : Type) (K : Ex → St → Option R) (g : St → Option R) (p : Int × (List Int) × (List Int) × (List Int)) : evCode (laws_toByteA10A10_C k) (loopP [0] (0, codeOf Try.f23)).2 (loopP [0] (0, codeOf Try.f23)).1 (fSt laws_toByteA10A10_t0 (enc_illl p)) (loopK tab [1, 2, 3, 4] [2, 3] [2] g K) = laws_toByteA10A10_w0 k R K (fun p => g (fSt laws_toByteA10A10_t0 (enc_illl p))) p := by
  kernel_rfl
theorem laws_toByteA10A10_lok0 (k : Nat) : LoopOK Try.prog tab (laws_toByteA10A10_C k).lo (loopP [0] (0, codeOf Try.f23)).1 (loopP [0] (0, codeOf Try.f23)).2 :=
  loopOK_of (C := laws_toByteA10A10_C k) tabOK eqTabOK (oraOf_ok (laws_toByteA10A10_es k)) (oraOf_nat (laws_toByteA10A10_es k)) follows (forall_getD _ 0 (0, Code.skip) (by kernel_rfl) fun i hi => by
      omega)
    (tm := laws_toByteA10A10_t0) (dec := dec_illl) (enc := enc_illl) (ksIn := [1, 2, 3, 4]) (ksOut := [2, 3]) (ksRet := [2]) (k := k) (step := laws_toByteA10A10_w0 k) dec_enc_illl (fun p => by kernel_rfl) (fun s R K => by kernel_rfl) (laws_toByteA10A10_step0 k)
def laws_toByteA10A10_e (k : Nat) : Ent := (23, callOf [.agg 24] dec_l fun (p : (List Int)) R K => (laws_toByteA10A10 k p).bind fun (b : (List Int)) => K ((fV (.agg 24) (enc_l b)).1, none))
theorem laws_toByteA10A10_run (k : Nat) (p : (List Int)) : runF (laws_toByteA10A10_C k) Try.f23 false (fL [.agg 24] (enc_l p)).1 (resK (.agg 24) dec_l) = laws_toByteA10A10 k p := by
  kernel_rfl
theorem laws_toByteA10A10_ok (k : Nat) : EntOK Try.prog tab mvs (laws_toByteA10A10_e k) :=
  fn_ok (C := laws_toByteA10A10_C k) tabOK eqTabOK (laws_toByteA10A10_es k) rfl follows Try.func23 (by kernel_rfl) (by kernel_rfl) rfl (forall_getD _ 1 (0, Code.skip) (by kernel_rfl) fun i hi => by
      match i, hi with
      | 0, _ => exact laws_toByteA10A10_lok0 k
      | n + 1, h => omega)
    dec_enc_l dec_enc_l (laws_toByteA10A10_run k)

def laws_toLawn_C (k : Nat) : Cfg := ⟨tab, mvs, oraOf [laws_toByteA10A10_e k], loOf []⟩
theorem laws_toLawn_es (k : Nat) : ∀ e ∈ ([laws_toByteA10A10_e k] : List Ent), EntOK Try.prog tab mvs e := by
  intro e he
  simp only [List.mem_cons, List.not_mem_nil, or_false] at he
  rcases he with rfl
  · exact laws_toByteA10A10_ok k
def laws_toLawn_e (k : Nat) : Ent := (7, callOf [.agg 26] dec_l fun (p : (List Int)) R K => (laws_toLawn k p).bind fun (b : (List Int)) => K ((fV (.agg 31) (enc_l b)).1, none))
theorem laws_toLawn_run (k : Nat) (p : (List Int)) : runF (laws_toLawn_C k) Try.f7 false (fL [.agg 26] (enc_l p)).1 (resK (.agg 31) dec_l) = laws_toLawn k p := by
  kernel_rfl
theorem laws_toLawn_ok (k : Nat) : EntOK Try.prog tab mvs (laws_toLawn_e k) :=
  fn_ok (C := laws_toLawn_C k) tabOK eqTabOK (laws_toLawn_es k) rfl follows Try.func7 (by kernel_rfl) (by kernel_rfl) rfl (forall_getD _ 0 (0, Code.skip) (by kernel_rfl) fun i hi => by
      omega)
    dec_enc_l dec_enc_l (laws_toLawn_run k)

def dec_iii (ps : List Pay) : Option (Int × Int × Int) := match ps with
  | [.i x1, .i x2, .i x3] => some (x1, x2, x3)
  | _ => none
def enc_iii (p : Int × Int × Int) : List Pay := [.i p.1, .i p.2.1, .i p.2.2]
theorem dec_enc_iii : ∀ (ps : List Pay) (p : Int × Int × Int), dec_iii ps = some p → ps = enc_iii p := by
  intro ps p h
  unfold dec_iii at h
  split at h
  · injection h with h
    subst h
    rfl
  · cases h

def dec_b (ps : List Pay) : Option (Bool) := match ps with
  | [.b x1] => some x1
  | _ => none
def enc_b (p : Bool) : List Pay := [.b p]
theorem dec_enc_b : ∀ (ps : List Pay) (p : Bool), dec_b ps = some p → ps = enc_b p := by
  intro ps p h
  unfold dec_b at h
  split at h
  · injection h with h
    subst h
    rfl
  · cases h

def spec_l00In_C (k : Nat) : Cfg := ⟨tab, mvs, oraOf [], loOf []⟩
theorem spec_l00In_es (k : Nat) : ∀ e ∈ ([] : List Ent), EntOK Try.prog tab mvs e := by
  intro e he
  simp at he
def spec_l00In_e (k : Nat) : Ent := (65, callOf [.int .i64, .int .i64, .int .i64] dec_iii fun (p : Int × Int × Int) R K => (spec_l00In k p.1 p.2.1 p.2.2).bind fun (b : Bool) => K ((fV (.bool) (enc_b b)).1, none))
theorem spec_l00In_run (k : Nat) (p : Int × Int × Int) : runF (spec_l00In_C k) Try.f65 false (fL [.int .i64, .int .i64, .int .i64] (enc_iii p)).1 (resK (.bool) dec_b) = spec_l00In k p.1 p.2.1 p.2.2 := by
  kernel_rfl
theorem spec_l00In_ok (k : Nat) : EntOK Try.prog tab mvs (spec_l00In_e k) :=
  fn_ok (C := spec_l00In_C k) tabOK eqTabOK (spec_l00In_es k) rfl follows Try.func65 (by kernel_rfl) (by kernel_rfl) rfl (forall_getD _ 0 (0, Code.skip) (by kernel_rfl) fun i hi => by
      omega)
    dec_enc_iii dec_enc_b (spec_l00In_run k)

def dec_i (ps : List Pay) : Option (Int) := match ps with
  | [.i x1] => some x1
  | _ => none
def enc_i (p : Int) : List Pay := [.i p]
theorem dec_enc_i : ∀ (ps : List Pay) (p : Int), dec_i ps = some p → ps = enc_i p := by
  intro ps p h
  unfold dec_i at h
  split at h
  · injection h with h
    subst h
    rfl
  · cases h

def spec_l01Side_C (k : Nat) : Cfg := ⟨tab, mvs, oraOf [spec_l00In_e k], loOf []⟩
theorem spec_l01Side_es (k : Nat) : ∀ e ∈ ([spec_l00In_e k] : List Ent), EntOK Try.prog tab mvs e := by
  intro e he
  simp only [List.mem_cons, List.not_mem_nil, or_false] at he
  rcases he with rfl
  · exact spec_l00In_ok k
def spec_l01Side_e (k : Nat) : Ent := (50, callOf [.int .i64] dec_i fun (p : Int) R K => (spec_l01Side k p).bind fun (b : Bool) => K ((fV (.bool) (enc_b b)).1, none))
theorem spec_l01Side_run (k : Nat) (p : Int) : runF (spec_l01Side_C k) Try.f50 false (fL [.int .i64] (enc_i p)).1 (resK (.bool) dec_b) = spec_l01Side k p := by
  kernel_rfl
theorem spec_l01Side_ok (k : Nat) : EntOK Try.prog tab mvs (spec_l01Side_e k) :=
  fn_ok (C := spec_l01Side_C k) tabOK eqTabOK (spec_l01Side_es k) rfl follows Try.func50 (by kernel_rfl) (by kernel_rfl) rfl (forall_getD _ 0 (0, Code.skip) (by kernel_rfl) fun i hi => by
      omega)
    dec_enc_i dec_enc_b (spec_l01Side_run k)

def spec_l01Kind_C (k : Nat) : Cfg := ⟨tab, mvs, oraOf [spec_l00In_e k], loOf []⟩
theorem spec_l01Kind_es (k : Nat) : ∀ e ∈ ([spec_l00In_e k] : List Ent), EntOK Try.prog tab mvs e := by
  intro e he
  simp only [List.mem_cons, List.not_mem_nil, or_false] at he
  rcases he with rfl
  · exact spec_l00In_ok k
def spec_l01Kind_e (k : Nat) : Ent := (51, callOf [.int .i64] dec_i fun (p : Int) R K => (spec_l01Kind k p).bind fun (b : Bool) => K ((fV (.bool) (enc_b b)).1, none))
theorem spec_l01Kind_run (k : Nat) (p : Int) : runF (spec_l01Kind_C k) Try.f51 false (fL [.int .i64] (enc_i p)).1 (resK (.bool) dec_b) = spec_l01Kind k p := by
  kernel_rfl
theorem spec_l01Kind_ok (k : Nat) : EntOK Try.prog tab mvs (spec_l01Kind_e k) :=
  fn_ok (C := spec_l01Kind_C k) tabOK eqTabOK (spec_l01Kind_es k) rfl follows Try.func51 (by kernel_rfl) (by kernel_rfl) rfl (forall_getD _ 0 (0, Code.skip) (by kernel_rfl) fun i hi => by
      omega)
    dec_enc_i dec_enc_b (spec_l01Kind_run k)

def dec_ll (ps : List Pay) : Option ((List Int) × (List Int)) := match ps with
  | [.l x1, .l x2] => some (x1, x2)
  | _ => none
def enc_ll (p : (List Int) × (List Int)) : List Pay := [.l p.1, .l p.2]
theorem dec_enc_ll : ∀ (ps : List Pay) (p : (List Int) × (List Int)), dec_ll ps = some p → ps = enc_ll p := by
  intro ps p h
  unfold dec_ll at h
  split at h
  · injection h with h
    subst h
    rfl
  · cases h

def spec_l01Is_C (k : Nat) : Cfg := ⟨tab, mvs, oraOf [spec_l00In_e k], loOf []⟩
theorem spec_l01Is_es (k : Nat) : ∀ e ∈ ([spec_l00In_e k] : List Ent), EntOK Try.prog tab mvs e := by
  intro e he
  simp only [List.mem_cons, List.not_mem_nil, or_false] at he
  rcases he with rfl
  · exact spec_l00In_ok k
def spec_l01Is_e (k : Nat) : Ent := (45, callOf [.pvi (some 31) 0 31, .agg 33] dec_ll fun (p : (List Int) × (List Int)) R K => (spec_l01Is k p.1 p.2).bind fun (b : Bool) => K ((fV (.bool) (enc_b b)).1, none))
theorem spec_l01Is_run (k : Nat) (p : (List Int) × (List Int)) : runF (spec_l01Is_C k) Try.f45 false (fL [.pvi (some 31) 0 31, .agg 33] (enc_ll p)).1 (resK (.bool) dec_b) = spec_l01Is k p.1 p.2 := by
  kernel_rfl
theorem spec_l01Is_ok (k : Nat) : EntOK Try.prog tab mvs (spec_l01Is_e k) :=
  fn_ok (C := spec_l01Is_C k) tabOK eqTabOK (spec_l01Is_es k) rfl follows Try.func45 (by kernel_rfl) (by kernel_rfl) rfl (forall_getD _ 0 (0, Code.skip) (by kernel_rfl) fun i hi => by
      omega)
    dec_enc_ll dec_enc_b (spec_l01Is_run k)

def dec_lii (ps : List Pay) : Option ((List Int) × Int × Int) := match ps with
  | [.l x1, .i x2, .i x3] => some (x1, x2, x3)
  | _ => none
def enc_lii (p : (List Int) × Int × Int) : List Pay := [.l p.1, .i p.2.1, .i p.2.2]
theorem dec_enc_lii : ∀ (ps : List Pay) (p : (List Int) × Int × Int), dec_lii ps = some p → ps = enc_lii p := by
  intro ps p h
  unfold dec_lii at h
  split at h
  · injection h with h
    subst h
    rfl
  · cases h

def dec_li (ps : List Pay) : Option ((List Int) × Int) := match ps with
  | [.l x1, .i x2] => some (x1, x2)
  | _ => none
def enc_li (p : (List Int) × Int) : List Pay := [.l p.1, .i p.2]
theorem dec_enc_li : ∀ (ps : List Pay) (p : (List Int) × Int), dec_li ps = some p → ps = enc_li p := by
  intro ps p h
  unfold dec_li at h
  split at h
  · injection h with h
    subst h
    rfl
  · cases h

def spec_l01Ok_t0 : StTm := ⟨54, [(0, .pvi (some 31) 0 31), (3, .int .i8), (4, .int .i8)], []⟩
def spec_l01Ok_t0_1 : StTm := ⟨54, [(2, .bool)], []⟩
def spec_l01Ok_t0_2 : StTm := ⟨54, [(0, .pvi (some 31) 0 31), (3, .int .i8)], []⟩
def spec_l01Ok_w0 (k : Nat) (R : Type) (K : Ex → St → Option R) (rec : (List Int) × Int × Int → Option R) (p : (List Int) × Int × Int) : Option R := spec_l01Ok_s0 k (fun y1 => K .ret (fSt spec_l01Ok_t0_1 [.b y1])) (fun y1 y2 => K (.exit 2) (fSt spec_l01Ok_t0_2 [.l y1, .i y2])) (fun h1 h2 h3 => rec (h1, h2, h3)) p.1 p.2.1 p.2.2
def spec_l01Ok_c0 (k : Nat) : Lcall := lcallOf tab spec_l01Ok_t0 dec_lii [0, 3, 4] k (spec_l01Ok_w0 k)
def spec_l01Ok_t1 : StTm := ⟨54, [(0, .pvi (some 31) 0 31), (3, .int .i8)], []⟩
def spec_l01Ok_t1_1 : StTm := ⟨54, [(2, .bool)], []⟩
def spec_l01Ok_t1_2 : StTm := ⟨54, [], []⟩
def spec_l01Ok_w1 (k : Nat) (R : Type) (K : Ex → St → Option R) (rec : (List Int) × Int → Option R) (p : (List Int) × Int) : Option R := spec_l01Ok_s1 k (fun y1 => K .ret (fSt spec_l01Ok_t1_1 [.b y1])) (K (.exit 0) (fSt spec_l01Ok_t1_2 [])) (fun h1 h2 => rec (h1, h2)) p.1 p.2
def spec_l01Ok_c1 (k : Nat) : Lcall := lcallOf tab spec_l01Ok_t1 dec_li [0, 3] k (spec_l01Ok_w1 k)
def spec_l01Ok_C (k : Nat) : Cfg := ⟨tab, mvs, oraOf [spec_l01Side_e k, spec_l01Kind_e k, spec_l01Is_e k], loOf [(2, spec_l01Ok_c0 k), (0, spec_l01Ok_c1 k)]⟩
theorem spec_l01Ok_es (k : Nat) : ∀ e ∈ ([spec_l01Side_e k, spec_l01Kind_e k, spec_l01Is_e k] : List Ent), EntOK Try.prog tab mvs e := by
  intro e he
  simp only [List.mem_cons, List.not_mem_nil, or_false] at he
  rcases he with rfl | rfl | rfl
  · exact spec_l01Side_ok k
  · exact spec_l01Kind_ok k
  · exact spec_l01Is_ok k
theorem spec_l01Ok_step0 (k : Nat) (R : Type) (K : Ex → St → Option R) (g : St → Option R) (p : (List Int) × Int × Int) : evCode (spec_l01Ok_C k) (loopP [0, 0] (0, codeOf Try.f28)).2 (loopP [0, 0] (0, codeOf Try.f28)).1 (fSt spec_l01Ok_t0 (enc_lii p)) (loopK tab [0, 3, 4] [0, 3] [2] g K) = spec_l01Ok_w0 k R K (fun p => g (fSt spec_l01Ok_t0 (enc_lii p))) p := by
  kernel_rfl
theorem spec_l01Ok_lok0 (k : Nat) : LoopOK Try.prog tab (spec_l01Ok_C k).lo (loopP [0, 0] (0, codeOf Try.f28)).1 (loopP [0, 0] (0, codeOf Try.f28)).2 :=
  loopOK_of (C := spec_l01Ok_C k) tabOK eqTabOK (oraOf_ok (spec_l01Ok_es k)) (oraOf_nat (spec_l01Ok_es k)) follows (forall_getD _ 0 (0, Code.skip) (by kernel_rfl) fun i hi => by
      omega)
    (tm := spec_l01Ok_t0) (dec := dec_lii) (enc := enc_lii) (ksIn := [0, 3, 4]) (ksOut := [0, 3]) (ksRet := [2]) (k := k) (step := spec_l01Ok_w0 k) dec_enc_lii (fun p => by kernel_rfl) (fun s R K => by kernel_rfl) (spec_l01Ok_step0 k)
theorem spec_l01Ok_step1 (k : Nat) (R : Type) (K : Ex → St → Option R) (g : St → Option R) (p : (List Int) × Int) : evCode (spec_l01Ok_C k) (loopP [0] (0, codeOf Try.f28)).2 (loopP [0] (0, codeOf Try.f28)).1 (fSt spec_l01Ok_t1 (enc_li p)) (loopK tab [0, 3] [] [2] g K) = spec_l01Ok_w1 k R K (fun p => g (fSt spec_l01Ok_t1 (enc_li p))) p := by
  kernel_rfl
theorem spec_l01Ok_lok1 (k : Nat) : LoopOK Try.prog tab (spec_l01Ok_C k).lo (loopP [0] (0, codeOf Try.f28)).1 (loopP [0] (0, codeOf Try.f28)).2 :=
  loopOK_of (C := spec_l01Ok_C k) tabOK eqTabOK (oraOf_ok (spec_l01Ok_es k)) (oraOf_nat (spec_l01Ok_es k)) follows (forall_getD _ 1 (0, Code.skip) (by kernel_rfl) fun i hi => by
      match i, hi with
      | 0, _ => exact spec_l01Ok_lok0 k
      | n + 1, h => omega)
    (tm := spec_l01Ok_t1) (dec := dec_li) (enc := enc_li) (ksIn := [0, 3]) (ksOut := []) (ksRet := [2]) (k := k) (step := spec_l01Ok_w1 k) dec_enc_li (fun p => by kernel_rfl) (fun s R K => by kernel_rfl) (spec_l01Ok_step1 k)
def spec_l01Ok_e (k : Nat) : Ent := (28, callOf [.pvi (some 31) 0 31] dec_l fun (p : (List Int)) R K => (spec_l01Ok k p).bind fun (b : Bool) => K ((fV (.bool) (enc_b b)).1, none))
theorem spec_l01Ok_run (k : Nat) (p : (List Int)) : runF (spec_l01Ok_C k) Try.f28 false (fL [.pvi (some 31) 0 31] (enc_l p)).1 (resK (.bool) dec_b) = spec_l01Ok k p := by
  kernel_rfl
theorem spec_l01Ok_ok (k : Nat) : EntOK Try.prog tab mvs (spec_l01Ok_e k) :=
  fn_ok (C := spec_l01Ok_C k) tabOK eqTabOK (spec_l01Ok_es k) rfl follows Try.func28 (by kernel_rfl) (by kernel_rfl) rfl (forall_getD _ 1 (0, Code.skip) (by kernel_rfl) fun i hi => by
      match i, hi with
      | 0, _ => exact spec_l01Ok_lok1 k
      | n + 1, h => omega)
    dec_enc_l dec_enc_b (spec_l01Ok_run k)

def dec_liil (ps : List Pay) : Option ((List Int) × Int × Int × (List Int)) := match ps with
  | [.l x1, .i x2, .i x3, .l x4] => some (x1, x2, x3, x4)
  | _ => none
def enc_liil (p : (List Int) × Int × Int × (List Int)) : List Pay := [.l p.1, .i p.2.1, .i p.2.2.1, .l p.2.2.2]
theorem dec_enc_liil : ∀ (ps : List Pay) (p : (List Int) × Int × Int × (List Int)), dec_liil ps = some p → ps = enc_liil p := by
  intro ps p h
  unfold dec_liil at h
  split at h
  · injection h with h
    subst h
    rfl
  · cases h

def dec_lil (ps : List Pay) : Option ((List Int) × Int × (List Int)) := match ps with
  | [.l x1, .i x2, .l x3] => some (x1, x2, x3)
  | _ => none
def enc_lil (p : (List Int) × Int × (List Int)) : List Pay := [.l p.1, .i p.2.1, .l p.2.2]
theorem dec_enc_lil : ∀ (ps : List Pay) (p : (List Int) × Int × (List Int)), dec_lil ps = some p → ps = enc_lil p := by
  intro ps p h
  unfold dec_lil at h
  split at h
  · injection h with h
    subst h
    rfl
  · cases h

def spec_l01All_t0 : StTm := ⟨30, [(0, .pvi (some 31) 0 31), (3, .slw 3 33), (4, .int .i8), (5, .int .i8)], [(3, 33, false, .ints)]⟩
def spec_l01All_t0_1 : StTm := ⟨30, [(0, .pvi (some 31) 0 31), (3, .slw 3 33), (4, .int .i8)], [(3, 33, false, .ints)]⟩
def spec_l01All_w0 (k : Nat) (R : Type) (K : Ex → St → Option R) (rec : (List Int) × Int × Int × (List Int) → Option R) (p : (List Int) × Int × Int × (List Int)) : Option R := spec_l01All_s0 k (fun y1 y2 y3 => K (.exit 2) (fSt spec_l01All_t0_1 [.l y1, .i y2, .l y3])) (fun h1 h2 h3 h4 => rec (h1, h2, h3, h4)) p.1 p.2.1 p.2.2.1 p.2.2.2
def spec_l01All_c0 (k : Nat) : Lcall := lcallOf tab spec_l01All_t0 dec_liil [0, 3, 4, 5] k (spec_l01All_w0 k)
def spec_l01All_t1 : StTm := ⟨30, [(0, .pvi (some 31) 0 31), (3, .slw 3 33), (4, .int .i8)], [(3, 33, false, .ints)]⟩
def spec_l01All_t1_1 : StTm := ⟨30, [(3, .slw 3 33)], [(3, 33, false, .ints)]⟩
def spec_l01All_w1 (k : Nat) (R : Type) (K : Ex → St → Option R) (rec : (List Int) × Int × (List Int) → Option R) (p : (List Int) × Int × (List Int)) : Option R := spec_l01All_s1 k (fun y1 => K (.exit 0) (fSt spec_l01All_t1_1 [.l y1])) (fun h1 h2 h3 => rec (h1, h2, h3)) p.1 p.2.1 p.2.2
def spec_l01All_c1 (k : Nat) : Lcall := lcallOf tab spec_l01All_t1 dec_lil [0, 3, 4] k (spec_l01All_w1 k)
def spec_l01All_C (k : Nat) : Cfg := ⟨tab, mvs, oraOf [], loOf [(2, spec_l01All_c0 k), (0, spec_l01All_c1 k)]⟩
theorem spec_l01All_es (k : Nat) : ∀ e ∈ ([] : List Ent), EntOK Try.prog tab mvs e := by
  intro e he
  simp at he
theorem spec_l01All_step0 (k : Nat) (R : Type) (K : Ex → St → Option R) (g : St → Option R) (p : (List Int) × Int × Int × (List Int)) : evCode (spec_l01All_C k) (loopP [0, 0] (0, codeOf Try.f37)).2 (loopP [0, 0] (0, codeOf Try.f37)).1 (fSt spec_l01All_t0 (enc_liil p)) (loopK tab [0, 3, 4, 5] [0, 3, 4] [2] g K) = spec_l01All_w0 k R K (fun p => g (fSt spec_l01All_t0 (enc_liil p))) p := by
  kernel_rfl
theorem spec_l01All_lok0 (k : Nat) : LoopOK Try.prog tab (spec_l01All_C k).lo (loopP [0, 0] (0, codeOf Try.f37)).1 (loopP [0, 0] (0, codeOf Try.f37)).2 :=
  loopOK_of (C := spec_l01All_C k) tabOK eqTabOK (oraOf_ok (spec_l01All_es k)) (oraOf_nat (spec_l01All_es k)) follows (forall_getD _ 0 (0, Code.skip) (by kernel_rfl) fun i hi => by
      omega)
    (tm := spec_l01All_t0) (dec := dec_liil) (enc := enc_liil) (ksIn := [0, 3, 4, 5]) (ksOut := [0, 3, 4]) (ksRet := [2]) (k := k) (step := spec_l01All_w0 k) dec_enc_liil (fun p => by kernel_rfl) (fun s R K => by kernel_rfl) (spec_l01All_step0 k)
theorem spec_l01All_step1 (k : Nat) (R : Type) (K : Ex → St → Option R) (g : St → Option R) (p : (List Int) × Int × (List Int)) : evCode (spec_l01All_C k) (loopP [0] (0, codeOf Try.f37)).2 (loopP [0] (0, codeOf Try.f37)).1 (fSt spec_l01All_t1 (enc_lil p)) (loopK tab [0, 3, 4] [3] [2] g K) = spec_l01All_w1 k R K (fun p => g (fSt spec_l01All_t1 (enc_lil p))) p := by
  kernel_rfl
theorem spec_l01All_lok1 (k : Nat) : LoopOK Try.prog tab (spec_l01All_C k).lo (loopP [0] (0, codeOf Try.f37)).1 (loopP [0] (0, codeOf Try.f37)).2 :=
  loopOK_of (C := spec_l01All_C k) tabOK eqTabOK (oraOf_ok (spec_l01All_es k)) (oraOf_nat (spec_l01All_es k)) follows (forall_getD _ 1 (0, Code.skip) (by kernel_rfl) fun i hi => by
      match i, hi with
      | 0, _ => exact spec_l01All_lok0 k
      | n + 1, h => omega)
    (tm := spec_l01All_t1) (dec := dec_lil) (enc := enc_lil) (ksIn := [0, 3, 4]) (ksOut := [3]) (ksRet := [2]) (k := k) (step := spec_l01All_w1 k) dec_enc_lil (fun p => by kernel_rfl) (fun s R K => by kernel_rfl) (spec_l01All_step1 k)
def spec_l01All_e (k : Nat) : Ent := (37, callOf [.pvi (some 31) 0 31] dec_l fun (p : (List Int)) R K => (spec_l01All k p).bind fun (b : (List Int)) => K ((fV (.slv 33) (enc_l b)).1, none))
theorem spec_l01All_run (k : Nat) (p : (List Int)) : runF (spec_l01All_C k) Try.f37 false (fL [.pvi (some 31) 0 31] (enc_l p)).1 (resK (.slv 33) dec_l) = spec_l01All k p := by
  kernel_rfl
theorem spec_l01All_ok (k : Nat) : EntOK Try.prog tab mvs (spec_l01All_e k) :=
  fn_ok (C := spec_l01All_C k) tabOK eqTabOK (spec_l01All_es k) rfl follows Try.func37 (by kernel_rfl) (by kernel_rfl) rfl (forall_getD _ 1 (0, Code.skip) (by kernel_rfl) fun i hi => by
      match i, hi with
      | 0, _ => exact spec_l01All_lok1 k
      | n + 1, h => omega)
    dec_enc_l dec_enc_l (spec_l01All_run k)

def spec_l01At_C (k : Nat) : Cfg := ⟨tab, mvs, oraOf [], loOf []⟩
theorem spec_l01At_es (k : Nat) : ∀ e ∈ ([] : List Ent), EntOK Try.prog tab mvs e := by
  intro e he
  simp at he
def spec_l01At_e (k : Nat) : Ent := (46, callOf [.pvi (some 31) 0 31, .agg 33] dec_ll fun (p : (List Int) × (List Int)) R K => (spec_l01At k p.1 p.2).bind fun (b : Int) => K ((fV (.int .i64) (enc_i b)).1, none))
theorem spec_l01At_run (k : Nat) (p : (List Int) × (List Int)) : runF (spec_l01At_C k) Try.f46 false (fL [.pvi (some 31) 0 31, .agg 33] (enc_ll p)).1 (resK (.int .i64) dec_i) = spec_l01At k p.1 p.2 := by
  kernel_rfl
theorem spec_l01At_ok (k : Nat) : EntOK Try.prog tab mvs (spec_l01At_e k) :=
  fn_ok (C := spec_l01At_C k) tabOK eqTabOK (spec_l01At_es k) rfl follows Try.func46 (by kernel_rfl) (by kernel_rfl) rfl (forall_getD _ 0 (0, Code.skip) (by kernel_rfl) fun i hi => by
      omega)
    dec_enc_ll dec_enc_i (spec_l01At_run k)

def spec_l01Open_C (k : Nat) : Cfg := ⟨tab, mvs, oraOf [spec_l01At_e k], loOf []⟩
theorem spec_l01Open_es (k : Nat) : ∀ e ∈ ([spec_l01At_e k] : List Ent), EntOK Try.prog tab mvs e := by
  intro e he
  simp only [List.mem_cons, List.not_mem_nil, or_false] at he
  rcases he with rfl
  · exact spec_l01At_ok k
def spec_l01Open_e (k : Nat) : Ent := (38, callOf [.pvi (some 31) 0 31, .agg 33] dec_ll fun (p : (List Int) × (List Int)) R K => (spec_l01Open k p.1 p.2).bind fun (b : Bool) => K ((fV (.bool) (enc_b b)).1, none))
theorem spec_l01Open_run (k : Nat) (p : (List Int) × (List Int)) : runF (spec_l01Open_C k) Try.f38 false (fL [.pvi (some 31) 0 31, .agg 33] (enc_ll p)).1 (resK (.bool) dec_b) = spec_l01Open k p.1 p.2 := by
  kernel_rfl
theorem spec_l01Open_ok (k : Nat) : EntOK Try.prog tab mvs (spec_l01Open_e k) :=
  fn_ok (C := spec_l01Open_C k) tabOK eqTabOK (spec_l01Open_es k) rfl follows Try.func38 (by kernel_rfl) (by kernel_rfl) rfl (forall_getD _ 0 (0, Code.skip) (by kernel_rfl) fun i hi => by
      omega)
    dec_enc_ll dec_enc_b (spec_l01Open_run k)

def dec_lill (ps : List Pay) : Option ((List Int) × Int × (List Int) × (List Int)) := match ps with
  | [.l x1, .i x2, .l x3, .l x4] => some (x1, x2, x3, x4)
  | _ => none
def enc_lill (p : (List Int) × Int × (List Int) × (List Int)) : List Pay := [.l p.1, .i p.2.1, .l p.2.2.1, .l p.2.2.2]
theorem dec_enc_lill : ∀ (ps : List Pay) (p : (List Int) × Int × (List Int) × (List Int)), dec_lill ps = some p → ps = enc_lill p := by
  intro ps p h
  unfold dec_lill at h
  split at h
  · injection h with h
    subst h
    rfl
  · cases h

def spec_l01Beside_t0 : StTm := ⟨54, [(0, .pvi (some 31) 0 31), (5, .slw 5 33), (6, .slw 6 33), (7, .int .i64)], [(5, 33, false, .ints), (6, 33, false, .ints)]⟩
def spec_l01Beside_t0_1 : StTm := ⟨54, [(6, .slw 6 33)], [(6, 33, false, .ints)]⟩
def spec_l01Beside_w0 (k : Nat) (R : Type) (K : Ex → St → Option R) (rec : (List Int) × Int × (List Int) × (List Int) → Option R) (p : (List Int) × Int × (List Int) × (List Int)) : Option R := spec_l01Beside_s0 k (fun y1 => K (.exit 0) (fSt spec_l01Beside_t0_1 [.l y1])) (fun h1 h2 h3 h4 => rec (h1, h2, h3, h4)) p.1 p.2.1 p.2.2.1 p.2.2.2
def spec_l01Beside_c0 (k : Nat) : Lcall := lcallOf tab spec_l01Beside_t0 dec_lill [0, 5, 6, 7] k (spec_l01Beside_w0 k)
def spec_l01Beside_C (k : Nat) : Cfg := ⟨tab, mvs, oraOf [spec_l01Is_e k], loOf [(0, spec_l01Beside_c0 k)]⟩
theorem spec_l01Beside_es (k : Nat) : ∀ e ∈ ([spec_l01Is_e k] : List Ent), EntOK Try.prog tab mvs e := by
  intro e he
  simp only [List.mem_cons, List.not_mem_nil, or_false] at he
  rcases he with rfl
  · exact spec_l01Is_ok k
theorem spec_l01Beside_step0 (k : Nat) (R : Type) (K : Ex → St → Option R) (g : St → Option R) (p : (List Int) × Int × (List Int) × (List Int)) : evCode (spec_l01Beside_C k) (loopP [0] (0, codeOf Try.f68)).2 (loopP [0] (0, codeOf Try.f68)).1 (fSt spec_l01Beside_t0 (enc_lill p)) (loopK tab [0, 5, 6, 7] [6] [4] g K) = spec_l01Beside_w0 k R K (fun p => g (fSt spec_l01Beside_t0 (enc_lill p))) p := by
  kernel_rfl
theorem spec_l01Beside_lok0 (k : Nat) : LoopOK Try.prog tab (spec_l01Beside_C k).lo (loopP [0] (0, codeOf Try.f68)).1 (loopP [0] (0, codeOf Try.f68)).2 :=
  loopOK_of (C := spec_l01Beside_C k) tabOK eqTabOK (oraOf_ok (spec_l01Beside_es k)) (oraOf_nat (spec_l01Beside_es k)) follows (forall_getD _ 0 (0, Code.skip) (by kernel_rfl) fun i hi => by
      omega)
    (tm := spec_l01Beside_t0) (dec := dec_lill) (enc := enc_lill) (ksIn := [0, 5, 6, 7]) (ksOut := [6]) (ksRet := [4]) (k := k) (step := spec_l01Beside_w0 k) dec_enc_lill (fun p => by kernel_rfl) (fun s R K => by kernel_rfl) (spec_l01Beside_step0 k)
def spec_l01Beside_e (k : Nat) : Ent := (68, callOf [.pvi (some 31) 0 31, .agg 33] dec_ll fun (p : (List Int) × (List Int)) R K => (spec_l01Beside k p.1 p.2).bind fun (b : (List Int)) => K ((fV (.slv 33) (enc_l b)).1, none))
theorem spec_l01Beside_run (k : Nat) (p : (List Int) × (List Int)) : runF (spec_l01Beside_C k) Try.f68 false (fL [.pvi (some 31) 0 31, .agg 33] (enc_ll p)).1 (resK (.slv 33) dec_l) = spec_l01Beside k p.1 p.2 := by
  kernel_rfl
theorem spec_l01Beside_ok (k : Nat) : EntOK Try.prog tab mvs (spec_l01Beside_e k) :=
  fn_ok (C := spec_l01Beside_C k) tabOK eqTabOK (spec_l01Beside_es k) rfl follows Try.func68 (by kernel_rfl) (by kernel_rfl) rfl (forall_getD _ 1 (0, Code.skip) (by kernel_rfl) fun i hi => by
      match i, hi with
      | 0, _ => exact spec_l01Beside_lok0 k
      | n + 1, h => omega)
    dec_enc_ll dec_enc_l (spec_l01Beside_run k)

def dec_lbiilll (ps : List Pay) : Option ((List Int) × Bool × Int × Int × (List Int) × (List Int) × (List Int)) := match ps with
  | [.l x1, .b x2, .i x3, .i x4, .l x5, .l x6, .l x7] => some (x1, x2, x3, x4, x5, x6, x7)
  | _ => none
def enc_lbiilll (p : (List Int) × Bool × Int × Int × (List Int) × (List Int) × (List Int)) : List Pay := [.l p.1, .b p.2.1, .i p.2.2.1, .i p.2.2.2.1, .l p.2.2.2.2.1, .l p.2.2.2.2.2.1, .l p.2.2.2.2.2.2]
theorem dec_enc_lbiilll : ∀ (ps : List Pay) (p : (List Int) × Bool × Int × Int × (List Int) × (List Int) × (List Int)), dec_lbiilll ps = some p → ps = enc_lbiilll p := by
  intro ps p h
  unfold dec_lbiilll at h
  split at h
  · injection h with h
    subst h
    rfl
  · cases h

def dec_lbilll (ps : List Pay) : Option ((List Int) × Bool × Int × (List Int) × (List Int) × (List Int)) := match ps with
  | [.l x1, .b x2, .i x3, .l x4, .l x5, .l x6] => some (x1, x2, x3, x4, x5, x6)
  | _ => none
def enc_lbilll (p : (List Int) × Bool × Int × (List Int) × (List Int) × (List Int)) : List Pay := [.l p.1, .b p.2.1, .i p.2.2.1, .l p.2.2.2.1, .l p.2.2.2.2.1, .l p.2.2.2.2.2]
theorem dec_enc_lbilll : ∀ (ps : List Pay) (p : (List Int) × Bool × Int × (List Int) × (List Int) × (List Int)), dec_lbilll ps = some p → ps = enc_lbilll p := by
  intro ps p h
  unfold dec_lbilll at h
  split at h
  · injection h with h
    subst h
    rfl
  · cases h

def dec_lbiillll (ps : List Pay) : Option ((List Int) × Bool × Int × Int × (List Int) × (List Int) × (List Int) × (List Int)) := match ps with
  | [.l x1, .b x2, .i x3, .i x4, .l x5, .l x6, .l x7, .l x8] => some (x1, x2, x3, x4, x5, x6, x7, x8)
  | _ => none
def enc_lbiillll (p : (List Int) × Bool × Int × Int × (List Int) × (List Int) × (List Int) × (List Int)) : List Pay := [.l p.1, .b p.2.1, .i p.2.2.1, .i p.2.2.2.1, .l p.2.2.2.2.1, .l p.2.2.2.2.2.1, .l p.2.2.2.2.2.2.1, .l p.2.2.2.2.2.2.2]
theorem dec_enc_lbiillll : ∀ (ps : List Pay) (p : (List Int) × Bool × Int × Int × (List Int) × (List Int) × (List Int) × (List Int)), dec_lbiillll ps = some p → ps = enc_lbiillll p := by
  intro ps p h
  unfold dec_lbiillll at h
  split at h
  · injection h with h
    subst h
    rfl
  · cases h

def dec_llb (ps : List Pay) : Option ((List Int) × (List Int) × Bool) := match ps with
  | [.l x1, .l x2, .b x3] => some (x1, x2, x3)
  | _ => none
def enc_llb (p : (List Int) × (List Int) × Bool) : List Pay := [.l p.1, .l p.2.1, .b p.2.2]
theorem dec_enc_llb : ∀ (ps : List Pay) (p : (List Int) × (List Int) × Bool), dec_llb ps = some p → ps = enc_llb p := by
  intro ps p h
  unfold dec_llb at h
  split at h
  · injection h with h
    subst h
    rfl
  · cases h

def spec_l01Reach_t0 : StTm := ⟨122, [(0, .pvi (some 31) 0 31), (2, .bool), (4, .ptr 4 0 33), (6, .ptr 6 0 93), (7, .ptr 7 0 93), (8, .int .i64), (9, .int .i64)], [(4, 33, true, .ints), (6, 93, true, .ints), (7, 93, true, .ints)]⟩
def spec_l01Reach_t0_1 : StTm := ⟨122, [(0, .pvi (some 31) 0 31), (2, .bool), (4, .ptr 4 0 33), (6, .ptr 6 0 93), (7, .ptr 7 0 93), (8, .int .i64)], [(4, 33, true, .ints), (6, 93, true, .ints), (7, 93, true, .ints)]⟩
def spec_l01Reach_w0 (k : Nat) (R : Type) (K : Ex → St → Option R) (rec : (List Int) × Bool × Int × Int × (List Int) × (List Int) × (List Int) → Option R) (p : (List Int) × Bool × Int × Int × (List Int) × (List Int) × (List Int)) : Option R := spec_l01Reach_s0 k (fun y1 y2 y3 y4 y5 y6 => K (.exit 2) (fSt spec_l01Reach_t0_1 [.l y1, .b y2, .i y3, .l y4, .l y5, .l y6])) (fun h1 h2 h3 h4 h5 h6 h7 => rec (h1, h2, h3, h4, h5, h6, h7)) p.1 p.2.1 p.2.2.1 p.2.2.2.1 p.2.2.2.2.1 p.2.2.2.2.2.1 p.2.2.2.2.2.2
def spec_l01Reach_c0 (k : Nat) : Lcall := lcallOf tab spec_l01Reach_t0 dec_lbiilll [0, 2, 4, 6, 7, 8, 9] k (spec_l01Reach_w0 k)
def spec_l01Reach_t1 : StTm := ⟨122, [(0, .pvi (some 31) 0 31), (2, .bool), (4, .ptr 4 0 33), (6, .ptr 6 0 93), (7, .ptr 7 0 93), (8, .int .i64)], [(4, 33, true, .ints), (6, 93, true, .ints), (7, 93, true, .ints)]⟩
def spec_l01Reach_t1_1 : StTm := ⟨122, [(0, .pvi (some 31) 0 31), (2, .bool), (4, .ptr 4 0 33), (6, .ptr 6 0 93), (7, .ptr 7 0 93)], [(4, 33, true, .ints), (6, 93, true, .ints), (7, 93, true, .ints)]⟩
def spec_l01Reach_w1 (k : Nat) (R : Type) (K : Ex → St → Option R) (rec : (List Int) × Bool × Int × (List Int) × (List Int) × (List Int) → Option R) (p : (List Int) × Bool × Int × (List Int) × (List Int) × (List Int)) : Option R := spec_l01Reach_s1 k (fun y1 y2 y3 y4 y5 => K (.exit 0) (fSt spec_l01Reach_t1_1 [.l y1, .b y2, .l y3, .l y4, .l y5])) (fun h1 h2 h3 h4 h5 h6 => rec (h1, h2, h3, h4, h5, h6)) p.1 p.2.1 p.2.2.1 p.2.2.2.1 p.2.2.2.2.1 p.2.2.2.2.2
def spec_l01Reach_c1 (k : Nat) : Lcall := lcallOf tab spec_l01Reach_t1 dec_lbilll [0, 2, 4, 6, 7, 8] k (spec_l01Reach_w1 k)
def spec_l01Reach_t2 : StTm := ⟨122, [(0, .pvi (some 31) 0 31), (2, .bool), (6, .ptr 6 0 93), (7, .ptr 7 0 93), (10, .slw 10 33), (11, .int .i64), (12, .slw 12 33), (13, .int .i64)], [(6, 93, true, .ints), (7, 93, true, .ints), (10, 33, false, .ints), (12, 33, false, .ints)]⟩
def spec_l01Reach_t2_1 : StTm := ⟨122, [(0, .pvi (some 31) 0 31), (2, .bool), (6, .ptr 6 0 93), (7, .ptr 7 0 93), (10, .slw 10 33), (11, .int .i64)], [(6, 93, true, .ints), (7, 93, true, .ints), (10, 33, false, .ints)]⟩
def spec_l01Reach_w2 (k : Nat) (R : Type) (K : Ex → St → Option R) (rec : (List Int) × Bool × Int × Int × (List Int) × (List Int) × (List Int) × (List Int) → Option R) (p : (List Int) × Bool × Int × Int × (List Int) × (List Int) × (List Int) × (List Int)) : Option R := spec_l01Reach_s2 k (fun y1 y2 y3 y4 y5 y6 => K (.exit 6) (fSt spec_l01Reach_t2_1 [.l y1, .b y2, .i y3, .l y4, .l y5, .l y6])) (fun h1 h2 h3 h4 h5 h6 h7 h8 => rec (h1, h2, h3, h4, h5, h6, h7, h8)) p.1 p.2.1 p.2.2.1 p.2.2.2.1 p.2.2.2.2.1 p.2.2.2.2.2.1 p.2.2.2.2.2.2.1 p.2.2.2.2.2.2.2
def spec_l01Reach_c2 (k : Nat) : Lcall := lcallOf tab spec_l01Reach_t2 dec_lbiillll [0, 2, 6, 7, 10, 11, 12, 13] k (spec_l01Reach_w2 k)
def spec_l01Reach_t3 : StTm := ⟨122, [(0, .pvi (some 31) 0 31), (2, .bool), (6, .ptr 6 0 93), (7, .ptr 7 0 93), (10, .slw 10 33), (11, .int .i64)], [(6, 93, true, .ints), (7, 93, true, .ints), (10, 33, false, .ints)]⟩
def spec_l01Reach_t3_1 : StTm := ⟨122, [(6, .ptr 6 0 93), (7, .ptr 7 0 93)], [(6, 93, true, .ints), (7, 93, true, .ints)]⟩
def spec_l01Reach_w3 (k : Nat) (R : Type) (K : Ex → St → Option R) (rec : (List Int) × Bool × Int × (List Int) × (List Int) × (List Int) → Option R) (p : (List Int) × Bool × Int × (List Int) × (List Int) × (List Int)) : Option R := spec_l01Reach_s3 k (fun y1 y2 => K (.exit 4) (fSt spec_l01Reach_t3_1 [.l y1, .l y2])) (fun h1 h2 h3 h4 h5 h6 => rec (h1, h2, h3, h4, h5, h6)) p.1 p.2.1 p.2.2.1 p.2.2.2.1 p.2.2.2.2.1 p.2.2.2.2.2
def spec_l01Reach_c3 (k : Nat) : Lcall := lcallOf tab spec_l01Reach_t3 dec_lbilll [0, 2, 6, 7, 10, 11] k (spec_l01Reach_w3 k)
def spec_l01Reach_C (k : Nat) : Cfg := ⟨tab, mvs, oraOf [spec_l01Beside_e k, spec_l01Open_e k, spec_l01At_e k], loOf [(2, spec_l01Reach_c0 k), (0, spec_l01Reach_c1 k), (6, spec_l01Reach_c2 k), (4, spec_l01Reach_c3 k)]⟩
theorem spec_l01Reach_es (k : Nat) : ∀ e ∈ ([spec_l01Beside_e k, spec_l01Open_e k, spec_l01At_e k] : List Ent), EntOK Try.prog tab mvs e := by
  intro e he
  simp only [List.mem_cons, List.not_mem_nil, or_false] at he
  rcases he with rfl | rfl | rfl
  · exact spec_l01Beside_ok k
  · exact spec_l01Open_ok k
  · exact spec_l01At_ok k
theorem spec_l01Reach_step0 (k : Nat) (R : Type) (K : Ex → St → Option R) (g : St → Option R) (p : (List Int) × Bool × Int × Int × (List Int) × (List Int) × (List Int)) : evCode (spec_l01Reach_C k) (loopP [0, 0] (0, codeOf Try.f52)).2 (loopP [0, 0] (0, codeOf Try.f52)).1 (fSt spec_l01Reach_t0 (enc_lbiilll p)) (loopK tab [0, 2, 4, 6, 7, 8, 9] [0, 2, 4, 6, 7, 8] [6] g K) = spec_l01Reach_w0 k R K (fun p => g (fSt spec_l01Reach_t0 (enc_lbiilll p))) p := by
  kernel_rfl
theorem spec_l01Reach_lok0 (k : Nat) : LoopOK Try.prog tab (spec_l01Reach_C k).lo (loopP [0, 0] (0, codeOf Try.f52)).1 (loopP [0, 0] (0, codeOf Try.f52)).2 :=
  loopOK_of (C := spec_l01Reach_C k) tabOK eqTabOK (oraOf_ok (spec_l01Reach_es k)) (oraOf_nat (spec_l01Reach_es k)) follows (forall_getD _ 0 (0, Code.skip) (by kernel_rfl) fun i hi => by
      omega)
    (tm := spec_l01Reach_t0) (dec := dec_lbiilll) (enc := enc_lbiilll) (ksIn := [0, 2, 4, 6, 7, 8, 9]) (ksOut := [0, 2, 4, 6, 7, 8]) (ksRet := [6]) (k := k) (step := spec_l01Reach_w0 k) dec_enc_lbiilll (fun p => by kernel_rfl) (fun s R K => by kernel_rfl) (spec_l01Reach_step0 k)
theorem spec_l01Reach_step1 (k : Nat) (R : Type) (K : Ex → St → Option R) (g : St → Option R) (p : (List Int) × Bool × Int × (List Int) × (List Int) × (List Int)) : evCode (spec_l01Reach_C k) (loopP [0] (0, codeOf Try.f52)).2 (loopP [0] (0, codeOf Try.f52)).1 (fSt spec_l01Reach_t1 (enc_lbilll p)) (loopK tab [0, 2, 4, 6, 7, 8] [0, 2, 4, 6, 7] [6] g K) = spec_l01Reach_w1 k R K (fun p => g (fSt spec_l01Reach_t1 (enc_lbilll p))) p := by
  kernel_rfl
theorem spec_l01Reach_lok1 (k : Nat) : LoopOK Try.prog tab (spec_l01Reach_C k).lo (loopP [0] (0, codeOf Try.f52)).1 (loopP [0] (0, codeOf Try.f52)).2 :=
  loopOK_of (C := spec_l01Reach_C k) tabOK eqTabOK (oraOf_ok (spec_l01Reach_es k)) (oraOf_nat (spec_l01Reach_es k)) follows (forall_getD _ 1 (0, Code.skip) (by kernel_rfl) fun i hi => by
      match i, hi with
      | 0, _ => exact spec_l01Reach_lok0 k
      | n + 1, h => omega)
    (tm := spec_l01Reach_t1) (dec := dec_lbilll) (enc := enc_lbilll) (ksIn := [0, 2, 4, 6, 7, 8]) (ksOut := [0, 2, 4, 6, 7]) (ksRet := [6]) (k := k) (step := spec_l01Reach_w1 k) dec_enc_lbilll (fun p => by kernel_rfl) (fun s R K => by kernel_rfl) (spec_l01Reach_step1 k)
theorem spec_l01Reach_step2 (k : Nat) (R : Type) (K : Ex → St → Option R) (g : St → Option R) (p : (List Int) × Bool × Int × Int × (List Int) × (List Int) × (List Int) × (List Int)) : evCode (spec_l01Reach_C k) (loopP [1, 0] (0, codeOf Try.f52)).2 (loopP [1, 0] (0, codeOf Try.f52)).1 (fSt spec_l01Reach_t2 (enc_lbiillll p)) (loopK tab [0, 2, 6, 7, 10, 11, 12, 13] [0, 2, 6, 7, 10, 11] [6] g K) = spec_l01Reach_w2 k R K (fun p => g (fSt spec_l01Reach_t2 (enc_lbiillll p))) p := by
  kernel_rfl
theorem spec_l01Reach_lok2 (k : Nat) : LoopOK Try.prog tab (spec_l01Reach_C k).lo (loopP [1, 0] (0, codeOf Try.f52)).1 (loopP [1, 0] (0, codeOf Try.f52)).2 :=
  loopOK_of (C := spec_l01Reach_C k) tabOK eqTabOK (oraOf_ok (spec_l01Reach_es k)) (oraOf_nat (spec_l01Reach_es k)) follows (forall_getD _ 0 (0, Code.skip) (by kernel_rfl) fun i hi => by
      omega)
    (tm := spec_l01Reach_t2) (dec := dec_lbiillll) (enc := enc_lbiillll) (ksIn := [0, 2, 6, 7, 10, 11, 12, 13]) (ksOut := [0, 2, 6, 7, 10, 11]) (ksRet := [6]) (k := k) (step := spec_l01Reach_w2 k) dec_enc_lbiillll (fun p => by kernel_rfl) (fun s R K => by kernel_rfl) (spec_l01Reach_step2 k)
theorem spec_l01Reach_step3 (k : Nat) (R : Type) (K : Ex → St → Option R) (g : St → Option R) (p : (List Int) × Bool × Int × (List Int) × (List Int) × (List Int)) : evCode (spec_l01Reach_C k) (loopP [1] (0, codeOf Try.f52)).2 (loopP [1] (0, codeOf Try.f52)).1 (fSt spec_l01Reach_t3 (enc_lbilll p)) (loopK tab [0, 2, 6, 7, 10, 11] [6, 7] [6] g K) = spec_l01Reach_w3 k R K (fun p => g (fSt spec_l01Reach_t3 (enc_lbilll p))) p := by
  kernel_rfl
theorem spec_l01Reach_lok3 (k : Nat) : LoopOK Try.prog tab (spec_l01Reach_C k).lo (loopP [1] (0, codeOf Try.f52)).1 (loopP [1] (0, codeOf Try.f52)).2 :=
  loopOK_of (C := spec_l01Reach_C k) tabOK eqTabOK (oraOf_ok (spec_l01Reach_es k)) (oraOf_nat (spec_l01Reach_es k)) follows (forall_getD _ 1 (0, Code.skip) (by kernel_rfl) fun i hi => by
      match i, hi with
      | 0, _ => exact spec_l01Reach_lok2 k
      | n + 1, h => omega)
    (tm := spec_l01Reach_t3) (dec := dec_lbilll) (enc := enc_lbilll) (ksIn := [0, 2, 6, 7, 10, 11]) (ksOut := [6, 7]) (ksRet := [6]) (k := k) (step := spec_l01Reach_w3 k) dec_enc_lbilll (fun p => by kernel_rfl) (fun s R K => by kernel_rfl) (spec_l01Reach_step3 k)
def spec_l01Reach_e (k : Nat) : Ent := (52, callOf [.pvi (some 31) 0 31, .agg 33, .bool] dec_llb fun (p : (List Int) × (List Int) × Bool) R K => (spec_l01Reach k p.1 p.2.1 p.2.2).bind fun (b : (List Int)) => K ((fV (.agg 93) (enc_l b)).1, none))
theorem spec_l01Reach_run (k : Nat) (p : (List Int) × (List Int) × Bool) : runF (spec_l01Reach_C k) Try.f52 false (fL [.pvi (some 31) 0 31, .agg 33, .bool] (enc_llb p)).1 (resK (.agg 93) dec_l) = spec_l01Reach k p.1 p.2.1 p.2.2 := by
  kernel_rfl
theorem spec_l01Reach_ok (k : Nat) : EntOK Try.prog tab mvs (spec_l01Reach_e k) :=
  fn_ok (C := spec_l01Reach_C k) tabOK eqTabOK (spec_l01Reach_es k) rfl follows Try.func52 (by kernel_rfl) (by kernel_rfl) rfl (forall_getD _ 2 (0, Code.skip) (by kernel_rfl) fun i hi => by
      match i, hi with
      | 0, _ => exact spec_l01Reach_lok1 k
      | 1, _ => exact spec_l01Reach_lok3 k
      | n + 2, h => omega)
    dec_enc_llb dec_enc_l (spec_l01Reach_run k)

def dec_liill (ps : List Pay) : Option ((List Int) × Int × Int × (List Int) × (List Int)) := match ps with
  | [.l x1, .i x2, .i x3, .l x4, .l x5] => some (x1, x2, x3, x4, x5)
  | _ => none
def enc_liill (p : (List Int) × Int × Int × (List Int) × (List Int)) : List Pay := [.l p.1, .i p.2.1, .i p.2.2.1, .l p.2.2.2.1, .l p.2.2.2.2]
theorem dec_enc_liill : ∀ (ps : List Pay) (p : (List Int) × Int × Int × (List Int) × (List Int)), dec_liill ps = some p → ps = enc_liill p := by
  intro ps p h
  unfold dec_liill at h
  split at h
  · injection h with h
    subst h
    rfl
  · cases h

def spec_l01Cells_t0 : StTm := ⟨33, [(0, .pvi (some 31) 0 31), (1, .int .i64), (5, .slw 5 33), (6, .slw 6 33), (7, .int .i64)], [(5, 33, false, .ints), (6, 33, false, .ints)]⟩
def spec_l01Cells_t0_1 : StTm := ⟨33, [(5, .slw 5 33)], [(5, 33, false, .ints)]⟩
def spec_l01Cells_w0 (k : Nat) (R : Type) (K : Ex → St → Option R) (rec : (List Int) × Int × Int × (List Int) × (List Int) → Option R) (p : (List Int) × Int × Int × (List Int) × (List Int)) : Option R := spec_l01Cells_s0 k (fun y1 => K (.exit 0) (fSt spec_l01Cells_t0_1 [.l y1])) (fun h1 h2 h3 h4 h5 => rec (h1, h2, h3, h4, h5)) p.1 p.2.1 p.2.2.1 p.2.2.2.1 p.2.2.2.2
def spec_l01Cells_c0 (k : Nat) : Lcall := lcallOf tab spec_l01Cells_t0 dec_liill [0, 1, 5, 6, 7] k (spec_l01Cells_w0 k)
def spec_l01Cells_C (k : Nat) : Cfg := ⟨tab, mvs, oraOf [spec_l01All_e k, spec_l01At_e k], loOf [(0, spec_l01Cells_c0 k)]⟩
theorem spec_l01Cells_es (k : Nat) : ∀ e ∈ ([spec_l01All_e k, spec_l01At_e k] : List Ent), EntOK Try.prog tab mvs e := by
  intro e he
  simp only [List.mem_cons, List.not_mem_nil, or_false] at he
  rcases he with rfl | rfl
  · exact spec_l01All_ok k
  · exact spec_l01At_ok k
theorem spec_l01Cells_step0 (k : Nat) (R : Type) (K : Ex → St → Option R) (g : St → Option R) (p : (List Int) × Int × Int × (List Int) × (List Int)) : evCode (spec_l01Cells_C k) (loopP [0] (0, codeOf Try.f19)).2 (loopP [0] (0, codeOf Try.f19)).1 (fSt spec_l01Cells_t0 (enc_liill p)) (loopK tab [0, 1, 5, 6, 7] [5] [4] g K) = spec_l01Cells_w0 k R K (fun p => g (fSt spec_l01Cells_t0 (enc_liill p))) p := by
  kernel_rfl
theorem spec_l01Cells_lok0 (k : Nat) : LoopOK Try.prog tab (spec_l01Cells_C k).lo (loopP [0] (0, codeOf Try.f19)).1 (loopP [0] (0, codeOf Try.f19)).2 :=
  loopOK_of (C := spec_l01Cells_C k) tabOK eqTabOK (oraOf_ok (spec_l01Cells_es k)) (oraOf_nat (spec_l01Cells_es k)) follows (forall_getD _ 0 (0, Code.skip) (by kernel_rfl) fun i hi => by
      omega)
    (tm := spec_l01Cells_t0) (dec := dec_liill) (enc := enc_liill) (ksIn := [0, 1, 5, 6, 7]) (ksOut := [5]) (ksRet := [4]) (k := k) (step := spec_l01Cells_w0 k) dec_enc_liill (fun p => by kernel_rfl) (fun s R K => by kernel_rfl) (spec_l01Cells_step0 k)
def spec_l01Cells_e (k : Nat) : Ent := (19, callOf [.pvi (some 31) 0 31, .int .i64] dec_li fun (p : (List Int) × Int) R K => (spec_l01Cells k p.1 p.2).bind fun (b : (List Int)) => K ((fV (.slv 33) (enc_l b)).1, none))
theorem spec_l01Cells_run (k : Nat) (p : (List Int) × Int) : runF (spec_l01Cells_C k) Try.f19 false (fL [.pvi (some 31) 0 31, .int .i64] (enc_li p)).1 (resK (.slv 33) dec_l) = spec_l01Cells k p.1 p.2 := by
  kernel_rfl
theorem spec_l01Cells_ok (k : Nat) : EntOK Try.prog tab mvs (spec_l01Cells_e k) :=
  fn_ok (C := spec_l01Cells_C k) tabOK eqTabOK (spec_l01Cells_es k) rfl follows Try.func19 (by kernel_rfl) (by kernel_rfl) rfl (forall_getD _ 1 (0, Code.skip) (by kernel_rfl) fun i hi => by
      match i, hi with
      | 0, _ => exact spec_l01Cells_lok0 k
      | n + 1, h => omega)
    dec_enc_li dec_enc_l (spec_l01Cells_run k)

def dec_ii (ps : List Pay) : Option (Int × Int) := match ps with
  | [.i x1, .i x2] => some (x1, x2)
  | _ => none
def enc_ii (p : Int × Int) : List Pay := [.i p.1, .i p.2]
theorem dec_enc_ii : ∀ (ps : List Pay) (p : Int × Int), dec_ii ps = some p → ps = enc_ii p := by
  intro ps p h
  unfold dec_ii at h
  split at h
  · injection h with h
    subst h
    rfl
  · cases h

def spec_l00Max_C (k : Nat) : Cfg := ⟨tab, mvs, oraOf [], loOf []⟩
theorem spec_l00Max_es (k : Nat) : ∀ e ∈ ([] : List Ent), EntOK Try.prog tab mvs e := by
  intro e he
  simp at he
def spec_l00Max_e (k : Nat) : Ent := (58, callOf [.int .i64, .int .i64] dec_ii fun (p : Int × Int) R K => (spec_l00Max k p.1 p.2).bind fun (b : Int) => K ((fV (.int .i64) (enc_i b)).1, none))
theorem spec_l00Max_run (k : Nat) (p : Int × Int) : runF (spec_l00Max_C k) Try.f58 false (fL [.int .i64, .int .i64] (enc_ii p)).1 (resK (.int .i64) dec_i) = spec_l00Max k p.1 p.2 := by
  kernel_rfl
theorem spec_l00Max_ok (k : Nat) : EntOK Try.prog tab mvs (spec_l00Max_e k) :=
  fn_ok (C := spec_l00Max_C k) tabOK eqTabOK (spec_l00Max_es k) rfl follows Try.func58 (by kernel_rfl) (by kernel_rfl) rfl (forall_getD _ 0 (0, Code.skip) (by kernel_rfl) fun i hi => by
      omega)
    dec_enc_ii dec_enc_i (spec_l00Max_run k)

def dec_ibill (ps : List Pay) : Option (Int × Bool × Int × (List Int) × (List Int)) := match ps with
  | [.i x1, .b x2, .i x3, .l x4, .l x5] => some (x1, x2, x3, x4, x5)
  | _ => none
def enc_ibill (p : Int × Bool × Int × (List Int) × (List Int)) : List Pay := [.i p.1, .b p.2.1, .i p.2.2.1, .l p.2.2.2.1, .l p.2.2.2.2]
theorem dec_enc_ibill : ∀ (ps : List Pay) (p : Int × Bool × Int × (List Int) × (List Int)), dec_ibill ps = some p → ps = enc_ibill p := by
  intro ps p h
  unfold dec_ibill at h
  split at h
  · injection h with h
    subst h
    rfl
  · cases h

def dec_ib (ps : List Pay) : Option (Int × Bool) := match ps with
  | [.i x1, .b x2] => some (x1, x2)
  | _ => none
def enc_ib (p : Int × Bool) : List Pay := [.i p.1, .b p.2]
theorem dec_enc_ib : ∀ (ps : List Pay) (p : Int × Bool), dec_ib ps = some p → ps = enc_ib p := by
  intro ps p h
  unfold dec_ib at h
  split at h
  · injection h with h
    subst h
    rfl
  · cases h

def spec_l04Least_t0 : StTm := ⟨47, [(6, .ptr 6 0 93), (7, .slw 7 33), (8, .int .i64), (9, .bool), (10, .int .i64)], [(6, 93, true, .ints), (7, 33, false, .ints)]⟩
def spec_l04Least_t0_1 : StTm := ⟨47, [(8, .int .i64), (9, .bool)], []⟩
def spec_l04Least_w0 (k : Nat) (R : Type) (K : Ex → St → Option R) (rec : Int × Bool × Int × (List Int) × (List Int) → Option R) (p : Int × Bool × Int × (List Int) × (List Int)) : Option R := spec_l04Least_s0 k (fun y1 y2 => K (.exit 0) (fSt spec_l04Least_t0_1 [.i y1, .b y2])) (fun h1 h2 h3 h4 h5 => rec (h1, h2, h3, h4, h5)) p.1 p.2.1 p.2.2.1 p.2.2.2.1 p.2.2.2.2
def spec_l04Least_c0 (k : Nat) : Lcall := lcallOf tab spec_l04Least_t0 dec_ibill [6, 7, 8, 9, 10] k (spec_l04Least_w0 k)
def spec_l04Least_C (k : Nat) : Cfg := ⟨tab, mvs, oraOf [spec_l01Reach_e k, spec_l01Cells_e k, spec_l00Max_e k], loOf [(0, spec_l04Least_c0 k)]⟩
theorem spec_l04Least_es (k : Nat) : ∀ e ∈ ([spec_l01Reach_e k, spec_l01Cells_e k, spec_l00Max_e k] : List Ent), EntOK Try.prog tab mvs e := by
  intro e he
  simp only [List.mem_cons, List.not_mem_nil, or_false] at he
  rcases he with rfl | rfl | rfl
  · exact spec_l01Reach_ok k
  · exact spec_l01Cells_ok k
  · exact spec_l00Max_ok k
theorem spec_l04Least_step0 (k : Nat) (R : Type) (K : Ex → St → Option R) (g : St → Option R) (p : Int × Bool × Int × (List Int) × (List Int)) : evCode (spec_l04Least_C k) (loopP [0] (0, codeOf Try.f39)).2 (loopP [0] (0, codeOf Try.f39)).1 (fSt spec_l04Least_t0 (enc_ibill p)) (loopK tab [6, 7, 8, 9, 10] [8, 9] [4, 5] g K) = spec_l04Least_w0 k R K (fun p => g (fSt spec_l04Least_t0 (enc_ibill p))) p := by
  kernel_rfl
theorem spec_l04Least_lok0 (k : Nat) : LoopOK Try.prog tab (spec_l04Least_C k).lo (loopP [0] (0, codeOf Try.f39)).1 (loopP [0] (0, codeOf Try.f39)).2 :=
  loopOK_of (C := spec_l04Least_C k) tabOK eqTabOK (oraOf_ok (spec_l04Least_es k)) (oraOf_nat (spec_l04Least_es k)) follows (forall_getD _ 0 (0, Code.skip) (by kernel_rfl) fun i hi => by
      omega)
    (tm := spec_l04Least_t0) (dec := dec_ibill) (enc := enc_ibill) (ksIn := [6, 7, 8, 9, 10]) (ksOut := [8, 9]) (ksRet := [4, 5]) (k := k) (step := spec_l04Least_w0 k) dec_enc_ibill (fun p => by kernel_rfl) (fun s R K => by kernel_rfl) (spec_l04Least_step0 k)
def spec_l04Least_e (k : Nat) : Ent := (39, callOf [.pvi (some 31) 0 31, .agg 33] dec_ll fun (p : (List Int) × (List Int)) R K => (spec_l04Least k p.1 p.2).bind fun (b : Int × Bool) => K ((fV (.tup [.int .i64, .bool]) (enc_ib b)).1, none))
theorem spec_l04Least_run (k : Nat) (p : (List Int) × (List Int)) : runF (spec_l04Least_C k) Try.f39 false (fL [.pvi (some 31) 0 31, .agg 33] (enc_ll p)).1 (resK (.tup [.int .i64, .bool]) dec_ib) = spec_l04Least k p.1 p.2 := by
  kernel_rfl
theorem spec_l04Least_ok (k : Nat) : EntOK Try.prog tab mvs (spec_l04Least_e k) :=
  fn_ok (C := spec_l04Least_C k) tabOK eqTabOK (spec_l04Least_es k) rfl follows Try.func39 (by kernel_rfl) (by kernel_rfl) rfl (forall_getD _ 1 (0, Code.skip) (by kernel_rfl) fun i hi => by
      match i, hi with
      | 0, _ => exact spec_l04Least_lok0 k
      | n + 1, h => omega)
    dec_enc_ll dec_enc_ib (spec_l04Least_run k)

def dec_iillll (ps : List Pay) : Option (Int × Int × (List Int) × (List Int) × (List Int) × (List Int)) := match ps with
  | [.i x1, .i x2, .l x3, .l x4, .l x5, .l x6] => some (x1, x2, x3, x4, x5, x6)
  | _ => none
def enc_iillll (p : Int × Int × (List Int) × (List Int) × (List Int) × (List Int)) : List Pay := [.i p.1, .i p.2.1, .l p.2.2.1, .l p.2.2.2.1, .l p.2.2.2.2.1, .l p.2.2.2.2.2]
theorem dec_enc_iillll : ∀ (ps : List Pay) (p : Int × Int × (List Int) × (List Int) × (List Int) × (List Int)), dec_iillll ps = some p → ps = enc_iillll p := by
  intro ps p h
  unfold dec_iillll at h
  split at h
  · injection h with h
    subst h
    rfl
  · cases h

def spec_BestHome_t0 : StTm := ⟨56, [(1, .ptr 1 0 31), (2, .ptr 2 0 33), (5, .ptr 5 0 33), (6, .int .i64), (7, .slw 7 33), (8, .int .i64)], [(1, 31, true, .ints), (2, 33, true, .ints), (5, 33, true, .ints), (7, 33, false, .ints)]⟩
def spec_BestHome_t0_1 : StTm := ⟨56, [(2, .ptr 2 0 33), (5, .ptr 5 0 33), (6, .int .i64)], [(2, 33, true, .ints), (5, 33, true, .ints)]⟩
def spec_BestHome_w0 (k : Nat) (R : Type) (K : Ex → St → Option R) (rec : Int × Int × (List Int) × (List Int) × (List Int) × (List Int) → Option R) (p : Int × Int × (List Int) × (List Int) × (List Int) × (List Int)) : Option R := spec_BestHome_s0 k (fun y1 y2 y3 => K (.exit 0) (fSt spec_BestHome_t0_1 [.i y1, .l y2, .l y3])) (fun h1 h2 h3 h4 h5 h6 => rec (h1, h2, h3, h4, h5, h6)) p.1 p.2.1 p.2.2.1 p.2.2.2.1 p.2.2.2.2.1 p.2.2.2.2.2
def spec_BestHome_c0 (k : Nat) : Lcall := lcallOf tab spec_BestHome_t0 dec_iillll [1, 2, 5, 6, 7, 8] k (spec_BestHome_w0 k)
def spec_BestHome_C (k : Nat) : Cfg := ⟨tab, mvs, oraOf [spec_l01Ok_e k, spec_l01All_e k, spec_l01Open_e k, spec_l04Least_e k], loOf [(0, spec_BestHome_c0 k)]⟩
theorem spec_BestHome_es (k : Nat) : ∀ e ∈ ([spec_l01Ok_e k, spec_l01All_e k, spec_l01Open_e k, spec_l04Least_e k] : List Ent), EntOK Try.prog tab mvs e := by
  intro e he
  simp only [List.mem_cons, List.not_mem_nil, or_false] at he
  rcases he with rfl | rfl | rfl | rfl
  · exact spec_l01Ok_ok k
  · exact spec_l01All_ok k
  · exact spec_l01Open_ok k
  · exact spec_l04Least_ok k
theorem spec_BestHome_step0 (k : Nat) (R : Type) (K : Ex → St → Option R) (g : St → Option R) (p : Int × Int × (List Int) × (List Int) × (List Int) × (List Int)) : evCode (spec_BestHome_C k) (loopP [0] (0, codeOf Try.f15)).2 (loopP [0] (0, codeOf Try.f15)).1 (fSt spec_BestHome_t0 (enc_iillll p)) (loopK tab [1, 2, 5, 6, 7, 8] [2, 5, 6] [2, 3, 4] g K) = spec_BestHome_w0 k R K (fun p => g (fSt spec_BestHome_t0 (enc_iillll p))) p := by
  kernel_rfl
theorem spec_BestHome_lok0 (k : Nat) : LoopOK Try.prog tab (spec_BestHome_C k).lo (loopP [0] (0, codeOf Try.f15)).1 (loopP [0] (0, codeOf Try.f15)).2 :=
  loopOK_of (C := spec_BestHome_C k) tabOK eqTabOK (oraOf_ok (spec_BestHome_es k)) (oraOf_nat (spec_BestHome_es k)) follows (forall_getD _ 0 (0, Code.skip) (by kernel_rfl) fun i hi => by
      omega)
    (tm := spec_BestHome_t0) (dec := dec_iillll) (enc := enc_iillll) (ksIn := [1, 2, 5, 6, 7, 8]) (ksOut := [2, 5, 6]) (ksRet := [2, 3, 4]) (k := k) (step := spec_BestHome_w0 k) dec_enc_iillll (fun p => by kernel_rfl) (fun s R K => by kernel_rfl) (spec_BestHome_step0 k)
def spec_BestHome_e (k : Nat) : Ent := (15, callOf [.agg 31] dec_l fun (p : (List Int)) R K => (spec_BestHome k p).bind fun (b : (List Int) × Int × Int) => K ((fV (.tup [.agg 33, .int .i64, .int .i64]) (enc_lii b)).1, none))
theorem spec_BestHome_run (k : Nat) (p : (List Int)) : runF (spec_BestHome_C k) Try.f15 false (fL [.agg 31] (enc_l p)).1 (resK (.tup [.agg 33, .int .i64, .int .i64]) dec_lii) = spec_BestHome k p := by
  kernel_rfl
theorem spec_BestHome_ok (k : Nat) : EntOK Try.prog tab mvs (spec_BestHome_e k) :=
  fn_ok (C := spec_BestHome_C k) tabOK eqTabOK (spec_BestHome_es k) rfl follows Try.func15 (by kernel_rfl) (by kernel_rfl) rfl (forall_getD _ 1 (0, Code.skip) (by kernel_rfl) fun i hi => by
      match i, hi with
      | 0, _ => exact spec_BestHome_lok0 k
      | n + 1, h => omega)
    dec_enc_l dec_enc_lii (spec_BestHome_run k)

def impl_within_C (k : Nat) : Cfg := ⟨tab, mvs, oraOf [], loOf []⟩
theorem impl_within_es (k : Nat) : ∀ e ∈ ([] : List Ent), EntOK Try.prog tab mvs e := by
  intro e he
  simp at he
def impl_within_e (k : Nat) : Ent := (59, callOf [.int .i64, .int .i64, .int .i64] dec_iii fun (p : Int × Int × Int) R K => (impl_within k p.1 p.2.1 p.2.2).bind fun (b : Bool) => K ((fV (.bool) (enc_b b)).1, none))
theorem impl_within_run (k : Nat) (p : Int × Int × Int) : runF (impl_within_C k) Try.f59 false (fL [.int .i64, .int .i64, .int .i64] (enc_iii p)).1 (resK (.bool) dec_b) = impl_within k p.1 p.2.1 p.2.2 := by
  kernel_rfl
theorem impl_within_ok (k : Nat) : EntOK Try.prog tab mvs (impl_within_e k) :=
  fn_ok (C := impl_within_C k) tabOK eqTabOK (impl_within_es k) rfl follows Try.func59 (by kernel_rfl) (by kernel_rfl) rfl (forall_getD _ 0 (0, Code.skip) (by kernel_rfl) fun i hi => by
      omega)
    dec_enc_iii dec_enc_b (impl_within_run k)

def impl_Lawn_has_C (k : Nat) : Cfg := ⟨tab, mvs, oraOf [], loOf []⟩
theorem impl_Lawn_has_es (k : Nat) : ∀ e ∈ ([] : List Ent), EntOK Try.prog tab mvs e := by
  intro e he
  simp at he
def impl_Lawn_has_e (k : Nat) : Ent := (55, callOf [.agg 31, .agg 33] dec_ll fun (p : (List Int) × (List Int)) R K => (impl_Lawn_has k p.1 p.2).bind fun (b : Bool) => K ((fV (.bool) (enc_b b)).1, none))
theorem impl_Lawn_has_run (k : Nat) (p : (List Int) × (List Int)) : runF (impl_Lawn_has_C k) Try.f55 false (fL [.agg 31, .agg 33] (enc_ll p)).1 (resK (.bool) dec_b) = impl_Lawn_has k p.1 p.2 := by
  kernel_rfl
theorem impl_Lawn_has_ok (k : Nat) : EntOK Try.prog tab mvs (impl_Lawn_has_e k) :=
  fn_ok (C := impl_Lawn_has_C k) tabOK eqTabOK (impl_Lawn_has_es k) rfl follows Try.func55 (by kernel_rfl) (by kernel_rfl) rfl (forall_getD _ 0 (0, Code.skip) (by kernel_rfl) fun i hi => by
      omega)
    dec_enc_ll dec_enc_b (impl_Lawn_has_run k)

def dec_iiil (ps : List Pay) : Option (Int × Int × Int × (List Int)) := match ps with
  | [.i x1, .i x2, .i x3, .l x4] => some (x1, x2, x3, x4)
  | _ => none
def enc_iiil (p : Int × Int × Int × (List Int)) : List Pay := [.i p.1, .i p.2.1, .i p.2.2.1, .l p.2.2.2]
theorem dec_enc_iiil : ∀ (ps : List Pay) (p : Int × Int × Int × (List Int)), dec_iiil ps = some p → ps = enc_iiil p := by
  intro ps p h
  unfold dec_iiil at h
  split at h
  · injection h with h
    subst h
    rfl
  · cases h

def dec_il (ps : List Pay) : Option (Int × (List Int)) := match ps with
  | [.i x1, .l x2] => some (x1, x2)
  | _ => none
def enc_il (p : Int × (List Int)) : List Pay := [.i p.1, .l p.2]
theorem dec_enc_il : ∀ (ps : List Pay) (p : Int × (List Int)), dec_il ps = some p → ps = enc_il p := by
  intro ps p h
  unfold dec_il at h
  split at h
  · injection h with h
    subst h
    rfl
  · cases h

def impl_ValidLawn_t0 : StTm := ⟨46, [(1, .ptr 1 0 31), (3, .int .i8), (18, .int .i8), (21, .int .i8)], [(1, 31, true, .ints)]⟩
def impl_ValidLawn_t0_1 : StTm := ⟨46, [(2, .bool)], []⟩
def impl_ValidLawn_t0_2 : StTm := ⟨46, [(1, .ptr 1 0 31), (18, .int .i8)], [(1, 31, true, .ints)]⟩
def impl_ValidLawn_w0 (k : Nat) (R : Type) (K : Ex → St → Option R) (rec : Int × Int × Int × (List Int) → Option R) (p : Int × Int × Int × (List Int)) : Option R := impl_ValidLawn_s0 k (fun y1 => K .ret (fSt impl_ValidLawn_t0_1 [.b y1])) (fun y1 y2 => K (.exit 2) (fSt impl_ValidLawn_t0_2 [.i y1, .l y2])) (fun h1 h2 h3 h4 => rec (h1, h2, h3, h4)) p.1 p.2.1 p.2.2.1 p.2.2.2
def impl_ValidLawn_c0 (k : Nat) : Lcall := lcallOf tab impl_ValidLawn_t0 dec_iiil [1, 3, 18, 21] k (impl_ValidLawn_w0 k)
def impl_ValidLawn_t1 : StTm := ⟨46, [(1, .ptr 1 0 31), (18, .int .i8)], [(1, 31, true, .ints)]⟩
def impl_ValidLawn_t1_1 : StTm := ⟨46, [(2, .bool)], []⟩
def impl_ValidLawn_t1_2 : StTm := ⟨46, [], []⟩
def impl_ValidLawn_w1 (k : Nat) (R : Type) (K : Ex → St → Option R) (rec : Int × (List Int) → Option R) (p : Int × (List Int)) : Option R := impl_ValidLawn_s1 k (fun y1 => K .ret (fSt impl_ValidLawn_t1_1 [.b y1])) (K (.exit 0) (fSt impl_ValidLawn_t1_2 [])) (fun h1 h2 => rec (h1, h2)) p.1 p.2
def impl_ValidLawn_c1 (k : Nat) : Lcall := lcallOf tab impl_ValidLawn_t1 dec_il [1, 18] k (impl_ValidLawn_w1 k)
def impl_ValidLawn_C (k : Nat) : Cfg := ⟨tab, mvs, oraOf [impl_within_e k, impl_Lawn_has_e k], loOf [(2, impl_ValidLawn_c0 k), (0, impl_ValidLawn_c1 k)]⟩
theorem impl_ValidLawn_es (k : Nat) : ∀ e ∈ ([impl_within_e k, impl_Lawn_has_e k] : List Ent), EntOK Try.prog tab mvs e := by
  intro e he
  simp only [List.mem_cons, List.not_mem_nil, or_false] at he
  rcases he with rfl | rfl
  · exact impl_within_ok k
  · exact impl_Lawn_has_ok k
theorem impl_ValidLawn_step0 (k : Nat) (R : Type) (K : Ex → St → Option R) (g : St → Option R) (p : Int × Int × Int × (List Int)) : evCode (impl_ValidLawn_C k) (loopP [0, 0] (0, codeOf Try.f40)).2 (loopP [0, 0] (0, codeOf Try.f40)).1 (fSt impl_ValidLawn_t0 (enc_iiil p)) (loopK tab [1, 3, 18, 21] [1, 18] [2] g K) = impl_ValidLawn_w0 k R K (fun p => g (fSt impl_ValidLawn_t0 (enc_iiil p))) p := by
  kernel_rfl
theorem impl_ValidLawn_lok0 (k : Nat) : LoopOK Try.prog tab (impl_ValidLawn_C k).lo (loopP [0, 0] (0, codeOf Try.f40)).1 (loopP [0, 0] (0, codeOf Try.f40)).2 :=
  loopOK_of (C := impl_ValidLawn_C k) tabOK eqTabOK (oraOf_ok (impl_ValidLawn_es k)) (oraOf_nat (impl_ValidLawn_es k)) follows (forall_getD _ 0 (0, Code.skip) (by kernel_rfl) fun i hi => by
      omega)
    (tm := impl_ValidLawn_t0) (dec := dec_iiil) (enc := enc_iiil) (ksIn := [1, 3, 18, 21]) (ksOut := [1, 18]) (ksRet := [2]) (k := k) (step := impl_ValidLawn_w0 k) dec_enc_iiil (fun p => by kernel_rfl) (fun s R K => by kernel_rfl) (impl_ValidLawn_step0 k)
theorem impl_ValidLawn_step1 (k : Nat) (R : Type) (K : Ex → St → Option R) (g : St → Option R) (p : Int × (List Int)) : evCode (impl_ValidLawn_C k) (loopP [0] (0, codeOf Try.f40)).2 (loopP [0] (0, codeOf Try.f40)).1 (fSt impl_ValidLawn_t1 (enc_il p)) (loopK tab [1, 18] [] [2] g K) = impl_ValidLawn_w1 k R K (fun p => g (fSt impl_ValidLawn_t1 (enc_il p))) p := by
  kernel_rfl
theorem impl_ValidLawn_lok1 (k : Nat) : LoopOK Try.prog tab (impl_ValidLawn_C k).lo (loopP [0] (0, codeOf Try.f40)).1 (loopP [0] (0, codeOf Try.f40)).2 :=
  loopOK_of (C := impl_ValidLawn_C k) tabOK eqTabOK (oraOf_ok (impl_ValidLawn_es k)) (oraOf_nat (impl_ValidLawn_es k)) follows (forall_getD _ 1 (0, Code.skip) (by kernel_rfl) fun i hi => by
      match i, hi with
      | 0, _ => exact impl_ValidLawn_lok0 k
      | n + 1, h => omega)
    (tm := impl_ValidLawn_t1) (dec := dec_il) (enc := enc_il) (ksIn := [1, 18]) (ksOut := []) (ksRet := [2]) (k := k) (step := impl_ValidLawn_w1 k) dec_enc_il (fun p => by kernel_rfl) (fun s R K => by kernel_rfl) (impl_ValidLawn_step1 k)
def impl_ValidLawn_e (k : Nat) : Ent := (40, callOf [.agg 31] dec_l fun (p : (List Int)) R K => (impl_ValidLawn k p).bind fun (b : Bool) => K ((fV (.bool) (enc_b b)).1, none))
theorem impl_ValidLawn_run (k : Nat) (p : (List Int)) : runF (impl_ValidLawn_C k) Try.f40 false (fL [.agg 31] (enc_l p)).1 (resK (.bool) dec_b) = impl_ValidLawn k p := by
  kernel_rfl
theorem impl_ValidLawn_ok (k : Nat) : EntOK Try.prog tab mvs (impl_ValidLawn_e k) :=
  fn_ok (C := impl_ValidLawn_C k) tabOK eqTabOK (impl_ValidLawn_es k) rfl follows Try.func40 (by kernel_rfl) (by kernel_rfl) rfl (forall_getD _ 1 (0, Code.skip) (by kernel_rfl) fun i hi => by
      match i, hi with
      | 0, _ => exact impl_ValidLawn_lok1 k
      | n + 1, h => omega)
    dec_enc_l dec_enc_b (impl_ValidLawn_run k)

def impl_Lawn_kind_C (k : Nat) : Cfg := ⟨tab, mvs, oraOf [], loOf []⟩
theorem impl_Lawn_kind_es (k : Nat) : ∀ e ∈ ([] : List Ent), EntOK Try.prog tab mvs e := by
  intro e he
  simp at he
def impl_Lawn_kind_e (k : Nat) : Ent := (70, callOf [.agg 31, .agg 33] dec_ll fun (p : (List Int) × (List Int)) R K => (impl_Lawn_kind k p.1 p.2).bind fun (b : Int) => K ((fV (.int .i64) (enc_i b)).1, none))
theorem impl_Lawn_kind_run (k : Nat) (p : (List Int) × (List Int)) : runF (impl_Lawn_kind_C k) Try.f70 false (fL [.agg 31, .agg 33] (enc_ll p)).1 (resK (.int .i64) dec_i) = impl_Lawn_kind k p.1 p.2 := by
  kernel_rfl
theorem impl_Lawn_kind_ok (k : Nat) : EntOK Try.prog tab mvs (impl_Lawn_kind_e k) :=
  fn_ok (C := impl_Lawn_kind_C k) tabOK eqTabOK (impl_Lawn_kind_es k) rfl follows Try.func70 (by kernel_rfl) (by kernel_rfl) rfl (forall_getD _ 0 (0, Code.skip) (by kernel_rfl) fun i hi => by
      omega)
    dec_enc_ll dec_enc_i (impl_Lawn_kind_run k)

def dec_lli (ps : List Pay) : Option ((List Int) × (List Int) × Int) := match ps with
  | [.l x1, .l x2, .i x3] => some (x1, x2, x3)
  | _ => none
def enc_lli (p : (List Int) × (List Int) × Int) : List Pay := [.l p.1, .l p.2.1, .i p.2.2]
theorem dec_enc_lli : ∀ (ps : List Pay) (p : (List Int) × (List Int) × Int), dec_lli ps = some p → ps = enc_lli p := by
  intro ps p h
  unfold dec_lli at h
  split at h
  · injection h with h
    subst h
    rfl
  · cases h

def impl_Lawn_is_C (k : Nat) : Cfg := ⟨tab, mvs, oraOf [impl_Lawn_has_e k, impl_Lawn_kind_e k], loOf []⟩
theorem impl_Lawn_is_es (k : Nat) : ∀ e ∈ ([impl_Lawn_has_e k, impl_Lawn_kind_e k] : List Ent), EntOK Try.prog tab mvs e := by
  intro e he
  simp only [List.mem_cons, List.not_mem_nil, or_false] at he
  rcases he with rfl | rfl
  · exact impl_Lawn_has_ok k
  · exact impl_Lawn_kind_ok k
def impl_Lawn_is_e (k : Nat) : Ent := (57, callOf [.agg 31, .agg 33, .int .i64] dec_lli fun (p : (List Int) × (List Int) × Int) R K => (impl_Lawn_is k p.1 p.2.1 p.2.2).bind fun (b : Bool) => K ((fV (.bool) (enc_b b)).1, none))
theorem impl_Lawn_is_run (k : Nat) (p : (List Int) × (List Int) × Int) : runF (impl_Lawn_is_C k) Try.f57 false (fL [.agg 31, .agg 33, .int .i64] (enc_lli p)).1 (resK (.bool) dec_b) = impl_Lawn_is k p.1 p.2.1 p.2.2 := by
  kernel_rfl
theorem impl_Lawn_is_ok (k : Nat) : EntOK Try.prog tab mvs (impl_Lawn_is_e k) :=
  fn_ok (C := impl_Lawn_is_C k) tabOK eqTabOK (impl_Lawn_is_es k) rfl follows Try.func57 (by kernel_rfl) (by kernel_rfl) rfl (forall_getD _ 0 (0, Code.skip) (by kernel_rfl) fun i hi => by
      omega)
    dec_enc_lli dec_enc_b (impl_Lawn_is_run k)

def impl_Lawn_open_C (k : Nat) : Cfg := ⟨tab, mvs, oraOf [impl_Lawn_is_e k], loOf []⟩
theorem impl_Lawn_open_es (k : Nat) : ∀ e ∈ ([impl_Lawn_is_e k] : List Ent), EntOK Try.prog tab mvs e := by
  intro e he
  simp only [List.mem_cons, List.not_mem_nil, or_false] at he
  rcases he with rfl
  · exact impl_Lawn_is_ok k
def impl_Lawn_open_e (k : Nat) : Ent := (42, callOf [.agg 31, .agg 33] dec_ll fun (p : (List Int) × (List Int)) R K => (impl_Lawn_open k p.1 p.2).bind fun (b : Bool) => K ((fV (.bool) (enc_b b)).1, none))
theorem impl_Lawn_open_run (k : Nat) (p : (List Int) × (List Int)) : runF (impl_Lawn_open_C k) Try.f42 false (fL [.agg 31, .agg 33] (enc_ll p)).1 (resK (.bool) dec_b) = impl_Lawn_open k p.1 p.2 := by
  kernel_rfl
theorem impl_Lawn_open_ok (k : Nat) : EntOK Try.prog tab mvs (impl_Lawn_open_e k) :=
  fn_ok (C := impl_Lawn_open_C k) tabOK eqTabOK (impl_Lawn_open_es k) rfl follows Try.func42 (by kernel_rfl) (by kernel_rfl) rfl (forall_getD _ 0 (0, Code.skip) (by kernel_rfl) fun i hi => by
      omega)
    dec_enc_ll dec_enc_b (impl_Lawn_open_run k)

def dec_iiiiill (ps : List Pay) : Option (Int × Int × Int × Int × Int × (List Int) × (List Int)) := match ps with
  | [.i x1, .i x2, .i x3, .i x4, .i x5, .l x6, .l x7] => some (x1, x2, x3, x4, x5, x6, x7)
  | _ => none
def enc_iiiiill (p : Int × Int × Int × Int × Int × (List Int) × (List Int)) : List Pay := [.i p.1, .i p.2.1, .i p.2.2.1, .i p.2.2.2.1, .i p.2.2.2.2.1, .l p.2.2.2.2.2.1, .l p.2.2.2.2.2.2]
theorem dec_enc_iiiiill : ∀ (ps : List Pay) (p : Int × Int × Int × Int × Int × (List Int) × (List Int)), dec_iiiiill ps = some p → ps = enc_iiiiill p := by
  intro ps p h
  unfold dec_iiiiill at h
  split at h
  · injection h with h
    subst h
    rfl
  · cases h

def dec_iill (ps : List Pay) : Option (Int × Int × (List Int) × (List Int)) := match ps with
  | [.i x1, .i x2, .l x3, .l x4] => some (x1, x2, x3, x4)
  | _ => none
def enc_iill (p : Int × Int × (List Int) × (List Int)) : List Pay := [.i p.1, .i p.2.1, .l p.2.2.1, .l p.2.2.2]
theorem dec_enc_iill : ∀ (ps : List Pay) (p : Int × Int × (List Int) × (List Int)), dec_iill ps = some p → ps = enc_iill p := by
  intro ps p h
  unfold dec_iill at h
  split at h
  · injection h with h
    subst h
    rfl
  · cases h

def impl_Lawn_all_t0 : StTm := ⟨26, [(1, .ptr 1 0 31), (3, .slw 3 33), (4, .int .i8), (8, .int .i8), (9, .int .i8), (13, .int .i8), (14, .int .i8)], [(1, 31, true, .ints), (3, 33, false, .ints)]⟩
def impl_Lawn_all_t0_1 : StTm := ⟨26, [(1, .ptr 1 0 31), (3, .slw 3 33), (8, .int .i8), (9, .int .i8)], [(1, 31, true, .ints), (3, 33, false, .ints)]⟩
def impl_Lawn_all_w0 (k : Nat) (R : Type) (K : Ex → St → Option R) (rec : Int × Int × Int × Int × Int × (List Int) × (List Int) → Option R) (p : Int × Int × Int × Int × Int × (List Int) × (List Int)) : Option R := impl_Lawn_all_s0 k (fun y1 y2 y3 y4 => K (.exit 2) (fSt impl_Lawn_all_t0_1 [.i y1, .i y2, .l y3, .l y4])) (fun h1 h2 h3 h4 h5 h6 h7 => rec (h1, h2, h3, h4, h5, h6, h7)) p.1 p.2.1 p.2.2.1 p.2.2.2.1 p.2.2.2.2.1 p.2.2.2.2.2.1 p.2.2.2.2.2.2
def impl_Lawn_all_c0 (k : Nat) : Lcall := lcallOf tab impl_Lawn_all_t0 dec_iiiiill [1, 3, 4, 8, 9, 13, 14] k (impl_Lawn_all_w0 k)
def impl_Lawn_all_t1 : StTm := ⟨26, [(1, .ptr 1 0 31), (3, .slw 3 33), (8, .int .i8), (9, .int .i8)], [(1, 31, true, .ints), (3, 33, false, .ints)]⟩
def impl_Lawn_all_t1_1 : StTm := ⟨26, [(3, .slw 3 33)], [(3, 33, false, .ints)]⟩
def impl_Lawn_all_w1 (k : Nat) (R : Type) (K : Ex → St → Option R) (rec : Int × Int × (List Int) × (List Int) → Option R) (p : Int × Int × (List Int) × (List Int)) : Option R := impl_Lawn_all_s1 k (fun y1 => K (.exit 0) (fSt impl_Lawn_all_t1_1 [.l y1])) (fun h1 h2 h3 h4 => rec (h1, h2, h3, h4)) p.1 p.2.1 p.2.2.1 p.2.2.2
def impl_Lawn_all_c1 (k : Nat) : Lcall := lcallOf tab impl_Lawn_all_t1 dec_iill [1, 3, 8, 9] k (impl_Lawn_all_w1 k)
def impl_Lawn_all_C (k : Nat) : Cfg := ⟨tab, mvs, oraOf [], loOf [(2, impl_Lawn_all_c0 k), (0, impl_Lawn_all_c1 k)]⟩
theorem impl_Lawn_all_es (k : Nat) : ∀ e ∈ ([] : List Ent), EntOK Try.prog tab mvs e := by
  intro e he
  simp at he
theorem impl_Lawn_all_step0 (k : Nat) (R : Type) (K : Ex → St → Option R) (g : St → Option R) (p : Int × Int × Int × Int × Int × (List Int) × (List Int)) : evCode (impl_Lawn_all_C k) (loopP [0, 0] (0, codeOf Try.f61)).2 (loopP [0, 0] (0, codeOf Try.f61)).1 (fSt impl_Lawn_all_t0 (enc_iiiiill p)) (loopK tab [1, 3, 4, 8, 9, 13, 14] [1, 3, 8, 9] [2] g K) = impl_Lawn_all_w0 k R K (fun p => g (fSt impl_Lawn_all_t0 (enc_iiiiill p))) p := by
  kernel_rfl
theorem impl_Lawn_all_lok0 (k : Nat) : LoopOK Try.prog tab (impl_Lawn_all_C k).lo (loopP [0, 0] (0, codeOf Try.f61)).1 (loopP [0, 0] (0, codeOf Try.f61)).2 :=
  loopOK_of (C := impl_Lawn_all_C k) tabOK eqTabOK (oraOf_ok (impl_Lawn_all_es k)) (oraOf_nat (impl_Lawn_all_es k)) follows (forall_getD _ 0 (0, Code.skip) (by kernel_rfl) fun i hi => by
      omega)
    (tm := impl_Lawn_all_t0) (dec := dec_iiiiill) (enc := enc_iiiiill) (ksIn := [1, 3, 4, 8, 9, 13, 14]) (ksOut := [1, 3, 8, 9]) (ksRet := [2]) (k := k) (step := impl_Lawn_all_w0 k) dec_enc_iiiiill (fun p => by kernel_rfl) (fun s R K => by kernel_rfl) (impl_Lawn_all_step0 k)
theorem impl_Lawn_all_step1 (k : Nat) (R : Type) (K : Ex → St → Option R) (g : St → Option R) (p : Int × Int × (List Int) × (List Int)) : evCode (impl_Lawn_all_C k) (loopP [0] (0, codeOf Try.f61)).2 (loopP [0] (0, codeOf Try.f61)).1 (fSt impl_Lawn_all_t1 (enc_iill p)) (loopK tab [1, 3, 8, 9] [3] [2] g K) = impl_Lawn_all_w1 k R K (fun p => g (fSt impl_Lawn_all_t1 (enc_iill p))) p := by
  kernel_rfl
theorem impl_Lawn_all_lok1 (k : Nat) : LoopOK Try.prog tab (impl_Lawn_all_C k).lo (loopP [0] (0, codeOf Try.f61)).1 (loopP [0] (0, codeOf Try.f61)).2 :=
  loopOK_of (C := impl_Lawn_all_C k) tabOK eqTabOK (oraOf_ok (impl_Lawn_all_es k)) (oraOf_nat (impl_Lawn_all_es k)) follows (forall_getD _ 1 (0, Code.skip) (by kernel_rfl) fun i hi => by
      match i, hi with
      | 0, _ => exact impl_Lawn_all_lok0 k
      | n + 1, h => omega)
    (tm := impl_Lawn_all_t1) (dec := dec_iill) (enc := enc_iill) (ksIn := [1, 3, 8, 9]) (ksOut := [3]) (ksRet := [2]) (k := k) (step := impl_Lawn_all_w1 k) dec_enc_iill (fun p => by kernel_rfl) (fun s R K => by kernel_rfl) (impl_Lawn_all_step1 k)
def impl_Lawn_all_e (k : Nat) : Ent := (61, callOf [.agg 31] dec_l fun (p : (List Int)) R K => (impl_Lawn_all k p).bind fun (b : (List Int)) => K ((fV (.slv 33) (enc_l b)).1, none))
theorem impl_Lawn_all_run (k : Nat) (p : (List Int)) : runF (impl_Lawn_all_C k) Try.f61 false (fL [.agg 31] (enc_l p)).1 (resK (.slv 33) dec_l) = impl_Lawn_all k p := by
  kernel_rfl
theorem impl_Lawn_all_ok (k : Nat) : EntOK Try.prog tab mvs (impl_Lawn_all_e k) :=
  fn_ok (C := impl_Lawn_all_C k) tabOK eqTabOK (impl_Lawn_all_es k) rfl follows Try.func61 (by kernel_rfl) (by kernel_rfl) rfl (forall_getD _ 1 (0, Code.skip) (by kernel_rfl) fun i hi => by
      match i, hi with
      | 0, _ => exact impl_Lawn_all_lok1 k
      | n + 1, h => omega)
    dec_enc_l dec_enc_l (impl_Lawn_all_run k)

def dec_lg (ps : List Pay) : Option ((List Int) × (List Int → Option Bool)) := match ps with
  | [.l x1, .g x2] => some (x1, x2)
  | _ => none
def enc_lg (p : (List Int) × (List Int → Option Bool)) : List Pay := [.l p.1, .g p.2]
theorem dec_enc_lg : ∀ (ps : List Pay) (p : (List Int) × (List Int → Option Bool)), dec_lg ps = some p → ps = enc_lg p := by
  intro ps p h
  unfold dec_lg at h
  split at h
  · injection h with h
    subst h
    rfl
  · cases h

def impl_Lawn_those_1_C (k : Nat) : Cfg := ⟨tab, mvs, oraOf [], loOf []⟩
theorem impl_Lawn_those_1_es (k : Nat) : ∀ e ∈ ([] : List Ent), EntOK Try.prog tab mvs e := by
  intro e he
  simp at he
def impl_Lawn_those_1_e (k : Nat) : Ent := (62, callOf [.agg 33, .pvv [.cloB 33] 0 75] dec_lg fun (p : (List Int) × (List Int → Option Bool)) R K => (impl_Lawn_those_1 k p.1 p.2).bind fun (b : Bool) => K ((fV (.bool) (enc_b b)).1, none))
theorem impl_Lawn_those_1_run (k : Nat) (p : (List Int) × (List Int → Option Bool)) : runF (impl_Lawn_those_1_C k) Try.f62 false (fL [.agg 33, .pvv [.cloB 33] 0 75] (enc_lg p)).1 (resK (.bool) dec_b) = impl_Lawn_those_1 k p.1 p.2 := by
  kernel_rfl
theorem impl_Lawn_those_1_ok (k : Nat) : EntOK Try.prog tab mvs (impl_Lawn_those_1_e k) :=
  fn_ok (C := impl_Lawn_those_1_C k) tabOK eqTabOK (impl_Lawn_those_1_es k) rfl follows Try.func62 (by kernel_rfl) (by kernel_rfl) rfl (forall_getD _ 0 (0, Code.skip) (by kernel_rfl) fun i hi => by
      omega)
    dec_enc_lg dec_enc_b (impl_Lawn_those_1_run k)

def dec_lgii (ps : List Pay) : Option ((List Int) × (List Int → Option Bool) × Int × Int) := match ps with
  | [.l x1, .g x2, .i x3, .i x4] => some (x1, x2, x3, x4)
  | _ => none
def enc_lgii (p : (List Int) × (List Int → Option Bool) × Int × Int) : List Pay := [.l p.1, .g p.2.1, .i p.2.2.1, .i p.2.2.2]
theorem dec_enc_lgii : ∀ (ps : List Pay) (p : (List Int) × (List Int → Option Bool) × Int × Int), dec_lgii ps = some p → ps = enc_lgii p := by
  intro ps p h
  unfold dec_lgii at h
  split at h
  · injection h with h
    subst h
    rfl
  · cases h

def slices_IndexFunc_impl_Cell_t0 : StTm := ⟨19, [(0, .slv 33), (1, .cloB 33), (7, .int .i64), (8, .int .i64)], []⟩
def slices_IndexFunc_impl_Cell_t0_1 : StTm := ⟨19, [(4, .int .i64)], []⟩
def slices_IndexFunc_impl_Cell_t0_2 : StTm := ⟨19, [], []⟩
def slices_IndexFunc_impl_Cell_w0 (k : Nat) (R : Type) (K : Ex → St → Option R) (rec : (List Int) × (List Int → Option Bool) × Int × Int → Option R) (p : (List Int) × (List Int → Option Bool) × Int × Int) : Option R := slices_IndexFunc_impl_Cell_s0 k (fun y1 => K .ret (fSt slices_IndexFunc_impl_Cell_t0_1 [.i y1])) (K (.exit 0) (fSt slices_IndexFunc_impl_Cell_t0_2 [])) (fun h1 h2 h3 h4 => rec (h1, h2, h3, h4)) p.1 p.2.1 p.2.2.1 p.2.2.2
def slices_IndexFunc_impl_Cell_c0 (k : Nat) : Lcall := lcallOf tab slices_IndexFunc_impl_Cell_t0 dec_lgii [0, 1, 7, 8] k (slices_IndexFunc_impl_Cell_w0 k)
def slices_IndexFunc_impl_Cell_C (k : Nat) : Cfg := ⟨tab, mvs, oraOf [], loOf [(0, slices_IndexFunc_impl_Cell_c0 k)]⟩
theorem slices_IndexFunc_impl_Cell_es (k : Nat) : ∀ e ∈ ([] : List Ent), EntOK Try.prog tab mvs e := by
  intro e he
  simp at he
theorem slices_IndexFunc_impl_Cell_step0 (k : Nat) (R : Type) (K : Ex → St → Option R) (g : St → Option R) (p : (List Int) × (List Int → Option Bool) × Int × Int) : evCode (slices_IndexFunc_impl_Cell_C k) (loopP [0] (0, codeOf Try.f69)).2 (loopP [0] (0, codeOf Try.f69)).1 (fSt slices_IndexFunc_impl_Cell_t0 (enc_lgii p)) (loopK tab [0, 1, 7, 8] [] [4] g K) = slices_IndexFunc_impl_Cell_w0 k R K (fun p => g (fSt slices_IndexFunc_impl_Cell_t0 (enc_lgii p))) p := by
  kernel_rfl
theorem slices_IndexFunc_impl_Cell_lok0 (k : Nat) : LoopOK Try.prog tab (slices_IndexFunc_impl_Cell_C k).lo (loopP [0] (0, codeOf Try.f69)).1 (loopP [0] (0, codeOf Try.f69)).2 :=
  loopOK_of (C := slices_IndexFunc_impl_Cell_C k) tabOK eqTabOK (oraOf_ok (slices_IndexFunc_impl_Cell_es k)) (oraOf_nat (slices_IndexFunc_impl_Cell_es k)) follows (forall_getD _ 0 (0, Code.skip) (by kernel_rfl) fun i hi => by
      omega)
    (tm := slices_IndexFunc_impl_Cell_t0) (dec := dec_lgii) (enc := enc_lgii) (ksIn := [0, 1, 7, 8]) (ksOut := []) (ksRet := [4]) (k := k) (step := slices_IndexFunc_impl_Cell_w0 k) dec_enc_lgii (fun p => by kernel_rfl) (fun s R K => by kernel_rfl) (slices_IndexFunc_impl_Cell_step0 k)
def slices_IndexFunc_impl_Cell_e (k : Nat) : Ent := (69, callOf [.slv 33, .cloB 33] dec_lg fun (p : (List Int) × (List Int → Option Bool)) R K => (slices_IndexFunc_impl_Cell k p.1 p.2).bind fun (b : Int) => K ((fV (.int .i64) (enc_i b)).1, none))
theorem slices_IndexFunc_impl_Cell_run (k : Nat) (p : (List Int) × (List Int → Option Bool)) : runF (slices_IndexFunc_impl_Cell_C k) Try.f69 false (fL [.slv 33, .cloB 33] (enc_lg p)).1 (resK (.int .i64) dec_i) = slices_IndexFunc_impl_Cell k p.1 p.2 := by
  kernel_rfl
theorem slices_IndexFunc_impl_Cell_ok (k : Nat) : EntOK Try.prog tab mvs (slices_IndexFunc_impl_Cell_e k) :=
  fn_ok (C := slices_IndexFunc_impl_Cell_C k) tabOK eqTabOK (slices_IndexFunc_impl_Cell_es k) rfl follows Try.func69 (by kernel_rfl) (by kernel_rfl) rfl (forall_getD _ 1 (0, Code.skip) (by kernel_rfl) fun i hi => by
      match i, hi with
      | 0, _ => exact slices_IndexFunc_impl_Cell_lok0 k
      | n + 1, h => omega)
    dec_enc_lg dec_enc_i (slices_IndexFunc_impl_Cell_run k)

def dec_giil (ps : List Pay) : Option ((List Int → Option Bool) × Int × Int × (List Int)) := match ps with
  | [.g x1, .i x2, .i x3, .l x4] => some (x1, x2, x3, x4)
  | _ => none
def enc_giil (p : (List Int → Option Bool) × Int × Int × (List Int)) : List Pay := [.g p.1, .i p.2.1, .i p.2.2.1, .l p.2.2.2]
theorem dec_enc_giil : ∀ (ps : List Pay) (p : (List Int → Option Bool) × Int × Int × (List Int)), dec_giil ps = some p → ps = enc_giil p := by
  intro ps p h
  unfold dec_giil at h
  split at h
  · injection h with h
    subst h
    rfl
  · cases h

def slices_DeleteFunc_impl_Cell_t0 : StTm := ⟨42, [(0, .slw 42 33), (1, .cloB 33), (5, .int .i64), (6, .int .i64)], [(42, 33, false, .ints)]⟩
def slices_DeleteFunc_impl_Cell_t0_1 : StTm := ⟨42, [(0, .slw 42 33), (5, .int .i64)], [(42, 33, false, .ints)]⟩
def slices_DeleteFunc_impl_Cell_w0 (k : Nat) (R : Type) (K : Ex → St → Option R) (rec : (List Int → Option Bool) × Int × Int × (List Int) → Option R) (p : (List Int → Option Bool) × Int × Int × (List Int)) : Option R := slices_DeleteFunc_impl_Cell_s0 k (fun y1 y2 => K (.exit 0) (fSt slices_DeleteFunc_impl_Cell_t0_1 [.i y1, .l y2])) (fun h1 h2 h3 h4 => rec (h1, h2, h3, h4)) p.1 p.2.1 p.2.2.1 p.2.2.2
def slices_DeleteFunc_impl_Cell_c0 (k : Nat) : Lcall := lcallOf tab slices_DeleteFunc_impl_Cell_t0 dec_giil [0, 1, 5, 6] k (slices_DeleteFunc_impl_Cell_w0 k)
def slices_DeleteFunc_impl_Cell_C (k : Nat) : Cfg := ⟨tab, mvs, oraOf [slices_IndexFunc_impl_Cell_e k], loOf [(0, slices_DeleteFunc_impl_Cell_c0 k)]⟩
theorem slices_DeleteFunc_impl_Cell_es (k : Nat) : ∀ e ∈ ([slices_IndexFunc_impl_Cell_e k] : List Ent), EntOK Try.prog tab mvs e := by
  intro e he
  simp only [List.mem_cons, List.not_mem_nil, or_false] at he
  rcases he with rfl
  · exact slices_IndexFunc_impl_Cell_ok k
theorem slices_DeleteFunc_impl_Cell_step0 (k : Nat) (R : Type) (K : Ex → St → Option R) (g : St → Option R) (p : (List Int → Option Bool) × Int × Int × (List Int)) : evCode (slices_DeleteFunc_impl_Cell_C k) (loopP [0] (0, codeOf Try.f60)).2 (loopP [0] (0, codeOf Try.f60)).1 (fSt slices_DeleteFunc_impl_Cell_t0 (enc_giil p)) (loopK tab [0, 1, 5, 6] [0, 5] [4] g K) = slices_DeleteFunc_impl_Cell_w0 k R K (fun p => g (fSt slices_DeleteFunc_impl_Cell_t0 (enc_giil p))) p := by
  kernel_rfl
theorem slices_DeleteFunc_impl_Cell_lok0 (k : Nat) : LoopOK Try.prog tab (slices_DeleteFunc_impl_Cell_C k).lo (loopP [0] (0, codeOf Try.f60)).1 (loopP [0] (0, codeOf Try.f60)).2 :=
  loopOK_of (C := slices_DeleteFunc_impl_Cell_C k) tabOK eqTabOK (oraOf_ok (slices_DeleteFunc_impl_Cell_es k)) (oraOf_nat (slices_DeleteFunc_impl_Cell_es k)) follows (forall_getD _ 0 (0, Code.skip) (by kernel_rfl) fun i hi => by
      omega)
    (tm := slices_DeleteFunc_impl_Cell_t0) (dec := dec_giil) (enc := enc_giil) (ksIn := [0, 1, 5, 6]) (ksOut := [0, 5]) (ksRet := [4]) (k := k) (step := slices_DeleteFunc_impl_Cell_w0 k) dec_enc_giil (fun p => by kernel_rfl) (fun s R K => by kernel_rfl) (slices_DeleteFunc_impl_Cell_step0 k)
def slices_DeleteFunc_impl_Cell_e (k : Nat) : Ent := (60, callOf [.slv 33, .cloB 33] dec_lg fun (p : (List Int) × (List Int → Option Bool)) R K => (slices_DeleteFunc_impl_Cell k p.1 p.2).bind fun (b : (List Int)) => K ((fV (.slv 33) (enc_l b)).1, none))
theorem slices_DeleteFunc_impl_Cell_run (k : Nat) (p : (List Int) × (List Int → Option Bool)) : runF (slices_DeleteFunc_impl_Cell_C k) Try.f60 true (fL [.slv 33, .cloB 33] (enc_lg p)).1 (resK (.slv 33) dec_l) = slices_DeleteFunc_impl_Cell k p.1 p.2 := by
  kernel_rfl
theorem slices_DeleteFunc_impl_Cell_ok (k : Nat) : EntOK Try.prog tab mvs (slices_DeleteFunc_impl_Cell_e k) :=
  fnm_ok (C := slices_DeleteFunc_impl_Cell_C k) tabOK eqTabOK (slices_DeleteFunc_impl_Cell_es k) rfl follows Try.func60 (by kernel_rfl) (by kernel_rfl) rfl (forall_getD _ 1 (0, Code.skip) (by kernel_rfl) fun i hi => by
      match i, hi with
      | 0, _ => exact slices_DeleteFunc_impl_Cell_lok0 k
      | n + 1, h => omega)
    dec_enc_lg dec_enc_l (slices_DeleteFunc_impl_Cell_run k)

def impl_Lawn_those_C (k : Nat) : Cfg := ⟨tab, mvs, oraOf [impl_Lawn_all_e k, impl_Lawn_those_1_e k, slices_DeleteFunc_impl_Cell_e k], loOf []⟩
theorem impl_Lawn_those_es (k : Nat) : ∀ e ∈ ([impl_Lawn_all_e k, impl_Lawn_those_1_e k, slices_DeleteFunc_impl_Cell_e k] : List Ent), EntOK Try.prog tab mvs e := by
  intro e he
  simp only [List.mem_cons, List.not_mem_nil, or_false] at he
  rcases he with rfl | rfl | rfl
  · exact impl_Lawn_all_ok k
  · exact impl_Lawn_those_1_ok k
  · exact slices_DeleteFunc_impl_Cell_ok k
def impl_Lawn_those_e (k : Nat) : Ent := (41, callOf [.agg 31, .cloB 33] dec_lg fun (p : (List Int) × (List Int → Option Bool)) R K => (impl_Lawn_those k p.1 p.2).bind fun (b : (List Int)) => K ((fV (.slv 33) (enc_l b)).1, none))
theorem impl_Lawn_those_run (k : Nat) (p : (List Int) × (List Int → Option Bool)) : runF (impl_Lawn_those_C k) Try.f41 false (fL [.agg 31, .cloB 33] (enc_lg p)).1 (resK (.slv 33) dec_l) = impl_Lawn_those k p.1 p.2 := by
  kernel_rfl
theorem impl_Lawn_those_ok (k : Nat) : EntOK Try.prog tab mvs (impl_Lawn_those_e k) :=
  fn_ok (C := impl_Lawn_those_C k) tabOK eqTabOK (impl_Lawn_those_es k) rfl follows Try.func41 (by kernel_rfl) (by kernel_rfl) rfl (forall_getD _ 0 (0, Code.skip) (by kernel_rfl) fun i hi => by
      omega)
    dec_enc_lg dec_enc_l (impl_Lawn_those_run k)

def math_bits_Mul64_C (k : Nat) : Cfg := ⟨tab, mvs, oraOf [], loOf []⟩
theorem math_bits_Mul64_es (k : Nat) : ∀ e ∈ ([] : List Ent), EntOK Try.prog tab mvs e := by
  intro e he
  simp at he
def math_bits_Mul64_e (k : Nat) : Ent := (76, callOf [.int .u64, .int .u64] dec_ii fun (p : Int × Int) R K => (math_bits_Mul64 k p.1 p.2).bind fun (b : Int × Int) => K ((fV (.tup [.int .u64, .int .u64]) (enc_ii b)).1, none))
theorem math_bits_Mul64_run (k : Nat) (p : Int × Int) : runF (math_bits_Mul64_C k) Try.f76 false (fL [.int .u64, .int .u64] (enc_ii p)).1 (resK (.tup [.int .u64, .int .u64]) dec_ii) = math_bits_Mul64 k p.1 p.2 := by
  kernel_rfl
theorem math_bits_Mul64_ok (k : Nat) : EntOK Try.prog tab mvs (math_bits_Mul64_e k) :=
  fn_ok (C := math_bits_Mul64_C k) tabOK eqTabOK (math_bits_Mul64_es k) rfl follows Try.func76 (by kernel_rfl) (by kernel_rfl) rfl (forall_getD _ 0 (0, Code.skip) (by kernel_rfl) fun i hi => by
      omega)
    dec_enc_ii dec_enc_ii (math_bits_Mul64_run k)

def math_bits_Mul_C (k : Nat) : Cfg := ⟨tab, mvs, oraOf [math_bits_Mul64_e k], loOf []⟩
theorem math_bits_Mul_es (k : Nat) : ∀ e ∈ ([math_bits_Mul64_e k] : List Ent), EntOK Try.prog tab mvs e := by
  intro e he
  simp only [List.mem_cons, List.not_mem_nil, or_false] at he
  rcases he with rfl
  · exact math_bits_Mul64_ok k
def math_bits_Mul_e (k : Nat) : Ent := (73, callOf [.int .u64, .int .u64] dec_ii fun (p : Int × Int) R K => (math_bits_Mul k p.1 p.2).bind fun (b : Int × Int) => K ((fV (.tup [.int .u64, .int .u64]) (enc_ii b)).1, none))
theorem math_bits_Mul_run (k : Nat) (p : Int × Int) : runF (math_bits_Mul_C k) Try.f73 false (fL [.int .u64, .int .u64] (enc_ii p)).1 (resK (.tup [.int .u64, .int .u64]) dec_ii) = math_bits_Mul k p.1 p.2 := by
  kernel_rfl
theorem math_bits_Mul_ok (k : Nat) : EntOK Try.prog tab mvs (math_bits_Mul_e k) :=
  fn_ok (C := math_bits_Mul_C k) tabOK eqTabOK (math_bits_Mul_es k) rfl follows Try.func73 (by kernel_rfl) (by kernel_rfl) rfl (forall_getD _ 0 (0, Code.skip) (by kernel_rfl) fun i hi => by
      omega)
    dec_enc_ii dec_enc_ii (math_bits_Mul_run k)

def slices_Repeat_int64_t0 : StTm := ⟨48, [(7, .slw 7 2), (8, .int .i64)], [(7, 2, false, .ints)]⟩
def slices_Repeat_int64_t0_1 : StTm := ⟨48, [(7, .slw 7 2)], [(7, 2, false, .ints)]⟩
def slices_Repeat_int64_w0 (k : Nat) (R : Type) (K : Ex → St → Option R) (rec : Int × (List Int) → Option R) (p : Int × (List Int)) : Option R := slices_Repeat_int64_s0 k (fun y1 => K (.exit 0) (fSt slices_Repeat_int64_t0_1 [.l y1])) (fun h1 h2 => rec (h1, h2)) p.1 p.2
def slices_Repeat_int64_c0 (k : Nat) : Lcall := lcallOf tab slices_Repeat_int64_t0 dec_il [7, 8] k (slices_Repeat_int64_w0 k)
def slices_Repeat_int64_C (k : Nat) : Cfg := ⟨tab, mvs, oraOf [math_bits_Mul_e k], loOf [(0, slices_Repeat_int64_c0 k)]⟩
theorem slices_Repeat_int64_es (k : Nat) : ∀ e ∈ ([math_bits_Mul_e k] : List Ent), EntOK Try.prog tab mvs e := by
  intro e he
  simp only [List.mem_cons, List.not_mem_nil, or_false] at he
  rcases he with rfl
  · exact math_bits_Mul_ok k
theorem slices_Repeat_int64_step0 (k : Nat) (R : Type) (K : Ex → St → Option R) (g : St → Option R) (p : Int × (List Int)) : evCode (slices_Repeat_int64_C k) (loopP [0] (0, codeOf Try.f71)).2 (loopP [0] (0, codeOf Try.f71)).1 (fSt slices_Repeat_int64_t0 (enc_il p)) (loopK tab [7, 8] [7] [4] g K) = slices_Repeat_int64_w0 k R K (fun p => g (fSt slices_Repeat_int64_t0 (enc_il p))) p := by
  kernel_rfl
theorem slices_Repeat_int64_lok0 (k : Nat) : LoopOK Try.prog tab (slices_Repeat_int64_C k).lo (loopP [0] (0, codeOf Try.f71)).1 (loopP [0] (0, codeOf Try.f71)).2 :=
  loopOK_of (C := slices_Repeat_int64_C k) tabOK eqTabOK (oraOf_ok (slices_Repeat_int64_es k)) (oraOf_nat (slices_Repeat_int64_es k)) follows (forall_getD _ 0 (0, Code.skip) (by kernel_rfl) fun i hi => by
      omega)
    (tm := slices_Repeat_int64_t0) (dec := dec_il) (enc := enc_il) (ksIn := [7, 8]) (ksOut := [7]) (ksRet := [4]) (k := k) (step := slices_Repeat_int64_w0 k) dec_enc_il (fun p => by kernel_rfl) (fun s R K => by kernel_rfl) (slices_Repeat_int64_step0 k)
def slices_Repeat_int64_e (k : Nat) : Ent := (71, callOf [.slv 2, .int .i64] dec_li fun (p : (List Int) × Int) R K => (slices_Repeat_int64 k p.1 p.2).bind fun (b : (List Int)) => K ((fV (.slv 2) (enc_l b)).1, none))
theorem slices_Repeat_int64_run (k : Nat) (p : (List Int) × Int) : runF (slices_Repeat_int64_C k) Try.f71 false (fL [.slv 2, .int .i64] (enc_li p)).1 (resK (.slv 2) dec_l) = slices_Repeat_int64 k p.1 p.2 := by
  kernel_rfl
theorem slices_Repeat_int64_ok (k : Nat) : EntOK Try.prog tab mvs (slices_Repeat_int64_e k) :=
  fn_ok (C := slices_Repeat_int64_C k) tabOK eqTabOK (slices_Repeat_int64_es k) rfl follows Try.func71 (by kernel_rfl) (by kernel_rfl) rfl (forall_getD _ 1 (0, Code.skip) (by kernel_rfl) fun i hi => by
      match i, hi with
      | 0, _ => exact slices_Repeat_int64_lok0 k
      | n + 1, h => omega)
    dec_enc_li dec_enc_l (slices_Repeat_int64_run k)

def impl_Lawn_index_C (k : Nat) : Cfg := ⟨tab, mvs, oraOf [], loOf []⟩
theorem impl_Lawn_index_es (k : Nat) : ∀ e ∈ ([] : List Ent), EntOK Try.prog tab mvs e := by
  intro e he
  simp at he
def impl_Lawn_index_e (k : Nat) : Ent := (64, callOf [.agg 31, .agg 33] dec_ll fun (p : (List Int) × (List Int)) R K => (impl_Lawn_index k p.1 p.2).bind fun (b : Int) => K ((fV (.int .i64) (enc_i b)).1, none))
theorem impl_Lawn_index_run (k : Nat) (p : (List Int) × (List Int)) : runF (impl_Lawn_index_C k) Try.f64 false (fL [.agg 31, .agg 33] (enc_ll p)).1 (resK (.int .i64) dec_i) = impl_Lawn_index k p.1 p.2 := by
  kernel_rfl
theorem impl_Lawn_index_ok (k : Nat) : EntOK Try.prog tab mvs (impl_Lawn_index_e k) :=
  fn_ok (C := impl_Lawn_index_C k) tabOK eqTabOK (impl_Lawn_index_es k) rfl follows Try.func64 (by kernel_rfl) (by kernel_rfl) rfl (forall_getD _ 0 (0, Code.skip) (by kernel_rfl) fun i hi => by
      omega)
    dec_enc_ll dec_enc_i (impl_Lawn_index_run k)

def impl_beside_C (k : Nat) : Cfg := ⟨tab, mvs, oraOf [], loOf []⟩
theorem impl_beside_es (k : Nat) : ∀ e ∈ ([] : List Ent), EntOK Try.prog tab mvs e := by
  intro e he
  simp at he
def impl_beside_e (k : Nat) : Ent := (33, callOf [.agg 33] dec_l fun (p : (List Int)) R K => (impl_beside k p).bind fun (b : (List Int)) => K ((fV (.slv 33) (enc_l b)).1, none))
theorem impl_beside_run (k : Nat) (p : (List Int)) : runF (impl_beside_C k) Try.f33 false (fL [.agg 33] (enc_l p)).1 (resK (.slv 33) dec_l) = impl_beside k p := by
  kernel_rfl
theorem impl_beside_ok (k : Nat) : EntOK Try.prog tab mvs (impl_beside_e k) :=
  fn_ok (C := impl_beside_C k) tabOK eqTabOK (impl_beside_es k) rfl follows Try.func33 (by kernel_rfl) (by kernel_rfl) rfl (forall_getD _ 0 (0, Code.skip) (by kernel_rfl) fun i hi => by
      omega)
    dec_enc_l dec_enc_l (impl_beside_run k)

def dec_giillll (ps : List Pay) : Option ((List Int → Option Bool) × Int × Int × (List Int) × (List Int) × (List Int) × (List Int)) := match ps with
  | [.g x1, .i x2, .i x3, .l x4, .l x5, .l x6, .l x7] => some (x1, x2, x3, x4, x5, x6, x7)
  | _ => none
def enc_giillll (p : (List Int → Option Bool) × Int × Int × (List Int) × (List Int) × (List Int) × (List Int)) : List Pay := [.g p.1, .i p.2.1, .i p.2.2.1, .l p.2.2.2.1, .l p.2.2.2.2.1, .l p.2.2.2.2.2.1, .l p.2.2.2.2.2.2]
theorem dec_enc_giillll : ∀ (ps : List Pay) (p : (List Int → Option Bool) × Int × Int × (List Int) × (List Int) × (List Int) × (List Int)), dec_giillll ps = some p → ps = enc_giillll p := by
  intro ps p h
  unfold dec_giillll at h
  split at h
  · injection h with h
    subst h
    rfl
  · cases h

def dec_glll (ps : List Pay) : Option ((List Int → Option Bool) × (List Int) × (List Int) × (List Int)) := match ps with
  | [.g x1, .l x2, .l x3, .l x4] => some (x1, x2, x3, x4)
  | _ => none
def enc_glll (p : (List Int → Option Bool) × (List Int) × (List Int) × (List Int)) : List Pay := [.g p.1, .l p.2.1, .l p.2.2.1, .l p.2.2.2]
theorem dec_enc_glll : ∀ (ps : List Pay) (p : (List Int → Option Bool) × (List Int) × (List Int) × (List Int)), dec_glll ps = some p → ps = enc_glll p := by
  intro ps p h
  unfold dec_glll at h
  split at h
  · injection h with h
    subst h
    rfl
  · cases h

def dec_llg (ps : List Pay) : Option ((List Int) × (List Int) × (List Int → Option Bool)) := match ps with
  | [.l x1, .l x2, .g x3] => some (x1, x2, x3)
  | _ => none
def enc_llg (p : (List Int) × (List Int) × (List Int → Option Bool)) : List Pay := [.l p.1, .l p.2.1, .g p.2.2]
theorem dec_enc_llg : ∀ (ps : List Pay) (p : (List Int) × (List Int) × (List Int → Option Bool)), dec_llg ps = some p → ps = enc_llg p := by
  intro ps p h
  unfold dec_llg at h
  split at h
  · injection h with h
    subst h
    rfl
  · cases h

def impl_Lawn_steps_t0 : StTm := ⟨78, [(2, .cloB 33), (3, .ptr 3 0 31), (7, .slw 7 2), (8, .slw 8 33), (35, .slw 35 33), (36, .int .i64), (37, .int .i64)], [(3, 31, true, .ints), (7, 2, false, .ints), (8, 33, false, .ints), (35, 33, false, .ints)]⟩
def impl_Lawn_steps_t0_1 : StTm := ⟨78, [(2, .cloB 33), (3, .ptr 3 0 31), (7, .slw 7 2), (8, .slw 8 33)], [(3, 31, true, .ints), (7, 2, false, .ints), (8, 33, false, .ints)]⟩
def impl_Lawn_steps_w0 (k : Nat) (R : Type) (K : Ex → St → Option R) (rec : (List Int → Option Bool) × Int × Int × (List Int) × (List Int) × (List Int) × (List Int) → Option R) (p : (List Int → Option Bool) × Int × Int × (List Int) × (List Int) × (List Int) × (List Int)) : Option R := impl_Lawn_steps_s0 k (fun y1 y2 y3 y4 => K (.exit 2) (fSt impl_Lawn_steps_t0_1 [.g y1, .l y2, .l y3, .l y4])) (fun h1 h2 h3 h4 h5 h6 h7 => rec (h1, h2, h3, h4, h5, h6, h7)) p.1 p.2.1 p.2.2.1 p.2.2.2.1 p.2.2.2.2.1 p.2.2.2.2.2.1 p.2.2.2.2.2.2
def impl_Lawn_steps_c0 (k : Nat) : Lcall := lcallOf tab impl_Lawn_steps_t0 dec_giillll [2, 3, 7, 8, 35, 36, 37] k (impl_Lawn_steps_w0 k)
def impl_Lawn_steps_t1 : StTm := ⟨78, [(2, .cloB 33), (3, .ptr 3 0 31), (7, .slw 7 2), (8, .slw 8 33)], [(3, 31, true, .ints), (7, 2, false, .ints), (8, 33, false, .ints)]⟩
def impl_Lawn_steps_t1_1 : StTm := ⟨78, [(7, .slw 7 2)], [(7, 2, false, .ints)]⟩
def impl_Lawn_steps_w1 (k : Nat) (R : Type) (K : Ex → St → Option R) (rec : (List Int → Option Bool) × (List Int) × (List Int) × (List Int) → Option R) (p : (List Int → Option Bool) × (List Int) × (List Int) × (List Int)) : Option R := impl_Lawn_steps_s1 k (fun y1 => K (.exit 0) (fSt impl_Lawn_steps_t1_1 [.l y1])) (fun h1 h2 h3 h4 => rec (h1, h2, h3, h4)) p.1 p.2.1 p.2.2.1 p.2.2.2
def impl_Lawn_steps_c1 (k : Nat) : Lcall := lcallOf tab impl_Lawn_steps_t1 dec_glll [2, 3, 7, 8] k (impl_Lawn_steps_w1 k)
def impl_Lawn_steps_C (k : Nat) : Cfg := ⟨tab, mvs, oraOf [slices_Repeat_int64_e k, impl_Lawn_index_e k, impl_beside_e k, impl_Lawn_has_e k], loOf [(2, impl_Lawn_steps_c0 k), (0, impl_Lawn_steps_c1 k)]⟩
theorem impl_Lawn_steps_es (k : Nat) : ∀ e ∈ ([slices_Repeat_int64_e k, impl_Lawn_index_e k, impl_beside_e k, impl_Lawn_has_e k] : List Ent), EntOK Try.prog tab mvs e := by
  intro e he
  simp only [List.mem_cons, List.not_mem_nil, or_false] at he
  rcases he with rfl | rfl | rfl | rfl
  · exact slices_Repeat_int64_ok k
  · exact impl_Lawn_index_ok k
  · exact impl_beside_ok k
  · exact impl_Lawn_has_ok k
theorem impl_Lawn_steps_step0 (k : Nat) (R : Type) (K : Ex → St → Option R) (g : St → Option R) (p : (List Int → Option Bool) × Int × Int × (List Int) × (List Int) × (List Int) × (List Int)) : evCode (impl_Lawn_steps_C k) (loopP [0, 0] (0, codeOf Try.f63)).2 (loopP [0, 0] (0, codeOf Try.f63)).1 (fSt impl_Lawn_steps_t0 (enc_giillll p)) (loopK tab [2, 3, 7, 8, 35, 36, 37] [2, 3, 7, 8] [6] g K) = impl_Lawn_steps_w0 k R K (fun p => g (fSt impl_Lawn_steps_t0 (enc_giillll p))) p := by
  kernel_rfl
theorem impl_Lawn_steps_lok0 (k : Nat) : LoopOK Try.prog tab (impl_Lawn_steps_C k).lo (loopP [0, 0] (0, codeOf Try.f63)).1 (loopP [0, 0] (0, codeOf Try.f63)).2 :=
  loopOK_of (C := impl_Lawn_steps_C k) tabOK eqTabOK (oraOf_ok (impl_Lawn_steps_es k)) (oraOf_nat (impl_Lawn_steps_es k)) follows (forall_getD _ 0 (0, Code.skip) (by kernel_rfl) fun i hi => by
      omega)
    (tm := impl_Lawn_steps_t0) (dec := dec_giillll) (enc := enc_giillll) (ksIn := [2, 3, 7, 8, 35, 36, 37]) (ksOut := [2, 3, 7, 8]) (ksRet := [6]) (k := k) (step := impl_Lawn_steps_w0 k) dec_enc_giillll (fun p => by kernel_rfl) (fun s R K => by kernel_rfl) (impl_Lawn_steps_step0 k)
theorem impl_Lawn_steps_step1 (k : Nat) (R : Type) (K : Ex → St → Option R) (g : St → Option R) (p : (List Int → Option Bool) × (List Int) × (List Int) × (List Int)) : evCode (impl_Lawn_steps_C k) (loopP [0] (0, codeOf Try.f63)).2 (loopP [0] (0, codeOf Try.f63)).1 (fSt impl_Lawn_steps_t1 (enc_glll p)) (loopK tab [2, 3, 7, 8] [7] [6] g K) = impl_Lawn_steps_w1 k R K (fun p => g (fSt impl_Lawn_steps_t1 (enc_glll p))) p := by
  kernel_rfl
theorem impl_Lawn_steps_lok1 (k : Nat) : LoopOK Try.prog tab (impl_Lawn_steps_C k).lo (loopP [0] (0, codeOf Try.f63)).1 (loopP [0] (0, codeOf Try.f63)).2 :=
  loopOK_of (C := impl_Lawn_steps_C k) tabOK eqTabOK (oraOf_ok (impl_Lawn_steps_es k)) (oraOf_nat (impl_Lawn_steps_es k)) follows (forall_getD _ 1 (0, Code.skip) (by kernel_rfl) fun i hi => by
      match i, hi with
      | 0, _ => exact impl_Lawn_steps_lok0 k
      | n + 1, h => omega)
    (tm := impl_Lawn_steps_t1) (dec := dec_glll) (enc := enc_glll) (ksIn := [2, 3, 7, 8]) (ksOut := [7]) (ksRet := [6]) (k := k) (step := impl_Lawn_steps_w1 k) dec_enc_glll (fun p => by kernel_rfl) (fun s R K => by kernel_rfl) (impl_Lawn_steps_step1 k)
def impl_Lawn_steps_e (k : Nat) : Ent := (63, callOf [.agg 31, .agg 33, .cloB 33] dec_llg fun (p : (List Int) × (List Int) × (List Int → Option Bool)) R K => (impl_Lawn_steps k p.1 p.2.1 p.2.2).bind fun (b : (List Int)) => K ((fV (.slv 2) (enc_l b)).1, none))
theorem impl_Lawn_steps_run (k : Nat) (p : (List Int) × (List Int) × (List Int → Option Bool)) : runF (impl_Lawn_steps_C k) Try.f63 false (fL [.agg 31, .agg 33, .cloB 33] (enc_llg p)).1 (resK (.slv 2) dec_l) = impl_Lawn_steps k p.1 p.2.1 p.2.2 := by
  kernel_rfl
theorem impl_Lawn_steps_ok (k : Nat) : EntOK Try.prog tab mvs (impl_Lawn_steps_e k) :=
  fn_ok (C := impl_Lawn_steps_C k) tabOK eqTabOK (impl_Lawn_steps_es k) rfl follows Try.func63 (by kernel_rfl) (by kernel_rfl) rfl (forall_getD _ 1 (0, Code.skip) (by kernel_rfl) fun i hi => by
      match i, hi with
      | 0, _ => exact impl_Lawn_steps_lok1 k
      | n + 1, h => omega)
    dec_enc_llg dec_enc_l (impl_Lawn_steps_run k)

def impl_Lawn_grass_C (k : Nat) : Cfg := ⟨tab, mvs, oraOf [impl_Lawn_is_e k], loOf []⟩
theorem impl_Lawn_grass_es (k : Nat) : ∀ e ∈ ([impl_Lawn_is_e k] : List Ent), EntOK Try.prog tab mvs e := by
  intro e he
  simp only [List.mem_cons, List.not_mem_nil, or_false] at he
  rcases he with rfl
  · exact impl_Lawn_is_ok k
def impl_Lawn_grass_e (k : Nat) : Ent := (32, callOf [.agg 31, .agg 33] dec_ll fun (p : (List Int) × (List Int)) R K => (impl_Lawn_grass k p.1 p.2).bind fun (b : Bool) => K ((fV (.bool) (enc_b b)).1, none))
theorem impl_Lawn_grass_run (k : Nat) (p : (List Int) × (List Int)) : runF (impl_Lawn_grass_C k) Try.f32 false (fL [.agg 31, .agg 33] (enc_ll p)).1 (resK (.bool) dec_b) = impl_Lawn_grass k p.1 p.2 := by
  kernel_rfl
theorem impl_Lawn_grass_ok (k : Nat) : EntOK Try.prog tab mvs (impl_Lawn_grass_e k) :=
  fn_ok (C := impl_Lawn_grass_C k) tabOK eqTabOK (impl_Lawn_grass_es k) rfl follows Try.func32 (by kernel_rfl) (by kernel_rfl) rfl (forall_getD _ 0 (0, Code.skip) (by kernel_rfl) fun i hi => by
      omega)
    dec_enc_ll dec_enc_b (impl_Lawn_grass_run k)

def dec_ibiilll (ps : List Pay) : Option (Int × Bool × Int × Int × (List Int) × (List Int) × (List Int)) := match ps with
  | [.i x1, .b x2, .i x3, .i x4, .l x5, .l x6, .l x7] => some (x1, x2, x3, x4, x5, x6, x7)
  | _ => none
def enc_ibiilll (p : Int × Bool × Int × Int × (List Int) × (List Int) × (List Int)) : List Pay := [.i p.1, .b p.2.1, .i p.2.2.1, .i p.2.2.2.1, .l p.2.2.2.2.1, .l p.2.2.2.2.2.1, .l p.2.2.2.2.2.2]
theorem dec_enc_ibiilll : ∀ (ps : List Pay) (p : Int × Bool × Int × Int × (List Int) × (List Int) × (List Int)), dec_ibiilll ps = some p → ps = enc_ibiilll p := by
  intro ps p h
  unfold dec_ibiilll at h
  split at h
  · injection h with h
    subst h
    rfl
  · cases h

def impl_Lawn_battery_t0 : StTm := ⟨44, [(2, .ptr 2 0 31), (6, .slw 6 2), (7, .int .i64), (8, .bool), (20, .slw 20 33), (21, .int .i64), (22, .int .i64)], [(2, 31, true, .ints), (6, 2, false, .ints), (20, 33, false, .ints)]⟩
def impl_Lawn_battery_t0_1 : StTm := ⟨44, [(7, .int .i64), (8, .bool)], []⟩
def impl_Lawn_battery_w0 (k : Nat) (R : Type) (K : Ex → St → Option R) (rec : Int × Bool × Int × Int × (List Int) × (List Int) × (List Int) → Option R) (p : Int × Bool × Int × Int × (List Int) × (List Int) × (List Int)) : Option R := impl_Lawn_battery_s0 k (fun y1 y2 => K (.exit 0) (fSt impl_Lawn_battery_t0_1 [.i y1, .b y2])) (fun h1 h2 h3 h4 h5 h6 h7 => rec (h1, h2, h3, h4, h5, h6, h7)) p.1 p.2.1 p.2.2.1 p.2.2.2.1 p.2.2.2.2.1 p.2.2.2.2.2.1 p.2.2.2.2.2.2
def impl_Lawn_battery_c0 (k : Nat) : Lcall := lcallOf tab impl_Lawn_battery_t0 dec_ibiilll [2, 6, 7, 8, 20, 21, 22] k (impl_Lawn_battery_w0 k)
def impl_Lawn_battery_C (k : Nat) : Cfg := ⟨tab, mvs, oraOf [impl_Lawn_open_e k, impl_Lawn_steps_e k, impl_Lawn_grass_e k, impl_Lawn_those_e k, impl_Lawn_index_e k], loOf [(0, impl_Lawn_battery_c0 k)]⟩
theorem impl_Lawn_battery_es (k : Nat) : ∀ e ∈ ([impl_Lawn_open_e k, impl_Lawn_steps_e k, impl_Lawn_grass_e k, impl_Lawn_those_e k, impl_Lawn_index_e k] : List Ent), EntOK Try.prog tab mvs e := by
  intro e he
  simp only [List.mem_cons, List.not_mem_nil, or_false] at he
  rcases he with rfl | rfl | rfl | rfl | rfl
  · exact impl_Lawn_open_ok k
  · exact impl_Lawn_steps_ok k
  · exact impl_Lawn_grass_ok k
  · exact impl_Lawn_those_ok k
  · exact impl_Lawn_index_ok k
theorem impl_Lawn_battery_step0 (k : Nat) (R : Type) (K : Ex → St → Option R) (g : St → Option R) (p : Int × Bool × Int × Int × (List Int) × (List Int) × (List Int)) : evCode (impl_Lawn_battery_C k) (loopP [0] (0, codeOf Try.f43)).2 (loopP [0] (0, codeOf Try.f43)).1 (fSt impl_Lawn_battery_t0 (enc_ibiilll p)) (loopK tab [2, 6, 7, 8, 20, 21, 22] [7, 8] [4, 5] g K) = impl_Lawn_battery_w0 k R K (fun p => g (fSt impl_Lawn_battery_t0 (enc_ibiilll p))) p := by
  kernel_rfl
theorem impl_Lawn_battery_lok0 (k : Nat) : LoopOK Try.prog tab (impl_Lawn_battery_C k).lo (loopP [0] (0, codeOf Try.f43)).1 (loopP [0] (0, codeOf Try.f43)).2 :=
  loopOK_of (C := impl_Lawn_battery_C k) tabOK eqTabOK (oraOf_ok (impl_Lawn_battery_es k)) (oraOf_nat (impl_Lawn_battery_es k)) follows (forall_getD _ 0 (0, Code.skip) (by kernel_rfl) fun i hi => by
      omega)
    (tm := impl_Lawn_battery_t0) (dec := dec_ibiilll) (enc := enc_ibiilll) (ksIn := [2, 6, 7, 8, 20, 21, 22]) (ksOut := [7, 8]) (ksRet := [4, 5]) (k := k) (step := impl_Lawn_battery_w0 k) dec_enc_ibiilll (fun p => by kernel_rfl) (fun s R K => by kernel_rfl) (impl_Lawn_battery_step0 k)
def impl_Lawn_battery_e (k : Nat) : Ent := (43, callOf [.agg 31, .agg 33] dec_ll fun (p : (List Int) × (List Int)) R K => (impl_Lawn_battery k p.1 p.2).bind fun (b : Int × Bool) => K ((fV (.tup [.int .i64, .bool]) (enc_ib b)).1, none))
theorem impl_Lawn_battery_run (k : Nat) (p : (List Int) × (List Int)) : runF (impl_Lawn_battery_C k) Try.f43 false (fL [.agg 31, .agg 33] (enc_ll p)).1 (resK (.tup [.int .i64, .bool]) dec_ib) = impl_Lawn_battery k p.1 p.2 := by
  kernel_rfl
theorem impl_Lawn_battery_ok (k : Nat) : EntOK Try.prog tab mvs (impl_Lawn_battery_e k) :=
  fn_ok (C := impl_Lawn_battery_C k) tabOK eqTabOK (impl_Lawn_battery_es k) rfl follows Try.func43 (by kernel_rfl) (by kernel_rfl) rfl (forall_getD _ 1 (0, Code.skip) (by kernel_rfl) fun i hi => by
      match i, hi with
      | 0, _ => exact impl_Lawn_battery_lok0 k
      | n + 1, h => omega)
    dec_enc_ll dec_enc_ib (impl_Lawn_battery_run k)

def dec_iiillll (ps : List Pay) : Option (Int × Int × Int × (List Int) × (List Int) × (List Int) × (List Int)) := match ps with
  | [.i x1, .i x2, .i x3, .l x4, .l x5, .l x6, .l x7] => some (x1, x2, x3, x4, x5, x6, x7)
  | _ => none
def enc_iiillll (p : Int × Int × Int × (List Int) × (List Int) × (List Int) × (List Int)) : List Pay := [.i p.1, .i p.2.1, .i p.2.2.1, .l p.2.2.2.1, .l p.2.2.2.2.1, .l p.2.2.2.2.2.1, .l p.2.2.2.2.2.2]
theorem dec_enc_iiillll : ∀ (ps : List Pay) (p : Int × Int × Int × (List Int) × (List Int) × (List Int) × (List Int)), dec_iiillll ps = some p → ps = enc_iiillll p := by
  intro ps p h
  unfold dec_iiillll at h
  split at h
  · injection h with h
    subst h
    rfl
  · cases h

def impl_BestHome_t0 : StTm := ⟨49, [(1, .ptr 1 0 31), (2, .ptr 2 0 33), (5, .ptr 5 0 33), (6, .int .i64), (19, .slw 19 33), (20, .int .i64), (21, .int .i64)], [(1, 31, true, .ints), (2, 33, true, .ints), (5, 33, true, .ints), (19, 33, false, .ints)]⟩
def impl_BestHome_t0_1 : StTm := ⟨49, [(2, .ptr 2 0 33), (5, .ptr 5 0 33), (6, .int .i64)], [(2, 33, true, .ints), (5, 33, true, .ints)]⟩
def impl_BestHome_w0 (k : Nat) (R : Type) (K : Ex → St → Option R) (rec : Int × Int × Int × (List Int) × (List Int) × (List Int) × (List Int) → Option R) (p : Int × Int × Int × (List Int) × (List Int) × (List Int) × (List Int)) : Option R := impl_BestHome_s0 k (fun y1 y2 y3 => K (.exit 0) (fSt impl_BestHome_t0_1 [.i y1, .l y2, .l y3])) (fun h1 h2 h3 h4 h5 h6 h7 => rec (h1, h2, h3, h4, h5, h6, h7)) p.1 p.2.1 p.2.2.1 p.2.2.2.1 p.2.2.2.2.1 p.2.2.2.2.2.1 p.2.2.2.2.2.2
def impl_BestHome_c0 (k : Nat) : Lcall := lcallOf tab impl_BestHome_t0 dec_iiillll [1, 2, 5, 6, 19, 20, 21] k (impl_BestHome_w0 k)
def impl_BestHome_C (k : Nat) : Cfg := ⟨tab, mvs, oraOf [impl_ValidLawn_e k, impl_Lawn_open_e k, impl_Lawn_those_e k, impl_Lawn_battery_e k], loOf [(0, impl_BestHome_c0 k)]⟩
theorem impl_BestHome_es (k : Nat) : ∀ e ∈ ([impl_ValidLawn_e k, impl_Lawn_open_e k, impl_Lawn_those_e k, impl_Lawn_battery_e k] : List Ent), EntOK Try.prog tab mvs e := by
  intro e he
  simp only [List.mem_cons, List.not_mem_nil, or_false] at he
  rcases he with rfl | rfl | rfl | rfl
  · exact impl_ValidLawn_ok k
  · exact impl_Lawn_open_ok k
  · exact impl_Lawn_those_ok k
  · exact impl_Lawn_battery_ok k
theorem impl_BestHome_step0 (k : Nat) (R : Type) (K : Ex → St → Option R) (g : St → Option R) (p : Int × Int × Int × (List Int) × (List Int) × (List Int) × (List Int)) : evCode (impl_BestHome_C k) (loopP [0] (0, codeOf Try.f16)).2 (loopP [0] (0, codeOf Try.f16)).1 (fSt impl_BestHome_t0 (enc_iiillll p)) (loopK tab [1, 2, 5, 6, 19, 20, 21] [2, 5, 6] [2, 3, 4] g K) = impl_BestHome_w0 k R K (fun p => g (fSt impl_BestHome_t0 (enc_iiillll p))) p := by
  kernel_rfl
theorem impl_BestHome_lok0 (k : Nat) : LoopOK Try.prog tab (impl_BestHome_C k).lo (loopP [0] (0, codeOf Try.f16)).1 (loopP [0] (0, codeOf Try.f16)).2 :=
  loopOK_of (C := impl_BestHome_C k) tabOK eqTabOK (oraOf_ok (impl_BestHome_es k)) (oraOf_nat (impl_BestHome_es k)) follows (forall_getD _ 0 (0, Code.skip) (by kernel_rfl) fun i hi => by
      omega)
    (tm := impl_BestHome_t0) (dec := dec_iiillll) (enc := enc_iiillll) (ksIn := [1, 2, 5, 6, 19, 20, 21]) (ksOut := [2, 5, 6]) (ksRet := [2, 3, 4]) (k := k) (step := impl_BestHome_w0 k) dec_enc_iiillll (fun p => by kernel_rfl) (fun s R K => by kernel_rfl) (impl_BestHome_step0 k)
def impl_BestHome_e (k : Nat) : Ent := (16, callOf [.agg 31] dec_l fun (p : (List Int)) R K => (impl_BestHome k p).bind fun (b : (List Int) × Int × Int) => K ((fV (.tup [.agg 33, .int .i64, .int .i64]) (enc_lii b)).1, none))
theorem impl_BestHome_run (k : Nat) (p : (List Int)) : runF (impl_BestHome_C k) Try.f16 false (fL [.agg 31] (enc_l p)).1 (resK (.tup [.agg 33, .int .i64, .int .i64]) dec_lii) = impl_BestHome k p := by
  kernel_rfl
theorem impl_BestHome_ok (k : Nat) : EntOK Try.prog tab mvs (impl_BestHome_e k) :=
  fn_ok (C := impl_BestHome_C k) tabOK eqTabOK (impl_BestHome_es k) rfl follows Try.func16 (by kernel_rfl) (by kernel_rfl) rfl (forall_getD _ 1 (0, Code.skip) (by kernel_rfl) fun i hi => by
      match i, hi with
      | 0, _ => exact impl_BestHome_lok0 k
      | n + 1, h => omega)
    dec_enc_l dec_enc_lii (impl_BestHome_run k)

def laws_eqCell_C (k : Nat) : Cfg := ⟨tab, mvs, oraOf [], loOf []⟩
theorem laws_eqCell_es (k : Nat) : ∀ e ∈ ([] : List Ent), EntOK Try.prog tab mvs e := by
  intro e he
  simp at he
def laws_eqCell_e (k : Nat) : Ent := (17, callOf [.agg 33, .agg 33] dec_ll fun (p : (List Int) × (List Int)) R K => (laws_eqCell k p.1 p.2).bind fun (b : Bool) => K ((fV (.bool) (enc_b b)).1, none))
theorem laws_eqCell_run (k : Nat) (p : (List Int) × (List Int)) : runF (laws_eqCell_C k) Try.f17 false (fL [.agg 33, .agg 33] (enc_ll p)).1 (resK (.bool) dec_b) = laws_eqCell k p.1 p.2 := by
  kernel_rfl
theorem laws_eqCell_ok (k : Nat) : EntOK Try.prog tab mvs (laws_eqCell_e k) :=
  fn_ok (C := laws_eqCell_C k) tabOK eqTabOK (laws_eqCell_es k) rfl follows Try.func17 (by kernel_rfl) (by kernel_rfl) rfl (forall_getD _ 0 (0, Code.skip) (by kernel_rfl) fun i hi => by
      omega)
    dec_enc_ll dec_enc_b (laws_eqCell_run k)

def laws_FnExactBestHome_C (k : Nat) : Cfg := ⟨tab, mvs, oraOf [laws_toLawn_e k, spec_BestHome_e k, impl_BestHome_e k, laws_eqCell_e k], loOf []⟩
theorem laws_FnExactBestHome_es (k : Nat) : ∀ e ∈ ([laws_toLawn_e k, spec_BestHome_e k, impl_BestHome_e k, laws_eqCell_e k] : List Ent), EntOK Try.prog tab mvs e := by
  intro e he
  simp only [List.mem_cons, List.not_mem_nil, or_false] at he
  rcases he with rfl | rfl | rfl | rfl
  · exact laws_toLawn_ok k
  · exact spec_BestHome_ok k
  · exact impl_BestHome_ok k
  · exact laws_eqCell_ok k
def laws_FnExactBestHome_e (k : Nat) : Ent := (5, callOf [.agg 26] dec_l fun (p : (List Int)) R K => (laws_FnExactBestHome k p).bind fun (b : Bool) => K ((fV (.bool) (enc_b b)).1, none))
theorem laws_FnExactBestHome_run (k : Nat) (p : (List Int)) : runF (laws_FnExactBestHome_C k) Try.f5 false (fL [.agg 26] (enc_l p)).1 (resK (.bool) dec_b) = laws_FnExactBestHome k p := by
  kernel_rfl
theorem laws_FnExactBestHome_ok (k : Nat) : EntOK Try.prog tab mvs (laws_FnExactBestHome_e k) :=
  fn_ok (C := laws_FnExactBestHome_C k) tabOK eqTabOK (laws_FnExactBestHome_es k) rfl follows Try.func5 (by kernel_rfl) (by kernel_rfl) rfl (forall_getD _ 0 (0, Code.skip) (by kernel_rfl) fun i hi => by
      omega)
    dec_enc_l dec_enc_b (laws_FnExactBestHome_run k)

def impl_cellsCode_1_C (k : Nat) : Cfg := ⟨tab, mvs, oraOf [impl_Lawn_has_e k], loOf []⟩
theorem impl_cellsCode_1_es (k : Nat) : ∀ e ∈ ([impl_Lawn_has_e k] : List Ent), EntOK Try.prog tab mvs e := by
  intro e he
  simp only [List.mem_cons, List.not_mem_nil, or_false] at he
  rcases he with rfl
  · exact impl_Lawn_has_ok k
def impl_cellsCode_1_e (k : Nat) : Ent := (54, callOf [.agg 33, .pvi (some 31) 0 31] dec_ll fun (p : (List Int) × (List Int)) R K => (impl_cellsCode_1 k p.1 p.2).bind fun (b : Bool) => K ((fV (.bool) (enc_b b)).1, none))
theorem impl_cellsCode_1_run (k : Nat) (p : (List Int) × (List Int)) : runF (impl_cellsCode_1_C k) Try.f54 false (fL [.agg 33, .pvi (some 31) 0 31] (enc_ll p)).1 (resK (.bool) dec_b) = impl_cellsCode_1 k p.1 p.2 := by
  kernel_rfl
theorem impl_cellsCode_1_ok (k : Nat) : EntOK Try.prog tab mvs (impl_cellsCode_1_e k) :=
  fn_ok (C := impl_cellsCode_1_C k) tabOK eqTabOK (impl_cellsCode_1_es k) rfl follows Try.func54 (by kernel_rfl) (by kernel_rfl) rfl (forall_getD _ 0 (0, Code.skip) (by kernel_rfl) fun i hi => by
      omega)
    dec_enc_ll dec_enc_b (impl_cellsCode_1_run k)

def slices_ContainsFunc_impl_Cell_C (k : Nat) : Cfg := ⟨tab, mvs, oraOf [slices_IndexFunc_impl_Cell_e k], loOf []⟩
theorem slices_ContainsFunc_impl_Cell_es (k : Nat) : ∀ e ∈ ([slices_IndexFunc_impl_Cell_e k] : List Ent), EntOK Try.prog tab mvs e := by
  intro e he
  simp only [List.mem_cons, List.not_mem_nil, or_false] at he
  rcases he with rfl
  · exact slices_IndexFunc_impl_Cell_ok k
def slices_ContainsFunc_impl_Cell_e (k : Nat) : Ent := (53, callOf [.slv 33, .cloB 33] dec_lg fun (p : (List Int) × (List Int → Option Bool)) R K => (slices_ContainsFunc_impl_Cell k p.1 p.2).bind fun (b : Bool) => K ((fV (.bool) (enc_b b)).1, none))
theorem slices_ContainsFunc_impl_Cell_run (k : Nat) (p : (List Int) × (List Int → Option Bool)) : runF (slices_ContainsFunc_impl_Cell_C k) Try.f53 false (fL [.slv 33, .cloB 33] (enc_lg p)).1 (resK (.bool) dec_b) = slices_ContainsFunc_impl_Cell k p.1 p.2 := by
  kernel_rfl
theorem slices_ContainsFunc_impl_Cell_ok (k : Nat) : EntOK Try.prog tab mvs (slices_ContainsFunc_impl_Cell_e k) :=
  fn_ok (C := slices_ContainsFunc_impl_Cell_C k) tabOK eqTabOK (slices_ContainsFunc_impl_Cell_es k) rfl follows Try.func53 (by kernel_rfl) (by kernel_rfl) rfl (forall_getD _ 0 (0, Code.skip) (by kernel_rfl) fun i hi => by
      omega)
    dec_enc_lg dec_enc_b (slices_ContainsFunc_impl_Cell_run k)

def impl_cellsCode_C (k : Nat) : Cfg := ⟨tab, mvs, oraOf [impl_ValidLawn_e k, impl_cellsCode_1_e k, slices_ContainsFunc_impl_Cell_e k], loOf []⟩
theorem impl_cellsCode_es (k : Nat) : ∀ e ∈ ([impl_ValidLawn_e k, impl_cellsCode_1_e k, slices_ContainsFunc_impl_Cell_e k] : List Ent), EntOK Try.prog tab mvs e := by
  intro e he
  simp only [List.mem_cons, List.not_mem_nil, or_false] at he
  rcases he with rfl | rfl | rfl
  · exact impl_ValidLawn_ok k
  · exact impl_cellsCode_1_ok k
  · exact slices_ContainsFunc_impl_Cell_ok k
def impl_cellsCode_e (k : Nat) : Ent := (30, callOf [.agg 31, .slv 33] dec_ll fun (p : (List Int) × (List Int)) R K => (impl_cellsCode k p.1 p.2).bind fun (b : Int) => K ((fV (.int .i64) (enc_i b)).1, none))
theorem impl_cellsCode_run (k : Nat) (p : (List Int) × (List Int)) : runF (impl_cellsCode_C k) Try.f30 false (fL [.agg 31, .slv 33] (enc_ll p)).1 (resK (.int .i64) dec_i) = impl_cellsCode k p.1 p.2 := by
  kernel_rfl
theorem impl_cellsCode_ok (k : Nat) : EntOK Try.prog tab mvs (impl_cellsCode_e k) :=
  fn_ok (C := impl_cellsCode_C k) tabOK eqTabOK (impl_cellsCode_es k) rfl follows Try.func30 (by kernel_rfl) (by kernel_rfl) rfl (forall_getD _ 0 (0, Code.skip) (by kernel_rfl) fun i hi => by
      omega)
    dec_enc_ll dec_enc_i (impl_cellsCode_run k)

def impl_openCode_1_C (k : Nat) : Cfg := ⟨tab, mvs, oraOf [impl_Lawn_open_e k], loOf []⟩
theorem impl_openCode_1_es (k : Nat) : ∀ e ∈ ([impl_Lawn_open_e k] : List Ent), EntOK Try.prog tab mvs e := by
  intro e he
  simp only [List.mem_cons, List.not_mem_nil, or_false] at he
  rcases he with rfl
  · exact impl_Lawn_open_ok k
def impl_openCode_1_e (k : Nat) : Ent := (66, callOf [.agg 33, .pvi (some 31) 0 31] dec_ll fun (p : (List Int) × (List Int)) R K => (impl_openCode_1 k p.1 p.2).bind fun (b : Bool) => K ((fV (.bool) (enc_b b)).1, none))
theorem impl_openCode_1_run (k : Nat) (p : (List Int) × (List Int)) : runF (impl_openCode_1_C k) Try.f66 false (fL [.agg 33, .pvi (some 31) 0 31] (enc_ll p)).1 (resK (.bool) dec_b) = impl_openCode_1 k p.1 p.2 := by
  kernel_rfl
theorem impl_openCode_1_ok (k : Nat) : EntOK Try.prog tab mvs (impl_openCode_1_e k) :=
  fn_ok (C := impl_openCode_1_C k) tabOK eqTabOK (impl_openCode_1_es k) rfl follows Try.func66 (by kernel_rfl) (by kernel_rfl) rfl (forall_getD _ 0 (0, Code.skip) (by kernel_rfl) fun i hi => by
      omega)
    dec_enc_ll dec_enc_b (impl_openCode_1_run k)

def impl_openCode_C (k : Nat) : Cfg := ⟨tab, mvs, oraOf [impl_cellsCode_e k, impl_openCode_1_e k, slices_ContainsFunc_impl_Cell_e k], loOf []⟩
theorem impl_openCode_es (k : Nat) : ∀ e ∈ ([impl_cellsCode_e k, impl_openCode_1_e k, slices_ContainsFunc_impl_Cell_e k] : List Ent), EntOK Try.prog tab mvs e := by
  intro e he
  simp only [List.mem_cons, List.not_mem_nil, or_false] at he
  rcases he with rfl | rfl | rfl
  · exact impl_cellsCode_ok k
  · exact impl_openCode_1_ok k
  · exact slices_ContainsFunc_impl_Cell_ok k
def impl_openCode_e (k : Nat) : Ent := (48, callOf [.agg 31, .slv 33] dec_ll fun (p : (List Int) × (List Int)) R K => (impl_openCode k p.1 p.2).bind fun (b : Int) => K ((fV (.int .i64) (enc_i b)).1, none))
theorem impl_openCode_run (k : Nat) (p : (List Int) × (List Int)) : runF (impl_openCode_C k) Try.f48 false (fL [.agg 31, .slv 33] (enc_ll p)).1 (resK (.int .i64) dec_i) = impl_openCode k p.1 p.2 := by
  kernel_rfl
theorem impl_openCode_ok (k : Nat) : EntOK Try.prog tab mvs (impl_openCode_e k) :=
  fn_ok (C := impl_openCode_C k) tabOK eqTabOK (impl_openCode_es k) rfl follows Try.func48 (by kernel_rfl) (by kernel_rfl) rfl (forall_getD _ 0 (0, Code.skip) (by kernel_rfl) fun i hi => by
      omega)
    dec_enc_ll dec_enc_i (impl_openCode_run k)




end Go.Proofs.Ytboddfdojkgemaa.Tt
