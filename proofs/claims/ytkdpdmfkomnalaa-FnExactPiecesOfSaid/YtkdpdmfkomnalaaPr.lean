/- The code is what the functions in plain Lean say. -/
import Derived.Test.YtkdpdmfkomnalaaTab
import Derived.Test.YtkdpdmfkomnalaaSh
set_option linter.unusedVariables false
set_option linter.unusedSimpArgs false
set_option linter.unusedVariables false
namespace Go.Proofs.Ytkdpdmfkomnalaa.Tt
open Go.Ev Go
set_option maxRecDepth 100000


def mvs : List Nat := [136, 40, 91, 53, 1000053, 99, 1000099, 101, 1000101, 134, 1000134]

def dec_illl (ps : List Pay) : Option (Int × (List Int) × (List Int) × (List Int)) := match ps with
  | [.i x1, .l x2, .l x3, .l x4] => some (x1, x2, x3, x4)
  | _ => none
def enc_illl (p : Int × (List Int) × (List Int) × (List Int)) : List Pay := [.i p.1, .l p.2.1, .l p.2.2.1, .l p.2.2.2]
theorem dec_enc_illl : ∀ (ps : List Pay) (p : Int × (List Int) × (List Int) × (List Int)), dec_illl ps = some p → ps = enc_illl p := by
  intro ps p h
  unfold dec_illl at h
  split at h
  · injection h with h
    subst h
    rfl
  · cases h

def dec_l (ps : List Pay) : Option ((List Int)) := match ps with
  | [.l x1] => some x1
  | _ => none
def enc_l (p : (List Int)) : List Pay := [.l p]
theorem dec_enc_l : ∀ (ps : List Pay) (p : (List Int)), dec_l ps = some p → ps = enc_l p := by
  intro ps p h
  unfold dec_l at h
  split at h
  · injection h with h
    subst h
    rfl
  · cases h

def laws_toByteA10_t0 : StTm := ⟨15, [(1, .ptr 1 0 33), (2, .ptr 2 0 33), (3, .ptr 3 0 33), (4, .int .i64)], [(1, 33, true, .ints), (2, 33, true, .ints), (3, 33, true, .ints)]⟩
def laws_toByteA10_t0_1 : StTm := ⟨15, [(2, .ptr 2 0 33), (3, .ptr 3 0 33)], [(2, 33, true, .ints), (3, 33, true, .ints)]⟩
def laws_toByteA10_w0 (k : Nat) (R : Type) (K : Ex → St → Option R) (rec : Int × (List Int) × (List Int) × (List Int) → Option R) (p : Int × (List Int) × (List Int) × (List Int)) : Option R := laws_toByteA10_s0 k (fun y1 y2 => K (.exit 0) (fSt laws_toByteA10_t0_1 [.l y1, .l y2])) (fun h1 h2 h3 h4 => rec (h1, h2, h3, h4)) p.1 p.2.1 p.2.2.1 p.2.2.2
def laws_toByteA10_c0 (k : Nat) : Lcall := lcallOf tab laws_toByteA10_t0 dec_illl [1, 2, 3, 4] k (laws_toByteA10_w0 k)
def laws_toByteA10_C (k : Nat) : Cfg := ⟨tab, mvs, oraOf [], loOf [(0, laws_toByteA10_c0 k)]⟩
theorem laws_toByteA10_es (k : Nat) : ∀ e ∈ ([] : List Ent), EntOK Try.prog tab mvs e := by
  intro e he
  simp at he
theorem laws_toByteA10_step0 (k : Nat) (R : Type) (K : Ex → St → Option R) (g : St → Option R) (p : Int × (List Int) × (List Int) × (List Int)) : evCode (laws_toByteA10_C k) (loopP [0] (0, codeOf Try.f112)).2 (loopP [0] (0, codeOf Try.f112)).1 (fSt laws_toByteA10_t0 (enc_illl p)) (loopK tab [1, 2, 3, 4] [2, 3] [2] g K) = laws_toByteA10_w0 k R K (fun p => g (fSt laws_toByteA10_t0 (enc_illl p))) p := by
  kernel_rfl
theorem laws_toByteA10_lok0 (k : Nat) : LoopOK Try.prog tab (laws_toByteA10_C k).lo (loopP [0] (0, codeOf Try.f112)).1 (loopP [0] (0, codeOf Try.f112)).2 :=
  loopOK_of (C := laws_toByteA10_C k) tabOK eqTabOK (oraOf_ok (laws_toByteA10_es k)) (oraOf_nat (laws_toByteA10_es k)) follows (forall_getD _ 0 (0, Code.skip) (by kernel_rfl) fun i hi => by
      omega)
    (tm := laws_toByteA10_t0) (dec := dec_illl) (enc := enc_illl) (ksIn := [1, 2, 3, 4]) (ksOut := [2, 3]) (ksRet := [2]) (k := k) (step := laws_toByteA10_w0 k) dec_enc_illl (fun p => by kernel_rfl) (fun s R K => by kernel_rfl) (laws_toByteA10_step0 k)
def laws_toByteA10_e (k : Nat) : Ent := (112, callOf [.agg 33] dec_l fun (p : (List Int)) R K => (laws_toByteA10 k p).bind fun (b : (List Int)) => K ((fV (.agg 33) (enc_l b)).1, none))
theorem laws_toByteA10_run (k : Nat) (p : (List Int)) : runF (laws_toByteA10_C k) Try.f112 false (fL [.agg 33] (enc_l p)).1 (resK (.agg 33) dec_l) = laws_toByteA10 k p := by
  kernel_rfl
theorem laws_toByteA10_ok (k : Nat) : EntOK Try.prog tab mvs (laws_toByteA10_e k) :=
  fn_ok (C := laws_toByteA10_C k) tabOK eqTabOK (laws_toByteA10_es k) rfl follows Try.func112 (by kernel_rfl) (by kernel_rfl) rfl (forall_getD _ 1 (0, Code.skip) (by kernel_rfl) fun i hi => by
      match i, hi with
      | 0, _ => exact laws_toByteA10_lok0 k
      | n + 1, h => omega)
    dec_enc_l dec_enc_l (laws_toByteA10_run k)

def laws_toByteA10A10_t0 : StTm := ⟨16, [(1, .ptr 1 0 34), (2, .ptr 2 0 34), (3, .ptr 3 0 34), (4, .int .i64)], [(1, 34, true, .ints), (2, 34, true, .ints), (3, 34, true, .ints)]⟩
def laws_toByteA10A10_t0_1 : StTm := ⟨16, [(2, .ptr 2 0 34), (3, .ptr 3 0 34)], [(2, 34, true, .ints), (3, 34, true, .ints)]⟩
def laws_toByteA10A10_w0 (k : Nat) (R : Type) (K : Ex → St → Option R) (rec : Int × (List Int) × (List Int) × (List Int) → Option R) (p : Int × (List Int) × (List Int) × (List Int)) : Option R := laws_toByteA10A10_s0 k (fun y1 y2 => K (.exit 0) (fSt laws_toByteA10A10_t0_1 [.l y1, .l y2])) (fun h1 h2 h3 h4 => rec (h1, h2, h3, h4)) p.1 p.2.1 p.2.2.1 p.2.2.2
def laws_toByteA10A10_c0 (k : Nat) : Lcall := lcallOf tab laws_toByteA10A10_t0 dec_illl [1, 2, 3, 4] k (laws_toByteA10A10_w0 k)
def laws_toByteA10A10_C (k : Nat) : Cfg := ⟨tab, mvs, oraOf [laws_toByteA10_e k], loOf [(0, laws_toByteA10A10_c0 k)]⟩
theorem laws_toByteA10A10_es (k : Nat) : ∀ e ∈ ([laws_toByteA10_e k] : List Ent), EntOK Try.prog tab mvs e := by
  intro e he
  simp only [List.mem_cons, List.not_mem_nil, or_false] at he
  rcases he with rfl
  · exact laws_toByteA10_ok k
theorem laws_toByteA10A10_step0 (k : Nat) (R : Type) (K : Ex → St → Option R) (g : St → Option R) (p : Int × (List Int) × (List Int) × (List Int)) : evCode (laws_toByteA10A10_C k) (loopP [0] (0, codeOf Try.f68)).2 (loopP [0] (0, codeOf Try.f68)).1 (fSt laws_toByteA10A10_t0 (enc_illl p)) (loopK tab [1, 2, 3, 4] [2, 3] [2] g K) = laws_toByteA10A10_w0 k R K (fun p => g (fSt laws_toByteA10A10_t0 (enc_illl p))) p := by
  kernel_rfl
theorem laws_toByteA10A10_lok0 (k : Nat) : LoopOK Try.prog tab (laws_toByteA10A10_C k).lo (loopP [0] (0, codeOf Try.f68)).1 (loopP [0] (0, codeOf Try.f68)).2 :=
  loopOK_of (C := laws_toByteA10A10_C k) tabOK eqTabOK (oraOf_ok (laws_toByteA10A10_es k)) (oraOf_nat (laws_toByteA10A10_es k)) follows (forall_getD _ 0 (0, Code.skip) (by kernel_rfl) fun i hi => by
      omega)
    (tm := laws_toByteA10A10_t0) (dec := dec_illl) (enc := enc_illl) (ksIn := [1, 2, 3, 4]) (ksOut := [2, 3]) (ksRet := [2]) (k := k) (step := laws_toByteA10A10_w0 k) dec_enc_illl (fun p => by kernel_rfl) (fun s R K => by kernel_rfl) (laws_toByteA10A10_step0 k)
def laws_toByteA10A10_e (k : Nat) : Ent := (68, callOf [.agg 34] dec_l fun (p : (List Int)) R K => (laws_toByteA10A10 k p).bind fun (b : (List Int)) => K ((fV (.agg 34) (enc_l b)).1, none))
theorem laws_toByteA10A10_run (k : Nat) (p : (List Int)) : runF (laws_toByteA10A10_C k) Try.f68 false (fL [.agg 34] (enc_l p)).1 (resK (.agg 34) dec_l) = laws_toByteA10A10 k p := by
  kernel_rfl
theorem laws_toByteA10A10_ok (k : Nat) : EntOK Try.prog tab mvs (laws_toByteA10A10_e k) :=
  fn_ok (C := laws_toByteA10A10_C k) tabOK eqTabOK (laws_toByteA10A10_es k) rfl follows Try.func68 (by kernel_rfl) (by kernel_rfl) rfl (forall_getD _ 1 (0, Code.skip) (by kernel_rfl) fun i hi => by
      match i, hi with
      | 0, _ => exact laws_toByteA10A10_lok0 k
      | n + 1, h => omega)
    dec_enc_l dec_enc_l (laws_toByteA10A10_run k)

def laws_toLawn_C (k : Nat) : Cfg := ⟨tab, mvs, oraOf [laws_toByteA10A10_e k], loOf []⟩
theorem laws_toLawn_es (k : Nat) : ∀ e ∈ ([laws_toByteA10A10_e k] : List Ent), EntOK Try.prog tab mvs e := by
  intro e he
  simp only [List.mem_cons, List.not_mem_nil, or_false] at he
  rcases he with rfl
  · exact laws_toByteA10A10_ok k
def laws_toLawn_e (k : Nat) : Ent := (28, callOf [.agg 58] dec_l fun (p : (List Int)) R K => (laws_toLawn k p).bind fun (b : (List Int)) => K ((fV (.agg 36) (enc_l b)).1, none))
theorem laws_toLawn_run (k : Nat) (p : (List Int)) : runF (laws_toLawn_C k) Try.f28 false (fL [.agg 58] (enc_l p)).1 (resK (.agg 36) dec_l) = laws_toLawn k p := by
  kernel_rfl
theorem laws_toLawn_ok (k : Nat) : EntOK Try.prog tab mvs (laws_toLawn_e k) :=
  fn_ok (C := laws_toLawn_C k) tabOK eqTabOK (laws_toLawn_es k) rfl follows Try.func28 (by kernel_rfl) (by kernel_rfl) rfl (forall_getD _ 0 (0, Code.skip) (by kernel_rfl) fun i hi => by
      omega)
    dec_enc_l dec_enc_l (laws_toLawn_run k)

def dec_iii (ps : List Pay) : Option (Int × Int × Int) := match ps with
  | [.i x1, .i x2, .i x3] => some (x1, x2, x3)
  | _ => none
def enc_iii (p : Int × Int × Int) : List Pay := [.i p.1, .i p.2.1, .i p.2.2]
theorem dec_enc_iii : ∀ (ps : List Pay) (p : Int × Int × Int), dec_iii ps = some p → ps = enc_iii p := by
  intro ps p h
  unfold dec_iii at h
  split at h
  · injection h with h
    subst h
    rfl
  · cases h

def dec_b (ps : List Pay) : Option (Bool) := match ps with
  | [.b x1] => some x1
  | _ => none
def enc_b (p : Bool) : List Pay := [.b p]
theorem dec_enc_b : ∀ (ps : List Pay) (p : Bool), dec_b ps = some p → ps = enc_b p := by
  intro ps p h
  unfold dec_b at h
  split at h
  · injection h with h
    subst h
    rfl
  · cases h

def spec_l00In_C (k : Nat) : Cfg := ⟨tab, mvs, oraOf [], loOf []⟩
theorem spec_l00In_es (k : Nat) : ∀ e ∈ ([] : List Ent), EntOK Try.prog tab mvs e := by
  intro e he
  simp at he
def spec_l00In_e (k : Nat) : Ent := (94, callOf [.int .i64, .int .i64, .int .i64] dec_iii fun (p : Int × Int × Int) R K => (spec_l00In k p.1 p.2.1 p.2.2).bind fun (b : Bool) => K ((fV (.bool) (enc_b b)).1, none))
theorem spec_l00In_run (k : Nat) (p : Int × Int × Int) : runF (spec_l00In_C k) Try.f94 false (fL [.int .i64, .int .i64, .int .i64] (enc_iii p)).1 (resK (.bool) dec_b) = spec_l00In k p.1 p.2.1 p.2.2 := by
  kernel_rfl
theorem spec_l00In_ok (k : Nat) : EntOK Try.prog tab mvs (spec_l00In_e k) :=
  fn_ok (C := spec_l00In_C k) tabOK eqTabOK (spec_l00In_es k) rfl follows Try.func94 (by kernel_rfl) (by kernel_rfl) rfl (forall_getD _ 0 (0, Code.skip) (by kernel_rfl) fun i hi => by
      omega)
    dec_enc_iii dec_enc_b (spec_l00In_run k)

def dec_i (ps : List Pay) : Option (Int) := match ps with
  | [.i x1] => some x1
  | _ => none
def enc_i (p : Int) : List Pay := [.i p]
theorem dec_enc_i : ∀ (ps : List Pay) (p : Int), dec_i ps = some p → ps = enc_i p := by
  intro ps p h
  unfold dec_i at h
  split at h
  · injection h with h
    subst h
    rfl
  · cases h

def spec_l01Side_C (k : Nat) : Cfg := ⟨tab, mvs, oraOf [spec_l00In_e k], loOf []⟩
theorem spec_l01Side_es (k : Nat) : ∀ e ∈ ([spec_l00In_e k] : List Ent), EntOK Try.prog tab mvs e := by
  intro e he
  simp only [List.mem_cons, List.not_mem_nil, or_false] at he
  rcases he with rfl
  · exact spec_l00In_ok k
def spec_l01Side_e (k : Nat) : Ent := (105, callOf [.int .i64] dec_i fun (p : Int) R K => (spec_l01Side k p).bind fun (b : Bool) => K ((fV (.bool) (enc_b b)).1, none))
theorem spec_l01Side_run (k : Nat) (p : Int) : runF (spec_l01Side_C k) Try.f105 false (fL [.int .i64] (enc_i p)).1 (resK (.bool) dec_b) = spec_l01Side k p := by
  kernel_rfl
theorem spec_l01Side_ok (k : Nat) : EntOK Try.prog tab mvs (spec_l01Side_e k) :=
  fn_ok (C := spec_l01Side_C k) tabOK eqTabOK (spec_l01Side_es k) rfl follows Try.func105 (by kernel_rfl) (by kernel_rfl) rfl (forall_getD _ 0 (0, Code.skip) (by kernel_rfl) fun i hi => by
      omega)
    dec_enc_i dec_enc_b (spec_l01Side_run k)

def spec_l01Kind_C (k : Nat) : Cfg := ⟨tab, mvs, oraOf [spec_l00In_e k], loOf []⟩
theorem spec_l01Kind_es (k : Nat) : ∀ e ∈ ([spec_l00In_e k] : List Ent), EntOK Try.prog tab mvs e := by
  intro e he
  simp only [List.mem_cons, List.not_mem_nil, or_false] at he
  rcases he with rfl
  · exact spec_l00In_ok k
def spec_l01Kind_e (k : Nat) : Ent := (60, callOf [.int .i64] dec_i fun (p : Int) R K => (spec_l01Kind k p).bind fun (b : Bool) => K ((fV (.bool) (enc_b b)).1, none))
theorem spec_l01Kind_run (k : Nat) (p : Int) : runF (spec_l01Kind_C k) Try.f60 false (fL [.int .i64] (enc_i p)).1 (resK (.bool) dec_b) = spec_l01Kind k p := by
  kernel_rfl
theorem spec_l01Kind_ok (k : Nat) : EntOK Try.prog tab mvs (spec_l01Kind_e k) :=
  fn_ok (C := spec_l01Kind_C k) tabOK eqTabOK (spec_l01Kind_es k) rfl follows Try.func60 (by kernel_rfl) (by kernel_rfl) rfl (forall_getD _ 0 (0, Code.skip) (by kernel_rfl) fun i hi => by
      omega)
    dec_enc_i dec_enc_b (spec_l01Kind_run k)

def dec_ll (ps : List Pay) : Option ((List Int) × (List Int)) := match ps with
  | [.l x1, .l x2] => some (x1, x2)
  | _ => none
def enc_ll (p : (List Int) × (List Int)) : List Pay := [.l p.1, .l p.2]
theorem dec_enc_ll : ∀ (ps : List Pay) (p : (List Int) × (List Int)), dec_ll ps = some p → ps = enc_ll p := by
  intro ps p h
  unfold dec_ll at h
  split at h
  · injection h with h
    subst h
    rfl
  · cases h

def spec_l01Is_C (k : Nat) : Cfg := ⟨tab, mvs, oraOf [spec_l00In_e k], loOf []⟩
theorem spec_l01Is_es (k : Nat) : ∀ e ∈ ([spec_l00In_e k] : List Ent), EntOK Try.prog tab mvs e := by
  intro e he
  simp only [List.mem_cons, List.not_mem_nil, or_false] at he
  rcases he with rfl
  · exact spec_l00In_ok k
def spec_l01Is_e (k : Nat) : Ent := (106, callOf [.pvi (some 36) 0 36, .agg 43] dec_ll fun (p : (List Int) × (List Int)) R K => (spec_l01Is k p.1 p.2).bind fun (b : Bool) => K ((fV (.bool) (enc_b b)).1, none))
theorem spec_l01Is_run (k : Nat) (p : (List Int) × (List Int)) : runF (spec_l01Is_C k) Try.f106 false (fL [.pvi (some 36) 0 36, .agg 43] (enc_ll p)).1 (resK (.bool) dec_b) = spec_l01Is k p.1 p.2 := by
  kernel_rfl
theorem spec_l01Is_ok (k : Nat) : EntOK Try.prog tab mvs (spec_l01Is_e k) :=
  fn_ok (C := spec_l01Is_C k) tabOK eqTabOK (spec_l01Is_es k) rfl follows Try.func106 (by kernel_rfl) (by kernel_rfl) rfl (forall_getD _ 0 (0, Code.skip) (by kernel_rfl) fun i hi => by
      omega)
    dec_enc_ll dec_enc_b (spec_l01Is_run k)

def dec_lii (ps : List Pay) : Option ((List Int) × Int × Int) := match ps with
  | [.l x1, .i x2, .i x3] => some (x1, x2, x3)
  | _ => none
def enc_lii (p : (List Int) × Int × Int) : List Pay := [.l p.1, .i p.2.1, .i p.2.2]
theorem dec_enc_lii : ∀ (ps : List Pay) (p : (List Int) × Int × Int), dec_lii ps = some p → ps = enc_lii p := by
  intro ps p h
  unfold dec_lii at h
  split at h
  · injection h with h
    subst h
    rfl
  · cases h

def dec_li (ps : List Pay) : Option ((List Int) × Int) := match ps with
  | [.l x1, .i x2] => some (x1, x2)
  | _ => none
def enc_li (p : (List Int) × Int) : List Pay := [.l p.1, .i p.2]
theorem dec_enc_li : ∀ (ps : List Pay) (p : (List Int) × Int), dec_li ps = some p → ps = enc_li p := by
  intro ps p h
  unfold dec_li at h
  split at h
  · injection h with h
    subst h
    rfl
  · cases h

def spec_l01Ok_t0 : StTm := ⟨54, [(0, .pvi (some 36) 0 36), (3, .int .i8), (4, .int .i8)], []⟩
def spec_l01Ok_t0_1 : StTm := ⟨54, [(2, .bool)], []⟩
def spec_l01Ok_t0_2 : StTm := ⟨54, [(0, .pvi (some 36) 0 36), (3, .int .i8)], []⟩
def spec_l01Ok_w0 (k : Nat) (R : Type) (K : Ex → St → Option R) (rec : (List Int) × Int × Int → Option R) (p : (List Int) × Int × Int) : Option R := spec_l01Ok_s0 k (fun y1 => K .ret (fSt spec_l01Ok_t0_1 [.b y1])) (fun y1 y2 => K (.exit 2) (fSt spec_l01Ok_t0_2 [.l y1, .i y2])) (fun h1 h2 h3 => rec (h1, h2, h3)) p.1 p.2.1 p.2.2
def spec_l01Ok_c0 (k : Nat) : Lcall := lcallOf tab spec_l01Ok_t0 dec_lii [0, 3, 4] k (spec_l01Ok_w0 k)
def spec_l01Ok_t1 : StTm := ⟨54, [(0, .pvi (some 36) 0 36), (3, .int .i8)], []⟩
def spec_l01Ok_t1_1 : StTm := ⟨54, [(2, .bool)], []⟩
def spec_l01Ok_t1_2 : StTm := ⟨54, [], []⟩
def spec_l01Ok_w1 (k : Nat) (R : Type) (K : Ex → St → Option R) (rec : (List Int) × Int → Option R) (p : (List Int) × Int) : Option R := spec_l01Ok_s1 k (fun y1 => K .ret (fSt spec_l01Ok_t1_1 [.b y1])) (K (.exit 0) (fSt spec_l01Ok_t1_2 [])) (fun h1 h2 => rec (h1, h2)) p.1 p.2
def spec_l01Ok_c1 (k : Nat) : Lcall := lcallOf tab spec_l01Ok_t1 dec_li [0, 3] k (spec_l01Ok_w1 k)
def spec_l01Ok_C (k : Nat) : Cfg := ⟨tab, mvs, oraOf [spec_l01Side_e k, spec_l01Kind_e k, spec_l01Is_e k], loOf [(2, spec_l01Ok_c0 k), (0, spec_l01Ok_c1 k)]⟩
theorem spec_l01Ok_es (k : Nat) : ∀ e ∈ ([spec_l01Side_e k, spec_l01Kind_e k, spec_l01Is_e k] : List Ent), EntOK Try.prog tab mvs e := by
  intro e he
  simp only [List.mem_cons, List.not_mem_nil, or_false] at he
  rcases he with rfl | rfl | rfl
  · exact spec_l01Side_ok k
  · exact spec_l01Kind_ok k
  · exact spec_l01Is_ok k
theorem spec_l01Ok_step0 (k : Nat) (R : Type) (K : Ex → St → Option R) (g : St → Option R) (p : (List Int) × Int × Int) : evCode (spec_l01Ok_C k) (loopP [0, 0] (0, codeOf Try.f57)).2 (loopP [0, 0] (0, codeOf Try.f57)).1 (fSt spec_l01Ok_t0 (enc_lii p)) (loopK tab [0, 3, 4] [0, 3] [2] g K) = spec_l01Ok_w0 k R K (fun p => g (fSt spec_l01Ok_t0 (enc_lii p))) p := by
  kernel_rfl
theorem spec_l01Ok_lok0 (k : Nat) : LoopOK Try.prog tab (spec_l01Ok_C k).lo (loopP [0, 0] (0, codeOf Try.f57)).1 (loopP [0, 0] (0, codeOf Try.f57)).2 :=
  loopOK_of (C := spec_l01Ok_C k) tabOK eqTabOK (oraOf_ok (spec_l01Ok_es k)) (oraOf_nat (spec_l01Ok_es k)) follows (forall_getD _ 0 (0, Code.skip) (by kernel_rfl) fun i hi => by
      omega)
    (tm := spec_l01Ok_t0) (dec := dec_lii) (enc := enc_lii) (ksIn := [0, 3, 4]) (ksOut := [0, 3]) (ksRet := [2]) (k := k) (step := spec_l01Ok_w0 k) dec_enc_lii (fun p => by kernel_rfl) (fun s R K => by kernel_rfl) (spec_l01Ok_step0 k)
theorem spec_l01Ok_step1 (k : Nat) (R : Type) (K : Ex → St → Option R) (g : St → Option R) (p : (List Int) × Int) : evCode (spec_l01Ok_C k) (loopP [0] (0, codeOf Try.f57)).2 (loopP [0] (0, codeOf Try.f57)).1 (fSt spec_l01Ok_t1 (enc_li p)) (loopK tab [0, 3] [] [2] g K) = spec_l01Ok_w1 k R K (fun p => g (fSt spec_l01Ok_t1 (enc_li p))) p := by
  kernel_rfl
theorem spec_l01Ok_lok1 (k : Nat) : LoopOK Try.prog tab (spec_l01Ok_C k).lo (loopP [0] (0, codeOf Try.f57)).1 (loopP [0] (0, codeOf Try.f57)).2 :=
  loopOK_of (C := spec_l01Ok_C k) tabOK eqTabOK (oraOf_ok (spec_l01Ok_es k)) (oraOf_nat (spec_l01Ok_es k)) follows (forall_getD _ 1 (0, Code.skip) (by kernel_rfl) fun i hi => by
      match i, hi with
      | 0, _ => exact spec_l01Ok_lok0 k
      | n + 1, h => omega)
    (tm := spec_l01Ok_t1) (dec := dec_li) (enc := enc_li) (ksIn := [0, 3]) (ksOut := []) (ksRet := [2]) (k := k) (step := spec_l01Ok_w1 k) dec_enc_li (fun p => by kernel_rfl) (fun s R K => by kernel_rfl) (spec_l01Ok_step1 k)
def spec_l01Ok_e (k : Nat) : Ent := (57, callOf [.pvi (some 36) 0 36] dec_l fun (p : (List Int)) R K => (spec_l01Ok k p).bind fun (b : Bool) => K ((fV (.bool) (enc_b b)).1, none))
theorem spec_l01Ok_run (k : Nat) (p : (List Int)) : runF (spec_l01Ok_C k) Try.f57 false (fL [.pvi (some 36) 0 36] (enc_l p)).1 (resK (.bool) dec_b) = spec_l01Ok k p := by
  kernel_rfl
theorem spec_l01Ok_ok (k : Nat) : EntOK Try.prog tab mvs (spec_l01Ok_e k) :=
  fn_ok (C := spec_l01Ok_C k) tabOK eqTabOK (spec_l01Ok_es k) rfl follows Try.func57 (by kernel_rfl) (by kernel_rfl) rfl (forall_getD _ 1 (0, Code.skip) (by kernel_rfl) fun i hi => by
      match i, hi with
      | 0, _ => exact spec_l01Ok_lok1 k
      | n + 1, h => omega)
    dec_enc_l dec_enc_b (spec_l01Ok_run k)

def dec_liil (ps : List Pay) : Option ((List Int) × Int × Int × (List Int)) := match ps with
  | [.l x1, .i x2, .i x3, .l x4] => some (x1, x2, x3, x4)
  | _ => none
def enc_liil (p : (List Int) × Int × Int × (List Int)) : List Pay := [.l p.1, .i p.2.1, .i p.2.2.1, .l p.2.2.2]
theorem dec_enc_liil : ∀ (ps : List Pay) (p : (List Int) × Int × Int × (List Int)), dec_liil ps = some p → ps = enc_liil p := by
  intro ps p h
  unfold dec_liil at h
  split at h
  · injection h with h
    subst h
    rfl
  · cases h

def dec_lil (ps : List Pay) : Option ((List Int) × Int × (List Int)) := match ps with
  | [.l x1, .i x2, .l x3] => some (x1, x2, x3)
  | _ => none
def enc_lil (p : (List Int) × Int × (List Int)) : List Pay := [.l p.1, .i p.2.1, .l p.2.2]
theorem dec_enc_lil : ∀ (ps : List Pay) (p : (List Int) × Int × (List Int)), dec_lil ps = some p → ps = enc_lil p := by
  intro ps p h
  unfold dec_lil at h
  split at h
  · injection h with h
    subst h
    rfl
  · cases h

def spec_l01All_t0 : StTm := ⟨30, [(0, .pvi (some 36) 0 36), (3, .slw 3 43), (4, .int .i8), (5, .int .i8)], [(3, 43, false, .ints)]⟩
def spec_l01All_t0_1 : StTm := ⟨30, [(0, .pvi (some 36) 0 36), (3, .slw 3 43), (4, .int .i8)], [(3, 43, false, .ints)]⟩
def spec_l01All_w0 (k : Nat) (R : Type) (K : Ex → St → Option R) (rec : (List Int) × Int × Int × (List Int) → Option R) (p : (List Int) × Int × Int × (List Int)) : Option R := spec_l01All_s0 k (fun y1 y2 y3 => K (.exit 2) (fSt spec_l01All_t0_1 [.l y1, .i y2, .l y3])) (fun h1 h2 h3 h4 => rec (h1, h2, h3, h4)) p.1 p.2.1 p.2.2.1 p.2.2.2
def spec_l01All_c0 (k : Nat) : Lcall := lcallOf tab spec_l01All_t0 dec_liil [0, 3, 4, 5] k (spec_l01All_w0 k)
def spec_l01All_t1 : StTm := ⟨30, [(0, .pvi (some 36) 0 36), (3, .slw 3 43), (4, .int .i8)], [(3, 43, false, .ints)]⟩
def spec_l01All_t1_1 : StTm := ⟨30, [(3, .slw 3 43)], [(3, 43, false, .ints)]⟩
def spec_l01All_w1 (k : Nat) (R : Type) (K : Ex → St → Option R) (rec : (List Int) × Int × (List Int) → Option R) (p : (List Int) × Int × (List Int)) : Option R := spec_l01All_s1 k (fun y1 => K (.exit 0) (fSt spec_l01All_t1_1 [.l y1])) (fun h1 h2 h3 => rec (h1, h2, h3)) p.1 p.2.1 p.2.2
def spec_l01All_c1 (k : Nat) : Lcall := lcallOf tab spec_l01All_t1 dec_lil [0, 3, 4] k (spec_l01All_w1 k)
def spec_l01All_C (k : Nat) : Cfg := ⟨tab, mvs, oraOf [], loOf [(2, spec_l01All_c0 k), (0, spec_l01All_c1 k)]⟩
theorem spec_l01All_es (k : Nat) : ∀ e ∈ ([] : List Ent), EntOK Try.prog tab mvs e := by
  intro e he
  simp at he
theorem spec_l01All_step0 (k : Nat) (R : Type) (K : Ex → St → Option R) (g : St → Option R) (p : (List Int) × Int × Int × (List Int)) : evCode (spec_l01All_C k) (loopP [0, 0] (0, codeOf Try.f100)).2 (loopP [0, 0] (0, codeOf Try.f100)).1 (fSt spec_l01All_t0 (enc_liil p)) (loopK tab [0, 3, 4, 5] [0, 3, 4] [2] g K) = spec_l01All_w0 k R K (fun p => g (fSt spec_l01All_t0 (enc_liil p))) p := by
  kernel_rfl
theorem spec_l01All_lok0 (k : Nat) : LoopOK Try.prog tab (spec_l01All_C k).lo (loopP [0, 0] (0, codeOf Try.f100)).1 (loopP [0, 0] (0, codeOf Try.f100)).2 :=
  loopOK_of (C := spec_l01All_C k) tabOK eqTabOK (oraOf_ok (spec_l01All_es k)) (oraOf_nat (spec_l01All_es k)) follows (forall_getD _ 0 (0, Code.skip) (by kernel_rfl) fun i hi => by
      omega)
    (tm := spec_l01All_t0) (dec := dec_liil) (enc := enc_liil) (ksIn := [0, 3, 4, 5]) (ksOut := [0, 3, 4]) (ksRet := [2]) (k := k) (step := spec_l01All_w0 k) dec_enc_liil (fun p => by kernel_rfl) (fun s R K => by kernel_rfl) (spec_l01All_step0 k)
theorem spec_l01All_step1 (k : Nat) (R : Type) (K : Ex → St → Option R) (g : St → Option R) (p : (List Int) × Int × (List Int)) : evCode (spec_l01All_C k) (loopP [0] (0, codeOf Try.f100)).2 (loopP [0] (0, codeOf Try.f100)).1 (fSt spec_l01All_t1 (enc_lil p)) (loopK tab [0, 3, 4] [3] [2] g K) = spec_l01All_w1 k R K (fun p => g (fSt spec_l01All_t1 (enc_lil p))) p := by
  kernel_rfl
theorem spec_l01All_lok1 (k : Nat) : LoopOK Try.prog tab (spec_l01All_C k).lo (loopP [0] (0, codeOf Try.f100)).1 (loopP [0] (0, codeOf Try.f100)).2 :=
  loopOK_of (C := spec_l01All_C k) tabOK eqTabOK (oraOf_ok (spec_l01All_es k)) (oraOf_nat (spec_l01All_es k)) follows (forall_getD _ 1 (0, Code.skip) (by kernel_rfl) fun i hi => by
      match i, hi with
      | 0, _ => exact spec_l01All_lok0 k
      | n + 1, h => omega)
    (tm := spec_l01All_t1) (dec := dec_lil) (enc := enc_lil) (ksIn := [0, 3, 4]) (ksOut := [3]) (ksRet := [2]) (k := k) (step := spec_l01All_w1 k) dec_enc_lil (fun p => by kernel_rfl) (fun s R K => by kernel_rfl) (spec_l01All_step1 k)
def spec_l01All_e (k : Nat) : Ent := (100, callOf [.pvi (some 36) 0 36] dec_l fun (p : (List Int)) R K => (spec_l01All k p).bind fun (b : (List Int)) => K ((fV (.slv 43) (enc_l b)).1, none))
theorem spec_l01All_run (k : Nat) (p : (List Int)) : runF (spec_l01All_C k) Try.f100 false (fL [.pvi (some 36) 0 36] (enc_l p)).1 (resK (.slv 43) dec_l) = spec_l01All k p := by
  kernel_rfl
theorem spec_l01All_ok (k : Nat) : EntOK Try.prog tab mvs (spec_l01All_e k) :=
  fn_ok (C := spec_l01All_C k) tabOK eqTabOK (spec_l01All_es k) rfl follows Try.func100 (by kernel_rfl) (by kernel_rfl) rfl (forall_getD _ 1 (0, Code.skip) (by kernel_rfl) fun i hi => by
      match i, hi with
      | 0, _ => exact spec_l01All_lok1 k
      | n + 1, h => omega)
    dec_enc_l dec_enc_l (spec_l01All_run k)

def spec_l01At_C (k : Nat) : Cfg := ⟨tab, mvs, oraOf [], loOf []⟩
theorem spec_l01At_es (k : Nat) : ∀ e ∈ ([] : List Ent), EntOK Try.prog tab mvs e := by
  intro e he
  simp at he
def spec_l01At_e (k : Nat) : Ent := (109, callOf [.pvi (some 36) 0 36, .agg 43] dec_ll fun (p : (List Int) × (List Int)) R K => (spec_l01At k p.1 p.2).bind fun (b : Int) => K ((fV (.int .i64) (enc_i b)).1, none))
theorem spec_l01At_run (k : Nat) (p : (List Int) × (List Int)) : runF (spec_l01At_C k) Try.f109 false (fL [.pvi (some 36) 0 36, .agg 43] (enc_ll p)).1 (resK (.int .i64) dec_i) = spec_l01At k p.1 p.2 := by
  kernel_rfl
theorem spec_l01At_ok (k : Nat) : EntOK Try.prog tab mvs (spec_l01At_e k) :=
  fn_ok (C := spec_l01At_C k) tabOK eqTabOK (spec_l01At_es k) rfl follows Try.func109 (by kernel_rfl) (by kernel_rfl) rfl (forall_getD _ 0 (0, Code.skip) (by kernel_rfl) fun i hi => by
      omega)
    dec_enc_ll dec_enc_i (spec_l01At_run k)

def dec_liill (ps : List Pay) : Option ((List Int) × Int × Int × (List Int) × (List Int)) := match ps with
  | [.l x1, .i x2, .i x3, .l x4, .l x5] => some (x1, x2, x3, x4, x5)
  | _ => none
def enc_liill (p : (List Int) × Int × Int × (List Int) × (List Int)) : List Pay := [.l p.1, .i p.2.1, .i p.2.2.1, .l p.2.2.2.1, .l p.2.2.2.2]
theorem dec_enc_liill : ∀ (ps : List Pay) (p : (List Int) × Int × Int × (List Int) × (List Int)), dec_liill ps = some p → ps = enc_liill p := by
  intro ps p h
  unfold dec_liill at h
  split at h
  · injection h with h
    subst h
    rfl
  · cases h

def spec_l01Cells_t0 : StTm := ⟨33, [(0, .pvi (some 36) 0 36), (1, .int .i64), (5, .slw 5 43), (6, .slw 6 43), (7, .int .i64)], [(5, 43, false, .ints), (6, 43, false, .ints)]⟩
def spec_l01Cells_t0_1 : StTm := ⟨33, [(5, .slw 5 43)], [(5, 43, false, .ints)]⟩
def spec_l01Cells_w0 (k : Nat) (R : Type) (K : Ex → St → Option R) (rec : (List Int) × Int × Int × (List Int) × (List Int) → Option R) (p : (List Int) × Int × Int × (List Int) × (List Int)) : Option R := spec_l01Cells_s0 k (fun y1 => K (.exit 0) (fSt spec_l01Cells_t0_1 [.l y1])) (fun h1 h2 h3 h4 h5 => rec (h1, h2, h3, h4, h5)) p.1 p.2.1 p.2.2.1 p.2.2.2.1 p.2.2.2.2
def spec_l01Cells_c0 (k : Nat) : Lcall := lcallOf tab spec_l01Cells_t0 dec_liill [0, 1, 5, 6, 7] k (spec_l01Cells_w0 k)
def spec_l01Cells_C (k : Nat) : Cfg := ⟨tab, mvs, oraOf [spec_l01All_e k, spec_l01At_e k], loOf [(0, spec_l01Cells_c0 k)]⟩
theorem spec_l01Cells_es (k : Nat) : ∀ e ∈ ([spec_l01All_e k, spec_l01At_e k] : List Ent), EntOK Try.prog tab mvs e := by
  intro e he
  simp only [List.mem_cons, List.not_mem_nil, or_false] at he
  rcases he with rfl | rfl
  · exact spec_l01All_ok k
  · exact spec_l01At_ok k
theorem spec_l01Cells_step0 (k : Nat) (R : Type) (K : Ex → St → Option R) (g : St → Option R) (p : (List Int) × Int × Int × (List Int) × (List Int)) : evCode (spec_l01Cells_C k) (loopP [0] (0, codeOf Try.f61)).2 (loopP [0] (0, codeOf Try.f61)).1 (fSt spec_l01Cells_t0 (enc_liill p)) (loopK tab [0, 1, 5, 6, 7] [5] [4] g K) = spec_l01Cells_w0 k R K (fun p => g (fSt spec_l01Cells_t0 (enc_liill p))) p := by
  kernel_rfl
theorem spec_l01Cells_lok0 (k : Nat) : LoopOK Try.prog tab (spec_l01Cells_C k).lo (loopP [0] (0, codeOf Try.f61)).1 (loopP [0] (0, codeOf Try.f61)).2 :=
  loopOK_of (C := spec_l01Cells_C k) tabOK eqTabOK (oraOf_ok (spec_l01Cells_es k)) (oraOf_nat (spec_l01Cells_es k)) follows (forall_getD _ 0 (0, Code.skip) (by kernel_rfl) fun i hi => by
      omega)
    (tm := spec_l01Cells_t0) (dec := dec_liill) (enc := enc_liill) (ksIn := [0, 1, 5, 6, 7]) (ksOut := [5]) (ksRet := [4]) (k := k) (step := spec_l01Cells_w0 k) dec_enc_liill (fun p => by kernel_rfl) (fun s R K => by kernel_rfl) (spec_l01Cells_step0 k)
def spec_l01Cells_e (k : Nat) : Ent := (61, callOf [.pvi (some 36) 0 36, .int .i64] dec_li fun (p : (List Int) × Int) R K => (spec_l01Cells k p.1 p.2).bind fun (b : (List Int)) => K ((fV (.slv 43) (enc_l b)).1, none))
theorem spec_l01Cells_run (k : Nat) (p : (List Int) × Int) : runF (spec_l01Cells_C k) Try.f61 false (fL [.pvi (some 36) 0 36, .int .i64] (enc_li p)).1 (resK (.slv 43) dec_l) = spec_l01Cells k p.1 p.2 := by
  kernel_rfl
theorem spec_l01Cells_ok (k : Nat) : EntOK Try.prog tab mvs (spec_l01Cells_e k) :=
  fn_ok (C := spec_l01Cells_C k) tabOK eqTabOK (spec_l01Cells_es k) rfl follows Try.func61 (by kernel_rfl) (by kernel_rfl) rfl (forall_getD _ 1 (0, Code.skip) (by kernel_rfl) fun i hi => by
      match i, hi with
      | 0, _ => exact spec_l01Cells_lok0 k
      | n + 1, h => omega)
    dec_enc_li dec_enc_l (spec_l01Cells_run k)

def dec_lill (ps : List Pay) : Option ((List Int) × Int × (List Int) × (List Int)) := match ps with
  | [.l x1, .i x2, .l x3, .l x4] => some (x1, x2, x3, x4)
  | _ => none
def enc_lill (p : (List Int) × Int × (List Int) × (List Int)) : List Pay := [.l p.1, .i p.2.1, .l p.2.2.1, .l p.2.2.2]
theorem dec_enc_lill : ∀ (ps : List Pay) (p : (List Int) × Int × (List Int) × (List Int)), dec_lill ps = some p → ps = enc_lill p := by
  intro ps p h
  unfold dec_lill at h
  split at h
  · injection h with h
    subst h
    rfl
  · cases h

def spec_l01Beside_t0 : StTm := ⟨54, [(0, .pvi (some 36) 0 36), (5, .slw 5 43), (6, .slw 6 43), (7, .int .i64)], [(5, 43, false, .ints), (6, 43, false, .ints)]⟩
def spec_l01Beside_t0_1 : StTm := ⟨54, [(6, .slw 6 43)], [(6, 43, false, .ints)]⟩
def spec_l01Beside_w0 (k : Nat) (R : Type) (K : Ex → St → Option R) (rec : (List Int) × Int × (List Int) × (List Int) → Option R) (p : (List Int) × Int × (List Int) × (List Int)) : Option R := spec_l01Beside_s0 k (fun y1 => K (.exit 0) (fSt spec_l01Beside_t0_1 [.l y1])) (fun h1 h2 h3 h4 => rec (h1, h2, h3, h4)) p.1 p.2.1 p.2.2.1 p.2.2.2
def spec_l01Beside_c0 (k : Nat) : Lcall := lcallOf tab spec_l01Beside_t0 dec_lill [0, 5, 6, 7] k (spec_l01Beside_w0 k)
def spec_l01Beside_C (k : Nat) : Cfg := ⟨tab, mvs, oraOf [spec_l01Is_e k], loOf [(0, spec_l01Beside_c0 k)]⟩
theorem spec_l01Beside_es (k : Nat) : ∀ e ∈ ([spec_l01Is_e k] : List Ent), EntOK Try.prog tab mvs e := by
  intro e he
  simp only [List.mem_cons, List.not_mem_nil, or_false] at he
  rcases he with rfl
  · exact spec_l01Is_ok k
theorem spec_l01Beside_step0 (k : Nat) (R : Type) (K : Ex → St → Option R) (g : St → Option R) (p : (List Int) × Int × (List Int) × (List Int)) : evCode (spec_l01Beside_C k) (loopP [0] (0, codeOf Try.f135)).2 (loopP [0] (0, codeOf Try.f135)).1 (fSt spec_l01Beside_t0 (enc_lill p)) (loopK tab [0, 5, 6, 7] [6] [4] g K) = spec_l01Beside_w0 k R K (fun p => g (fSt spec_l01Beside_t0 (enc_lill p))) p := by
  kernel_rfl
theorem spec_l01Beside_lok0 (k : Nat) : LoopOK Try.prog tab (spec_l01Beside_C k).lo (loopP [0] (0, codeOf Try.f135)).1 (loopP [0] (0, codeOf Try.f135)).2 :=
  loopOK_of (C := spec_l01Beside_C k) tabOK eqTabOK (oraOf_ok (spec_l01Beside_es k)) (oraOf_nat (spec_l01Beside_es k)) follows (forall_getD _ 0 (0, Code.skip) (by kernel_rfl) fun i hi => by
      omega)
    (tm := spec_l01Beside_t0) (dec := dec_lill) (enc := enc_lill) (ksIn := [0, 5, 6, 7]) (ksOut := [6]) (ksRet := [4]) (k := k) (step := spec_l01Beside_w0 k) dec_enc_lill (fun p => by kernel_rfl) (fun s R K => by kernel_rfl) (spec_l01Beside_step0 k)
def spec_l01Beside_e (k : Nat) : Ent := (135, callOf [.pvi (some 36) 0 36, .agg 43] dec_ll fun (p : (List Int) × (List Int)) R K => (spec_l01Beside k p.1 p.2).bind fun (b : (List Int)) => K ((fV (.slv 43) (enc_l b)).1, none))
theorem spec_l01Beside_run (k : Nat) (p : (List Int) × (List Int)) : runF (spec_l01Beside_C k) Try.f135 false (fL [.pvi (some 36) 0 36, .agg 43] (enc_ll p)).1 (resK (.slv 43) dec_l) = spec_l01Beside k p.1 p.2 := by
  kernel_rfl
theorem spec_l01Beside_ok (k : Nat) : EntOK Try.prog tab mvs (spec_l01Beside_e k) :=
  fn_ok (C := spec_l01Beside_C k) tabOK eqTabOK (spec_l01Beside_es k) rfl follows Try.func135 (by kernel_rfl) (by kernel_rfl) rfl (forall_getD _ 1 (0, Code.skip) (by kernel_rfl) fun i hi => by
      match i, hi with
      | 0, _ => exact spec_l01Beside_lok0 k
      | n + 1, h => omega)
    dec_enc_ll dec_enc_l (spec_l01Beside_run k)

def spec_l01Open_C (k : Nat) : Cfg := ⟨tab, mvs, oraOf [spec_l01At_e k], loOf []⟩
theorem spec_l01Open_es (k : Nat) : ∀ e ∈ ([spec_l01At_e k] : List Ent), EntOK Try.prog tab mvs e := by
  intro e he
  simp only [List.mem_cons, List.not_mem_nil, or_false] at he
  rcases he with rfl
  · exact spec_l01At_ok k
def spec_l01Open_e (k : Nat) : Ent := (125, callOf [.pvi (some 36) 0 36, .agg 43] dec_ll fun (p : (List Int) × (List Int)) R K => (spec_l01Open k p.1 p.2).bind fun (b : Bool) => K ((fV (.bool) (enc_b b)).1, none))
theorem spec_l01Open_run (k : Nat) (p : (List Int) × (List Int)) : runF (spec_l01Open_C k) Try.f125 false (fL [.pvi (some 36) 0 36, .agg 43] (enc_ll p)).1 (resK (.bool) dec_b) = spec_l01Open k p.1 p.2 := by
  kernel_rfl
theorem spec_l01Open_ok (k : Nat) : EntOK Try.prog tab mvs (spec_l01Open_e k) :=
  fn_ok (C := spec_l01Open_C k) tabOK eqTabOK (spec_l01Open_es k) rfl follows Try.func125 (by kernel_rfl) (by kernel_rfl) rfl (forall_getD _ 0 (0, Code.skip) (by kernel_rfl) fun i hi => by
      omega)
    dec_enc_ll dec_enc_b (spec_l01Open_run k)

def dec_lbiilll (ps : List Pay) : Option ((List Int) × Bool × Int × Int × (List Int) × (List Int) × (List Int)) := match ps with
  | [.l x1, .b x2, .i x3, .i x4, .l x5, .l x6, .l x7] => some (x1, x2, x3, x4, x5, x6, x7)
  | _ => none
def enc_lbiilll (p : (List Int) × Bool × Int × Int × (List Int) × (List Int) × (List Int)) : List Pay := [.l p.1, .b p.2.1, .i p.2.2.1, .i p.2.2.2.1, .l p.2.2.2.2.1, .l p.2.2.2.2.2.1, .l p.2.2.2.2.2.2]
theorem dec_enc_lbiilll : ∀ (ps : List Pay) (p : (List Int) × Bool × Int × Int × (List Int) × (List Int) × (List Int)), dec_lbiilll ps = some p → ps = enc_lbiilll p := by
  intro ps p h
  unfold dec_lbiilll at h
  split at h
  · injection h with h
    subst h
    rfl
  · cases h

def dec_lbilll (ps : List Pay) : Option ((List Int) × Bool × Int × (List Int) × (List Int) × (List Int)) := match ps with
  | [.l x1, .b x2, .i x3, .l x4, .l x5, .l x6] => some (x1, x2, x3, x4, x5, x6)
  | _ => none
def enc_lbilll (p : (List Int) × Bool × Int × (List Int) × (List Int) × (List Int)) : List Pay := [.l p.1, .b p.2.1, .i p.2.2.1, .l p.2.2.2.1, .l p.2.2.2.2.1, .l p.2.2.2.2.2]
theorem dec_enc_lbilll : ∀ (ps : List Pay) (p : (List Int) × Bool × Int × (List Int) × (List Int) × (List Int)), dec_lbilll ps = some p → ps = enc_lbilll p := by
  intro ps p h
  unfold dec_lbilll at h
  split at h
  · injection h with h
    subst h
    rfl
  · cases h

def dec_lbiillll (ps : List Pay) : Option ((List Int) × Bool × Int × Int × (List Int) × (List Int) × (List Int) × (List Int)) := match ps with
  | [.l x1, .b x2, .i x3, .i x4, .l x5, .l x6, .l x7, .l x8] => some (x1, x2, x3, x4, x5, x6, x7, x8)
  | _ => none
def enc_lbiillll (p : (List Int) × Bool × Int × Int × (List Int) × (List Int) × (List Int) × (List Int)) : List Pay := [.l p.1, .b p.2.1, .i p.2.2.1, .i p.2.2.2.1, .l p.2.2.2.2.1, .l p.2.2.2.2.2.1, .l p.2.2.2.2.2.2.1, .l p.2.2.2.2.2.2.2]
theorem dec_enc_lbiillll : ∀ (ps : List Pay) (p : (List Int) × Bool × Int × Int × (List Int) × (List Int) × (List Int) × (List Int)), dec_lbiillll ps = some p → ps = enc_lbiillll p := by
  intro ps p h
  unfold dec_lbiillll at h
  split at h
  · injection h with h
    subst h
    rfl
  · cases h

def dec_llb (ps : List Pay) : Option ((List Int) × (List Int) × Bool) := match ps with
  | [.l x1, .l x2, .b x3] => some (x1, x2, x3)
  | _ => none
def enc_llb (p : (List Int) × (List Int) × Bool) : List Pay := [.l p.1, .l p.2.1, .b p.2.2]
theorem dec_enc_llb : ∀ (ps : List Pay) (p : (List Int) × (List Int) × Bool), dec_llb ps = some p → ps = enc_llb p := by
  intro ps p h
  unfold dec_llb at h
  split at h
  · injection h with h
    subst h
    rfl
  · cases h

def spec_l01Reach_t0 : StTm := ⟨122, [(0, .pvi (some 36) 0 36), (2, .bool), (4, .ptr 4 0 43), (6, .ptr 6 0 165), (7, .ptr 7 0 165), (8, .int .i64), (9, .int .i64)], [(4, 43, true, .ints), (6, 165, true, .ints), (7, 165, true, .ints)]⟩
def spec_l01Reach_t0_1 : StTm := ⟨122, [(0, .pvi (some 36) 0 36), (2, .bool), (4, .ptr 4 0 43), (6, .ptr 6 0 165), (7, .ptr 7 0 165), (8, .int .i64)], [(4, 43, true, .ints), (6, 165, true, .ints), (7, 165, true, .ints)]⟩
def spec_l01Reach_w0 (k : Nat) (R : Type) (K : Ex → St → Option R) (rec : (List Int) × Bool × Int × Int × (List Int) × (List Int) × (List Int) → Option R) (p : (List Int) × Bool × Int × Int × (List Int) × (List Int) × (List Int)) : Option R := spec_l01Reach_s0 k (fun y1 y2 y3 y4 y5 y6 => K (.exit 2) (fSt spec_l01Reach_t0_1 [.l y1, .b y2, .i y3, .l y4, .l y5, .l y6])) (fun h1 h2 h3 h4 h5 h6 h7 => rec (h1, h2, h3, h4, h5, h6, h7)) p.1 p.2.1 p.2.2.1 p.2.2.2.1 p.2.2.2.2.1 p.2.2.2.2.2.1 p.2.2.2.2.2.2
def spec_l01Reach_c0 (k : Nat) : Lcall := lcallOf tab spec_l01Reach_t0 dec_lbiilll [0, 2, 4, 6, 7, 8, 9] k (spec_l01Reach_w0 k)
def spec_l01Reach_t1 : StTm := ⟨122, [(0, .pvi (some 36) 0 36), (2, .bool), (4, .ptr 4 0 43), (6, .ptr 6 0 165), (7, .ptr 7 0 165), (8, .int .i64)], [(4, 43, true, .ints), (6, 165, true, .ints), (7, 165, true, .ints)]⟩
def spec_l01Reach_t1_1 : StTm := ⟨122, [(0, .pvi (some 36) 0 36), (2, .bool), (4, .ptr 4 0 43), (6, .ptr 6 0 165), (7, .ptr 7 0 165)], [(4, 43, true, .ints), (6, 165, true, .ints), (7, 165, true, .ints)]⟩
def spec_l01Reach_w1 (k : Nat) (R : Type) (K : Ex → St → Option R) (rec : (List Int) × Bool × Int × (List Int) × (List Int) × (List Int) → Option R) (p : (List Int) × Bool × Int × (List Int) × (List Int) × (List Int)) : Option R := spec_l01Reach_s1 k (fun y1 y2 y3 y4 y5 => K (.exit 0) (fSt spec_l01Reach_t1_1 [.l y1, .b y2, .l y3, .l y4, .l y5])) (fun h1 h2 h3 h4 h5 h6 => rec (h1, h2, h3, h4, h5, h6)) p.1 p.2.1 p.2.2.1 p.2.2.2.1 p.2.2.2.2.1 p.2.2.2.2.2
def spec_l01Reach_c1 (k : Nat) : Lcall := lcallOf tab spec_l01Reach_t1 dec_lbilll [0, 2, 4, 6, 7, 8] k (spec_l01Reach_w1 k)
def spec_l01Reach_t2 : StTm := ⟨122, [(0, .pvi (some 36) 0 36), (2, .bool), (6, .ptr 6 0 165), (7, .ptr 7 0 165), (10, .slw 10 43), (11, .int .i64), (12, .slw 12 43), (13, .int .i64)], [(6, 165, true, .ints), (7, 165, true, .ints), (10, 43, false, .ints), (12, 43, false, .ints)]⟩
def spec_l01Reach_t2_1 : StTm := ⟨122, [(0, .pvi (some 36) 0 36), (2, .bool), (6, .ptr 6 0 165), (7, .ptr 7 0 165), (10, .slw 10 43), (11, .int .i64)], [(6, 165, true, .ints), (7, 165, true, .ints), (10, 43, false, .ints)]⟩
def spec_l01Reach_w2 (k : Nat) (R : Type) (K : Ex → St → Option R) (rec : (List Int) × Bool × Int × Int × (List Int) × (List Int) × (List Int) × (List Int) → Option R) (p : (List Int) × Bool × Int × Int × (List Int) × (List Int) × (List Int) × (List Int)) : Option R := spec_l01Reach_s2 k (fun y1 y2 y3 y4 y5 y6 => K (.exit 6) (fSt spec_l01Reach_t2_1 [.l y1, .b y2, .i y3, .l y4, .l y5, .l y6])) (fun h1 h2 h3 h4 h5 h6 h7 h8 => rec (h1, h2, h3, h4, h5, h6, h7, h8)) p.1 p.2.1 p.2.2.1 p.2.2.2.1 p.2.2.2.2.1 p.2.2.2.2.2.1 p.2.2.2.2.2.2.1 p.2.2.2.2.2.2.2
def spec_l01Reach_c2 (k : Nat) : Lcall := lcallOf tab spec_l01Reach_t2 dec_lbiillll [0, 2, 6, 7, 10, 11, 12, 13] k (spec_l01Reach_w2 k)
def spec_l01Reach_t3 : StTm := ⟨122, [(0, .pvi (some 36) 0 36), (2, .bool), (6, .ptr 6 0 165), (7, .ptr 7 0 165), (10, .slw 10 43), (11, .int .i64)], [(6, 165, true, .ints), (7, 165, true, .ints), (10, 43, false, .ints)]⟩
def spec_l01Reach_t3_1 : StTm := ⟨122, [(6, .ptr 6 0 165), (7, .ptr 7 0 165)], [(6, 165, true, .ints), (7, 165, true, .ints)]⟩
def spec_l01Reach_w3 (k : Nat) (R : Type) (K : Ex → St → Option R) (rec : (List Int) × Bool × Int × (List Int) × (List Int) × (List Int) → Option R) (p : (List Int) × Bool × Int × (List Int) × (List Int) × (List Int)) : Option R := spec_l01Reach_s3 k (fun y1 y2 => K (.exit 4) (fSt spec_l01Reach_t3_1 [.l y1, .l y2])) (fun h1 h2 h3 h4 h5 h6 => rec (h1, h2, h3, h4, h5, h6)) p.1 p.2.1 p.2.2.1 p.2.2.2.1 p.2.2.2.2.1 p.2.2.2.2.2
def spec_l01Reach_c3 (k : Nat) : Lcall := lcallOf tab spec_l01Reach_t3 dec_lbilll [0, 2, 6, 7, 10, 11] k (spec_l01Reach_w3 k)
def spec_l01Reach_C (k : Nat) : Cfg := ⟨tab, mvs, oraOf [spec_l01Beside_e k, spec_l01Open_e k, spec_l01At_e k], loOf [(2, spec_l01Reach_c0 k), (0, spec_l01Reach_c1 k), (6, spec_l01Reach_c2 k), (4, spec_l01Reach_c3 k)]⟩
theorem spec_l01Reach_es (k : Nat) : ∀ e ∈ ([spec_l01Beside_e k, spec_l01Open_e k, spec_l01At_e k] : List Ent), EntOK Try.prog tab mvs e := by
  intro e he
  simp only [List.mem_cons, List.not_mem_nil, or_false] at he
  rcases he with rfl | rfl | rfl
  · exact spec_l01Beside_ok k
  · exact spec_l01Open_ok k
  · exact spec_l01At_ok k
theorem spec_l01Reach_step0 (k : Nat) (R : Type) (K : Ex → St → Option R) (g : St → Option R) (p : (List Int) × Bool × Int × Int × (List Int) × (List Int) × (List Int)) : evCode (spec_l01Reach_C k) (loopP [0, 0] (0, codeOf Try.f111)).2 (loopP [0, 0] (0, codeOf Try.f111)).1 (fSt spec_l01Reach_t0 (enc_lbiilll p)) (loopK tab [0, 2, 4, 6, 7, 8, 9] [0, 2, 4, 6, 7, 8] [6] g K) = spec_l01Reach_w0 k R K (fun p => g (fSt spec_l01Reach_t0 (enc_lbiilll p))) p := by
  kernel_rfl
theorem spec_l01Reach_lok0 (k : Nat) : LoopOK Try.prog tab (spec_l01Reach_C k).lo (loopP [0, 0] (0, codeOf Try.f111)).1 (loopP [0, 0] (0, codeOf Try.f111)).2 :=
  loopOK_of (C := spec_l01Reach_C k) tabOK eqTabOK (oraOf_ok (spec_l01Reach_es k)) (oraOf_nat (spec_l01Reach_es k)) follows (forall_getD _ 0 (0, Code.skip) (by kernel_rfl) fun i hi => by
      omega)
    (tm := spec_l01Reach_t0) (dec := dec_lbiilll) (enc := enc_lbiilll) (ksIn := [0, 2, 4, 6, 7, 8, 9]) (ksOut := [0, 2, 4, 6, 7, 8]) (ksRet := [6]) (k := k) (step := spec_l01Reach_w0 k) dec_enc_lbiilll (fun p => by kernel_rfl) (fun s R K => by kernel_rfl) (spec_l01Reach_step0 k)
theorem spec_l01Reach_step1 (k : Nat) (R : Type) (K : Ex → St → Option R) (g : St → Option R) (p : (List Int) × Bool × Int × (List Int) × (List Int) × (List Int)) : evCode (spec_l01Reach_C k) (loopP [0] (0, codeOf Try.f111)).2 (loopP [0] (0, codeOf Try.f111)).1 (fSt spec_l01Reach_t1 (enc_lbilll p)) (loopK tab [0, 2, 4, 6, 7, 8] [0, 2, 4, 6, 7] [6] g K) = spec_l01Reach_w1 k R K (fun p => g (fSt spec_l01Reach_t1 (enc_lbilll p))) p := by
  kernel_rfl
theorem spec_l01Reach_lok1 (k : Nat) : LoopOK Try.prog tab (spec_l01Reach_C k).lo (loopP [0] (0, codeOf Try.f111)).1 (loopP [0] (0, codeOf Try.f111)).2 :=
  loopOK_of (C := spec_l01Reach_C k) tabOK eqTabOK (oraOf_ok (spec_l01Reach_es k)) (oraOf_nat (spec_l01Reach_es k)) follows (forall_getD _ 1 (0, Code.skip) (by kernel_rfl) fun i hi => by
      match i, hi with
      | 0, _ => exact spec_l01Reach_lok0 k
      | n + 1, h => omega)
    (tm := spec_l01Reach_t1) (dec := dec_lbilll) (enc := enc_lbilll) (ksIn := [0, 2, 4, 6, 7, 8]) (ksOut := [0, 2, 4, 6, 7]) (ksRet := [6]) (k := k) (step := spec_l01Reach_w1 k) dec_enc_lbilll (fun p => by kernel_rfl) (fun s R K => by kernel_rfl) (spec_l01Reach_step1 k)
theorem spec_l01Reach_step2 (k : Nat) (R : Type) (K : Ex → St → Option R) (g : St → Option R) (p : (List Int) × Bool × Int × Int × (List Int) × (List Int) × (List Int) × (List Int)) : evCode (spec_l01Reach_C k) (loopP [1, 0] (0, codeOf Try.f111)).2 (loopP [1, 0] (0, codeOf Try.f111)).1 (fSt spec_l01Reach_t2 (enc_lbiillll p)) (loopK tab [0, 2, 6, 7, 10, 11, 12, 13] [0, 2, 6, 7, 10, 11] [6] g K) = spec_l01Reach_w2 k R K (fun p => g (fSt spec_l01Reach_t2 (enc_lbiillll p))) p := by
  kernel_rfl
theorem spec_l01Reach_lok2 (k : Nat) : LoopOK Try.prog tab (spec_l01Reach_C k).lo (loopP [1, 0] (0, codeOf Try.f111)).1 (loopP [1, 0] (0, codeOf Try.f111)).2 :=
  loopOK_of (C := spec_l01Reach_C k) tabOK eqTabOK (oraOf_ok (spec_l01Reach_es k)) (oraOf_nat (spec_l01Reach_es k)) follows (forall_getD _ 0 (0, Code.skip) (by kernel_rfl) fun i hi => by
      omega)
    (tm := spec_l01Reach_t2) (dec := dec_lbiillll) (enc := enc_lbiillll) (ksIn := [0, 2, 6, 7, 10, 11, 12, 13]) (ksOut := [0, 2, 6, 7, 10, 11]) (ksRet := [6]) (k := k) (step := spec_l01Reach_w2 k) dec_enc_lbiillll (fun p => by kernel_rfl) (fun s R K => by kernel_rfl) (spec_l01Reach_step2 k)
theorem spec_l01Reach_step3 (k : Nat) (R : Type) (K : Ex → St → Option R) (g : St → Option R) (p : (List Int) × Bool × Int × (List Int) × (List Int) × (List Int)) : evCode (spec_l01Reach_C k) (loopP [1] (0, codeOf Try.f111)).2 (loopP [1] (0, codeOf Try.f111)).1 (fSt spec_l01Reach_t3 (enc_lbilll p)) (loopK tab [0, 2, 6, 7, 10, 11] [6, 7] [6] g K) = spec_l01Reach_w3 k R K (fun p => g (fSt spec_l01Reach_t3 (enc_lbilll p))) p := by
  kernel_rfl
theorem spec_l01Reach_lok3 (k : Nat) : LoopOK Try.prog tab (spec_l01Reach_C k).lo (loopP [1] (0, codeOf Try.f111)).1 (loopP [1] (0, codeOf Try.f111)).2 :=
  loopOK_of (C := spec_l01Reach_C k) tabOK eqTabOK (oraOf_ok (spec_l01Reach_es k)) (oraOf_nat (spec_l01Reach_es k)) follows (forall_getD _ 1 (0, Code.skip) (by kernel_rfl) fun i hi => by
      match i, hi with
      | 0, _ => exact spec_l01Reach_lok2 k
      | n + 1, h => omega)
    (tm := spec_l01Reach_t3) (dec := dec_lbilll) (enc := enc_lbilll) (ksIn := [0, 2, 6, 7, 10, 11]) (ksOut := [6, 7]) (ksRet := [6]) (k := k) (step := spec_l01Reach_w3 k) dec_enc_lbilll (fun p => by kernel_rfl) (fun s R K => by kernel_rfl) (spec_l01Reach_step3 k)
def spec_l01Reach_e (k : Nat) : Ent := (111, callOf [.pvi (some 36) 0 36, .agg 43, .bool] dec_llb fun (p : (List Int) × (List Int) × Bool) R K => (spec_l01Reach k p.1 p.2.1 p.2.2).bind fun (b : (List Int)) => K ((fV (.agg 165) (enc_l b)).1, none))
theorem spec_l01Reach_run (k : Nat) (p : (List Int) × (List Int) × Bool) : runF (spec_l01Reach_C k) Try.f111 false (fL [.pvi (some 36) 0 36, .agg 43, .bool] (enc_llb p)).1 (resK (.agg 165) dec_l) = spec_l01Reach k p.1 p.2.1 p.2.2 := by
  kernel_rfl
theorem spec_l01Reach_ok (k : Nat) : EntOK Try.prog tab mvs (spec_l01Reach_e k) :=
  fn_ok (C := spec_l01Reach_C k) tabOK eqTabOK (spec_l01Reach_es k) rfl follows Try.func111 (by kernel_rfl) (by kernel_rfl) rfl (forall_getD _ 2 (0, Code.skip) (by kernel_rfl) fun i hi => by
      match i, hi with
      | 0, _ => exact spec_l01Reach_lok1 k
      | 1, _ => exact spec_l01Reach_lok3 k
      | n + 2, h => omega)
    dec_enc_llb dec_enc_l (spec_l01Reach_run k)

def dec_liirllll (ps : List Pay) : Option ((List Int) × Int × Int × (List (List Int)) × (List Int) × (List Int) × (List Int) × (List Int)) := match ps with
  | [.l x1, .i x2, .i x3, .r x4, .l x5, .l x6, .l x7, .l x8] => some (x1, x2, x3, x4, x5, x6, x7, x8)
  | _ => none
def enc_liirllll (p : (List Int) × Int × Int × (List (List Int)) × (List Int) × (List Int) × (List Int) × (List Int)) : List Pay := [.l p.1, .i p.2.1, .i p.2.2.1, .r p.2.2.2.1, .l p.2.2.2.2.1, .l p.2.2.2.2.2.1, .l p.2.2.2.2.2.2.1, .l p.2.2.2.2.2.2.2]
theorem dec_enc_liirllll : ∀ (ps : List Pay) (p : (List Int) × Int × Int × (List (List Int)) × (List Int) × (List Int) × (List Int) × (List Int)), dec_liirllll ps = some p → ps = enc_liirllll p := by
  intro ps p h
  unfold dec_liirllll at h
  split at h
  · injection h with h
    subst h
    rfl
  · cases h

def dec_lirll (ps : List Pay) : Option ((List Int) × Int × (List (List Int)) × (List Int) × (List Int)) := match ps with
  | [.l x1, .i x2, .r x3, .l x4, .l x5] => some (x1, x2, x3, x4, x5)
  | _ => none
def enc_lirll (p : (List Int) × Int × (List (List Int)) × (List Int) × (List Int)) : List Pay := [.l p.1, .i p.2.1, .r p.2.2.1, .l p.2.2.2.1, .l p.2.2.2.2]
theorem dec_enc_lirll : ∀ (ps : List Pay) (p : (List Int) × Int × (List (List Int)) × (List Int) × (List Int)), dec_lirll ps = some p → ps = enc_lirll p := by
  intro ps p h
  unfold dec_lirll at h
  split at h
  · injection h with h
    subst h
    rfl
  · cases h

def dec_r (ps : List Pay) : Option ((List (List Int))) := match ps with
  | [.r x1] => some x1
  | _ => none
def enc_r (p : (List (List Int))) : List Pay := [.r p]
theorem dec_enc_r : ∀ (ps : List Pay) (p : (List (List Int))), dec_r ps = some p → ps = enc_r p := by
  intro ps p h
  unfold dec_r at h
  split at h
  · injection h with h
    subst h
    rfl
  · cases h

def spec_l01Pieces_t0 : StTm := ⟨84, [(0, .pvi (some 36) 0 36), (3, .slw 3 50), (4, .ptr 4 0 55), (5, .slw 5 43), (6, .int .i64), (7, .ptr 7 0 165), (8, .slw 8 43), (9, .int .i64)], [(3, 50, false, .orows 43), (4, 55, true, .ints), (5, 43, false, .ints), (7, 165, true, .ints), (8, 43, false, .ints)]⟩
def spec_l01Pieces_t0_1 : StTm := ⟨84, [(0, .pvi (some 36) 0 36), (3, .slw 3 50), (4, .ptr 4 0 55), (5, .slw 5 43), (6, .int .i64), (8, .slw 8 43)], [(3, 50, false, .orows 43), (4, 55, true, .ints), (5, 43, false, .ints), (8, 43, false, .ints)]⟩
def spec_l01Pieces_w0 (k : Nat) (R : Type) (K : Ex → St → Option R) (rec : (List Int) × Int × Int × (List (List Int)) × (List Int) × (List Int) × (List Int) × (List Int) → Option R) (p : (List Int) × Int × Int × (List (List Int)) × (List Int) × (List Int) × (List Int) × (List Int)) : Option R := spec_l01Pieces_s0 k (fun y1 y2 y3 y4 y5 y6 => K (.exit 2) (fSt spec_l01Pieces_t0_1 [.l y1, .i y2, .r y3, .l y4, .l y5, .l y6])) (fun h1 h2 h3 h4 h5 h6 h7 h8 => rec (h1, h2, h3, h4, h5, h6, h7, h8)) p.1 p.2.1 p.2.2.1 p.2.2.2.1 p.2.2.2.2.1 p.2.2.2.2.2.1 p.2.2.2.2.2.2.1 p.2.2.2.2.2.2.2
def spec_l01Pieces_c0 (k : Nat) : Lcall := lcallOf tab spec_l01Pieces_t0 dec_liirllll [0, 3, 4, 5, 6, 7, 8, 9] k (spec_l01Pieces_w0 k)
def spec_l01Pieces_t1 : StTm := ⟨84, [(0, .pvi (some 36) 0 36), (3, .slw 3 50), (4, .ptr 4 0 55), (5, .slw 5 43), (6, .int .i64)], [(3, 50, false, .orows 43), (4, 55, true, .ints), (5, 43, false, .ints)]⟩
def spec_l01Pieces_t1_1 : StTm := ⟨84, [(3, .slw 3 50)], [(3, 50, false, .orows 43)]⟩
def spec_l01Pieces_w1 (k : Nat) (R : Type) (K : Ex → St → Option R) (rec : (List Int) × Int × (List (List Int)) × (List Int) × (List Int) → Option R) (p : (List Int) × Int × (List (List Int)) × (List Int) × (List Int)) : Option R := spec_l01Pieces_s1 k (fun y1 => K (.exit 0) (fSt spec_l01Pieces_t1_1 [.r y1])) (fun h1 h2 h3 h4 h5 => rec (h1, h2, h3, h4, h5)) p.1 p.2.1 p.2.2.1 p.2.2.2.1 p.2.2.2.2
def spec_l01Pieces_c1 (k : Nat) : Lcall := lcallOf tab spec_l01Pieces_t1 dec_lirll [0, 3, 4, 5, 6] k (spec_l01Pieces_w1 k)
def spec_l01Pieces_C (k : Nat) : Cfg := ⟨tab, mvs, oraOf [spec_l01Cells_e k, spec_l01Reach_e k], loOf [(2, spec_l01Pieces_c0 k), (0, spec_l01Pieces_c1 k)]⟩
theorem spec_l01Pieces_es (k : Nat) : ∀ e ∈ ([spec_l01Cells_e k, spec_l01Reach_e k] : List Ent), EntOK Try.prog tab mvs e := by
  intro e he
  simp only [List.mem_cons, List.not_mem_nil, or_false] at he
  rcases he with rfl | rfl
  · exact spec_l01Cells_ok k
  · exact spec_l01Reach_ok k
theorem spec_l01Pieces_step0 (k : Nat) (R : Type) (K : Ex → St → Option R) (g : St → Option R) (p : (List Int) × Int × Int × (List (List Int)) × (List Int) × (List Int) × (List Int) × (List Int)) : evCode (spec_l01Pieces_C k) (loopP [0, 0] (0, codeOf Try.f66)).2 (loopP [0, 0] (0, codeOf Try.f66)).1 (fSt spec_l01Pieces_t0 (enc_liirllll p)) (loopK tab [0, 3, 4, 5, 6, 7, 8, 9] [0, 3, 4, 5, 6, 8] [2] g K) = spec_l01Pieces_w0 k R K (fun p => g (fSt spec_l01Pieces_t0 (enc_liirllll p))) p := by
  kernel_rfl
theorem spec_l01Pieces_lok0 (k : Nat) : LoopOK Try.prog tab (spec_l01Pieces_C k).lo (loopP [0, 0] (0, codeOf Try.f66)).1 (loopP [0, 0] (0, codeOf Try.f66)).2 :=
  loopOK_of (C := spec_l01Pieces_C k) tabOK eqTabOK (oraOf_ok (spec_l01Pieces_es k)) (oraOf_nat (spec_l01Pieces_es k)) follows (forall_getD _ 0 (0, Code.skip) (by kernel_rfl) fun i hi => by
      omega)
    (tm := spec_l01Pieces_t0) (dec := dec_liirllll) (enc := enc_liirllll) (ksIn := [0, 3, 4, 5, 6, 7, 8, 9]) (ksOut := [0, 3, 4, 5, 6, 8]) (ksRet := [2]) (k := k) (step := spec_l01Pieces_w0 k) dec_enc_liirllll (fun p => by kernel_rfl) (fun s R K => by kernel_rfl) (spec_l01Pieces_step0 k)
theorem spec_l01Pieces_step1 (k : Nat) (R : Type) (K : Ex → St → Option R) (g : St → Option R) (p : (List Int) × Int × (List (List Int)) × (List Int) × (List Int)) : evCode (spec_l01Pieces_C k) (loopP [0] (0, codeOf Try.f66)).2 (loopP [0] (0, codeOf Try.f66)).1 (fSt spec_l01Pieces_t1 (enc_lirll p)) (loopK tab [0, 3, 4, 5, 6] [3] [2] g K) = spec_l01Pieces_w1 k R K (fun p => g (fSt spec_l01Pieces_t1 (enc_lirll p))) p := by
  kernel_rfl
theorem spec_l01Pieces_lok1 (k : Nat) : LoopOK Try.prog tab (spec_l01Pieces_C k).lo (loopP [0] (0, codeOf Try.f66)).1 (loopP [0] (0, codeOf Try.f66)).2 :=
  loopOK_of (C := spec_l01Pieces_C k) tabOK eqTabOK (oraOf_ok (spec_l01Pieces_es k)) (oraOf_nat (spec_l01Pieces_es k)) follows (forall_getD _ 1 (0, Code.skip) (by kernel_rfl) fun i hi => by
      match i, hi with
      | 0, _ => exact spec_l01Pieces_lok0 k
      | n + 1, h => omega)
    (tm := spec_l01Pieces_t1) (dec := dec_lirll) (enc := enc_lirll) (ksIn := [0, 3, 4, 5, 6]) (ksOut := [3]) (ksRet := [2]) (k := k) (step := spec_l01Pieces_w1 k) dec_enc_lirll (fun p => by kernel_rfl) (fun s R K => by kernel_rfl) (spec_l01Pieces_step1 k)
def spec_l01Pieces_e (k : Nat) : Ent := (66, callOf [.pvi (some 36) 0 36] dec_l fun (p : (List Int)) R K => (spec_l01Pieces k p).bind fun (b : (List (List Int))) => K ((fV (.ownR 50 43) (enc_r b)).1, none))
theorem spec_l01Pieces_run (k : Nat) (p : (List Int)) : runF (spec_l01Pieces_C k) Try.f66 false (fL [.pvi (some 36) 0 36] (enc_l p)).1 (resK (.ownR 50 43) dec_r) = spec_l01Pieces k p := by
  kernel_rfl
theorem spec_l01Pieces_ok (k : Nat) : EntOK Try.prog tab mvs (spec_l01Pieces_e k) :=
  fn_ok (C := spec_l01Pieces_C k) tabOK eqTabOK (spec_l01Pieces_es k) rfl follows Try.func66 (by kernel_rfl) (by kernel_rfl) rfl (forall_getD _ 1 (0, Code.skip) (by kernel_rfl) fun i hi => by
      match i, hi with
      | 0, _ => exact spec_l01Pieces_lok1 k
      | n + 1, h => omega)
    dec_enc_l dec_enc_r (spec_l01Pieces_run k)

def dec_ri (ps : List Pay) : Option ((List (List Int)) × Int) := match ps with
  | [.r x1, .i x2] => some (x1, x2)
  | _ => none
def enc_ri (p : (List (List Int)) × Int) : List Pay := [.r p.1, .i p.2]
theorem dec_enc_ri : ∀ (ps : List Pay) (p : (List (List Int)) × Int), dec_ri ps = some p → ps = enc_ri p := by
  intro ps p h
  unfold dec_ri at h
  split at h
  · injection h with h
    subst h
    rfl
  · cases h

def spec_PiecesOf_C (k : Nat) : Cfg := ⟨tab, mvs, oraOf [spec_l01Ok_e k, spec_l01Pieces_e k], loOf []⟩
theorem spec_PiecesOf_es (k : Nat) : ∀ e ∈ ([spec_l01Ok_e k, spec_l01Pieces_e k] : List Ent), EntOK Try.prog tab mvs e := by
  intro e he
  simp only [List.mem_cons, List.not_mem_nil, or_false] at he
  rcases he with rfl | rfl
  · exact spec_l01Ok_ok k
  · exact spec_l01Pieces_ok k
def spec_PiecesOf_e (k : Nat) : Ent := (38, callOf [.agg 36] dec_l fun (p : (List Int)) R K => (spec_PiecesOf k p).bind fun (b : (List (List Int)) × Int) => K ((fV (.tup [.ownR 50 43, .int .i64]) (enc_ri b)).1, none))
theorem spec_PiecesOf_run (k : Nat) (p : (List Int)) : runF (spec_PiecesOf_C k) Try.f38 false (fL [.agg 36] (enc_l p)).1 (resK (.tup [.ownR 50 43, .int .i64]) dec_ri) = spec_PiecesOf k p := by
  kernel_rfl
theorem spec_PiecesOf_ok (k : Nat) : EntOK Try.prog tab mvs (spec_PiecesOf_e k) :=
  fn_ok (C := spec_PiecesOf_C k) tabOK eqTabOK (spec_PiecesOf_es k) rfl follows Try.func38 (by kernel_rfl) (by kernel_rfl) rfl (forall_getD _ 0 (0, Code.skip) (by kernel_rfl) fun i hi => by
      omega)
    dec_enc_l dec_enc_ri (spec_PiecesOf_run k)

def impl_within_C (k : Nat) : Cfg := ⟨tab, mvs, oraOf [], loOf []⟩
theorem impl_within_es (k : Nat) : ∀ e ∈ ([] : List Ent), EntOK Try.prog tab mvs e := by
  intro e he
  simp at he
def impl_within_e (k : Nat) : Ent := (49, callOf [.int .i64, .int .i64, .int .i64] dec_iii fun (p : Int × Int × Int) R K => (impl_within k p.1 p.2.1 p.2.2).bind fun (b : Bool) => K ((fV (.bool) (enc_b b)).1, none))
theorem impl_within_run (k : Nat) (p : Int × Int × Int) : runF (impl_within_C k) Try.f49 false (fL [.int .i64, .int .i64, .int .i64] (enc_iii p)).1 (resK (.bool) dec_b) = impl_within k p.1 p.2.1 p.2.2 := by
  kernel_rfl
theorem impl_within_ok (k : Nat) : EntOK Try.prog tab mvs (impl_within_e k) :=
  fn_ok (C := impl_within_C k) tabOK eqTabOK (impl_within_es k) rfl follows Try.func49 (by kernel_rfl) (by kernel_rfl) rfl (forall_getD _ 0 (0, Code.skip) (by kernel_rfl) fun i hi => by
      omega)
    dec_enc_iii dec_enc_b (impl_within_run k)

def impl_Lawn_has_C (k : Nat) : Cfg := ⟨tab, mvs, oraOf [], loOf []⟩
theorem impl_Lawn_has_es (k : Nat) : ∀ e ∈ ([] : List Ent), EntOK Try.prog tab mvs e := by
  intro e he
  simp at he
def impl_Lawn_has_e (k : Nat) : Ent := (103, callOf [.agg 36, .agg 43] dec_ll fun (p : (List Int) × (List Int)) R K => (impl_Lawn_has k p.1 p.2).bind fun (b : Bool) => K ((fV (.bool) (enc_b b)).1, none))
theorem impl_Lawn_has_run (k : Nat) (p : (List Int) × (List Int)) : runF (impl_Lawn_has_C k) Try.f103 false (fL [.agg 36, .agg 43] (enc_ll p)).1 (resK (.bool) dec_b) = impl_Lawn_has k p.1 p.2 := by
  kernel_rfl
theorem impl_Lawn_has_ok (k : Nat) : EntOK Try.prog tab mvs (impl_Lawn_has_e k) :=
  fn_ok (C := impl_Lawn_has_C k) tabOK eqTabOK (impl_Lawn_has_es k) rfl follows Try.func103 (by kernel_rfl) (by kernel_rfl) rfl (forall_getD _ 0 (0, Code.skip) (by kernel_rfl) fun i hi => by
      omega)
    dec_enc_ll dec_enc_b (impl_Lawn_has_run k)

def dec_iiil (ps : List Pay) : Option (Int × Int × Int × (List Int)) := match ps with
  | [.i x1, .i x2, .i x3, .l x4] => some (x1, x2, x3, x4)
  | _ => none
def enc_iiil (p : Int × Int × Int × (List Int)) : List Pay := [.i p.1, .i p.2.1, .i p.2.2.1, .l p.2.2.2]
theorem dec_enc_iiil : ∀ (ps : List Pay) (p : Int × Int × Int × (List Int)), dec_iiil ps = some p → ps = enc_iiil p := by
  intro ps p h
  unfold dec_iiil at h
  split at h
  · injection h with h
    subst h
    rfl
  · cases h

def dec_il (ps : List Pay) : Option (Int × (List Int)) := match ps with
  | [.i x1, .l x2] => some (x1, x2)
  | _ => none
def enc_il (p : Int × (List Int)) : List Pay := [.i p.1, .l p.2]
theorem dec_enc_il : ∀ (ps : List Pay) (p : Int × (List Int)), dec_il ps = some p → ps = enc_il p := by
  intro ps p h
  unfold dec_il at h
  split at h
  · injection h with h
    subst h
    rfl
  · cases h

def impl_ValidLawn_t0 : StTm := ⟨46, [(1, .ptr 1 0 36), (3, .int .i8), (18, .int .i8), (21, .int .i8)], [(1, 36, true, .ints)]⟩
def impl_ValidLawn_t0_1 : StTm := ⟨46, [(2, .bool)], []⟩
def impl_ValidLawn_t0_2 : StTm := ⟨46, [(1, .ptr 1 0 36), (18, .int .i8)], [(1, 36, true, .ints)]⟩
def impl_ValidLawn_w0 (k : Nat) (R : Type) (K : Ex → St → Option R) (rec : Int × Int × Int × (List Int) → Option R) (p : Int × Int × Int × (List Int)) : Option R := impl_ValidLawn_s0 k (fun y1 => K .ret (fSt impl_ValidLawn_t0_1 [.b y1])) (fun y1 y2 => K (.exit 2) (fSt impl_ValidLawn_t0_2 [.i y1, .l y2])) (fun h1 h2 h3 h4 => rec (h1, h2, h3, h4)) p.1 p.2.1 p.2.2.1 p.2.2.2
def impl_ValidLawn_c0 (k : Nat) : Lcall := lcallOf tab impl_ValidLawn_t0 dec_iiil [1, 3, 18, 21] k (impl_ValidLawn_w0 k)
def impl_ValidLawn_t1 : StTm := ⟨46, [(1, .ptr 1 0 36), (18, .int .i8)], [(1, 36, true, .ints)]⟩
def impl_ValidLawn_t1_1 : StTm := ⟨46, [(2, .bool)], []⟩
def impl_ValidLawn_t1_2 : StTm := ⟨46, [], []⟩
def impl_ValidLawn_w1 (k : Nat) (R : Type) (K : Ex → St → Option R) (rec : Int × (List Int) → Option R) (p : Int × (List Int)) : Option R := impl_ValidLawn_s1 k (fun y1 => K .ret (fSt impl_ValidLawn_t1_1 [.b y1])) (K (.exit 0) (fSt impl_ValidLawn_t1_2 [])) (fun h1 h2 => rec (h1, h2)) p.1 p.2
def impl_ValidLawn_c1 (k : Nat) : Lcall := lcallOf tab impl_ValidLawn_t1 dec_il [1, 18] k (impl_ValidLawn_w1 k)
def impl_ValidLawn_C (k : Nat) : Cfg := ⟨tab, mvs, oraOf [impl_within_e k, impl_Lawn_has_e k], loOf [(2, impl_ValidLawn_c0 k), (0, impl_ValidLawn_c1 k)]⟩
theorem impl_ValidLawn_es (k : Nat) : ∀ e ∈ ([impl_within_e k, impl_Lawn_has_e k] : List Ent), EntOK Try.prog tab mvs e := by
  intro e he
  simp only [List.mem_cons, List.not_mem_nil, or_false] at he
  rcases he with rfl | rfl
  · exact impl_within_ok k
  · exact impl_Lawn_has_ok k
theorem impl_ValidLawn_step0 (k : Nat) (R : Type) (K : Ex → St → Option R) (g : St → Option R) (p : Int × Int × Int × (List Int)) : evCode (impl_ValidLawn_C k) (loopP [0, 0] (0, codeOf Try.f69)).2 (loopP [0, 0] (0, codeOf Try.f69)).1 (fSt impl_ValidLawn_t0 (enc_iiil p)) (loopK tab [1, 3, 18, 21] [1, 18] [2] g K) = impl_ValidLawn_w0 k R K (fun p => g (fSt impl_ValidLawn_t0 (enc_iiil p))) p := by
  kernel_rfl
theorem impl_ValidLawn_lok0 (k : Nat) : LoopOK Try.prog tab (impl_ValidLawn_C k).lo (loopP [0, 0] (0, codeOf Try.f69)).1 (loopP [0, 0] (0, codeOf Try.f69)).2 :=
  loopOK_of (C := impl_ValidLawn_C k) tabOK eqTabOK (oraOf_ok (impl_ValidLawn_es k)) (oraOf_nat (impl_ValidLawn_es k)) follows (forall_getD _ 0 (0, Code.skip) (by kernel_rfl) fun i hi => by
      omega)
    (tm := impl_ValidLawn_t0) (dec := dec_iiil) (enc := enc_iiil) (ksIn := [1, 3, 18, 21]) (ksOut := [1, 18]) (ksRet := [2]) (k := k) (step := impl_ValidLawn_w0 k) dec_enc_iiil (fun p => by kernel_rfl) (fun s R K => by kernel_rfl) (impl_ValidLawn_step0 k)
theorem impl_ValidLawn_step1 (k : Nat) (R : Type) (K : Ex → St → Option R) (g : St → Option R) (p : Int × (List Int)) : evCode (impl_ValidLawn_C k) (loopP [0] (0, codeOf Try.f69)).2 (loopP [0] (0, codeOf Try.f69)).1 (fSt impl_ValidLawn_t1 (enc_il p)) (loopK tab [1, 18] [] [2] g K) = impl_ValidLawn_w1 k R K (fun p => g (fSt impl_ValidLawn_t1 (enc_il p))) p := by
  kernel_rfl
theorem impl_ValidLawn_lok1 (k : Nat) : LoopOK Try.prog tab (impl_ValidLawn_C k).lo (loopP [0] (0, codeOf Try.f69)).1 (loopP [0] (0, codeOf Try.f69)).2 :=
  loopOK_of (C := impl_ValidLawn_C k) tabOK eqTabOK (oraOf_ok (impl_ValidLawn_es k)) (oraOf_nat (impl_ValidLawn_es k)) follows (forall_getD _ 1 (0, Code.skip) (by kernel_rfl) fun i hi => by
      match i, hi with
      | 0, _ => exact impl_ValidLawn_lok0 k
      | n + 1, h => omega)
    (tm := impl_ValidLawn_t1) (dec := dec_il) (enc := enc_il) (ksIn := [1, 18]) (ksOut := []) (ksRet := [2]) (k := k) (step := impl_ValidLawn_w1 k) dec_enc_il (fun p => by kernel_rfl) (fun s R K => by kernel_rfl) (impl_ValidLawn_step1 k)
def impl_ValidLawn_e (k : Nat) : Ent := (69, callOf [.agg 36] dec_l fun (p : (List Int)) R K => (impl_ValidLawn k p).bind fun (b : Bool) => K ((fV (.bool) (enc_b b)).1, none))
theorem impl_ValidLawn_run (k : Nat) (p : (List Int)) : runF (impl_ValidLawn_C k) Try.f69 false (fL [.agg 36] (enc_l p)).1 (resK (.bool) dec_b) = impl_ValidLawn k p := by
  kernel_rfl
theorem impl_ValidLawn_ok (k : Nat) : EntOK Try.prog tab mvs (impl_ValidLawn_e k) :=
  fn_ok (C := impl_ValidLawn_C k) tabOK eqTabOK (impl_ValidLawn_es k) rfl follows Try.func69 (by kernel_rfl) (by kernel_rfl) rfl (forall_getD _ 1 (0, Code.skip) (by kernel_rfl) fun i hi => by
      match i, hi with
      | 0, _ => exact impl_ValidLawn_lok1 k
      | n + 1, h => omega)
    dec_enc_l dec_enc_b (impl_ValidLawn_run k)

def impl_cellsCode_1_C (k : Nat) : Cfg := ⟨tab, mvs, oraOf [impl_Lawn_has_e k], loOf []⟩
theorem impl_cellsCode_1_es (k : Nat) : ∀ e ∈ ([impl_Lawn_has_e k] : List Ent), EntOK Try.prog tab mvs e := by
  intro e he
  simp only [List.mem_cons, List.not_mem_nil, or_false] at he
  rcases he with rfl
  · exact impl_Lawn_has_ok k
def impl_cellsCode_1_e (k : Nat) : Ent := (102, callOf [.agg 43, .pvi (some 36) 0 36] dec_ll fun (p : (List Int) × (List Int)) R K => (impl_cellsCode_1 k p.1 p.2).bind fun (b : Bool) => K ((fV (.bool) (enc_b b)).1, none))
theorem impl_cellsCode_1_run (k : Nat) (p : (List Int) × (List Int)) : runF (impl_cellsCode_1_C k) Try.f102 false (fL [.agg 43, .pvi (some 36) 0 36] (enc_ll p)).1 (resK (.bool) dec_b) = impl_cellsCode_1 k p.1 p.2 := by
  kernel_rfl
theorem impl_cellsCode_1_ok (k : Nat) : EntOK Try.prog tab mvs (impl_cellsCode_1_e k) :=
  fn_ok (C := impl_cellsCode_1_C k) tabOK eqTabOK (impl_cellsCode_1_es k) rfl follows Try.func102 (by kernel_rfl) (by kernel_rfl) rfl (forall_getD _ 0 (0, Code.skip) (by kernel_rfl) fun i hi => by
      omega)
    dec_enc_ll dec_enc_b (impl_cellsCode_1_run k)

def dec_lgii (ps : List Pay) : Option ((List Int) × (List Int → Option Bool) × Int × Int) := match ps with
  | [.l x1, .g x2, .i x3, .i x4] => some (x1, x2, x3, x4)
  | _ => none
def enc_lgii (p : (List Int) × (List Int → Option Bool) × Int × Int) : List Pay := [.l p.1, .g p.2.1, .i p.2.2.1, .i p.2.2.2]
theorem dec_enc_lgii : ∀ (ps : List Pay) (p : (List Int) × (List Int → Option Bool) × Int × Int), dec_lgii ps = some p → ps = enc_lgii p := by
  intro ps p h
  unfold dec_lgii at h
  split at h
  · injection h with h
    subst h
    rfl
  · cases h

def dec_lg (ps : List Pay) : Option ((List Int) × (List Int → Option Bool)) := match ps with
  | [.l x1, .g x2] => some (x1, x2)
  | _ => none
def enc_lg (p : (List Int) × (List Int → Option Bool)) : List Pay := [.l p.1, .g p.2]
theorem dec_enc_lg : ∀ (ps : List Pay) (p : (List Int) × (List Int → Option Bool)), dec_lg ps = some p → ps = enc_lg p := by
  intro ps p h
  unfold dec_lg at h
  split at h
  · injection h with h
    subst h
    rfl
  · cases h

def slices_IndexFunc_impl_Cell_t0 : StTm := ⟨19, [(0, .slv 43), (1, .cloB 43), (7, .int .i64), (8, .int .i64)], []⟩
def slices_IndexFunc_impl_Cell_t0_1 : StTm := ⟨19, [(4, .int .i64)], []⟩
def slices_IndexFunc_impl_Cell_t0_2 : StTm := ⟨19, [], []⟩
def slices_IndexFunc_impl_Cell_w0 (k : Nat) (R : Type) (K : Ex → St → Option R) (rec : (List Int) × (List Int → Option Bool) × Int × Int → Option R) (p : (List Int) × (List Int → Option Bool) × Int × Int) : Option R := slices_IndexFunc_impl_Cell_s0 k (fun y1 => K .ret (fSt slices_IndexFunc_impl_Cell_t0_1 [.i y1])) (K (.exit 0) (fSt slices_IndexFunc_impl_Cell_t0_2 [])) (fun h1 h2 h3 h4 => rec (h1, h2, h3, h4)) p.1 p.2.1 p.2.2.1 p.2.2.2
def slices_IndexFunc_impl_Cell_c0 (k : Nat) : Lcall := lcallOf tab slices_IndexFunc_impl_Cell_t0 dec_lgii [0, 1, 7, 8] k (slices_IndexFunc_impl_Cell_w0 k)
def slices_IndexFunc_impl_Cell_C (k : Nat) : Cfg := ⟨tab, mvs, oraOf [], loOf [(0, slices_IndexFunc_impl_Cell_c0 k)]⟩
theorem slices_IndexFunc_impl_Cell_es (k : Nat) : ∀ e ∈ ([] : List Ent), EntOK Try.prog tab mvs e := by
  intro e he
  simp at he
theorem slices_IndexFunc_impl_Cell_step0 (k : Nat) (R : Type) (K : Ex → St → Option R) (g : St → Option R) (p : (List Int) × (List Int → Option Bool) × Int × Int) : evCode (slices_IndexFunc_impl_Cell_C k) (loopP [0] (0, codeOf Try.f115)).2 (loopP [0] (0, codeOf Try.f115)).1 (fSt slices_IndexFunc_impl_Cell_t0 (enc_lgii p)) (loopK tab [0, 1, 7, 8] [] [4] g K) = slices_IndexFunc_impl_Cell_w0 k R K (fun p => g (fSt slices_IndexFunc_impl_Cell_t0 (enc_lgii p))) p := by
  kernel_rfl
theorem slices_IndexFunc_impl_Cell_lok0 (k : Nat) : LoopOK Try.prog tab (slices_IndexFunc_impl_Cell_C k).lo (loopP [0] (0, codeOf Try.f115)).1 (loopP [0] (0, codeOf Try.f115)).2 :=
  loopOK_of (C := slices_IndexFunc_impl_Cell_C k) tabOK eqTabOK (oraOf_ok (slices_IndexFunc_impl_Cell_es k)) (oraOf_nat (slices_IndexFunc_impl_Cell_es k)) follows (forall_getD _ 0 (0, Code.skip) (by kernel_rfl) fun i hi => by
      omega)
    (tm := slices_IndexFunc_impl_Cell_t0) (dec := dec_lgii) (enc := enc_lgii) (ksIn := [0, 1, 7, 8]) (ksOut := []) (ksRet := [4]) (k := k) (step := slices_IndexFunc_impl_Cell_w0 k) dec_enc_lgii (fun p => by kernel_rfl) (fun s R K => by kernel_rfl) (slices_IndexFunc_impl_Cell_step0 k)
def slices_IndexFunc_impl_Cell_e (k : Nat) : Ent := (115, callOf [.slv 43, .cloB 43] dec_lg fun (p : (List Int) × (List Int → Option Bool)) R K => (slices_IndexFunc_impl_Cell k p.1 p.2).bind fun (b : Int) => K ((fV (.int .i64) (enc_i b)).1, none))
theorem slices_IndexFunc_impl_Cell_run (k : Nat) (p : (List Int) × (List Int → Option Bool)) : runF (slices_IndexFunc_impl_Cell_C k) Try.f115 false (fL [.slv 43, .cloB 43] (enc_lg p)).1 (resK (.int .i64) dec_i) = slices_IndexFunc_impl_Cell k p.1 p.2 := by
  kernel_rfl
theorem slices_IndexFunc_impl_Cell_ok (k : Nat) : EntOK Try.prog tab mvs (slices_IndexFunc_impl_Cell_e k) :=
  fn_ok (C := slices_IndexFunc_impl_Cell_C k) tabOK eqTabOK (slices_IndexFunc_impl_Cell_es k) rfl follows Try.func115 (by kernel_rfl) (by kernel_rfl) rfl (forall_getD _ 1 (0, Code.skip) (by kernel_rfl) fun i hi => by
      match i, hi with
      | 0, _ => exact slices_IndexFunc_impl_Cell_lok0 k
      | n + 1, h => omega)
    dec_enc_lg dec_enc_i (slices_IndexFunc_impl_Cell_run k)

def slices_ContainsFunc_impl_Cell_C (k : Nat) : Cfg := ⟨tab, mvs, oraOf [slices_IndexFunc_impl_Cell_e k], loOf []⟩
theorem slices_ContainsFunc_impl_Cell_es (k : Nat) : ∀ e ∈ ([slices_IndexFunc_impl_Cell_e k] : List Ent), EntOK Try.prog tab mvs e := by
  intro e he
  simp only [List.mem_cons, List.not_mem_nil, or_false] at he
  rcases he with rfl
  · exact slices_IndexFunc_impl_Cell_ok k
def slices_ContainsFunc_impl_Cell_e (k : Nat) : Ent := (74, callOf [.slv 43, .cloB 43] dec_lg fun (p : (List Int) × (List Int → Option Bool)) R K => (slices_ContainsFunc_impl_Cell k p.1 p.2).bind fun (b : Bool) => K ((fV (.bool) (enc_b b)).1, none))
theorem slices_ContainsFunc_impl_Cell_run (k : Nat) (p : (List Int) × (List Int → Option Bool)) : runF (slices_ContainsFunc_impl_Cell_C k) Try.f74 false (fL [.slv 43, .cloB 43] (enc_lg p)).1 (resK (.bool) dec_b) = slices_ContainsFunc_impl_Cell k p.1 p.2 := by
  kernel_rfl
theorem slices_ContainsFunc_impl_Cell_ok (k : Nat) : EntOK Try.prog tab mvs (slices_ContainsFunc_impl_Cell_e k) :=
  fn_ok (C := slices_ContainsFunc_impl_Cell_C k) tabOK eqTabOK (slices_ContainsFunc_impl_Cell_es k) rfl follows Try.func74 (by kernel_rfl) (by kernel_rfl) rfl (forall_getD _ 0 (0, Code.skip) (by kernel_rfl) fun i hi => by
      omega)
    dec_enc_lg dec_enc_b (slices_ContainsFunc_impl_Cell_run k)

def impl_cellsCode_C (k : Nat) : Cfg := ⟨tab, mvs, oraOf [impl_ValidLawn_e k, impl_cellsCode_1_e k, slices_ContainsFunc_impl_Cell_e k], loOf []⟩
theorem impl_cellsCode_es (k : Nat) : ∀ e ∈ ([impl_ValidLawn_e k, impl_cellsCode_1_e k, slices_ContainsFunc_impl_Cell_e k] : List Ent), EntOK Try.prog tab mvs e := by
  intro e he
  simp only [List.mem_cons, List.not_mem_nil, or_false] at he
  rcases he with rfl | rfl | rfl
  · exact impl_ValidLawn_ok k
  · exact impl_cellsCode_1_ok k
  · exact slices_ContainsFunc_impl_Cell_ok k
def impl_cellsCode_e (k : Nat) : Ent := (55, callOf [.agg 36, .slv 43] dec_ll fun (p : (List Int) × (List Int)) R K => (impl_cellsCode k p.1 p.2).bind fun (b : Int) => K ((fV (.int .i64) (enc_i b)).1, none))
theorem impl_cellsCode_run (k : Nat) (p : (List Int) × (List Int)) : runF (impl_cellsCode_C k) Try.f55 false (fL [.agg 36, .slv 43] (enc_ll p)).1 (resK (.int .i64) dec_i) = impl_cellsCode k p.1 p.2 := by
  kernel_rfl
theorem impl_cellsCode_ok (k : Nat) : EntOK Try.prog tab mvs (impl_cellsCode_e k) :=
  fn_ok (C := impl_cellsCode_C k) tabOK eqTabOK (impl_cellsCode_es k) rfl follows Try.func55 (by kernel_rfl) (by kernel_rfl) rfl (forall_getD _ 0 (0, Code.skip) (by kernel_rfl) fun i hi => by
      omega)
    dec_enc_ll dec_enc_i (impl_cellsCode_run k)

def impl_Lawn_kind_C (k : Nat) : Cfg := ⟨tab, mvs, oraOf [], loOf []⟩
theorem impl_Lawn_kind_es (k : Nat) : ∀ e ∈ ([] : List Ent), EntOK Try.prog tab mvs e := by
  intro e he
  simp at he
def impl_Lawn_kind_e (k : Nat) : Ent := (62, callOf [.agg 36, .agg 43] dec_ll fun (p : (List Int) × (List Int)) R K => (impl_Lawn_kind k p.1 p.2).bind fun (b : Int) => K ((fV (.int .i64) (enc_i b)).1, none))
theorem impl_Lawn_kind_run (k : Nat) (p : (List Int) × (List Int)) : runF (impl_Lawn_kind_C k) Try.f62 false (fL [.agg 36, .agg 43] (enc_ll p)).1 (resK (.int .i64) dec_i) = impl_Lawn_kind k p.1 p.2 := by
  kernel_rfl
theorem impl_Lawn_kind_ok (k : Nat) : EntOK Try.prog tab mvs (impl_Lawn_kind_e k) :=
  fn_ok (C := impl_Lawn_kind_C k) tabOK eqTabOK (impl_Lawn_kind_es k) rfl follows Try.func62 (by kernel_rfl) (by kernel_rfl) rfl (forall_getD _ 0 (0, Code.skip) (by kernel_rfl) fun i hi => by
      omega)
    dec_enc_ll dec_enc_i (impl_Lawn_kind_run k)

def dec_lli (ps : List Pay) : Option ((List Int) × (List Int) × Int) := match ps with
  | [.l x1, .l x2, .i x3] => some (x1, x2, x3)
  | _ => none
def enc_lli (p : (List Int) × (List Int) × Int) : List Pay := [.l p.1, .l p.2.1, .i p.2.2]
theorem dec_enc_lli : ∀ (ps : List Pay) (p : (List Int) × (List Int) × Int), dec_lli ps = some p → ps = enc_lli p := by
  intro ps p h
  unfold dec_lli at h
  split at h
  · injection h with h
    subst h
    rfl
  · cases h

def impl_Lawn_is_C (k : Nat) : Cfg := ⟨tab, mvs, oraOf [impl_Lawn_has_e k, impl_Lawn_kind_e k], loOf []⟩
theorem impl_Lawn_is_es (k : Nat) : ∀ e ∈ ([impl_Lawn_has_e k, impl_Lawn_kind_e k] : List Ent), EntOK Try.prog tab mvs e := by
  intro e he
  simp only [List.mem_cons, List.not_mem_nil, or_false] at he
  rcases he with rfl | rfl
  · exact impl_Lawn_has_ok k
  · exact impl_Lawn_kind_ok k
def impl_Lawn_is_e (k : Nat) : Ent := (110, callOf [.agg 36, .agg 43, .int .i64] dec_lli fun (p : (List Int) × (List Int) × Int) R K => (impl_Lawn_is k p.1 p.2.1 p.2.2).bind fun (b : Bool) => K ((fV (.bool) (enc_b b)).1, none))
theorem impl_Lawn_is_run (k : Nat) (p : (List Int) × (List Int) × Int) : runF (impl_Lawn_is_C k) Try.f110 false (fL [.agg 36, .agg 43, .int .i64] (enc_lli p)).1 (resK (.bool) dec_b) = impl_Lawn_is k p.1 p.2.1 p.2.2 := by
  kernel_rfl
theorem impl_Lawn_is_ok (k : Nat) : EntOK Try.prog tab mvs (impl_Lawn_is_e k) :=
  fn_ok (C := impl_Lawn_is_C k) tabOK eqTabOK (impl_Lawn_is_es k) rfl follows Try.func110 (by kernel_rfl) (by kernel_rfl) rfl (forall_getD _ 0 (0, Code.skip) (by kernel_rfl) fun i hi => by
      omega)
    dec_enc_lli dec_enc_b (impl_Lawn_is_run k)

def impl_Lawn_grass_C (k : Nat) : Cfg := ⟨tab, mvs, oraOf [impl_Lawn_is_e k], loOf []⟩
theorem impl_Lawn_grass_es (k : Nat) : ∀ e ∈ ([impl_Lawn_is_e k] : List Ent), EntOK Try.prog tab mvs e := by
  intro e he
  simp only [List.mem_cons, List.not_mem_nil, or_false] at he
  rcases he with rfl
  · exact impl_Lawn_is_ok k
def impl_Lawn_grass_e (k : Nat) : Ent := (63, callOf [.agg 36, .agg 43] dec_ll fun (p : (List Int) × (List Int)) R K => (impl_Lawn_grass k p.1 p.2).bind fun (b : Bool) => K ((fV (.bool) (enc_b b)).1, none))
theorem impl_Lawn_grass_run (k : Nat) (p : (List Int) × (List Int)) : runF (impl_Lawn_grass_C k) Try.f63 false (fL [.agg 36, .agg 43] (enc_ll p)).1 (resK (.bool) dec_b) = impl_Lawn_grass k p.1 p.2 := by
  kernel_rfl
theorem impl_Lawn_grass_ok (k : Nat) : EntOK Try.prog tab mvs (impl_Lawn_grass_e k) :=
  fn_ok (C := impl_Lawn_grass_C k) tabOK eqTabOK (impl_Lawn_grass_es k) rfl follows Try.func63 (by kernel_rfl) (by kernel_rfl) rfl (forall_getD _ 0 (0, Code.skip) (by kernel_rfl) fun i hi => by
      omega)
    dec_enc_ll dec_enc_b (impl_Lawn_grass_run k)

def impl_beside_C (k : Nat) : Cfg := ⟨tab, mvs, oraOf [], loOf []⟩
theorem impl_beside_es (k : Nat) : ∀ e ∈ ([] : List Ent), EntOK Try.prog tab mvs e := by
  intro e he
  simp at he
def impl_beside_e (k : Nat) : Ent := (71, callOf [.agg 43] dec_l fun (p : (List Int)) R K => (impl_beside k p).bind fun (b : (List Int)) => K ((fV (.slv 43) (enc_l b)).1, none))
theorem impl_beside_run (k : Nat) (p : (List Int)) : runF (impl_beside_C k) Try.f71 false (fL [.agg 43] (enc_l p)).1 (resK (.slv 43) dec_l) = impl_beside k p := by
  kernel_rfl
theorem impl_beside_ok (k : Nat) : EntOK Try.prog tab mvs (impl_beside_e k) :=
  fn_ok (C := impl_beside_C k) tabOK eqTabOK (impl_beside_es k) rfl follows Try.func71 (by kernel_rfl) (by kernel_rfl) rfl (forall_getD _ 0 (0, Code.skip) (by kernel_rfl) fun i hi => by
      omega)
    dec_enc_l dec_enc_l (impl_beside_run k)

def dec_iiiiill (ps : List Pay) : Option (Int × Int × Int × Int × Int × (List Int) × (List Int)) := match ps with
  | [.i x1, .i x2, .i x3, .i x4, .i x5, .l x6, .l x7] => some (x1, x2, x3, x4, x5, x6, x7)
  | _ => none
def enc_iiiiill (p : Int × Int × Int × Int × Int × (List Int) × (List Int)) : List Pay := [.i p.1, .i p.2.1, .i p.2.2.1, .i p.2.2.2.1, .i p.2.2.2.2.1, .l p.2.2.2.2.2.1, .l p.2.2.2.2.2.2]
theorem dec_enc_iiiiill : ∀ (ps : List Pay) (p : Int × Int × Int × Int × Int × (List Int) × (List Int)), dec_iiiiill ps = some p → ps = enc_iiiiill p := by
  intro ps p h
  unfold dec_iiiiill at h
  split at h
  · injection h with h
    subst h
    rfl
  · cases h

def dec_iill (ps : List Pay) : Option (Int × Int × (List Int) × (List Int)) := match ps with
  | [.i x1, .i x2, .l x3, .l x4] => some (x1, x2, x3, x4)
  | _ => none
def enc_iill (p : Int × Int × (List Int) × (List Int)) : List Pay := [.i p.1, .i p.2.1, .l p.2.2.1, .l p.2.2.2]
theorem dec_enc_iill : ∀ (ps : List Pay) (p : Int × Int × (List Int) × (List Int)), dec_iill ps = some p → ps = enc_iill p := by
  intro ps p h
  unfold dec_iill at h
  split at h
  · injection h with h
    subst h
    rfl
  · cases h

def impl_Lawn_all_t0 : StTm := ⟨26, [(1, .ptr 1 0 36), (3, .slw 3 43), (4, .int .i8), (8, .int .i8), (9, .int .i8), (13, .int .i8), (14, .int .i8)], [(1, 36, true, .ints), (3, 43, false, .ints)]⟩
def impl_Lawn_all_t0_1 : StTm := ⟨26, [(1, .ptr 1 0 36), (3, .slw 3 43), (8, .int .i8), (9, .int .i8)], [(1, 36, true, .ints), (3, 43, false, .ints)]⟩
def impl_Lawn_all_w0 (k : Nat) (R : Type) (K : Ex → St → Option R) (rec : Int × Int × Int × Int × Int × (List Int) × (List Int) → Option R) (p : Int × Int × Int × Int × Int × (List Int) × (List Int)) : Option R := impl_Lawn_all_s0 k (fun y1 y2 y3 y4 => K (.exit 2) (fSt impl_Lawn_all_t0_1 [.i y1, .i y2, .l y3, .l y4])) (fun h1 h2 h3 h4 h5 h6 h7 => rec (h1, h2, h3, h4, h5, h6, h7)) p.1 p.2.1 p.2.2.1 p.2.2.2.1 p.2.2.2.2.1 p.2.2.2.2.2.1 p.2.2.2.2.2.2
def impl_Lawn_all_c0 (k : Nat) : Lcall := lcallOf tab impl_Lawn_all_t0 dec_iiiiill [1, 3, 4, 8, 9, 13, 14] k (impl_Lawn_all_w0 k)
def impl_Lawn_all_t1 : StTm := ⟨26, [(1, .ptr 1 0 36), (3, .slw 3 43), (8, .int .i8), (9, .int .i8)], [(1, 36, true, .ints), (3, 43, false, .ints)]⟩
def impl_Lawn_all_t1_1 : StTm := ⟨26, [(3, .slw 3 43)], [(3, 43, false, .ints)]⟩
def impl_Lawn_all_w1 (k : Nat) (R : Type) (K : Ex → St → Option R) (rec : Int × Int × (List Int) × (List Int) → Option R) (p : Int × Int × (List Int) × (List Int)) : Option R := impl_Lawn_all_s1 k (fun y1 => K (.exit 0) (fSt impl_Lawn_all_t1_1 [.l y1])) (fun h1 h2 h3 h4 => rec (h1, h2, h3, h4)) p.1 p.2.1 p.2.2.1 p.2.2.2
def impl_Lawn_all_c1 (k : Nat) : Lcall := lcallOf tab impl_Lawn_all_t1 dec_iill [1, 3, 8, 9] k (impl_Lawn_all_w1 k)
def impl_Lawn_all_C (k : Nat) : Cfg := ⟨tab, mvs, oraOf [], loOf [(2, impl_Lawn_all_c0 k), (0, impl_Lawn_all_c1 k)]⟩
theorem impl_Lawn_all_es (k : Nat) : ∀ e ∈ ([] : List Ent), EntOK Try.prog tab mvs e := by
  intro e he
  simp at he
theorem impl_Lawn_all_step0 (k : Nat) (R : Type) (K : Ex → St → Option R) (g : St → Option R) (p : Int × Int × Int × Int × Int × (List Int) × (List Int)) : evCode (impl_Lawn_all_C k) (loopP [0, 0] (0, codeOf Try.f104)).2 (loopP [0, 0] (0, codeOf Try.f104)).1 (fSt impl_Lawn_all_t0 (enc_iiiiill p)) (loopK tab [1, 3, 4, 8, 9, 13, 14] [1, 3, 8, 9] [2] g K) = impl_Lawn_all_w0 k R K (fun p => g (fSt impl_Lawn_all_t0 (enc_iiiiill p))) p := by
  kernel_rfl
theorem impl_Lawn_all_lok0 (k : Nat) : LoopOK Try.prog tab (impl_Lawn_all_C k).lo (loopP [0, 0] (0, codeOf Try.f104)).1 (loopP [0, 0] (0, codeOf Try.f104)).2 :=
  loopOK_of (C := impl_Lawn_all_C k) tabOK eqTabOK (oraOf_ok (impl_Lawn_all_es k)) (oraOf_nat (impl_Lawn_all_es k)) follows (forall_getD _ 0 (0, Code.skip) (by kernel_rfl) fun i hi => by
      omega)
    (tm := impl_Lawn_all_t0) (dec := dec_iiiiill) (enc := enc_iiiiill) (ksIn := [1, 3, 4, 8, 9, 13, 14]) (ksOut := [1, 3, 8, 9]) (ksRet := [2]) (k := k) (step := impl_Lawn_all_w0 k) dec_enc_iiiiill (fun p => by kernel_rfl) (fun s R K => by kernel_rfl) (impl_Lawn_all_step0 k)
theorem impl_Lawn_all_step1 (k : Nat) (R : Type) (K : Ex → St → Option R) (g : St → Option R) (p : Int × Int × (List Int) × (List Int)) : evCode (impl_Lawn_all_C k) (loopP [0] (0, codeOf Try.f104)).2 (loopP [0] (0, codeOf Try.f104)).1 (fSt impl_Lawn_all_t1 (enc_iill p)) (loopK tab [1, 3, 8, 9] [3] [2] g K) = impl_Lawn_all_w1 k R K (fun p => g (fSt impl_Lawn_all_t1 (enc_iill p))) p := by
  kernel_rfl
theorem impl_Lawn_all_lok1 (k : Nat) : LoopOK Try.prog tab (impl_Lawn_all_C k).lo (loopP [0] (0, codeOf Try.f104)).1 (loopP [0] (0, codeOf Try.f104)).2 :=
  loopOK_of (C := impl_Lawn_all_C k) tabOK eqTabOK (oraOf_ok (impl_Lawn_all_es k)) (oraOf_nat (impl_Lawn_all_es k)) follows (forall_getD _ 1 (0, Code.skip) (by kernel_rfl) fun i hi => by
      match i, hi with
      | 0, _ => exact impl_Lawn_all_lok0 k
      | n + 1, h => omega)
    (tm := impl_Lawn_all_t1) (dec := dec_iill) (enc := enc_iill) (ksIn := [1, 3, 8, 9]) (ksOut := [3]) (ksRet := [2]) (k := k) (step := impl_Lawn_all_w1 k) dec_enc_iill (fun p => by kernel_rfl) (fun s R K => by kernel_rfl) (impl_Lawn_all_step1 k)
def impl_Lawn_all_e (k : Nat) : Ent := (104, callOf [.agg 36] dec_l fun (p : (List Int)) R K => (impl_Lawn_all k p).bind fun (b : (List Int)) => K ((fV (.slv 43) (enc_l b)).1, none))
theorem impl_Lawn_all_run (k : Nat) (p : (List Int)) : runF (impl_Lawn_all_C k) Try.f104 false (fL [.agg 36] (enc_l p)).1 (resK (.slv 43) dec_l) = impl_Lawn_all k p := by
  kernel_rfl
theorem impl_Lawn_all_ok (k : Nat) : EntOK Try.prog tab mvs (impl_Lawn_all_e k) :=
  fn_ok (C := impl_Lawn_all_C k) tabOK eqTabOK (impl_Lawn_all_es k) rfl follows Try.func104 (by kernel_rfl) (by kernel_rfl) rfl (forall_getD _ 1 (0, Code.skip) (by kernel_rfl) fun i hi => by
      match i, hi with
      | 0, _ => exact impl_Lawn_all_lok1 k
      | n + 1, h => omega)
    dec_enc_l dec_enc_l (impl_Lawn_all_run k)

def impl_Lawn_those_1_C (k : Nat) : Cfg := ⟨tab, mvs, oraOf [], loOf []⟩
theorem impl_Lawn_those_1_es (k : Nat) : ∀ e ∈ ([] : List Ent), EntOK Try.prog tab mvs e := by
  intro e he
  simp at he
def impl_Lawn_those_1_e (k : Nat) : Ent := (137, callOf [.agg 43, .pvv [.cloB 43] 0 105] dec_lg fun (p : (List Int) × (List Int → Option Bool)) R K => (impl_Lawn_those_1 k p.1 p.2).bind fun (b : Bool) => K ((fV (.bool) (enc_b b)).1, none))
theorem impl_Lawn_those_1_run (k : Nat) (p : (List Int) × (List Int → Option Bool)) : runF (impl_Lawn_those_1_C k) Try.f137 false (fL [.agg 43, .pvv [.cloB 43] 0 105] (enc_lg p)).1 (resK (.bool) dec_b) = impl_Lawn_those_1 k p.1 p.2 := by
  kernel_rfl
theorem impl_Lawn_those_1_ok (k : Nat) : EntOK Try.prog tab mvs (impl_Lawn_those_1_e k) :=
  fn_ok (C := impl_Lawn_those_1_C k) tabOK eqTabOK (impl_Lawn_those_1_es k) rfl follows Try.func137 (by kernel_rfl) (by kernel_rfl) rfl (forall_getD _ 0 (0, Code.skip) (by kernel_rfl) fun i hi => by
      omega)
    dec_enc_lg dec_enc_b (impl_Lawn_those_1_run k)

def dec_giil (ps : List Pay) : Option ((List Int → Option Bool) × Int × Int × (List Int)) := match ps with
  | [.g x1, .i x2, .i x3, .l x4] => some (x1, x2, x3, x4)
  | _ => none
def enc_giil (p : (List Int → Option Bool) × Int × Int × (List Int)) : List Pay := [.g p.1, .i p.2.1, .i p.2.2.1, .l p.2.2.2]
theorem dec_enc_giil : ∀ (ps : List Pay) (p : (List Int → Option Bool) × Int × Int × (List Int)), dec_giil ps = some p → ps = enc_giil p := by
  intro ps p h
  unfold dec_giil at h
  split at h
  · injection h with h
    subst h
    rfl
  · cases h

def slices_DeleteFunc_impl_Cell_t0 : StTm := ⟨42, [(0, .slw 42 43), (1, .cloB 43), (5, .int .i64), (6, .int .i64)], [(42, 43, false, .ints)]⟩
def slices_DeleteFunc_impl_Cell_t0_1 : StTm := ⟨42, [(0, .slw 42 43), (5, .int .i64)], [(42, 43, false, .ints)]⟩
def slices_DeleteFunc_impl_Cell_w0 (k : Nat) (R : Type) (K : Ex → St → Option R) (rec : (List Int → Option Bool) × Int × Int × (List Int) → Option R) (p : (List Int → Option Bool) × Int × Int × (List Int)) : Option R := slices_DeleteFunc_impl_Cell_s0 k (fun y1 y2 => K (.exit 0) (fSt slices_DeleteFunc_impl_Cell_t0_1 [.i y1, .l y2])) (fun h1 h2 h3 h4 => rec (h1, h2, h3, h4)) p.1 p.2.1 p.2.2.1 p.2.2.2
def slices_DeleteFunc_impl_Cell_c0 (k : Nat) : Lcall := lcallOf tab slices_DeleteFunc_impl_Cell_t0 dec_giil [0, 1, 5, 6] k (slices_DeleteFunc_impl_Cell_w0 k)
def slices_DeleteFunc_impl_Cell_C (k : Nat) : Cfg := ⟨tab, mvs, oraOf [slices_IndexFunc_impl_Cell_e k], loOf [(0, slices_DeleteFunc_impl_Cell_c0 k)]⟩
theorem slices_DeleteFunc_impl_Cell_es (k : Nat) : ∀ e ∈ ([slices_IndexFunc_impl_Cell_e k] : List Ent), EntOK Try.prog tab mvs e := by
  intro e he
  simp only [List.mem_cons, List.not_mem_nil, or_false] at he
  rcases he with rfl
  · exact slices_IndexFunc_impl_Cell_ok k
theorem slices_DeleteFunc_impl_Cell_step0 (k : Nat) (R : Type) (K : Ex → St → Option R) (g : St → Option R) (p : (List Int → Option Bool) × Int × Int × (List Int)) : evCode (slices_DeleteFunc_impl_Cell_C k) (loopP [0] (0, codeOf Try.f136)).2 (loopP [0] (0, codeOf Try.f136)).1 (fSt slices_DeleteFunc_impl_Cell_t0 (enc_giil p)) (loopK tab [0, 1, 5, 6] [0, 5] [4] g K) = slices_DeleteFunc_impl_Cell_w0 k R K (fun p => g (fSt slices_DeleteFunc_impl_Cell_t0 (enc_giil p))) p := by
  kernel_rfl
theorem slices_DeleteFunc_impl_Cell_lok0 (k : Nat) : LoopOK Try.prog tab (slices_DeleteFunc_impl_Cell_C k).lo (loopP [0] (0, codeOf Try.f136)).1 (loopP [0] (0, codeOf Try.f136)).2 :=
  loopOK_of (C := slices_DeleteFunc_impl_Cell_C k) tabOK eqTabOK (oraOf_ok (slices_DeleteFunc_impl_Cell_es k)) (oraOf_nat (slices_DeleteFunc_impl_Cell_es k)) follows (forall_getD _ 0 (0, Code.skip) (by kernel_rfl) fun i hi => by
      omega)
    (tm := slices_DeleteFunc_impl_Cell_t0) (dec := dec_giil) (enc := enc_giil) (ksIn := [0, 1, 5, 6]) (ksOut := [0, 5]) (ksRet := [4]) (k := k) (step := slices_DeleteFunc_impl_Cell_w0 k) dec_enc_giil (fun p => by kernel_rfl) (fun s R K => by kernel_rfl) (slices_DeleteFunc_impl_Cell_step0 k)
def slices_DeleteFunc_impl_Cell_e (k : Nat) : Ent := (136, callOf [.slv 43, .cloB 43] dec_lg fun (p : (List Int) × (List Int → Option Bool)) R K => (slices_DeleteFunc_impl_Cell k p.1 p.2).bind fun (b : (List Int)) => K ((fV (.slv 43) (enc_l b)).1, none))
theorem slices_DeleteFunc_impl_Cell_run (k : Nat) (p : (List Int) × (List Int → Option Bool)) : runF (slices_DeleteFunc_impl_Cell_C k) Try.f136 true (fL [.slv 43, .cloB 43] (enc_lg p)).1 (resK (.slv 43) dec_l) = slices_DeleteFunc_impl_Cell k p.1 p.2 := by
  kernel_rfl
theorem slices_DeleteFunc_impl_Cell_ok (k : Nat) : EntOK Try.prog tab mvs (slices_DeleteFunc_impl_Cell_e k) :=
  fnm_ok (C := slices_DeleteFunc_impl_Cell_C k) tabOK eqTabOK (slices_DeleteFunc_impl_Cell_es k) rfl follows Try.func136 (by kernel_rfl) (by kernel_rfl) rfl (forall_getD _ 1 (0, Code.skip) (by kernel_rfl) fun i hi => by
      match i, hi with
      | 0, _ => exact slices_DeleteFunc_impl_Cell_lok0 k
      | n + 1, h => omega)
    dec_enc_lg dec_enc_l (slices_DeleteFunc_impl_Cell_run k)

def impl_Lawn_those_C (k : Nat) : Cfg := ⟨tab, mvs, oraOf [impl_Lawn_all_e k, impl_Lawn_those_1_e k, slices_DeleteFunc_impl_Cell_e k], loOf []⟩
theorem impl_Lawn_those_es (k : Nat) : ∀ e ∈ ([impl_Lawn_all_e k, impl_Lawn_those_1_e k, slices_DeleteFunc_impl_Cell_e k] : List Ent), EntOK Try.prog tab mvs e := by
  intro e he
  simp only [List.mem_cons, List.not_mem_nil, or_false] at he
  rcases he with rfl | rfl | rfl
  · exact impl_Lawn_all_ok k
  · exact impl_Lawn_those_1_ok k
  · exact slices_DeleteFunc_impl_Cell_ok k
def impl_Lawn_those_e (k : Nat) : Ent := (113, callOf [.agg 36, .cloB 43] dec_lg fun (p : (List Int) × (List Int → Option Bool)) R K => (impl_Lawn_those k p.1 p.2).bind fun (b : (List Int)) => K ((fV (.slv 43) (enc_l b)).1, none))
theorem impl_Lawn_those_run (k : Nat) (p : (List Int) × (List Int → Option Bool)) : runF (impl_Lawn_those_C k) Try.f113 false (fL [.agg 36, .cloB 43] (enc_lg p)).1 (resK (.slv 43) dec_l) = impl_Lawn_those k p.1 p.2 := by
  kernel_rfl
theorem impl_Lawn_those_ok (k : Nat) : EntOK Try.prog tab mvs (impl_Lawn_those_e k) :=
  fn_ok (C := impl_Lawn_those_C k) tabOK eqTabOK (impl_Lawn_those_es k) rfl follows Try.func113 (by kernel_rfl) (by kernel_rfl) rfl (forall_getD _ 0 (0, Code.skip) (by kernel_rfl) fun i hi => by
      omega)
    dec_enc_lg dec_enc_l (impl_Lawn_those_run k)

def dec_lm (ps : List Pay) : Option ((List Int) × (List (List Int × Int))) := match ps with
  | [.l x1, .m x2] => some (x1, x2)
  | _ => none
def enc_lm (p : (List Int) × (List (List Int × Int))) : List Pay := [.l p.1, .m p.2]
theorem dec_enc_lm : ∀ (ps : List Pay) (p : (List Int) × (List (List Int × Int))), dec_lm ps = some p → ps = enc_lm p := by
  intro ps p h
  unfold dec_lm at h
  split at h
  · injection h with h
    subst h
    rfl
  · cases h

def impl_Lawn_parts_1_C (k : Nat) : Cfg := ⟨tab, mvs, oraOf [], loOf []⟩
theorem impl_Lawn_parts_1_es (k : Nat) : ∀ e ∈ ([] : List Ent), EntOK Try.prog tab mvs e := by
  intro e he
  simp at he
def impl_Lawn_parts_1_e (k : Nat) : Ent := (114, callOf [.agg 43, .pvo [.m 168] 0 168] dec_lm fun (p : (List Int) × (List (List Int × Int))) R K => (impl_Lawn_parts_1 k p.1 p.2).bind fun (b : Bool) => K ((fV (.bool) (enc_b b)).1, none))
theorem impl_Lawn_parts_1_run (k : Nat) (p : (List Int) × (List (List Int × Int))) : runF (impl_Lawn_parts_1_C k) Try.f114 false (fL [.agg 43, .pvo [.m 168] 0 168] (enc_lm p)).1 (resK (.bool) dec_b) = impl_Lawn_parts_1 k p.1 p.2 := by
  kernel_rfl
theorem impl_Lawn_parts_1_ok (k : Nat) : EntOK Try.prog tab mvs (impl_Lawn_parts_1_e k) :=
  fn_ok (C := impl_Lawn_parts_1_C k) tabOK eqTabOK (impl_Lawn_parts_1_es k) rfl follows Try.func114 (by kernel_rfl) (by kernel_rfl) rfl (forall_getD _ 0 (0, Code.skip) (by kernel_rfl) fun i hi => by
      omega)
    dec_enc_lm dec_enc_b (impl_Lawn_parts_1_run k)

def dec_ghiiiilrmmlll (ps : List Pay) : Option ((List Int → Option Bool) × (List Int → Option (List Int)) × Int × Int × Int × Int × (List Int) × (List (List Int)) × (List (List Int × Int)) × (List (List Int × Int)) × (List Int) × (List Int) × (List Int)) := match ps with
  | [.g x1, .h x2, .i x3, .i x4, .i x5, .i x6, .l x7, .r x8, .m x9, .m x10, .l x11, .l x12, .l x13] => some (x1, x2, x3, x4, x5, x6, x7, x8, x9, x10, x11, x12, x13)
  | _ => none
def enc_ghiiiilrmmlll (p : (List Int → Option Bool) × (List Int → Option (List Int)) × Int × Int × Int × Int × (List Int) × (List (List Int)) × (List (List Int × Int)) × (List (List Int × Int)) × (List Int) × (List Int) × (List Int)) : List Pay := [.g p.1, .h p.2.1, .i p.2.2.1, .i p.2.2.2.1, .i p.2.2.2.2.1, .i p.2.2.2.2.2.1, .l p.2.2.2.2.2.2.1, .r p.2.2.2.2.2.2.2.1, .m p.2.2.2.2.2.2.2.2.1, .m p.2.2.2.2.2.2.2.2.2.1, .l p.2.2.2.2.2.2.2.2.2.2.1, .l p.2.2.2.2.2.2.2.2.2.2.2.1, .l p.2.2.2.2.2.2.2.2.2.2.2.2]
theorem dec_enc_ghiiiilrmmlll : ∀ (ps : List Pay) (p : (List Int → Option Bool) × (List Int → Option (List Int)) × Int × Int × Int × Int × (List Int) × (List (List Int)) × (List (List Int × Int)) × (List (List Int × Int)) × (List Int) × (List Int) × (List Int)), dec_ghiiiilrmmlll ps = some p → ps = enc_ghiiiilrmmlll p := by
  intro ps p h
  unfold dec_ghiiiilrmmlll at h
  split at h
  · injection h with h
    subst h
    rfl
  · cases h

def dec_ghiilrmmll (ps : List Pay) : Option ((List Int → Option Bool) × (List Int → Option (List Int)) × Int × Int × (List Int) × (List (List Int)) × (List (List Int × Int)) × (List (List Int × Int)) × (List Int) × (List Int)) := match ps with
  | [.g x1, .h x2, .i x3, .i x4, .l x5, .r x6, .m x7, .m x8, .l x9, .l x10] => some (x1, x2, x3, x4, x5, x6, x7, x8, x9, x10)
  | _ => none
def enc_ghiilrmmll (p : (List Int → Option Bool) × (List Int → Option (List Int)) × Int × Int × (List Int) × (List (List Int)) × (List (List Int × Int)) × (List (List Int × Int)) × (List Int) × (List Int)) : List Pay := [.g p.1, .h p.2.1, .i p.2.2.1, .i p.2.2.2.1, .l p.2.2.2.2.1, .r p.2.2.2.2.2.1, .m p.2.2.2.2.2.2.1, .m p.2.2.2.2.2.2.2.1, .l p.2.2.2.2.2.2.2.2.1, .l p.2.2.2.2.2.2.2.2.2]
theorem dec_enc_ghiilrmmll : ∀ (ps : List Pay) (p : (List Int → Option Bool) × (List Int → Option (List Int)) × Int × Int × (List Int) × (List (List Int)) × (List (List Int × Int)) × (List (List Int × Int)) × (List Int) × (List Int)), dec_ghiilrmmll ps = some p → ps = enc_ghiilrmmll p := by
  intro ps p h
  unfold dec_ghiilrmmll at h
  split at h
  · injection h with h
    subst h
    rfl
  · cases h

def dec_ghiilrml (ps : List Pay) : Option ((List Int → Option Bool) × (List Int → Option (List Int)) × Int × Int × (List Int) × (List (List Int)) × (List (List Int × Int)) × (List Int)) := match ps with
  | [.g x1, .h x2, .i x3, .i x4, .l x5, .r x6, .m x7, .l x8] => some (x1, x2, x3, x4, x5, x6, x7, x8)
  | _ => none
def enc_ghiilrml (p : (List Int → Option Bool) × (List Int → Option (List Int)) × Int × Int × (List Int) × (List (List Int)) × (List (List Int × Int)) × (List Int)) : List Pay := [.g p.1, .h p.2.1, .i p.2.2.1, .i p.2.2.2.1, .l p.2.2.2.2.1, .r p.2.2.2.2.2.1, .m p.2.2.2.2.2.2.1, .l p.2.2.2.2.2.2.2]
theorem dec_enc_ghiilrml : ∀ (ps : List Pay) (p : (List Int → Option Bool) × (List Int → Option (List Int)) × Int × Int × (List Int) × (List (List Int)) × (List (List Int × Int)) × (List Int)), dec_ghiilrml ps = some p → ps = enc_ghiilrml p := by
  intro ps p h
  unfold dec_ghiilrml at h
  split at h
  · injection h with h
    subst h
    rfl
  · cases h

def dec_lgh (ps : List Pay) : Option ((List Int) × (List Int → Option Bool) × (List Int → Option (List Int))) := match ps with
  | [.l x1, .g x2, .h x3] => some (x1, x2, x3)
  | _ => none
def enc_lgh (p : (List Int) × (List Int → Option Bool) × (List Int → Option (List Int))) : List Pay := [.l p.1, .g p.2.1, .h p.2.2]
theorem dec_enc_lgh : ∀ (ps : List Pay) (p : (List Int) × (List Int → Option Bool) × (List Int → Option (List Int))), dec_lgh ps = some p → ps = enc_lgh p := by
  intro ps p h
  unfold dec_lgh at h
  split at h
  · injection h with h
    subst h
    rfl
  · cases h

def impl_Lawn_parts_t0 : StTm := ⟨81, [(1, .cloB 43), (2, .cloL 43 43), (3, .ptr 3 0 36), (7, .slw 7 50), (8, .mapk 16 168), (11, .ptr 11 0 168), (12, .slw 12 43), (19, .slw 19 43), (20, .int .i64), (21, .int .i64), (44, .slw 44 43), (45, .int .i64), (46, .int .i64)], [(3, 36, true, .ints), (7, 50, false, .orows 43), (16, 168, false, .mapI), (11, 168, true, .obj [.m 168]), (12, 43, false, .ints), (19, 43, false, .ints), (44, 43, false, .ints)]⟩
def impl_Lawn_parts_t0_1 : StTm := ⟨81, [(1, .cloB 43), (2, .cloL 43 43), (3, .ptr 3 0 36), (7, .slw 7 50), (8, .mapk 16 168), (11, .ptr 11 0 168), (12, .slw 12 43), (19, .slw 19 43), (20, .int .i64), (21, .int .i64)], [(3, 36, true, .ints), (7, 50, false, .orows 43), (16, 168, false, .mapI), (11, 168, true, .obj [.m 168]), (12, 43, false, .ints), (19, 43, false, .ints)]⟩
def impl_Lawn_parts_w0 (k : Nat) (R : Type) (K : Ex → St → Option R) (rec : (List Int → Option Bool) × (List Int → Option (List Int)) × Int × Int × Int × Int × (List Int) × (List (List Int)) × (List (List Int × Int)) × (List (List Int × Int)) × (List Int) × (List Int) × (List Int) → Option R) (p : (List Int → Option Bool) × (List Int → Option (List Int)) × Int × Int × Int × Int × (List Int) × (List (List Int)) × (List (List Int × Int)) × (List (List Int × Int)) × (List Int) × (List Int) × (List Int)) : Option R := impl_Lawn_parts_s0 k (fun y1 y2 y3 y4 y5 y6 y7 y8 y9 y10 => K (.exit 4) (fSt impl_Lawn_parts_t0_1 [.g y1, .h y2, .i y3, .i y4, .l y5, .r y6, .m y7, .m y8, .l y9, .l y10])) (fun h1 h2 h3 h4 h5 h6 h7 h8 h9 h10 h11 h12 h13 => rec (h1, h2, h3, h4, h5, h6, h7, h8, h9, h10, h11, h12, h13)) p.1 p.2.1 p.2.2.1 p.2.2.2.1 p.2.2.2.2.1 p.2.2.2.2.2.1 p.2.2.2.2.2.2.1 p.2.2.2.2.2.2.2.1 p.2.2.2.2.2.2.2.2.1 p.2.2.2.2.2.2.2.2.2.1 p.2.2.2.2.2.2.2.2.2.2.1 p.2.2.2.2.2.2.2.2.2.2.2.1 p.2.2.2.2.2.2.2.2.2.2.2.2
def impl_Lawn_parts_c0 (k : Nat) : Lcall := lcallOf tab impl_Lawn_parts_t0 dec_ghiiiilrmmlll [1, 2, 3, 7, 8, 11, 12, 19, 20, 21, 44, 45, 46] k (impl_Lawn_parts_w0 k)
def impl_Lawn_parts_t1 : StTm := ⟨81, [(1, .cloB 43), (2, .cloL 43 43), (3, .ptr 3 0 36), (7, .slw 7 50), (8, .mapk 16 168), (11, .ptr 11 0 168), (12, .slw 12 43), (19, .slw 19 43), (20, .int .i64), (21, .int .i64)], [(3, 36, true, .ints), (7, 50, false, .orows 43), (16, 168, false, .mapI), (11, 168, true, .obj [.m 168]), (12, 43, false, .ints), (19, 43, false, .ints)]⟩
def impl_Lawn_parts_t1_1 : StTm := ⟨81, [(1, .cloB 43), (2, .cloL 43 43), (3, .ptr 3 0 36), (7, .slw 7 50), (8, .mapk 16 168), (11, .ptr 11 0 168), (19, .slw 19 43), (20, .int .i64), (21, .int .i64)], [(3, 36, true, .ints), (7, 50, false, .orows 43), (16, 168, false, .mapI), (11, 168, true, .obj [.m 168]), (19, 43, false, .ints)]⟩
def impl_Lawn_parts_w1 (k : Nat) (R : Type) (K : Ex → St → Option R) (rec : (List Int → Option Bool) × (List Int → Option (List Int)) × Int × Int × (List Int) × (List (List Int)) × (List (List Int × Int)) × (List (List Int × Int)) × (List Int) × (List Int) → Option R) (p : (List Int → Option Bool) × (List Int → Option (List Int)) × Int × Int × (List Int) × (List (List Int)) × (List (List Int × Int)) × (List (List Int × Int)) × (List Int) × (List Int)) : Option R := impl_Lawn_parts_s1 k (fun y1 y2 y3 y4 y5 y6 y7 y8 y9 => K (.exit 2) (fSt impl_Lawn_parts_t1_1 [.g y1, .h y2, .i y3, .i y4, .l y5, .r y6, .m y7, .m y8, .l y9])) (fun h1 h2 h3 h4 h5 h6 h7 h8 h9 h10 => rec (h1, h2, h3, h4, h5, h6, h7, h8, h9, h10)) p.1 p.2.1 p.2.2.1 p.2.2.2.1 p.2.2.2.2.1 p.2.2.2.2.2.1 p.2.2.2.2.2.2.1 p.2.2.2.2.2.2.2.1 p.2.2.2.2.2.2.2.2.1 p.2.2.2.2.2.2.2.2.2
def impl_Lawn_parts_c1 (k : Nat) : Lcall := lcallOf tab impl_Lawn_parts_t1 dec_ghiilrmmll [1, 2, 3, 7, 8, 11, 12, 19, 20, 21] k (impl_Lawn_parts_w1 k)
def impl_Lawn_parts_t2 : StTm := ⟨81, [(1, .cloB 43), (2, .cloL 43 43), (3, .ptr 3 0 36), (7, .slw 7 50), (8, .mapk 16 168), (19, .slw 19 43), (20, .int .i64), (21, .int .i64)], [(3, 36, true, .ints), (7, 50, false, .orows 43), (16, 168, false, .mapI), (19, 43, false, .ints)]⟩
def impl_Lawn_parts_t2_1 : StTm := ⟨81, [(7, .slw 7 50)], [(7, 50, false, .orows 43)]⟩
def impl_Lawn_parts_w2 (k : Nat) (R : Type) (K : Ex → St → Option R) (rec : (List Int → Option Bool) × (List Int → Option (List Int)) × Int × Int × (List Int) × (List (List Int)) × (List (List Int × Int)) × (List Int) → Option R) (p : (List Int → Option Bool) × (List Int → Option (List Int)) × Int × Int × (List Int) × (List (List Int)) × (List (List Int × Int)) × (List Int)) : Option R := impl_Lawn_parts_s2 k (fun y1 => K (.exit 0) (fSt impl_Lawn_parts_t2_1 [.r y1])) (fun h1 h2 h3 h4 h5 h6 h7 h8 => rec (h1, h2, h3, h4, h5, h6, h7, h8)) p.1 p.2.1 p.2.2.1 p.2.2.2.1 p.2.2.2.2.1 p.2.2.2.2.2.1 p.2.2.2.2.2.2.1 p.2.2.2.2.2.2.2
def impl_Lawn_parts_c2 (k : Nat) : Lcall := lcallOf tab impl_Lawn_parts_t2 dec_ghiilrml [1, 2, 3, 7, 8, 19, 20, 21] k (impl_Lawn_parts_w2 k)
def impl_Lawn_parts_C (k : Nat) : Cfg := ⟨tab, mvs, oraOf [impl_Lawn_those_e k, impl_Lawn_has_e k, impl_Lawn_parts_1_e k], loOf [(4, impl_Lawn_parts_c0 k), (2, impl_Lawn_parts_c1 k), (0, impl_Lawn_parts_c2 k)]⟩
theorem impl_Lawn_parts_es (k : Nat) : ∀ e ∈ ([impl_Lawn_those_e k, impl_Lawn_has_e k, impl_Lawn_parts_1_e k] : List Ent), EntOK Try.prog tab mvs e := by
  intro e he
  simp only [List.mem_cons, List.not_mem_nil, or_false] at he
  rcases he with rfl | rfl | rfl
  · exact impl_Lawn_those_ok k
  · exact impl_Lawn_has_ok k
  · exact impl_Lawn_parts_1_ok k
theorem impl_Lawn_parts_step0 (k : Nat) (R : Type) (K : Ex → St → Option R) (g : St → Option R) (p : (List Int → Option Bool) × (List Int → Option (List Int)) × Int × Int × Int × Int × (List Int) × (List (List Int)) × (List (List Int × Int)) × (List (List Int × Int)) × (List Int) × (List Int) × (List Int)) : evCode (impl_Lawn_parts_C k) (loopP [0, 0, 0] (0, codeOf Try.f70)).2 (loopP [0, 0, 0] (0, codeOf Try.f70)).1 (fSt impl_Lawn_parts_t0 (enc_ghiiiilrmmlll p)) (loopK tab [1, 2, 3, 7, 8, 11, 12, 19, 20, 21, 44, 45, 46] [1, 2, 3, 7, 8, 11, 12, 19, 20, 21] [6] g K) = impl_Lawn_parts_w0 k R K (fun p => g (fSt impl_Lawn_parts_t0 (enc_ghiiiilrmmlll p))) p := by
  kernel_rfl
theorem impl_Lawn_parts_lok0 (k : Nat) : LoopOK Try.prog tab (impl_Lawn_parts_C k).lo (loopP [0, 0, 0] (0, codeOf Try.f70)).1 (loopP [0, 0, 0] (0, codeOf Try.f70)).2 :=
  loopOK_of (C := impl_Lawn_parts_C k) tabOK eqTabOK (oraOf_ok (impl_Lawn_parts_es k)) (oraOf_nat (impl_Lawn_parts_es k)) follows (forall_getD _ 0 (0, Code.skip) (by kernel_rfl) fun i hi => by
      omega)
    (tm := impl_Lawn_parts_t0) (dec := dec_ghiiiilrmmlll) (enc := enc_ghiiiilrmmlll) (ksIn := [1, 2, 3, 7, 8, 11, 12, 19, 20, 21, 44, 45, 46]) (ksOut := [1, 2, 3, 7, 8, 11, 12, 19, 20, 21]) (ksRet := [6]) (k := k) (step := impl_Lawn_parts_w0 k) dec_enc_ghiiiilrmmlll (fun p => by kernel_rfl) (fun s R K => by kernel_rfl) (impl_Lawn_parts_step0 k)
theorem impl_Lawn_parts_step1 (k : Nat) (R : Type) (K : Ex → St → Option R) (g : St → Option R) (p : (List Int → Option Bool) × (List Int → Option (List Int)) × Int × Int × (List Int) × (List (List Int)) × (List (List Int × Int)) × (List (List Int × Int)) × (List Int) × (List Int)) : evCode (impl_Lawn_parts_C k) (loopP [0, 0] (0, codeOf Try.f70)).2 (loopP [0, 0] (0, codeOf Try.f70)).1 (fSt impl_Lawn_parts_t1 (enc_ghiilrmmll p)) (loopK tab [1, 2, 3, 7, 8, 11, 12, 19, 20, 21] [1, 2, 3, 7, 8, 11, 19, 20, 21] [6] g K) = impl_Lawn_parts_w1 k R K (fun p => g (fSt impl_Lawn_parts_t1 (enc_ghiilrmmll p))) p := by
  kernel_rfl
theorem impl_Lawn_parts_lok1 (k : Nat) : LoopOK Try.prog tab (impl_Lawn_parts_C k).lo (loopP [0, 0] (0, codeOf Try.f70)).1 (loopP [0, 0] (0, codeOf Try.f70)).2 :=
  loopOK_of (C := impl_Lawn_parts_C k) tabOK eqTabOK (oraOf_ok (impl_Lawn_parts_es k)) (oraOf_nat (impl_Lawn_parts_es k)) follows (forall_getD _ 1 (0, Code.skip) (by kernel_rfl) fun i hi => by
      match i, hi with
      | 0, _ => exact impl_Lawn_parts_lok0 k
      | n + 1, h => omega)
    (tm := impl_Lawn_parts_t1) (dec := dec_ghiilrmmll) (enc := enc_ghiilrmmll) (ksIn := [1, 2, 3, 7, 8, 11, 12, 19, 20, 21]) (ksOut := [1, 2, 3, 7, 8, 11, 19, 20, 21]) (ksRet := [6]) (k := k) (step := impl_Lawn_parts_w1 k) dec_enc_ghiilrmmll (fun p => by kernel_rfl) (fun s R K => by kernel_rfl) (impl_Lawn_parts_step1 k)
theorem impl_Lawn_parts_step2 (k : Nat) (R : Type) (K : Ex → St → Option R) (g : St → Option R) (p : (List Int → Option Bool) × (List Int → Option (List Int)) × Int × Int × (List Int) × (List (List Int)) × (List (List Int × Int)) × (List Int)) : evCode (impl_Lawn_parts_C k) (loopP [0] (0, codeOf Try.f70)).2 (loopP [0] (0, codeOf Try.f70)).1 (fSt impl_Lawn_parts_t2 (enc_ghiilrml p)) (loopK tab [1, 2, 3, 7, 8, 19, 20, 21] [7] [6] g K) = impl_Lawn_parts_w2 k R K (fun p => g (fSt impl_Lawn_parts_t2 (enc_ghiilrml p))) p := by
  kernel_rfl
theorem impl_Lawn_parts_lok2 (k : Nat) : LoopOK Try.prog tab (impl_Lawn_parts_C k).lo (loopP [0] (0, codeOf Try.f70)).1 (loopP [0] (0, codeOf Try.f70)).2 :=
  loopOK_of (C := impl_Lawn_parts_C k) tabOK eqTabOK (oraOf_ok (impl_Lawn_parts_es k)) (oraOf_nat (impl_Lawn_parts_es k)) follows (forall_getD _ 1 (0, Code.skip) (by kernel_rfl) fun i hi => by
      match i, hi with
      | 0, _ => exact impl_Lawn_parts_lok1 k
      | n + 1, h => omega)
    (tm := impl_Lawn_parts_t2) (dec := dec_ghiilrml) (enc := enc_ghiilrml) (ksIn := [1, 2, 3, 7, 8, 19, 20, 21]) (ksOut := [7]) (ksRet := [6]) (k := k) (step := impl_Lawn_parts_w2 k) dec_enc_ghiilrml (fun p => by kernel_rfl) (fun s R K => by kernel_rfl) (impl_Lawn_parts_step2 k)
def impl_Lawn_parts_e (k : Nat) : Ent := (70, callOf [.agg 36, .cloB 43, .cloL 43 43] dec_lgh fun (p : (List Int) × (List Int → Option Bool) × (List Int → Option (List Int))) R K => (impl_Lawn_parts k p.1 p.2.1 p.2.2).bind fun (b : (List (List Int))) => K ((fV (.ownR 50 43) (enc_r b)).1, none))
theorem impl_Lawn_parts_run (k : Nat) (p : (List Int) × (List Int → Option Bool) × (List Int → Option (List Int))) : runF (impl_Lawn_parts_C k) Try.f70 false (fL [.agg 36, .cloB 43, .cloL 43 43] (enc_lgh p)).1 (resK (.ownR 50 43) dec_r) = impl_Lawn_parts k p.1 p.2.1 p.2.2 := by
  kernel_rfl
theorem impl_Lawn_parts_ok (k : Nat) : EntOK Try.prog tab mvs (impl_Lawn_parts_e k) :=
  fn_ok (C := impl_Lawn_parts_C k) tabOK eqTabOK (impl_Lawn_parts_es k) rfl follows Try.func70 (by kernel_rfl) (by kernel_rfl) rfl (forall_getD _ 1 (0, Code.skip) (by kernel_rfl) fun i hi => by
      match i, hi with
      | 0, _ => exact impl_Lawn_parts_lok2 k
      | n + 1, h => omega)
    dec_enc_lgh dec_enc_r (impl_Lawn_parts_run k)

def impl_PiecesOf_C (k : Nat) : Cfg := ⟨tab, mvs, oraOf [impl_cellsCode_e k, impl_Lawn_grass_e k, impl_beside_e k, impl_Lawn_parts_e k], loOf []⟩
theorem impl_PiecesOf_es (k : Nat) : ∀ e ∈ ([impl_cellsCode_e k, impl_Lawn_grass_e k, impl_beside_e k, impl_Lawn_parts_e k] : List Ent), EntOK Try.prog tab mvs e := by
  intro e he
  simp only [List.mem_cons, List.not_mem_nil, or_false] at he
  rcases he with rfl | rfl | rfl | rfl
  · exact impl_cellsCode_ok k
  · exact impl_Lawn_grass_ok k
  · exact impl_beside_ok k
  · exact impl_Lawn_parts_ok k
def impl_PiecesOf_e (k : Nat) : Ent := (39, callOf [.agg 36] dec_l fun (p : (List Int)) R K => (impl_PiecesOf k p).bind fun (b : (List (List Int)) × Int) => K ((fV (.tup [.ownR 50 43, .int .i64]) (enc_ri b)).1, none))
theorem impl_PiecesOf_run (k : Nat) (p : (List Int)) : runF (impl_PiecesOf_C k) Try.f39 false (fL [.agg 36] (enc_l p)).1 (resK (.tup [.ownR 50 43, .int .i64]) dec_ri) = impl_PiecesOf k p := by
  kernel_rfl
theorem impl_PiecesOf_ok (k : Nat) : EntOK Try.prog tab mvs (impl_PiecesOf_e k) :=
  fn_ok (C := impl_PiecesOf_C k) tabOK eqTabOK (impl_PiecesOf_es k) rfl follows Try.func39 (by kernel_rfl) (by kernel_rfl) rfl (forall_getD _ 0 (0, Code.skip) (by kernel_rfl) fun i hi => by
      omega)
    dec_enc_l dec_enc_ri (impl_PiecesOf_run k)

def laws_eqCell_C (k : Nat) : Cfg := ⟨tab, mvs, oraOf [], loOf []⟩
theorem laws_eqCell_es (k : Nat) : ∀ e ∈ ([] : List Ent), EntOK Try.prog tab mvs e := by
  intro e he
  simp at he
def laws_eqCell_e (k : Nat) : Ent := (124, callOf [.agg 43, .agg 43] dec_ll fun (p : (List Int) × (List Int)) R K => (laws_eqCell k p.1 p.2).bind fun (b : Bool) => K ((fV (.bool) (enc_b b)).1, none))
theorem laws_eqCell_run (k : Nat) (p : (List Int) × (List Int)) : runF (laws_eqCell_C k) Try.f124 false (fL [.agg 43, .agg 43] (enc_ll p)).1 (resK (.bool) dec_b) = laws_eqCell k p.1 p.2 := by
  kernel_rfl
theorem laws_eqCell_ok (k : Nat) : EntOK Try.prog tab mvs (laws_eqCell_e k) :=
  fn_ok (C := laws_eqCell_C k) tabOK eqTabOK (laws_eqCell_es k) rfl follows Try.func124 (by kernel_rfl) (by kernel_rfl) rfl (forall_getD _ 0 (0, Code.skip) (by kernel_rfl) fun i hi => by
      omega)
    dec_enc_ll dec_enc_b (laws_eqCell_run k)

def laws_eqCellS_t0 : StTm := ⟨27, [(0, .slv 43), (1, .slv 43), (5, .int .i64)], []⟩
def laws_eqCellS_t0_1 : StTm := ⟨27, [(4, .bool)], []⟩
def laws_eqCellS_t0_2 : StTm := ⟨27, [], []⟩
def laws_eqCellS_w0 (k : Nat) (R : Type) (K : Ex → St → Option R) (rec : (List Int) × (List Int) × Int → Option R) (p : (List Int) × (List Int) × Int) : Option R := laws_eqCellS_s0 k (fun y1 => K .ret (fSt laws_eqCellS_t0_1 [.b y1])) (K (.exit 0) (fSt laws_eqCellS_t0_2 [])) (fun h1 h2 h3 => rec (h1, h2, h3)) p.1 p.2.1 p.2.2
def laws_eqCellS_c0 (k : Nat) : Lcall := lcallOf tab laws_eqCellS_t0 dec_lli [0, 1, 5] k (laws_eqCellS_w0 k)
def laws_eqCellS_C (k : Nat) : Cfg := ⟨tab, mvs, oraOf [laws_eqCell_e k], loOf [(0, laws_eqCellS_c0 k)]⟩
theorem laws_eqCellS_es (k : Nat) : ∀ e ∈ ([laws_eqCell_e k] : List Ent), EntOK Try.prog tab mvs e := by
  intro e he
  simp only [List.mem_cons, List.not_mem_nil, or_false] at he
  rcases he with rfl
  · exact laws_eqCell_ok k
theorem laws_eqCellS_step0 (k : Nat) (R : Type) (K : Ex → St → Option R) (g : St → Option R) (p : (List Int) × (List Int) × Int) : evCode (laws_eqCellS_C k) (loopP [0] (0, codeOf Try.f82)).2 (loopP [0] (0, codeOf Try.f82)).1 (fSt laws_eqCellS_t0 (enc_lli p)) (loopK tab [0, 1, 5] [] [4] g K) = laws_eqCellS_w0 k R K (fun p => g (fSt laws_eqCellS_t0 (enc_lli p))) p := by
  kernel_rfl
theorem laws_eqCellS_lok0 (k : Nat) : LoopOK Try.prog tab (laws_eqCellS_C k).lo (loopP [0] (0, codeOf Try.f82)).1 (loopP [0] (0, codeOf Try.f82)).2 :=
  loopOK_of (C := laws_eqCellS_C k) tabOK eqTabOK (oraOf_ok (laws_eqCellS_es k)) (oraOf_nat (laws_eqCellS_es k)) follows (forall_getD _ 0 (0, Code.skip) (by kernel_rfl) fun i hi => by
      omega)
    (tm := laws_eqCellS_t0) (dec := dec_lli) (enc := enc_lli) (ksIn := [0, 1, 5]) (ksOut := []) (ksRet := [4]) (k := k) (step := laws_eqCellS_w0 k) dec_enc_lli (fun p => by kernel_rfl) (fun s R K => by kernel_rfl) (laws_eqCellS_step0 k)
def laws_eqCellS_e (k : Nat) : Ent := (82, callOf [.slv 43, .slv 43] dec_ll fun (p : (List Int) × (List Int)) R K => (laws_eqCellS k p.1 p.2).bind fun (b : Bool) => K ((fV (.bool) (enc_b b)).1, none))
theorem laws_eqCellS_run (k : Nat) (p : (List Int) × (List Int)) : runF (laws_eqCellS_C k) Try.f82 false (fL [.slv 43, .slv 43] (enc_ll p)).1 (resK (.bool) dec_b) = laws_eqCellS k p.1 p.2 := by
  kernel_rfl
theorem laws_eqCellS_ok (k : Nat) : EntOK Try.prog tab mvs (laws_eqCellS_e k) :=
  fn_ok (C := laws_eqCellS_C k) tabOK eqTabOK (laws_eqCellS_es k) rfl follows Try.func82 (by kernel_rfl) (by kernel_rfl) rfl (forall_getD _ 1 (0, Code.skip) (by kernel_rfl) fun i hi => by
      match i, hi with
      | 0, _ => exact laws_eqCellS_lok0 k
      | n + 1, h => omega)
    dec_enc_ll dec_enc_b (laws_eqCellS_run k)

def dec_rri (ps : List Pay) : Option ((List (List Int)) × (List (List Int)) × Int) := match ps with
  | [.r x1, .r x2, .i x3] => some (x1, x2, x3)
  | _ => none
def enc_rri (p : (List (List Int)) × (List (List Int)) × Int) : List Pay := [.r p.1, .r p.2.1, .i p.2.2]
theorem dec_enc_rri : ∀ (ps : List Pay) (p : (List (List Int)) × (List (List Int)) × Int), dec_rri ps = some p → ps = enc_rri p := by
  intro ps p h
  unfold dec_rri at h
  split at h
  · injection h with h
    subst h
    rfl
  · cases h

def dec_rr (ps : List Pay) : Option ((List (List Int)) × (List (List Int))) := match ps with
  | [.r x1, .r x2] => some (x1, x2)
  | _ => none
def enc_rr (p : (List (List Int)) × (List (List Int))) : List Pay := [.r p.1, .r p.2]
theorem dec_enc_rr : ∀ (ps : List Pay) (p : (List (List Int)) × (List (List Int))), dec_rr ps = some p → ps = enc_rr p := by
  intro ps p h
  unfold dec_rr at h
  split at h
  · injection h with h
    subst h
    rfl
  · cases h

def laws_eqCellSS_t0 : StTm := ⟨27, [(0, .slr 50), (1, .slr 50), (5, .int .i64)], []⟩
def laws_eqCellSS_t0_1 : StTm := ⟨27, [(4, .bool)], []⟩
def laws_eqCellSS_t0_2 : StTm := ⟨27, [], []⟩
def laws_eqCellSS_w0 (k : Nat) (R : Type) (K : Ex → St → Option R) (rec : (List (List Int)) × (List (List Int)) × Int → Option R) (p : (List (List Int)) × (List (List Int)) × Int) : Option R := laws_eqCellSS_s0 k (fun y1 => K .ret (fSt laws_eqCellSS_t0_1 [.b y1])) (K (.exit 0) (fSt laws_eqCellSS_t0_2 [])) (fun h1 h2 h3 => rec (h1, h2, h3)) p.1 p.2.1 p.2.2
def laws_eqCellSS_c0 (k : Nat) : Lcall := lcallOf tab laws_eqCellSS_t0 dec_rri [0, 1, 5] k (laws_eqCellSS_w0 k)
def laws_eqCellSS_C (k : Nat) : Cfg := ⟨tab, mvs, oraOf [laws_eqCellS_e k], loOf [(0, laws_eqCellSS_c0 k)]⟩
theorem laws_eqCellSS_es (k : Nat) : ∀ e ∈ ([laws_eqCellS_e k] : List Ent), EntOK Try.prog tab mvs e := by
  intro e he
  simp only [List.mem_cons, List.not_mem_nil, or_false] at he
  rcases he with rfl
  · exact laws_eqCellS_ok k
theorem laws_eqCellSS_step0 (k : Nat) (R : Type) (K : Ex → St → Option R) (g : St → Option R) (p : (List (List Int)) × (List (List Int)) × Int) : evCode (laws_eqCellSS_C k) (loopP [0] (0, codeOf Try.f34)).2 (loopP [0] (0, codeOf Try.f34)).1 (fSt laws_eqCellSS_t0 (enc_rri p)) (loopK tab [0, 1, 5] [] [4] g K) = laws_eqCellSS_w0 k R K (fun p => g (fSt laws_eqCellSS_t0 (enc_rri p))) p := by
  kernel_rfl
theorem laws_eqCellSS_lok0 (k : Nat) : LoopOK Try.prog tab (laws_eqCellSS_C k).lo (loopP [0] (0, codeOf Try.f34)).1 (loopP [0] (0, codeOf Try.f34)).2 :=
  loopOK_of (C := laws_eqCellSS_C k) tabOK eqTabOK (oraOf_ok (laws_eqCellSS_es k)) (oraOf_nat (laws_eqCellSS_es k)) follows (forall_getD _ 0 (0, Code.skip) (by kernel_rfl) fun i hi => by
      omega)
    (tm := laws_eqCellSS_t0) (dec := dec_rri) (enc := enc_rri) (ksIn := [0, 1, 5]) (ksOut := []) (ksRet := [4]) (k := k) (step := laws_eqCellSS_w0 k) dec_enc_rri (fun p => by kernel_rfl) (fun s R K => by kernel_rfl) (laws_eqCellSS_step0 k)
def laws_eqCellSS_e (k : Nat) : Ent := (34, callOf [.slr 50, .slr 50] dec_rr fun (p : (List (List Int)) × (List (List Int))) R K => (laws_eqCellSS k p.1 p.2).bind fun (b : Bool) => K ((fV (.bool) (enc_b b)).1, none))
theorem laws_eqCellSS_run (k : Nat) (p : (List (List Int)) × (List (List Int))) : runF (laws_eqCellSS_C k) Try.f34 false (fL [.slr 50, .slr 50] (enc_rr p)).1 (resK (.bool) dec_b) = laws_eqCellSS k p.1 p.2 := by
  kernel_rfl
theorem laws_eqCellSS_ok (k : Nat) : EntOK Try.prog tab mvs (laws_eqCellSS_e k) :=
  fn_ok (C := laws_eqCellSS_C k) tabOK eqTabOK (laws_eqCellSS_es k) rfl follows Try.func34 (by kernel_rfl) (by kernel_rfl) rfl (forall_getD _ 1 (0, Code.skip) (by kernel_rfl) fun i hi => by
      match i, hi with
      | 0, _ => exact laws_eqCellSS_lok0 k
      | n + 1, h => omega)
    dec_enc_rr dec_enc_b (laws_eqCellSS_run k)

def dec_iil (ps : List Pay) : Option (Int × Int × (List Int)) := match ps with
  | [.i x1, .i x2, .l x3] => some (x1, x2, x3)
  | _ => none
def enc_iil (p : Int × Int × (List Int)) : List Pay := [.i p.1, .i p.2.1, .l p.2.2]
theorem dec_enc_iil : ∀ (ps : List Pay) (p : Int × Int × (List Int)), dec_iil ps = some p → ps = enc_iil p := by
  intro ps p h
  unfold dec_iil at h
  split at h
  · injection h with h
    subst h
    rfl
  · cases h

def laws_markCellS_t0 : StTm := ⟨29, [(0, .slw 29 43), (1, .int .i64), (5, .int .i64)], [(29, 43, false, .ints)]⟩
def laws_markCellS_t0_1 : StTm := ⟨29, [(1, .int .i64)], [(29, 43, false, .ints)]⟩
def laws_markCellS_w0 (k : Nat) (R : Type) (K : Ex → St → Option R) (rec : Int × Int × (List Int) → Option R) (p : Int × Int × (List Int)) : Option R := laws_markCellS_s0 k (fun y1 y2 => K (.exit 0) (fSt laws_markCellS_t0_1 [.i y1, .l y2])) (fun h1 h2 h3 => rec (h1, h2, h3)) p.1 p.2.1 p.2.2
def laws_markCellS_c0 (k : Nat) : Lcall := lcallOf tab laws_markCellS_t0 dec_iil [0, 1, 5] k (laws_markCellS_w0 k)
def laws_markCellS_C (k : Nat) : Cfg := ⟨tab, mvs, oraOf [], loOf [(0, laws_markCellS_c0 k)]⟩
theorem laws_markCellS_es (k : Nat) : ∀ e ∈ ([] : List Ent), EntOK Try.prog tab mvs e := by
  intro e he
  simp at he
theorem laws_markCellS_step0 (k : Nat) (R : Type) (K : Ex → St → Option R) (g : St → Option R) (p : Int × Int × (List Int)) : evCode (laws_markCellS_C k) (loopP [0] (0, codeOf Try.f91)).2 (loopP [0] (0, codeOf Try.f91)).1 (fSt laws_markCellS_t0 (enc_iil p)) (loopK tab [0, 1, 5] [1] [4] g K) = laws_markCellS_w0 k R K (fun p => g (fSt laws_markCellS_t0 (enc_iil p))) p := by
  kernel_rfl
theorem laws_markCellS_lok0 (k : Nat) : LoopOK Try.prog tab (laws_markCellS_C k).lo (loopP [0] (0, codeOf Try.f91)).1 (loopP [0] (0, codeOf Try.f91)).2 :=
  loopOK_of (C := laws_markCellS_C k) tabOK eqTabOK (oraOf_ok (laws_markCellS_es k)) (oraOf_nat (laws_markCellS_es k)) follows (forall_getD _ 0 (0, Code.skip) (by kernel_rfl) fun i hi => by
      omega)
    (tm := laws_markCellS_t0) (dec := dec_iil) (enc := enc_iil) (ksIn := [0, 1, 5]) (ksOut := [1]) (ksRet := [4]) (k := k) (step := laws_markCellS_w0 k) dec_enc_iil (fun p => by kernel_rfl) (fun s R K => by kernel_rfl) (laws_markCellS_step0 k)
def laws_markCellS_e (k : Nat) : Ent := (91, callOf [.slv 43, .int .i64] dec_li fun (p : (List Int) × Int) R K => (laws_markCellS k p.1 p.2).bind fun (b : (Int) × ((List Int))) => K ((fV (.int .i64) (enc_i b.1)).1, some (fDs [.ints] (enc_l b.2))))
theorem laws_markCellS_run (k : Nat) (p : (List Int) × Int) : runF (laws_markCellS_C k) Try.f91 true (fL [.slv 43, .int .i64] (enc_li p)).1 (resB (.int .i64) dec_i [.ints] dec_l) = laws_markCellS k p.1 p.2 := by
  kernel_rfl
theorem laws_markCellS_ok (k : Nat) : EntOK Try.prog tab mvs (laws_markCellS_e k) :=
  fnb_ok (C := laws_markCellS_C k) tabOK eqTabOK (laws_markCellS_es k) rfl follows Try.func91 (by kernel_rfl) (by kernel_rfl) rfl (forall_getD _ 1 (0, Code.skip) (by kernel_rfl) fun i hi => by
      match i, hi with
      | 0, _ => exact laws_markCellS_lok0 k
      | n + 1, h => omega)
    dec_enc_li dec_enc_i dec_enc_l (laws_markCellS_run k)

def dec_iir (ps : List Pay) : Option (Int × Int × (List (List Int))) := match ps with
  | [.i x1, .i x2, .r x3] => some (x1, x2, x3)
  | _ => none
def enc_iir (p : Int × Int × (List (List Int))) : List Pay := [.i p.1, .i p.2.1, .r p.2.2]
theorem dec_enc_iir : ∀ (ps : List Pay) (p : Int × Int × (List (List Int))), dec_iir ps = some p → ps = enc_iir p := by
  intro ps p h
  unfold dec_iir at h
  split at h
  · injection h with h
    subst h
    rfl
  · cases h

def laws_markCellSS_t0 : StTm := ⟨19, [(0, .slw 19 50), (1, .int .i64), (5, .int .i64)], [(19, 50, false, .orows 43)]⟩
def laws_markCellSS_t0_1 : StTm := ⟨19, [(1, .int .i64)], [(19, 50, false, .orows 43)]⟩
def laws_markCellSS_w0 (k : Nat) (R : Type) (K : Ex → St → Option R) (rec : Int × Int × (List (List Int)) → Option R) (p : Int × Int × (List (List Int))) : Option R := laws_markCellSS_s0 k (fun y1 y2 => K (.exit 0) (fSt laws_markCellSS_t0_1 [.i y1, .r y2])) (fun h1 h2 h3 => rec (h1, h2, h3)) p.1 p.2.1 p.2.2
def laws_markCellSS_c0 (k : Nat) : Lcall := lcallOf tab laws_markCellSS_t0 dec_iir [0, 1, 5] k (laws_markCellSS_w0 k)
def laws_markCellSS_C (k : Nat) : Cfg := ⟨tab, mvs, oraOf [laws_markCellS_e k], loOf [(0, laws_markCellSS_c0 k)]⟩
theorem laws_markCellSS_es (k : Nat) : ∀ e ∈ ([laws_markCellS_e k] : List Ent), EntOK Try.prog tab mvs e := by
  intro e he
  simp only [List.mem_cons, List.not_mem_nil, or_false] at he
  rcases he with rfl
  · exact laws_markCellS_ok k
theorem laws_markCellSS_step0 (k : Nat) (R : Type) (K : Ex → St → Option R) (g : St → Option R) (p : Int × Int × (List (List Int))) : evCode (laws_markCellSS_C k) (loopP [0] (0, codeOf Try.f40)).2 (loopP [0] (0, codeOf Try.f40)).1 (fSt laws_markCellSS_t0 (enc_iir p)) (loopK tab [0, 1, 5] [1] [4] g K) = laws_markCellSS_w0 k R K (fun p => g (fSt laws_markCellSS_t0 (enc_iir p))) p := by
  kernel_rfl
theorem laws_markCellSS_lok0 (k : Nat) : LoopOK Try.prog tab (laws_markCellSS_C k).lo (loopP [0] (0, codeOf Try.f40)).1 (loopP [0] (0, codeOf Try.f40)).2 :=
  loopOK_of (C := laws_markCellSS_C k) tabOK eqTabOK (oraOf_ok (laws_markCellSS_es k)) (oraOf_nat (laws_markCellSS_es k)) follows (forall_getD _ 0 (0, Code.skip) (by kernel_rfl) fun i hi => by
      omega)
    (tm := laws_markCellSS_t0) (dec := dec_iir) (enc := enc_iir) (ksIn := [0, 1, 5]) (ksOut := [1]) (ksRet := [4]) (k := k) (step := laws_markCellSS_w0 k) dec_enc_iir (fun p => by kernel_rfl) (fun s R K => by kernel_rfl) (laws_markCellSS_step0 k)
def laws_markCellSS_e (k : Nat) : Ent := (40, callOf [.ownR 50 43, .int .i64] dec_ri fun (p : (List (List Int)) × Int) R K => (laws_markCellSS k p.1 p.2).bind fun (b : (Int) × ((List (List Int)))) => K ((fV (.int .i64) (enc_i b.1)).1, some (fDs [.orows 43] (enc_r b.2))))
theorem laws_markCellSS_run (k : Nat) (p : (List (List Int)) × Int) : runF (laws_markCellSS_C k) Try.f40 true (fL [.ownR 50 43, .int .i64] (enc_ri p)).1 (resB (.int .i64) dec_i [.orows 43] dec_r) = laws_markCellSS k p.1 p.2 := by
  kernel_rfl
theorem laws_markCellSS_ok (k : Nat) : EntOK Try.prog tab mvs (laws_markCellSS_e k) :=
  fnb_ok (C := laws_markCellSS_C k) tabOK eqTabOK (laws_markCellSS_es k) rfl follows Try.func40 (by kernel_rfl) (by kernel_rfl) rfl (forall_getD _ 1 (0, Code.skip) (by kernel_rfl) fun i hi => by
      match i, hi with
      | 0, _ => exact laws_markCellSS_lok0 k
      | n + 1, h => omega)
    dec_enc_ri dec_enc_i dec_enc_r (laws_markCellSS_run k)

def laws_heldCellS_t0 : StTm := ⟨33, [(0, .slv 43), (1, .int .i64), (5, .int .i64)], []⟩
def laws_heldCellS_t0_1 : StTm := ⟨33, [(4, .int .i64)], []⟩
def laws_heldCellS_t0_2 : StTm := ⟨33, [(1, .int .i64)], []⟩
def laws_heldCellS_w0 (k : Nat) (R : Type) (K : Ex → St → Option R) (rec : (List Int) × Int × Int → Option R) (p : (List Int) × Int × Int) : Option R := laws_heldCellS_s0 k (fun y1 => K .ret (fSt laws_heldCellS_t0_1 [.i y1])) (fun y1 => K (.exit 0) (fSt laws_heldCellS_t0_2 [.i y1])) (fun h1 h2 h3 => rec (h1, h2, h3)) p.1 p.2.1 p.2.2
def laws_heldCellS_c0 (k : Nat) : Lcall := lcallOf tab laws_heldCellS_t0 dec_lii [0, 1, 5] k (laws_heldCellS_w0 k)
def laws_heldCellS_C (k : Nat) : Cfg := ⟨tab, mvs, oraOf [], loOf [(0, laws_heldCellS_c0 k)]⟩
theorem laws_heldCellS_es (k : Nat) : ∀ e ∈ ([] : List Ent), EntOK Try.prog tab mvs e := by
  intro e he
  simp at he
theorem laws_heldCellS_step0 (k : Nat) (R : Type) (K : Ex → St → Option R) (g : St → Option R) (p : (List Int) × Int × Int) : evCode (laws_heldCellS_C k) (loopP [0] (0, codeOf Try.f92)).2 (loopP [0] (0, codeOf Try.f92)).1 (fSt laws_heldCellS_t0 (enc_lii p)) (loopK tab [0, 1, 5] [1] [4] g K) = laws_heldCellS_w0 k R K (fun p => g (fSt laws_heldCellS_t0 (enc_lii p))) p := by
  kernel_rfl
theorem laws_heldCellS_lok0 (k : Nat) : LoopOK Try.prog tab (laws_heldCellS_C k).lo (loopP [0] (0, codeOf Try.f92)).1 (loopP [0] (0, codeOf Try.f92)).2 :=
  loopOK_of (C := laws_heldCellS_C k) tabOK eqTabOK (oraOf_ok (laws_heldCellS_es k)) (oraOf_nat (laws_heldCellS_es k)) follows (forall_getD _ 0 (0, Code.skip) (by kernel_rfl) fun i hi => by
      omega)
    (tm := laws_heldCellS_t0) (dec := dec_lii) (enc := enc_lii) (ksIn := [0, 1, 5]) (ksOut := [1]) (ksRet := [4]) (k := k) (step := laws_heldCellS_w0 k) dec_enc_lii (fun p => by kernel_rfl) (fun s R K => by kernel_rfl) (laws_heldCellS_step0 k)
def laws_heldCellS_e (k : Nat) : Ent := (92, callOf [.slv 43, .int .i64] dec_li fun (p : (List Int) × Int) R K => (laws_heldCellS k p.1 p.2).bind fun (b : Int) => K ((fV (.int .i64) (enc_i b)).1, none))
theorem laws_heldCellS_run (k : Nat) (p : (List Int) × Int) : runF (laws_heldCellS_C k) Try.f92 false (fL [.slv 43, .int .i64] (enc_li p)).1 (resK (.int .i64) dec_i) = laws_heldCellS k p.1 p.2 := by
  kernel_rfl
theorem laws_heldCellS_ok (k : Nat) : EntOK Try.prog tab mvs (laws_heldCellS_e k) :=
  fn_ok (C := laws_heldCellS_C k) tabOK eqTabOK (laws_heldCellS_es k) rfl follows Try.func92 (by kernel_rfl) (by kernel_rfl) rfl (forall_getD _ 1 (0, Code.skip) (by kernel_rfl) fun i hi => by
      match i, hi with
      | 0, _ => exact laws_heldCellS_lok0 k
      | n + 1, h => omega)
    dec_enc_li dec_enc_i (laws_heldCellS_run k)

def dec_rii (ps : List Pay) : Option ((List (List Int)) × Int × Int) := match ps with
  | [.r x1, .i x2, .i x3] => some (x1, x2, x3)
  | _ => none
def enc_rii (p : (List (List Int)) × Int × Int) : List Pay := [.r p.1, .i p.2.1, .i p.2.2]
theorem dec_enc_rii : ∀ (ps : List Pay) (p : (List (List Int)) × Int × Int), dec_rii ps = some p → ps = enc_rii p := by
  intro ps p h
  unfold dec_rii at h
  split at h
  · injection h with h
    subst h
    rfl
  · cases h

def laws_heldCellSS_t0 : StTm := ⟨21, [(0, .slr 50), (1, .int .i64), (5, .int .i64)], []⟩
def laws_heldCellSS_t0_1 : StTm := ⟨21, [(4, .int .i64)], []⟩
def laws_heldCellSS_t0_2 : StTm := ⟨21, [(1, .int .i64)], []⟩
def laws_heldCellSS_w0 (k : Nat) (R : Type) (K : Ex → St → Option R) (rec : (List (List Int)) × Int × Int → Option R) (p : (List (List Int)) × Int × Int) : Option R := laws_heldCellSS_s0 k (fun y1 => K .ret (fSt laws_heldCellSS_t0_1 [.i y1])) (fun y1 => K (.exit 0) (fSt laws_heldCellSS_t0_2 [.i y1])) (fun h1 h2 h3 => rec (h1, h2, h3)) p.1 p.2.1 p.2.2
def laws_heldCellSS_c0 (k : Nat) : Lcall := lcallOf tab laws_heldCellSS_t0 dec_rii [0, 1, 5] k (laws_heldCellSS_w0 k)
def laws_heldCellSS_C (k : Nat) : Cfg := ⟨tab, mvs, oraOf [laws_heldCellS_e k], loOf [(0, laws_heldCellSS_c0 k)]⟩
theorem laws_heldCellSS_es (k : Nat) : ∀ e ∈ ([laws_heldCellS_e k] : List Ent), EntOK Try.prog tab mvs e := by
  intro e he
  simp only [List.mem_cons, List.not_mem_nil, or_false] at he
  rcases he with rfl
  · exact laws_heldCellS_ok k
theorem laws_heldCellSS_step0 (k : Nat) (R : Type) (K : Ex → St → Option R) (g : St → Option R) (p : (List (List Int)) × Int × Int) : evCode (laws_heldCellSS_C k) (loopP [0] (0, codeOf Try.f41)).2 (loopP [0] (0, codeOf Try.f41)).1 (fSt laws_heldCellSS_t0 (enc_rii p)) (loopK tab [0, 1, 5] [1] [4] g K) = laws_heldCellSS_w0 k R K (fun p => g (fSt laws_heldCellSS_t0 (enc_rii p))) p := by
  kernel_rfl
theorem laws_heldCellSS_lok0 (k : Nat) : LoopOK Try.prog tab (laws_heldCellSS_C k).lo (loopP [0] (0, codeOf Try.f41)).1 (loopP [0] (0, codeOf Try.f41)).2 :=
  loopOK_of (C := laws_heldCellSS_C k) tabOK eqTabOK (oraOf_ok (laws_heldCellSS_es k)) (oraOf_nat (laws_heldCellSS_es k)) follows (forall_getD _ 0 (0, Code.skip) (by kernel_rfl) fun i hi => by
      omega)
    (tm := laws_heldCellSS_t0) (dec := dec_rii) (enc := enc_rii) (ksIn := [0, 1, 5]) (ksOut := [1]) (ksRet := [4]) (k := k) (step := laws_heldCellSS_w0 k) dec_enc_rii (fun p => by kernel_rfl) (fun s R K => by kernel_rfl) (laws_heldCellSS_step0 k)
def laws_heldCellSS_e (k : Nat) : Ent := (41, callOf [.slr 50, .int .i64] dec_ri fun (p : (List (List Int)) × Int) R K => (laws_heldCellSS k p.1 p.2).bind fun (b : Int) => K ((fV (.int .i64) (enc_i b)).1, none))
theorem laws_heldCellSS_run (k : Nat) (p : (List (List Int)) × Int) : runF (laws_heldCellSS_C k) Try.f41 false (fL [.slr 50, .int .i64] (enc_ri p)).1 (resK (.int .i64) dec_i) = laws_heldCellSS k p.1 p.2 := by
  kernel_rfl
theorem laws_heldCellSS_ok (k : Nat) : EntOK Try.prog tab mvs (laws_heldCellSS_e k) :=
  fn_ok (C := laws_heldCellSS_C k) tabOK eqTabOK (laws_heldCellSS_es k) rfl follows Try.func41 (by kernel_rfl) (by kernel_rfl) rfl (forall_getD _ 1 (0, Code.skip) (by kernel_rfl) fun i hi => by
      match i, hi with
      | 0, _ => exact laws_heldCellSS_lok0 k
      | n + 1, h => omega)
    dec_enc_ri dec_enc_i (laws_heldCellSS_run k)

def laws_FnExactPiecesOf_C (k : Nat) : Cfg := ⟨tab, mvs, oraOf [laws_toLawn_e k, spec_PiecesOf_e k, impl_PiecesOf_e k, laws_eqCellSS_e k, laws_markCellSS_e k, laws_heldCellSS_e k], loOf []⟩
theorem laws_FnExactPiecesOf_es (k : Nat) : ∀ e ∈ ([laws_toLawn_e k, spec_PiecesOf_e k, impl_PiecesOf_e k, laws_eqCellSS_e k, laws_markCellSS_e k, laws_heldCellSS_e k] : List Ent), EntOK Try.prog tab mvs e := by
  intro e he
  simp only [List.mem_cons, List.not_mem_nil, or_false] at he
  rcases he with rfl | rfl | rfl | rfl | rfl | rfl
  · exact laws_toLawn_ok k
  · exact spec_PiecesOf_ok k
  · exact impl_PiecesOf_ok k
  · exact laws_eqCellSS_ok k
  · exact laws_markCellSS_ok k
  · exact laws_heldCellSS_ok k
def laws_FnExactPiecesOf_e (k : Nat) : Ent := (8, callOf [.agg 58] dec_l fun (p : (List Int)) R K => (laws_FnExactPiecesOf k p).bind fun (b : Bool) => K ((fV (.bool) (enc_b b)).1, none))
theorem laws_FnExactPiecesOf_run (k : Nat) (p : (List Int)) : runF (laws_FnExactPiecesOf_C k) Try.f8 false (fL [.agg 58] (enc_l p)).1 (resK (.bool) dec_b) = laws_FnExactPiecesOf k p := by
  kernel_rfl
theorem laws_FnExactPiecesOf_ok (k : Nat) : EntOK Try.prog tab mvs (laws_FnExactPiecesOf_e k) :=
  fn_ok (C := laws_FnExactPiecesOf_C k) tabOK eqTabOK (laws_FnExactPiecesOf_es k) rfl follows Try.func8 (by kernel_rfl) (by kernel_rfl) rfl (forall_getD _ 0 (0, Code.skip) (by kernel_rfl) fun i hi => by
      omega)
    dec_enc_l dec_enc_b (laws_FnExactPiecesOf_run k)




end Go.Proofs.Ytkdpdmfkomnalaa.Tt
