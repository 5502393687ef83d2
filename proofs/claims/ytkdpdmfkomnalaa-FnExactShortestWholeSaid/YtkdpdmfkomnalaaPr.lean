/- The code is what the functions in plain Lean say. -/
import Derived.Test.YtkdpdmfkomnalaaTab
import Derived.Test.YtkdpdmfkomnalaaSh
import Derived.Test.YtkdpdmfkomnalaaExt
import Derived.Test.YtkdpdmfkomnalaaE6
set_option linter.unusedVariables false
set_option linter.unusedSimpArgs false
set_option linter.unusedVariables false
namespace Go.Proofs.Ytkdpdmfkomnalaa.Tt
open Go.Ev Go
set_option maxRecDepth 100000


def mvs : List Nat := [136, 40, 91, 51, 1000051, 53, 1000053, 99, 1000099, 101, 1000101, 134, 1000134]

def dec_illl (ps : List Pay) : Option (Int × (List Int) × (List Int) × (List Int)) := match ps with
  | [.i x1, .l x2, .l x3, .l x4] => some (x1, x2, x3, x4)
  | _ => none
def enc_illl (p : Int × (List Int) × (List Int) × (List Int)) : List Pay := [.i p.1, .l p.2.1, .l p.2.2.1, .l p.2.2.2]
theorem dec_enc_illl : ∀ (ps : List Pay) (p : Int × (List Int) × (List Int) × (List Int)), dec_illl ps = some p → ps = enc_illl p := by
  intro ps p h
  unfold dec_illl at h
  split at h
  · injection h with h
    subst h
    rfl
  · cases h

def dec_l (ps : List Pay) : Option ((List Int)) := match ps with
  | [.l x1] => some x1
  | _ => none
def enc_l (p : (List Int)) : List Pay := [.l p]
theorem dec_enc_l : ∀ (ps : List Pay) (p : (List Int)), dec_l ps = some p → ps = enc_l p := by
  intro ps p h
  unfold dec_l at h
  split at h
  · injection h with h
    subst h
    rfl
  · cases h

def laws_toByteA10_t0 : StTm := ⟨15, [(1, .ptr 1 0 33), (2, .ptr 2 0 33), (3, .ptr 3 0 33), (4, .int .i64)], [(1, 33, true, .ints), (2, 33, true, .ints), (3, 33, true, .ints)]⟩
def laws_toByteA10_t0_1 : StTm := ⟨15, [(2, .ptr 2 0 33), (3, .ptr 3 0 33)], [(2, 33, true, .ints), (3, 33, true, .ints)]⟩
def laws_toByteA10_w0 (k : Nat) (R : Type) (K : Ex → St → Option R) (rec : Int × (List Int) × (List Int) × (List Int) → Option R) (p : Int × (List Int) × (List Int) × (List Int)) : Option R := laws_toByteA10_s0 k (fun y1 y2 => K (.exit 0) (fSt laws_toByteA10_t0_1 [.l y1, .l y2])) (fun h1 h2 h3 h4 => rec (h1, h2, h3, h4)) p.1 p.2.1 p.2.2.1 p.2.2.2
def laws_toByteA10_c0 (k : Nat) : Lcall := lcallOf tab laws_toByteA10_t0 dec_illl [1, 2, 3, 4] k (laws_toByteA10_w0 k)
def laws_toByteA10_C (k : Nat) : Cfg := ⟨tab, mvs, oraOf [], loOf [(0, laws_toByteA10_c0 k)]⟩
theorem laws_toByteA10_es (k : Nat) : ∀ e ∈ ([] : List Ent), EntOK Try.prog tab mvs e := by
  intro e he
  simp at he
theorem laws_toByteA10_step0 (k : Nat) (R : Type) (K : Ex → St → Option R) (g : St → Option R) (p : Int × (List Int) × (List Int) × (List Int)) : evCode (laws_toByteA10_C k) (loopP [0] (0, codeOf Try.f112)).2 (loopP [0] (0, codeOf Try.f112)).1 (fSt laws_toByteA10_t0 (enc_illl p)) (loopK tab [1, 2, 3, 4] [2, 3] [2] g K) = laws_toByteA10_w0 k R K (fun p => g (fSt laws_toByteA10_t0 (enc_illl p))) p := by
  kernel_rfl
theorem laws_toByteA10_lok0 (k : Nat) : LoopOK Try.prog tab (laws_toByteA10_C k).lo (loopP [0] (0, codeOf Try.f112)).1 (loopP [0] (0, codeOf Try.f112)).2 :=
  loopOK_of (C := laws_toByteA10_C k) tabOK eqTabOK (oraOf_ok (laws_toByteA10_es k)) (oraOf_nat (laws_toByteA10_es k)) follows (forall_getD _ 0 (0, Code.skip) (by kernel_rfl) fun i hi => by
      omega)
    (tm := laws_toByteA10_t0) (dec := dec_illl) (enc := enc_illl) (ksIn := [1, 2, 3, 4]) (ksOut := [2, 3]) (ksRet := [2]) (k := k) (step := laws_toByteA10_w0 k) dec_enc_illl (fun p => by kernel_rfl) (fun s R K => by kernel_rfl) (laws_toByteA10_step0 k)
def laws_toByteA10_e (k : Nat) : Ent := (112, callOf [.agg 33] dec_l fun (p : (List Int)) R K => (laws_toByteA10 k p).bind fun (b : (List Int)) => K ((fV (.agg 33) (enc_l b)).1, none))
theorem laws_toByteA10_run (k : Nat) (p : (List Int)) : runF (laws_toByteA10_C k) Try.f112 false (fL [.agg 33] (enc_l p)).1 (resK (.agg 33) dec_l) = laws_toByteA10 k p := by
  kernel_rfl
theorem laws_toByteA10_ok (k : Nat) : EntOK Try.prog tab mvs (laws_toByteA10_e k) :=
  fn_ok (C := laws_toByteA10_C k) tabOK eqTabOK (laws_toByteA10_es k) rfl follows Try.func112 (by kernel_rfl) (by kernel_rfl) rfl (forall_getD _ 1 (0, Code.skip) (by kernel_rfl) fun i hi => by
      match i, hi with
      | 0, _ => exact laws_toByteA10_lok0 k
      | n + 1, h => omega)
    dec_enc_l dec_enc_l (laws_toByteA10_run k)

def laws_toByteA10A10_t0 : StTm := ⟨16, [(1, .ptr 1 0 34), (2, .ptr 2 0 34), (3, .ptr 3 0 34), (4, .int .i64)], [(1, 34, true, .ints), (2, 34, true, .ints), (3, 34, true, .ints)]⟩
def laws_toByteA10A10_t0_1 : StTm := ⟨16, [(2, .ptr 2 0 34), (3, .ptr 3 0 34)], [(2, 34, true, .ints), (3, 34, true, .ints)]⟩
def laws_toByteA10A10_w0 (k : Nat) (R : Type) (K : Ex → St → Option R) (rec : Int × (List Int) × (List Int) × (List Int) → Option R) (p : Int × (List Int) × (List Int) × (List Int)) : Option R := laws_toByteA10A10_s0 k (fun y1 y2 => K (.exit 0) (fSt laws_toByteA10A10_t0_1 [.l y1, .l y2])) (fun h1 h2 h3 h4 => rec (h1, h2, h3, h4)) p.1 p.2.1 p.2.2.1 p.2.2.2
def laws_toByteA10A10_c0 (k : Nat) : Lcall := lcallOf tab laws_toByteA10A10_t0 dec_illl [1, 2, 3, 4] k (laws_toByteA10A10_w0 k)
def laws_toByteA10A10_C (k : Nat) : Cfg := ⟨tab, mvs, oraOf [laws_toByteA10_e k], loOf [(0, laws_toByteA10A10_c0 k)]⟩
theorem laws_toByteA10A10_es (k : Nat) : ∀ e ∈ ([laws_toByteA10_e k] : List Ent), EntOK Try.prog tab mvs e := by
  intro e he
  simp only [List.mem_cons, List.not_mem_nil, or_false] at he
  rcases he with rfl
  · exact laws_toByteA10_ok k
theorem laws_toByteA10A10_step0 (k : Nat) (R : Type) (K : Ex → St → Option R) (g : St → Option R) (p : Int × (List Int) × (List Int) × (List Int)) : evCode (laws_toByteA10A10_C k) (loopP [0] (0, codeOf Try.f68)).2 (loopP [0] (0, codeOf Try.f68)).1 (fSt laws_toByteA10A10_t0 (enc_illl p)) (loopK tab [1, 2, 3, 4] [2, 3] [2] g K) = laws_toByteA10A10_w0 k R K (fun p => g (fSt laws_toByteA10A10_t0 (enc_illl p))) p := by
  kernel_rfl
theorem laws_toByteA10A10_lok0 (k : Nat) : LoopOK Try.prog tab (laws_toByteA10A10_C k).lo (loopP [0] (0, codeOf Try.f68)).1 (loopP [0] (0, codeOf Try.f68)).2 :=
  loopOK_of (C := laws_toByteA10A10_C k) tabOK eqTabOK (oraOf_ok (laws_toByteA10A10_es k)) (oraOf_nat (laws_toByteA10A10_es k)) follows (forall_getD _ 0 (0, Code.skip) (by kernel_rfl) fun i hi => by
      omega)
    (tm := laws_toByteA10A10_t0) (dec := dec_illl) (enc := enc_illl) (ksIn := [1, 2, 3, 4]) (ksOut := [2, 3]) (ksRet := [2]) (k := k) (step := laws_toByteA10A10_w0 k) dec_enc_illl (fun p => by kernel_rfl) (fun s R K => by kernel_rfl) (laws_toByteA10A10_step0 k)
def laws_toByteA10A10_e (k : Nat) : Ent := (68, callOf [.agg 34] dec_l fun (p : (List Int)) R K => (laws_toByteA10A10 k p).bind fun (b : (List Int)) => K ((fV (.agg 34) (enc_l b)).1, none))
theorem laws_toByteA10A10_run (k : Nat) (p : (List Int)) : runF (laws_toByteA10A10_C k) Try.f68 false (fL [.agg 34] (enc_l p)).1 (resK (.agg 34) dec_l) = laws_toByteA10A10 k p := by
  kernel_rfl
theorem laws_toByteA10A10_ok (k : Nat) : EntOK Try.prog tab mvs (laws_toByteA10A10_e k) :=
  fn_ok (C := laws_toByteA10A10_C k) tabOK eqTabOK (laws_toByteA10A10_es k) rfl follows Try.func68 (by kernel_rfl) (by kernel_rfl) rfl (forall_getD _ 1 (0, Code.skip) (by kernel_rfl) fun i hi => by
      match i, hi with
      | 0, _ => exact laws_toByteA10A10_lok0 k
      | n + 1, h => omega)
    dec_enc_l dec_enc_l (laws_toByteA10A10_run k)

def laws_toLawn_C (k : Nat) : Cfg := ⟨tab, mvs, oraOf [laws_toByteA10A10_e k], loOf []⟩
theorem laws_toLawn_es (k : Nat) : ∀ e ∈ ([laws_toByteA10A10_e k] : List Ent), EntOK Try.prog tab mvs e := by
  intro e he
  simp only [List.mem_cons, List.not_mem_nil, or_false] at he
  rcases he with rfl
  · exact laws_toByteA10A10_ok k
def laws_toLawn_e (k : Nat) : Ent := (28, callOf [.agg 58] dec_l fun (p : (List Int)) R K => (laws_toLawn k p).bind fun (b : (List Int)) => K ((fV (.agg 36) (enc_l b)).1, none))
theorem laws_toLawn_run (k : Nat) (p : (List Int)) : runF (laws_toLawn_C k) Try.f28 false (fL [.agg 58] (enc_l p)).1 (resK (.agg 36) dec_l) = laws_toLawn k p := by
  kernel_rfl
theorem laws_toLawn_ok (k : Nat) : EntOK Try.prog tab mvs (laws_toLawn_e k) :=
  fn_ok (C := laws_toLawn_C k) tabOK eqTabOK (laws_toLawn_es k) rfl follows Try.func28 (by kernel_rfl) (by kernel_rfl) rfl (forall_getD _ 0 (0, Code.skip) (by kernel_rfl) fun i hi => by
      omega)
    dec_enc_l dec_enc_l (laws_toLawn_run k)

def laws_toCell_C (k : Nat) : Cfg := ⟨tab, mvs, oraOf [], loOf []⟩
theorem laws_toCell_es (k : Nat) : ∀ e ∈ ([] : List Ent), EntOK Try.prog tab mvs e := by
  intro e he
  simp at he
def laws_toCell_e (k : Nat) : Ent := (36, callOf [.agg 70] dec_l fun (p : (List Int)) R K => (laws_toCell k p).bind fun (b : (List Int)) => K ((fV (.agg 43) (enc_l b)).1, none))
theorem laws_toCell_run (k : Nat) (p : (List Int)) : runF (laws_toCell_C k) Try.f36 false (fL [.agg 70] (enc_l p)).1 (resK (.agg 43) dec_l) = laws_toCell k p := by
  kernel_rfl
theorem laws_toCell_ok (k : Nat) : EntOK Try.prog tab mvs (laws_toCell_e k) :=
  fn_ok (C := laws_toCell_C k) tabOK eqTabOK (laws_toCell_es k) rfl follows Try.func36 (by kernel_rfl) (by kernel_rfl) rfl (forall_getD _ 0 (0, Code.skip) (by kernel_rfl) fun i hi => by
      omega)
    dec_enc_l dec_enc_l (laws_toCell_run k)

def dec_iii (ps : List Pay) : Option (Int × Int × Int) := match ps with
  | [.i x1, .i x2, .i x3] => some (x1, x2, x3)
  | _ => none
def enc_iii (p : Int × Int × Int) : List Pay := [.i p.1, .i p.2.1, .i p.2.2]
theorem dec_enc_iii : ∀ (ps : List Pay) (p : Int × Int × Int), dec_iii ps = some p → ps = enc_iii p := by
  intro ps p h
  unfold dec_iii at h
  split at h
  · injection h with h
    subst h
    rfl
  · cases h

def dec_b (ps : List Pay) : Option (Bool) := match ps with
  | [.b x1] => some x1
  | _ => none
def enc_b (p : Bool) : List Pay := [.b p]
theorem dec_enc_b : ∀ (ps : List Pay) (p : Bool), dec_b ps = some p → ps = enc_b p := by
  intro ps p h
  unfold dec_b at h
  split at h
  · injection h with h
    subst h
    rfl
  · cases h

def spec_l00In_C (k : Nat) : Cfg := ⟨tab, mvs, oraOf [], loOf []⟩
theorem spec_l00In_es (k : Nat) : ∀ e ∈ ([] : List Ent), EntOK Try.prog tab mvs e := by
  intro e he
  simp at he
def spec_l00In_e (k : Nat) : Ent := (94, callOf [.int .i64, .int .i64, .int .i64] dec_iii fun (p : Int × Int × Int) R K => (spec_l00In k p.1 p.2.1 p.2.2).bind fun (b : Bool) => K ((fV (.bool) (enc_b b)).1, none))
theorem spec_l00In_run (k : Nat) (p : Int × Int × Int) : runF (spec_l00In_C k) Try.f94 false (fL [.int .i64, .int .i64, .int .i64] (enc_iii p)).1 (resK (.bool) dec_b) = spec_l00In k p.1 p.2.1 p.2.2 := by
  kernel_rfl
theorem spec_l00In_ok (k : Nat) : EntOK Try.prog tab mvs (spec_l00In_e k) :=
  fn_ok (C := spec_l00In_C k) tabOK eqTabOK (spec_l00In_es k) rfl follows Try.func94 (by kernel_rfl) (by kernel_rfl) rfl (forall_getD _ 0 (0, Code.skip) (by kernel_rfl) fun i hi => by
      omega)
    dec_enc_iii dec_enc_b (spec_l00In_run k)

def dec_ll (ps : List Pay) : Option ((List Int) × (List Int)) := match ps with
  | [.l x1, .l x2] => some (x1, x2)
  | _ => none
def enc_ll (p : (List Int) × (List Int)) : List Pay := [.l p.1, .l p.2]
theorem dec_enc_ll : ∀ (ps : List Pay) (p : (List Int) × (List Int)), dec_ll ps = some p → ps = enc_ll p := by
  intro ps p h
  unfold dec_ll at h
  split at h
  · injection h with h
    subst h
    rfl
  · cases h

def spec_l01Is_C (k : Nat) : Cfg := ⟨tab, mvs, oraOf [spec_l00In_e k], loOf []⟩
theorem spec_l01Is_es (k : Nat) : ∀ e ∈ ([spec_l00In_e k] : List Ent), EntOK Try.prog tab mvs e := by
  intro e he
  simp only [List.mem_cons, List.not_mem_nil, or_false] at he
  rcases he with rfl
  · exact spec_l00In_ok k
def spec_l01Is_e (k : Nat) : Ent := (106, callOf [.pvi (some 36) 0 36, .agg 43] dec_ll fun (p : (List Int) × (List Int)) R K => (spec_l01Is k p.1 p.2).bind fun (b : Bool) => K ((fV (.bool) (enc_b b)).1, none))
theorem spec_l01Is_run (k : Nat) (p : (List Int) × (List Int)) : runF (spec_l01Is_C k) Try.f106 false (fL [.pvi (some 36) 0 36, .agg 43] (enc_ll p)).1 (resK (.bool) dec_b) = spec_l01Is k p.1 p.2 := by
  kernel_rfl
theorem spec_l01Is_ok (k : Nat) : EntOK Try.prog tab mvs (spec_l01Is_e k) :=
  fn_ok (C := spec_l01Is_C k) tabOK eqTabOK (spec_l01Is_es k) rfl follows Try.func106 (by kernel_rfl) (by kernel_rfl) rfl (forall_getD _ 0 (0, Code.skip) (by kernel_rfl) fun i hi => by
      omega)
    dec_enc_ll dec_enc_b (spec_l01Is_run k)

def dec_i (ps : List Pay) : Option (Int) := match ps with
  | [.i x1] => some x1
  | _ => none
def enc_i (p : Int) : List Pay := [.i p]
theorem dec_enc_i : ∀ (ps : List Pay) (p : Int), dec_i ps = some p → ps = enc_i p := by
  intro ps p h
  unfold dec_i at h
  split at h
  · injection h with h
    subst h
    rfl
  · cases h

def spec_l01Side_C (k : Nat) : Cfg := ⟨tab, mvs, oraOf [spec_l00In_e k], loOf []⟩
theorem spec_l01Side_es (k : Nat) : ∀ e ∈ ([spec_l00In_e k] : List Ent), EntOK Try.prog tab mvs e := by
  intro e he
  simp only [List.mem_cons, List.not_mem_nil, or_false] at he
  rcases he with rfl
  · exact spec_l00In_ok k
def spec_l01Side_e (k : Nat) : Ent := (105, callOf [.int .i64] dec_i fun (p : Int) R K => (spec_l01Side k p).bind fun (b : Bool) => K ((fV (.bool) (enc_b b)).1, none))
theorem spec_l01Side_run (k : Nat) (p : Int) : runF (spec_l01Side_C k) Try.f105 false (fL [.int .i64] (enc_i p)).1 (resK (.bool) dec_b) = spec_l01Side k p := by
  kernel_rfl
theorem spec_l01Side_ok (k : Nat) : EntOK Try.prog tab mvs (spec_l01Side_e k) :=
  fn_ok (C := spec_l01Side_C k) tabOK eqTabOK (spec_l01Side_es k) rfl follows Try.func105 (by kernel_rfl) (by kernel_rfl) rfl (forall_getD _ 0 (0, Code.skip) (by kernel_rfl) fun i hi => by
      omega)
    dec_enc_i dec_enc_b (spec_l01Side_run k)

def spec_l01Kind_C (k : Nat) : Cfg := ⟨tab, mvs, oraOf [spec_l00In_e k], loOf []⟩
theorem spec_l01Kind_es (k : Nat) : ∀ e ∈ ([spec_l00In_e k] : List Ent), EntOK Try.prog tab mvs e := by
  intro e he
  simp only [List.mem_cons, List.not_mem_nil, or_false] at he
  rcases he with rfl
  · exact spec_l00In_ok k
def spec_l01Kind_e (k : Nat) : Ent := (60, callOf [.int .i64] dec_i fun (p : Int) R K => (spec_l01Kind k p).bind fun (b : Bool) => K ((fV (.bool) (enc_b b)).1, none))
theorem spec_l01Kind_run (k : Nat) (p : Int) : runF (spec_l01Kind_C k) Try.f60 false (fL [.int .i64] (enc_i p)).1 (resK (.bool) dec_b) = spec_l01Kind k p := by
  kernel_rfl
theorem spec_l01Kind_ok (k : Nat) : EntOK Try.prog tab mvs (spec_l01Kind_e k) :=
  fn_ok (C := spec_l01Kind_C k) tabOK eqTabOK (spec_l01Kind_es k) rfl follows Try.func60 (by kernel_rfl) (by kernel_rfl) rfl (forall_getD _ 0 (0, Code.skip) (by kernel_rfl) fun i hi => by
      omega)
    dec_enc_i dec_enc_b (spec_l01Kind_run k)

def dec_lii (ps : List Pay) : Option ((List Int) × Int × Int) := match ps with
  | [.l x1, .i x2, .i x3] => some (x1, x2, x3)
  | _ => none
def enc_lii (p : (List Int) × Int × Int) : List Pay := [.l p.1, .i p.2.1, .i p.2.2]
theorem dec_enc_lii : ∀ (ps : List Pay) (p : (List Int) × Int × Int), dec_lii ps = some p → ps = enc_lii p := by
  intro ps p h
  unfold dec_lii at h
  split at h
  · injection h with h
    subst h
    rfl
  · cases h

def dec_li (ps : List Pay) : Option ((List Int) × Int) := match ps with
  | [.l x1, .i x2] => some (x1, x2)
  | _ => none
def enc_li (p : (List Int) × Int) : List Pay := [.l p.1, .i p.2]
theorem dec_enc_li : ∀ (ps : List Pay) (p : (List Int) × Int), dec_li ps = some p → ps = enc_li p := by
  intro ps p h
  unfold dec_li at h
  split at h
  · injection h with h
    subst h
    rfl
  · cases h

def spec_l01Ok_t0 : StTm := ⟨54, [(0, .pvi (some 36) 0 36), (3, .int .i8), (4, .int .i8)], []⟩
def spec_l01Ok_t0_1 : StTm := ⟨54, [(2, .bool)], []⟩
def spec_l01Ok_t0_2 : StTm := ⟨54, [(0, .pvi (some 36) 0 36), (3, .int .i8)], []⟩
def spec_l01Ok_w0 (k : Nat) (R : Type) (K : Ex → St → Option R) (rec : (List Int) × Int × Int → Option R) (p : (List Int) × Int × Int) : Option R := spec_l01Ok_s0 k (fun y1 => K .ret (fSt spec_l01Ok_t0_1 [.b y1])) (fun y1 y2 => K (.exit 2) (fSt spec_l01Ok_t0_2 [.l y1, .i y2])) (fun h1 h2 h3 => rec (h1, h2, h3)) p.1 p.2.1 p.2.2
def spec_l01Ok_c0 (k : Nat) : Lcall := lcallOf tab spec_l01Ok_t0 dec_lii [0, 3, 4] k (spec_l01Ok_w0 k)
def spec_l01Ok_t1 : StTm := ⟨54, [(0, .pvi (some 36) 0 36), (3, .int .i8)], []⟩
def spec_l01Ok_t1_1 : StTm := ⟨54, [(2, .bool)], []⟩
def spec_l01Ok_t1_2 : StTm := ⟨54, [], []⟩
def spec_l01Ok_w1 (k : Nat) (R : Type) (K : Ex → St → Option R) (rec : (List Int) × Int → Option R) (p : (List Int) × Int) : Option R := spec_l01Ok_s1 k (fun y1 => K .ret (fSt spec_l01Ok_t1_1 [.b y1])) (K (.exit 0) (fSt spec_l01Ok_t1_2 [])) (fun h1 h2 => rec (h1, h2)) p.1 p.2
def spec_l01Ok_c1 (k : Nat) : Lcall := lcallOf tab spec_l01Ok_t1 dec_li [0, 3] k (spec_l01Ok_w1 k)
def spec_l01Ok_C (k : Nat) : Cfg := ⟨tab, mvs, oraOf [spec_l01Side_e k, spec_l01Kind_e k, spec_l01Is_e k], loOf [(2, spec_l01Ok_c0 k), (0, spec_l01Ok_c1 k)]⟩
theorem spec_l01Ok_es (k : Nat) : ∀ e ∈ ([spec_l01Side_e k, spec_l01Kind_e k, spec_l01Is_e k] : List Ent), EntOK Try.prog tab mvs e := by
  intro e he
  simp only [List.mem_cons, List.not_mem_nil, or_false] at he
  rcases he with rfl | rfl | rfl
  · exact spec_l01Side_ok k
  · exact spec_l01Kind_ok k
  · exact spec_l01Is_ok k
theorem spec_l01Ok_step0 (k : Nat) (R : Type) (K : Ex → St → Option R) (g : St → Option R) (p : (List Int) × Int × Int) : evCode (spec_l01Ok_C k) (loopP [0, 0] (0, codeOf Try.f57)).2 (loopP [0, 0] (0, codeOf Try.f57)).1 (fSt spec_l01Ok_t0 (enc_lii p)) (loopK tab [0, 3, 4] [0, 3] [2] g K) = spec_l01Ok_w0 k R K (fun p => g (fSt spec_l01Ok_t0 (enc_lii p))) p := by
  kernel_rfl
theorem spec_l01Ok_lok0 (k : Nat) : LoopOK Try.prog tab (spec_l01Ok_C k).lo (loopP [0, 0] (0, codeOf Try.f57)).1 (loopP [0, 0] (0, codeOf Try.f57)).2 :=
  loopOK_of (C := spec_l01Ok_C k) tabOK eqTabOK (oraOf_ok (spec_l01Ok_es k)) (oraOf_nat (spec_l01Ok_es k)) follows (forall_getD _ 0 (0, Code.skip) (by kernel_rfl) fun i hi => by
      omega)
    (tm := spec_l01Ok_t0) (dec := dec_lii) (enc := enc_lii) (ksIn := [0, 3, 4]) (ksOut := [0, 3]) (ksRet := [2]) (k := k) (step := spec_l01Ok_w0 k) dec_enc_lii (fun p => by kernel_rfl) (fun s R K => by kernel_rfl) (spec_l01Ok_step0 k)
theorem spec_l01Ok_step1 (k : Nat) (R : Type) (K : Ex → St → Option R) (g : St → Option R) (p : (List Int) × Int) : evCode (spec_l01Ok_C k) (loopP [0] (0, codeOf Try.f57)).2 (loopP [0] (0, codeOf Try.f57)).1 (fSt spec_l01Ok_t1 (enc_li p)) (loopK tab [0, 3] [] [2] g K) = spec_l01Ok_w1 k R K (fun p => g (fSt spec_l01Ok_t1 (enc_li p))) p := by
  kernel_rfl
theorem spec_l01Ok_lok1 (k : Nat) : LoopOK Try.prog tab (spec_l01Ok_C k).lo (loopP [0] (0, codeOf Try.f57)).1 (loopP [0] (0, codeOf Try.f57)).2 :=
  loopOK_of (C := spec_l01Ok_C k) tabOK eqTabOK (oraOf_ok (spec_l01Ok_es k)) (oraOf_nat (spec_l01Ok_es k)) follows (forall_getD _ 1 (0, Code.skip) (by kernel_rfl) fun i hi => by
      match i, hi with
      | 0, _ => exact spec_l01Ok_lok0 k
      | n + 1, h => omega)
    (tm := spec_l01Ok_t1) (dec := dec_li) (enc := enc_li) (ksIn := [0, 3]) (ksOut := []) (ksRet := [2]) (k := k) (step := spec_l01Ok_w1 k) dec_enc_li (fun p => by kernel_rfl) (fun s R K => by kernel_rfl) (spec_l01Ok_step1 k)
def spec_l01Ok_e (k : Nat) : Ent := (57, callOf [.pvi (some 36) 0 36] dec_l fun (p : (List Int)) R K => (spec_l01Ok k p).bind fun (b : Bool) => K ((fV (.bool) (enc_b b)).1, none))
theorem spec_l01Ok_run (k : Nat) (p : (List Int)) : runF (spec_l01Ok_C k) Try.f57 false (fL [.pvi (some 36) 0 36] (enc_l p)).1 (resK (.bool) dec_b) = spec_l01Ok k p := by
  kernel_rfl
theorem spec_l01Ok_ok (k : Nat) : EntOK Try.prog tab mvs (spec_l01Ok_e k) :=
  fn_ok (C := spec_l01Ok_C k) tabOK eqTabOK (spec_l01Ok_es k) rfl follows Try.func57 (by kernel_rfl) (by kernel_rfl) rfl (forall_getD _ 1 (0, Code.skip) (by kernel_rfl) fun i hi => by
      match i, hi with
      | 0, _ => exact spec_l01Ok_lok1 k
      | n + 1, h => omega)
    dec_enc_l dec_enc_b (spec_l01Ok_run k)

def dec_lb (ps : List Pay) : Option ((List Int) × Bool) := match ps with
  | [.l x1, .b x2] => some (x1, x2)
  | _ => none
def enc_lb (p : (List Int) × Bool) : List Pay := [.l p.1, .b p.2]
theorem dec_enc_lb : ∀ (ps : List Pay) (p : (List Int) × Bool), dec_lb ps = some p → ps = enc_lb p := by
  intro ps p h
  unfold dec_lb at h
  split at h
  · injection h with h
    subst h
    rfl
  · cases h

def spec_l01Told_C (k : Nat) : Cfg := ⟨tab, mvs, oraOf [spec_l01Ok_e k], loOf []⟩
theorem spec_l01Told_es (k : Nat) : ∀ e ∈ ([spec_l01Ok_e k] : List Ent), EntOK Try.prog tab mvs e := by
  intro e he
  simp only [List.mem_cons, List.not_mem_nil, or_false] at he
  rcases he with rfl
  · exact spec_l01Ok_ok k
def spec_l01Told_e (k : Nat) : Ent := (59, callOf [.pvi (some 36) 0 36, .bool] dec_lb fun (p : (List Int) × Bool) R K => (spec_l01Told k p.1 p.2).bind fun (b : Int) => K ((fV (.int .i64) (enc_i b)).1, none))
theorem spec_l01Told_run (k : Nat) (p : (List Int) × Bool) : runF (spec_l01Told_C k) Try.f59 false (fL [.pvi (some 36) 0 36, .bool] (enc_lb p)).1 (resK (.int .i64) dec_i) = spec_l01Told k p.1 p.2 := by
  kernel_rfl
theorem spec_l01Told_ok (k : Nat) : EntOK Try.prog tab mvs (spec_l01Told_e k) :=
  fn_ok (C := spec_l01Told_C k) tabOK eqTabOK (spec_l01Told_es k) rfl follows Try.func59 (by kernel_rfl) (by kernel_rfl) rfl (forall_getD _ 0 (0, Code.skip) (by kernel_rfl) fun i hi => by
      omega)
    dec_enc_lb dec_enc_i (spec_l01Told_run k)

def spec_l01At_C (k : Nat) : Cfg := ⟨tab, mvs, oraOf [], loOf []⟩
theorem spec_l01At_es (k : Nat) : ∀ e ∈ ([] : List Ent), EntOK Try.prog tab mvs e := by
  intro e he
  simp at he
def spec_l01At_e (k : Nat) : Ent := (109, callOf [.pvi (some 36) 0 36, .agg 43] dec_ll fun (p : (List Int) × (List Int)) R K => (spec_l01At k p.1 p.2).bind fun (b : Int) => K ((fV (.int .i64) (enc_i b)).1, none))
theorem spec_l01At_run (k : Nat) (p : (List Int) × (List Int)) : runF (spec_l01At_C k) Try.f109 false (fL [.pvi (some 36) 0 36, .agg 43] (enc_ll p)).1 (resK (.int .i64) dec_i) = spec_l01At k p.1 p.2 := by
  kernel_rfl
theorem spec_l01At_ok (k : Nat) : EntOK Try.prog tab mvs (spec_l01At_e k) :=
  fn_ok (C := spec_l01At_C k) tabOK eqTabOK (spec_l01At_es k) rfl follows Try.func109 (by kernel_rfl) (by kernel_rfl) rfl (forall_getD _ 0 (0, Code.skip) (by kernel_rfl) fun i hi => by
      omega)
    dec_enc_ll dec_enc_i (spec_l01At_run k)

def spec_l01Open_C (k : Nat) : Cfg := ⟨tab, mvs, oraOf [spec_l01At_e k], loOf []⟩
theorem spec_l01Open_es (k : Nat) : ∀ e ∈ ([spec_l01At_e k] : List Ent), EntOK Try.prog tab mvs e := by
  intro e he
  simp only [List.mem_cons, List.not_mem_nil, or_false] at he
  rcases he with rfl
  · exact spec_l01At_ok k
def spec_l01Open_e (k : Nat) : Ent := (125, callOf [.pvi (some 36) 0 36, .agg 43] dec_ll fun (p : (List Int) × (List Int)) R K => (spec_l01Open k p.1 p.2).bind fun (b : Bool) => K ((fV (.bool) (enc_b b)).1, none))
theorem spec_l01Open_run (k : Nat) (p : (List Int) × (List Int)) : runF (spec_l01Open_C k) Try.f125 false (fL [.pvi (some 36) 0 36, .agg 43] (enc_ll p)).1 (resK (.bool) dec_b) = spec_l01Open k p.1 p.2 := by
  kernel_rfl
theorem spec_l01Open_ok (k : Nat) : EntOK Try.prog tab mvs (spec_l01Open_e k) :=
  fn_ok (C := spec_l01Open_C k) tabOK eqTabOK (spec_l01Open_es k) rfl follows Try.func125 (by kernel_rfl) (by kernel_rfl) rfl (forall_getD _ 0 (0, Code.skip) (by kernel_rfl) fun i hi => by
      omega)
    dec_enc_ll dec_enc_b (spec_l01Open_run k)

def dec_liil (ps : List Pay) : Option ((List Int) × Int × Int × (List Int)) := match ps with
  | [.l x1, .i x2, .i x3, .l x4] => some (x1, x2, x3, x4)
  | _ => none
def enc_liil (p : (List Int) × Int × Int × (List Int)) : List Pay := [.l p.1, .i p.2.1, .i p.2.2.1, .l p.2.2.2]
theorem dec_enc_liil : ∀ (ps : List Pay) (p : (List Int) × Int × Int × (List Int)), dec_liil ps = some p → ps = enc_liil p := by
  intro ps p h
  unfold dec_liil at h
  split at h
  · injection h with h
    subst h
    rfl
  · cases h

def dec_lil (ps : List Pay) : Option ((List Int) × Int × (List Int)) := match ps with
  | [.l x1, .i x2, .l x3] => some (x1, x2, x3)
  | _ => none
def enc_lil (p : (List Int) × Int × (List Int)) : List Pay := [.l p.1, .i p.2.1, .l p.2.2]
theorem dec_enc_lil : ∀ (ps : List Pay) (p : (List Int) × Int × (List Int)), dec_lil ps = some p → ps = enc_lil p := by
  intro ps p h
  unfold dec_lil at h
  split at h
  · injection h with h
    subst h
    rfl
  · cases h

def spec_l01All_t0 : StTm := ⟨30, [(0, .pvi (some 36) 0 36), (3, .slw 3 43), (4, .int .i8), (5, .int .i8)], [(3, 43, false, .ints)]⟩
def spec_l01All_t0_1 : StTm := ⟨30, [(0, .pvi (some 36) 0 36), (3, .slw 3 43), (4, .int .i8)], [(3, 43, false, .ints)]⟩
def spec_l01All_w0 (k : Nat) (R : Type) (K : Ex → St → Option R) (rec : (List Int) × Int × Int × (List Int) → Option R) (p : (List Int) × Int × Int × (List Int)) : Option R := spec_l01All_s0 k (fun y1 y2 y3 => K (.exit 2) (fSt spec_l01All_t0_1 [.l y1, .i y2, .l y3])) (fun h1 h2 h3 h4 => rec (h1, h2, h3, h4)) p.1 p.2.1 p.2.2.1 p.2.2.2
def spec_l01All_c0 (k : Nat) : Lcall := lcallOf tab spec_l01All_t0 dec_liil [0, 3, 4, 5] k (spec_l01All_w0 k)
def spec_l01All_t1 : StTm := ⟨30, [(0, .pvi (some 36) 0 36), (3, .slw 3 43), (4, .int .i8)], [(3, 43, false, .ints)]⟩
def spec_l01All_t1_1 : StTm := ⟨30, [(3, .slw 3 43)], [(3, 43, false, .ints)]⟩
def spec_l01All_w1 (k : Nat) (R : Type) (K : Ex → St → Option R) (rec : (List Int) × Int × (List Int) → Option R) (p : (List Int) × Int × (List Int)) : Option R := spec_l01All_s1 k (fun y1 => K (.exit 0) (fSt spec_l01All_t1_1 [.l y1])) (fun h1 h2 h3 => rec (h1, h2, h3)) p.1 p.2.1 p.2.2
def spec_l01All_c1 (k : Nat) : Lcall := lcallOf tab spec_l01All_t1 dec_lil [0, 3, 4] k (spec_l01All_w1 k)
def spec_l01All_C (k : Nat) : Cfg := ⟨tab, mvs, oraOf [], loOf [(2, spec_l01All_c0 k), (0, spec_l01All_c1 k)]⟩
theorem spec_l01All_es (k : Nat) : ∀ e ∈ ([] : List Ent), EntOK Try.prog tab mvs e := by
  intro e he
  simp at he
theorem spec_l01All_step0 (k : Nat) (R : Type) (K : Ex → St → Option R) (g : St → Option R) (p : (List Int) × Int × Int × (List Int)) : evCode (spec_l01All_C k) (loopP [0, 0] (0, codeOf Try.f100)).2 (loopP [0, 0] (0, codeOf Try.f100)).1 (fSt spec_l01All_t0 (enc_liil p)) (loopK tab [0, 3, 4, 5] [0, 3, 4] [2] g K) = spec_l01All_w0 k R K (fun p => g (fSt spec_l01All_t0 (enc_liil p))) p := by
  kernel_rfl
theorem spec_l01All_lok0 (k : Nat) : LoopOK Try.prog tab (spec_l01All_C k).lo (loopP [0, 0] (0, codeOf Try.f100)).1 (loopP [0, 0] (0, codeOf Try.f100)).2 :=
  loopOK_of (C := spec_l01All_C k) tabOK eqTabOK (oraOf_ok (spec_l01All_es k)) (oraOf_nat (spec_l01All_es k)) follows (forall_getD _ 0 (0, Code.skip) (by kernel_rfl) fun i hi => by
      omega)
    (tm := spec_l01All_t0) (dec := dec_liil) (enc := enc_liil) (ksIn := [0, 3, 4, 5]) (ksOut := [0, 3, 4]) (ksRet := [2]) (k := k) (step := spec_l01All_w0 k) dec_enc_liil (fun p => by kernel_rfl) (fun s R K => by kernel_rfl) (spec_l01All_step0 k)
theorem spec_l01All_step1 (k : Nat) (R : Type) (K : Ex → St → Option R) (g : St → Option R) (p : (List Int) × Int × (List Int)) : evCode (spec_l01All_C k) (loopP [0] (0, codeOf Try.f100)).2 (loopP [0] (0, codeOf Try.f100)).1 (fSt spec_l01All_t1 (enc_lil p)) (loopK tab [0, 3, 4] [3] [2] g K) = spec_l01All_w1 k R K (fun p => g (fSt spec_l01All_t1 (enc_lil p))) p := by
  kernel_rfl
theorem spec_l01All_lok1 (k : Nat) : LoopOK Try.prog tab (spec_l01All_C k).lo (loopP [0] (0, codeOf Try.f100)).1 (loopP [0] (0, codeOf Try.f100)).2 :=
  loopOK_of (C := spec_l01All_C k) tabOK eqTabOK (oraOf_ok (spec_l01All_es k)) (oraOf_nat (spec_l01All_es k)) follows (forall_getD _ 1 (0, Code.skip) (by kernel_rfl) fun i hi => by
      match i, hi with
      | 0, _ => exact spec_l01All_lok0 k
      | n + 1, h => omega)
    (tm := spec_l01All_t1) (dec := dec_lil) (enc := enc_lil) (ksIn := [0, 3, 4]) (ksOut := [3]) (ksRet := [2]) (k := k) (step := spec_l01All_w1 k) dec_enc_lil (fun p => by kernel_rfl) (fun s R K => by kernel_rfl) (spec_l01All_step1 k)
def spec_l01All_e (k : Nat) : Ent := (100, callOf [.pvi (some 36) 0 36] dec_l fun (p : (List Int)) R K => (spec_l01All k p).bind fun (b : (List Int)) => K ((fV (.slv 43) (enc_l b)).1, none))
theorem spec_l01All_run (k : Nat) (p : (List Int)) : runF (spec_l01All_C k) Try.f100 false (fL [.pvi (some 36) 0 36] (enc_l p)).1 (resK (.slv 43) dec_l) = spec_l01All k p := by
  kernel_rfl
theorem spec_l01All_ok (k : Nat) : EntOK Try.prog tab mvs (spec_l01All_e k) :=
  fn_ok (C := spec_l01All_C k) tabOK eqTabOK (spec_l01All_es k) rfl follows Try.func100 (by kernel_rfl) (by kernel_rfl) rfl (forall_getD _ 1 (0, Code.skip) (by kernel_rfl) fun i hi => by
      match i, hi with
      | 0, _ => exact spec_l01All_lok1 k
      | n + 1, h => omega)
    dec_enc_l dec_enc_l (spec_l01All_run k)

def dec_liill (ps : List Pay) : Option ((List Int) × Int × Int × (List Int) × (List Int)) := match ps with
  | [.l x1, .i x2, .i x3, .l x4, .l x5] => some (x1, x2, x3, x4, x5)
  | _ => none
def enc_liill (p : (List Int) × Int × Int × (List Int) × (List Int)) : List Pay := [.l p.1, .i p.2.1, .i p.2.2.1, .l p.2.2.2.1, .l p.2.2.2.2]
theorem dec_enc_liill : ∀ (ps : List Pay) (p : (List Int) × Int × Int × (List Int) × (List Int)), dec_liill ps = some p → ps = enc_liill p := by
  intro ps p h
  unfold dec_liill at h
  split at h
  · injection h with h
    subst h
    rfl
  · cases h

def spec_l01Cells_t0 : StTm := ⟨33, [(0, .pvi (some 36) 0 36), (1, .int .i64), (5, .slw 5 43), (6, .slw 6 43), (7, .int .i64)], [(5, 43, false, .ints), (6, 43, false, .ints)]⟩
def spec_l01Cells_t0_1 : StTm := ⟨33, [(5, .slw 5 43)], [(5, 43, false, .ints)]⟩
def spec_l01Cells_w0 (k : Nat) (R : Type) (K : Ex → St → Option R) (rec : (List Int) × Int × Int × (List Int) × (List Int) → Option R) (p : (List Int) × Int × Int × (List Int) × (List Int)) : Option R := spec_l01Cells_s0 k (fun y1 => K (.exit 0) (fSt spec_l01Cells_t0_1 [.l y1])) (fun h1 h2 h3 h4 h5 => rec (h1, h2, h3, h4, h5)) p.1 p.2.1 p.2.2.1 p.2.2.2.1 p.2.2.2.2
def spec_l01Cells_c0 (k : Nat) : Lcall := lcallOf tab spec_l01Cells_t0 dec_liill [0, 1, 5, 6, 7] k (spec_l01Cells_w0 k)
def spec_l01Cells_C (k : Nat) : Cfg := ⟨tab, mvs, oraOf [spec_l01All_e k, spec_l01At_e k], loOf [(0, spec_l01Cells_c0 k)]⟩
theorem spec_l01Cells_es (k : Nat) : ∀ e ∈ ([spec_l01All_e k, spec_l01At_e k] : List Ent), EntOK Try.prog tab mvs e := by
  intro e he
  simp only [List.mem_cons, List.not_mem_nil, or_false] at he
  rcases he with rfl | rfl
  · exact spec_l01All_ok k
  · exact spec_l01At_ok k
theorem spec_l01Cells_step0 (k : Nat) (R : Type) (K : Ex → St → Option R) (g : St → Option R) (p : (List Int) × Int × Int × (List Int) × (List Int)) : evCode (spec_l01Cells_C k) (loopP [0] (0, codeOf Try.f61)).2 (loopP [0] (0, codeOf Try.f61)).1 (fSt spec_l01Cells_t0 (enc_liill p)) (loopK tab [0, 1, 5, 6, 7] [5] [4] g K) = spec_l01Cells_w0 k R K (fun p => g (fSt spec_l01Cells_t0 (enc_liill p))) p := by
  kernel_rfl
theorem spec_l01Cells_lok0 (k : Nat) : LoopOK Try.prog tab (spec_l01Cells_C k).lo (loopP [0] (0, codeOf Try.f61)).1 (loopP [0] (0, codeOf Try.f61)).2 :=
  loopOK_of (C := spec_l01Cells_C k) tabOK eqTabOK (oraOf_ok (spec_l01Cells_es k)) (oraOf_nat (spec_l01Cells_es k)) follows (forall_getD _ 0 (0, Code.skip) (by kernel_rfl) fun i hi => by
      omega)
    (tm := spec_l01Cells_t0) (dec := dec_liill) (enc := enc_liill) (ksIn := [0, 1, 5, 6, 7]) (ksOut := [5]) (ksRet := [4]) (k := k) (step := spec_l01Cells_w0 k) dec_enc_liill (fun p => by kernel_rfl) (fun s R K => by kernel_rfl) (spec_l01Cells_step0 k)
def spec_l01Cells_e (k : Nat) : Ent := (61, callOf [.pvi (some 36) 0 36, .int .i64] dec_li fun (p : (List Int) × Int) R K => (spec_l01Cells k p.1 p.2).bind fun (b : (List Int)) => K ((fV (.slv 43) (enc_l b)).1, none))
theorem spec_l01Cells_run (k : Nat) (p : (List Int) × Int) : runF (spec_l01Cells_C k) Try.f61 false (fL [.pvi (some 36) 0 36, .int .i64] (enc_li p)).1 (resK (.slv 43) dec_l) = spec_l01Cells k p.1 p.2 := by
  kernel_rfl
theorem spec_l01Cells_ok (k : Nat) : EntOK Try.prog tab mvs (spec_l01Cells_e k) :=
  fn_ok (C := spec_l01Cells_C k) tabOK eqTabOK (spec_l01Cells_es k) rfl follows Try.func61 (by kernel_rfl) (by kernel_rfl) rfl (forall_getD _ 1 (0, Code.skip) (by kernel_rfl) fun i hi => by
      match i, hi with
      | 0, _ => exact spec_l01Cells_lok0 k
      | n + 1, h => omega)
    dec_enc_li dec_enc_l (spec_l01Cells_run k)

def spec_l02Small_C (k : Nat) : Cfg := ⟨tab, mvs, oraOf [spec_l01Is_e k, spec_l01Told_e k, spec_l01Open_e k, spec_l01Cells_e k], loOf []⟩
theorem spec_l02Small_es (k : Nat) : ∀ e ∈ ([spec_l01Is_e k, spec_l01Told_e k, spec_l01Open_e k, spec_l01Cells_e k] : List Ent), EntOK Try.prog tab mvs e := by
  intro e he
  simp only [List.mem_cons, List.not_mem_nil, or_false] at he
  rcases he with rfl | rfl | rfl | rfl
  · exact spec_l01Is_ok k
  · exact spec_l01Told_ok k
  · exact spec_l01Open_ok k
  · exact spec_l01Cells_ok k
def spec_l02Small_e (k : Nat) : Ent := (83, callOf [.pvi (some 36) 0 36, .agg 43] dec_ll fun (p : (List Int) × (List Int)) R K => (spec_l02Small k p.1 p.2).bind fun (b : Int) => K ((fV (.int .i64) (enc_i b)).1, none))
theorem spec_l02Small_run (k : Nat) (p : (List Int) × (List Int)) : runF (spec_l02Small_C k) Try.f83 false (fL [.pvi (some 36) 0 36, .agg 43] (enc_ll p)).1 (resK (.int .i64) dec_i) = spec_l02Small k p.1 p.2 := by
  kernel_rfl
theorem spec_l02Small_ok (k : Nat) : EntOK Try.prog tab mvs (spec_l02Small_e k) :=
  fn_ok (C := spec_l02Small_C k) tabOK eqTabOK (spec_l02Small_es k) rfl follows Try.func83 (by kernel_rfl) (by kernel_rfl) rfl (forall_getD _ 0 (0, Code.skip) (by kernel_rfl) fun i hi => by
      omega)
    dec_enc_ll dec_enc_i (spec_l02Small_run k)

def spec_l02Bit_t0 : StTm := ⟨21, [(0, .slv 43), (3, .ptr 3 0 43), (5, .int .i64)], [(3, 43, true, .ints)]⟩
def spec_l02Bit_t0_1 : StTm := ⟨21, [(4, .int .i64)], []⟩
def spec_l02Bit_t0_2 : StTm := ⟨21, [], []⟩
def spec_l02Bit_w0 (k : Nat) (R : Type) (K : Ex → St → Option R) (rec : (List Int) × Int × (List Int) → Option R) (p : (List Int) × Int × (List Int)) : Option R := spec_l02Bit_s0 k (fun y1 => K .ret (fSt spec_l02Bit_t0_1 [.i y1])) (K (.exit 0) (fSt spec_l02Bit_t0_2 [])) (fun h1 h2 h3 => rec (h1, h2, h3)) p.1 p.2.1 p.2.2
def spec_l02Bit_c0 (k : Nat) : Lcall := lcallOf tab spec_l02Bit_t0 dec_lil [0, 3, 5] k (spec_l02Bit_w0 k)
def spec_l02Bit_C (k : Nat) : Cfg := ⟨tab, mvs, oraOf [], loOf [(0, spec_l02Bit_c0 k)]⟩
theorem spec_l02Bit_es (k : Nat) : ∀ e ∈ ([] : List Ent), EntOK Try.prog tab mvs e := by
  intro e he
  simp at he
theorem spec_l02Bit_step0 (k : Nat) (R : Type) (K : Ex → St → Option R) (g : St → Option R) (p : (List Int) × Int × (List Int)) : evCode (spec_l02Bit_C k) (loopP [0] (0, codeOf Try.f84)).2 (loopP [0] (0, codeOf Try.f84)).1 (fSt spec_l02Bit_t0 (enc_lil p)) (loopK tab [0, 3, 5] [] [4] g K) = spec_l02Bit_w0 k R K (fun p => g (fSt spec_l02Bit_t0 (enc_lil p))) p := by
  kernel_rfl
theorem spec_l02Bit_lok0 (k : Nat) : LoopOK Try.prog tab (spec_l02Bit_C k).lo (loopP [0] (0, codeOf Try.f84)).1 (loopP [0] (0, codeOf Try.f84)).2 :=
  loopOK_of (C := spec_l02Bit_C k) tabOK eqTabOK (oraOf_ok (spec_l02Bit_es k)) (oraOf_nat (spec_l02Bit_es k)) follows (forall_getD _ 0 (0, Code.skip) (by kernel_rfl) fun i hi => by
      omega)
    (tm := spec_l02Bit_t0) (dec := dec_lil) (enc := enc_lil) (ksIn := [0, 3, 5]) (ksOut := []) (ksRet := [4]) (k := k) (step := spec_l02Bit_w0 k) dec_enc_lil (fun p => by kernel_rfl) (fun s R K => by kernel_rfl) (spec_l02Bit_step0 k)
def spec_l02Bit_e (k : Nat) : Ent := (84, callOf [.slv 43, .agg 43] dec_ll fun (p : (List Int) × (List Int)) R K => (spec_l02Bit k p.1 p.2).bind fun (b : Int) => K ((fV (.int .i64) (enc_i b)).1, none))
theorem spec_l02Bit_run (k : Nat) (p : (List Int) × (List Int)) : runF (spec_l02Bit_C k) Try.f84 false (fL [.slv 43, .agg 43] (enc_ll p)).1 (resK (.int .i64) dec_i) = spec_l02Bit k p.1 p.2 := by
  kernel_rfl
theorem spec_l02Bit_ok (k : Nat) : EntOK Try.prog tab mvs (spec_l02Bit_e k) :=
  fn_ok (C := spec_l02Bit_C k) tabOK eqTabOK (spec_l02Bit_es k) rfl follows Try.func84 (by kernel_rfl) (by kernel_rfl) rfl (forall_getD _ 1 (0, Code.skip) (by kernel_rfl) fun i hi => by
      match i, hi with
      | 0, _ => exact spec_l02Bit_lok0 k
      | n + 1, h => omega)
    dec_enc_ll dec_enc_i (spec_l02Bit_run k)

def spec_l02Next_C (k : Nat) : Cfg := ⟨tab, mvs, oraOf [], loOf []⟩
theorem spec_l02Next_es (k : Nat) : ∀ e ∈ ([] : List Ent), EntOK Try.prog tab mvs e := by
  intro e he
  simp at he
def spec_l02Next_e (k : Nat) : Ent := (85, callOf [.agg 43, .int .i64] dec_li fun (p : (List Int) × Int) R K => (spec_l02Next k p.1 p.2).bind fun (b : (List Int)) => K ((fV (.agg 43) (enc_l b)).1, none))
theorem spec_l02Next_run (k : Nat) (p : (List Int) × Int) : runF (spec_l02Next_C k) Try.f85 false (fL [.agg 43, .int .i64] (enc_li p)).1 (resK (.agg 43) dec_l) = spec_l02Next k p.1 p.2 := by
  kernel_rfl
theorem spec_l02Next_ok (k : Nat) : EntOK Try.prog tab mvs (spec_l02Next_e k) :=
  fn_ok (C := spec_l02Next_C k) tabOK eqTabOK (spec_l02Next_es k) rfl follows Try.func85 (by kernel_rfl) (by kernel_rfl) rfl (forall_getD _ 0 (0, Code.skip) (by kernel_rfl) fun i hi => by
      omega)
    dec_enc_li dec_enc_l (spec_l02Next_run k)

def spec_l02Free_C (k : Nat) : Cfg := ⟨tab, mvs, oraOf [spec_l01Is_e k, spec_l01Open_e k], loOf []⟩
theorem spec_l02Free_es (k : Nat) : ∀ e ∈ ([spec_l01Is_e k, spec_l01Open_e k] : List Ent), EntOK Try.prog tab mvs e := by
  intro e he
  simp only [List.mem_cons, List.not_mem_nil, or_false] at he
  rcases he with rfl | rfl
  · exact spec_l01Is_ok k
  · exact spec_l01Open_ok k
def spec_l02Free_e (k : Nat) : Ent := (86, callOf [.pvi (some 36) 0 36, .agg 43] dec_ll fun (p : (List Int) × (List Int)) R K => (spec_l02Free k p.1 p.2).bind fun (b : Bool) => K ((fV (.bool) (enc_b b)).1, none))
theorem spec_l02Free_run (k : Nat) (p : (List Int) × (List Int)) : runF (spec_l02Free_C k) Try.f86 false (fL [.pvi (some 36) 0 36, .agg 43] (enc_ll p)).1 (resK (.bool) dec_b) = spec_l02Free k p.1 p.2 := by
  kernel_rfl
theorem spec_l02Free_ok (k : Nat) : EntOK Try.prog tab mvs (spec_l02Free_e k) :=
  fn_ok (C := spec_l02Free_C k) tabOK eqTabOK (spec_l02Free_es k) rfl follows Try.func86 (by kernel_rfl) (by kernel_rfl) rfl (forall_getD _ 0 (0, Code.skip) (by kernel_rfl) fun i hi => by
      omega)
    dec_enc_ll dec_enc_b (spec_l02Free_run k)

def dec_iiillltiiis (ps : List Pay) : Option (Int × Int × Int × (List Int) × (List Int) × (List Int) × (List (List Int × ByteArray)) × Int × Int × Int × ByteArray) := match ps with
  | [.i x1, .i x2, .i x3, .l x4, .l x5, .l x6, .t x7, .i x8, .i x9, .i x10, .s x11] => some (x1, x2, x3, x4, x5, x6, x7, x8, x9, x10, x11)
  | _ => none
def enc_iiillltiiis (p : Int × Int × Int × (List Int) × (List Int) × (List Int) × (List (List Int × ByteArray)) × Int × Int × Int × ByteArray) : List Pay := [.i p.1, .i p.2.1, .i p.2.2.1, .l p.2.2.2.1, .l p.2.2.2.2.1, .l p.2.2.2.2.2.1, .t p.2.2.2.2.2.2.1, .i p.2.2.2.2.2.2.2.1, .i p.2.2.2.2.2.2.2.2.1, .i p.2.2.2.2.2.2.2.2.2.1, .s p.2.2.2.2.2.2.2.2.2.2]
theorem dec_enc_iiillltiiis : ∀ (ps : List Pay) (p : Int × Int × Int × (List Int) × (List Int) × (List Int) × (List (List Int × ByteArray)) × Int × Int × Int × ByteArray), dec_iiillltiiis ps = some p → ps = enc_iiillltiiis p := by
  intro ps p h
  unfold dec_iiillltiiis at h
  split at h
  · injection h with h
    subst h
    rfl
  · cases h

def dec_iilllt (ps : List Pay) : Option (Int × Int × (List Int) × (List Int) × (List Int) × (List (List Int × ByteArray))) := match ps with
  | [.i x1, .i x2, .l x3, .l x4, .l x5, .t x6] => some (x1, x2, x3, x4, x5, x6)
  | _ => none
def enc_iilllt (p : Int × Int × (List Int) × (List Int) × (List Int) × (List (List Int × ByteArray))) : List Pay := [.i p.1, .i p.2.1, .l p.2.2.1, .l p.2.2.2.1, .l p.2.2.2.2.1, .t p.2.2.2.2.2]
theorem dec_enc_iilllt : ∀ (ps : List Pay) (p : Int × Int × (List Int) × (List Int) × (List Int) × (List (List Int × ByteArray))), dec_iilllt ps = some p → ps = enc_iilllt p := by
  intro ps p h
  unfold dec_iilllt at h
  split at h
  · injection h with h
    subst h
    rfl
  · cases h

def dec_si (ps : List Pay) : Option (ByteArray × Int) := match ps with
  | [.s x1, .i x2] => some (x1, x2)
  | _ => none
def enc_si (p : ByteArray × Int) : List Pay := [.s p.1, .i p.2]
theorem dec_enc_si : ∀ (ps : List Pay) (p : ByteArray × Int), dec_si ps = some p → ps = enc_si p := by
  intro ps p h
  unfold dec_si at h
  split at h
  · injection h with h
    subst h
    rfl
  · cases h

def spec_ShortestWhole_t0 : StTm := ⟨108, [(2, .ptr 2 0 36), (7, .slw 7 43), (8, .int .i64), (9, .ptr 9 0 128), (11, .slw 11 131), (12, .int .i64), (13, .ptr 13 0 131), (14, .int .i64)], [(2, 36, true, .ints), (7, 43, false, .ints), (9, 128, true, .ints), (11, 131, false, .recs [.i .i8, .i .i8, .i .i64, .s]), (13, 131, true, .obj [.i .i8, .i .i8, .i .i64, .s])]⟩
def spec_ShortestWhole_t0_1 : StTm := ⟨108, [(2, .ptr 2 0 36), (7, .slw 7 43), (8, .int .i64), (9, .ptr 9 0 128), (11, .slw 11 131), (12, .int .i64)], [(2, 36, true, .ints), (7, 43, false, .ints), (9, 128, true, .ints), (11, 131, false, .recs [.i .i8, .i .i8, .i .i64, .s])]⟩
def spec_ShortestWhole_w0 (k : Nat) (R : Type) (K : Ex → St → Option R) (rec : Int × Int × Int × (List Int) × (List Int) × (List Int) × (List (List Int × ByteArray)) × Int × Int × Int × ByteArray → Option R) (p : Int × Int × Int × (List Int) × (List Int) × (List Int) × (List (List Int × ByteArray)) × Int × Int × Int × ByteArray) : Option R := spec_ShortestWhole_s0 k (fun y1 y2 y3 y4 y5 y6 => K (.exit 2) (fSt spec_ShortestWhole_t0_1 [.i y1, .i y2, .l y3, .l y4, .l y5, .t y6])) (fun h1 h2 h3 h4 h5 h6 h7 h8 h9 h10 h11 => rec (h1, h2, h3, h4, h5, h6, h7, h8, h9, h10, h11)) p.1 p.2.1 p.2.2.1 p.2.2.2.1 p.2.2.2.2.1 p.2.2.2.2.2.1 p.2.2.2.2.2.2.1 p.2.2.2.2.2.2.2.1 p.2.2.2.2.2.2.2.2.1 p.2.2.2.2.2.2.2.2.2.1 p.2.2.2.2.2.2.2.2.2.2
def spec_ShortestWhole_c0 (k : Nat) : Lcall := lcallOf tab spec_ShortestWhole_t0 dec_iiillltiiis [2, 7, 8, 9, 11, 12, 13, 14] k (spec_ShortestWhole_w0 k)
def spec_ShortestWhole_t1 : StTm := ⟨108, [(2, .ptr 2 0 36), (7, .slw 7 43), (8, .int .i64), (9, .ptr 9 0 128), (11, .slw 11 131), (12, .int .i64)], [(2, 36, true, .ints), (7, 43, false, .ints), (9, 128, true, .ints), (11, 131, false, .recs [.i .i8, .i .i8, .i .i64, .s])]⟩
def spec_ShortestWhole_t1_1 : StTm := ⟨108, [(4, .str), (5, .int .i64)], []⟩
def spec_ShortestWhole_t1_2 : StTm := ⟨108, [], []⟩
def spec_ShortestWhole_w1 (k : Nat) (R : Type) (K : Ex → St → Option R) (rec : Int × Int × (List Int) × (List Int) × (List Int) × (List (List Int × ByteArray)) → Option R) (p : Int × Int × (List Int) × (List Int) × (List Int) × (List (List Int × ByteArray))) : Option R := spec_ShortestWhole_s1 k (fun y1 y2 => K .ret (fSt spec_ShortestWhole_t1_1 [.s y1, .i y2])) (K (.exit 0) (fSt spec_ShortestWhole_t1_2 [])) (fun h1 h2 h3 h4 h5 h6 => rec (h1, h2, h3, h4, h5, h6)) p.1 p.2.1 p.2.2.1 p.2.2.2.1 p.2.2.2.2.1 p.2.2.2.2.2
def spec_ShortestWhole_c1 (k : Nat) : Lcall := lcallOf tab spec_ShortestWhole_t1 dec_iilllt [2, 7, 8, 9, 11, 12] k (spec_ShortestWhole_w1 k)
def spec_ShortestWhole_C (k : Nat) : Cfg := ⟨tab, mvs, oraOf [spec_l02Small_e k, spec_l01Cells_e k, spec_l02Bit_e k, spec_l02Next_e k, spec_l02Free_e k], loOf [(2, spec_ShortestWhole_c0 k), (0, spec_ShortestWhole_c1 k)]⟩
theorem spec_ShortestWhole_es (k : Nat) : ∀ e ∈ ([spec_l02Small_e k, spec_l01Cells_e k, spec_l02Bit_e k, spec_l02Next_e k, spec_l02Free_e k] : List Ent), EntOK Try.prog tab mvs e := by
  intro e he
  simp only [List.mem_cons, List.not_mem_nil, or_false] at he
  rcases he with rfl | rfl | rfl | rfl | rfl
  · exact spec_l02Small_ok k
  · exact spec_l01Cells_ok k
  · exact spec_l02Bit_ok k
  · exact spec_l02Next_ok k
  · exact spec_l02Free_ok k
theorem spec_ShortestWhole_step0 (k : Nat) (R : Type) (K : Ex → St → Option R) (g : St → Option R) (p : Int × Int × Int × (List Int) × (List Int) × (List Int) × (List (List Int × ByteArray)) × Int × Int × Int × ByteArray) : evCode (spec_ShortestWhole_C k) (loopP [0, 0] (0, codeOf Try.f35)).2 (loopP [0, 0] (0, codeOf Try.f35)).1 (fSt spec_ShortestWhole_t0 (enc_iiillltiiis p)) (loopK tab [2, 7, 8, 9, 11, 12, 13, 14] [2, 7, 8, 9, 11, 12] [4, 5] g K) = spec_ShortestWhole_w0 k R K (fun p => g (fSt spec_ShortestWhole_t0 (enc_iiillltiiis p))) p := by
  kernel_rfl
theorem spec_ShortestWhole_lok0 (k : Nat) : LoopOK Try.prog tab (spec_ShortestWhole_C k).lo (loopP [0, 0] (0, codeOf Try.f35)).1 (loopP [0, 0] (0, codeOf Try.f35)).2 :=
  loopOK_of (C := spec_ShortestWhole_C k) tabOK eqTabOK (oraOf_ok (spec_ShortestWhole_es k)) (oraOf_nat (spec_ShortestWhole_es k)) follows (forall_getD _ 0 (0, Code.skip) (by kernel_rfl) fun i hi => by
      omega)
    (tm := spec_ShortestWhole_t0) (dec := dec_iiillltiiis) (enc := enc_iiillltiiis) (ksIn := [2, 7, 8, 9, 11, 12, 13, 14]) (ksOut := [2, 7, 8, 9, 11, 12]) (ksRet := [4, 5]) (k := k) (step := spec_ShortestWhole_w0 k) dec_enc_iiillltiiis (fun p => by kernel_rfl) (fun s R K => by kernel_rfl) (spec_ShortestWhole_step0 k)
theorem spec_ShortestWhole_step1 (k : Nat) (R : Type) (K : Ex → St → Option R) (g : St → Option R) (p : Int × Int × (List Int) × (List Int) × (List Int) × (List (List Int × ByteArray))) : evCode (spec_ShortestWhole_C k) (loopP [0] (0, codeOf Try.f35)).2 (loopP [0] (0, codeOf Try.f35)).1 (fSt spec_ShortestWhole_t1 (enc_iilllt p)) (loopK tab [2, 7, 8, 9, 11, 12] [] [4, 5] g K) = spec_ShortestWhole_w1 k R K (fun p => g (fSt spec_ShortestWhole_t1 (enc_iilllt p))) p := by
  kernel_rfl
theorem spec_ShortestWhole_lok1 (k : Nat) : LoopOK Try.prog tab (spec_ShortestWhole_C k).lo (loopP [0] (0, codeOf Try.f35)).1 (loopP [0] (0, codeOf Try.f35)).2 :=
  loopOK_of (C := spec_ShortestWhole_C k) tabOK eqTabOK (oraOf_ok (spec_ShortestWhole_es k)) (oraOf_nat (spec_ShortestWhole_es k)) follows (forall_getD _ 1 (0, Code.skip) (by kernel_rfl) fun i hi => by
      match i, hi with
      | 0, _ => exact spec_ShortestWhole_lok0 k
      | n + 1, h => omega)
    (tm := spec_ShortestWhole_t1) (dec := dec_iilllt) (enc := enc_iilllt) (ksIn := [2, 7, 8, 9, 11, 12]) (ksOut := []) (ksRet := [4, 5]) (k := k) (step := spec_ShortestWhole_w1 k) dec_enc_iilllt (fun p => by kernel_rfl) (fun s R K => by kernel_rfl) (spec_ShortestWhole_step1 k)
def spec_ShortestWhole_e (k : Nat) : Ent := (35, callOf [.agg 36, .agg 43] dec_ll fun (p : (List Int) × (List Int)) R K => (spec_ShortestWhole k p.1 p.2).bind fun (b : ByteArray × Int) => K ((fV (.tup [.str, .int .i64]) (enc_si b)).1, none))
theorem spec_ShortestWhole_run (k : Nat) (p : (List Int) × (List Int)) : runF (spec_ShortestWhole_C k) Try.f35 false (fL [.agg 36, .agg 43] (enc_ll p)).1 (resK (.tup [.str, .int .i64]) dec_si) = spec_ShortestWhole k p.1 p.2 := by
  kernel_rfl
theorem spec_ShortestWhole_ok (k : Nat) : EntOK Try.prog tab mvs (spec_ShortestWhole_e k) :=
  fn_ok (C := spec_ShortestWhole_C k) tabOK eqTabOK (spec_ShortestWhole_es k) rfl follows Try.func35 (by kernel_rfl) (by kernel_rfl) rfl (forall_getD _ 1 (0, Code.skip) (by kernel_rfl) fun i hi => by
      match i, hi with
      | 0, _ => exact spec_ShortestWhole_lok1 k
      | n + 1, h => omega)
    dec_enc_ll dec_enc_si (spec_ShortestWhole_run k)

def impl_within_C (k : Nat) : Cfg := ⟨tab, mvs, oraOf [], loOf []⟩
theorem impl_within_es (k : Nat) : ∀ e ∈ ([] : List Ent), EntOK Try.prog tab mvs e := by
  intro e he
  simp at he
def impl_within_e (k : Nat) : Ent := (49, callOf [.int .i64, .int .i64, .int .i64] dec_iii fun (p : Int × Int × Int) R K => (impl_within k p.1 p.2.1 p.2.2).bind fun (b : Bool) => K ((fV (.bool) (enc_b b)).1, none))
theorem impl_within_run (k : Nat) (p : Int × Int × Int) : runF (impl_within_C k) Try.f49 false (fL [.int .i64, .int .i64, .int .i64] (enc_iii p)).1 (resK (.bool) dec_b) = impl_within k p.1 p.2.1 p.2.2 := by
  kernel_rfl
theorem impl_within_ok (k : Nat) : EntOK Try.prog tab mvs (impl_within_e k) :=
  fn_ok (C := impl_within_C k) tabOK eqTabOK (impl_within_es k) rfl follows Try.func49 (by kernel_rfl) (by kernel_rfl) rfl (forall_getD _ 0 (0, Code.skip) (by kernel_rfl) fun i hi => by
      omega)
    dec_enc_iii dec_enc_b (impl_within_run k)

def impl_Lawn_has_C (k : Nat) : Cfg := ⟨tab, mvs, oraOf [], loOf []⟩
theorem impl_Lawn_has_es (k : Nat) : ∀ e ∈ ([] : List Ent), EntOK Try.prog tab mvs e := by
  intro e he
  simp at he
def impl_Lawn_has_e (k : Nat) : Ent := (103, callOf [.agg 36, .agg 43] dec_ll fun (p : (List Int) × (List Int)) R K => (impl_Lawn_has k p.1 p.2).bind fun (b : Bool) => K ((fV (.bool) (enc_b b)).1, none))
theorem impl_Lawn_has_run (k : Nat) (p : (List Int) × (List Int)) : runF (impl_Lawn_has_C k) Try.f103 false (fL [.agg 36, .agg 43] (enc_ll p)).1 (resK (.bool) dec_b) = impl_Lawn_has k p.1 p.2 := by
  kernel_rfl
theorem impl_Lawn_has_ok (k : Nat) : EntOK Try.prog tab mvs (impl_Lawn_has_e k) :=
  fn_ok (C := impl_Lawn_has_C k) tabOK eqTabOK (impl_Lawn_has_es k) rfl follows Try.func103 (by kernel_rfl) (by kernel_rfl) rfl (forall_getD _ 0 (0, Code.skip) (by kernel_rfl) fun i hi => by
      omega)
    dec_enc_ll dec_enc_b (impl_Lawn_has_run k)

def dec_iiil (ps : List Pay) : Option (Int × Int × Int × (List Int)) := match ps with
  | [.i x1, .i x2, .i x3, .l x4] => some (x1, x2, x3, x4)
  | _ => none
def enc_iiil (p : Int × Int × Int × (List Int)) : List Pay := [.i p.1, .i p.2.1, .i p.2.2.1, .l p.2.2.2]
theorem dec_enc_iiil : ∀ (ps : List Pay) (p : Int × Int × Int × (List Int)), dec_iiil ps = some p → ps = enc_iiil p := by
  intro ps p h
  unfold dec_iiil at h
  split at h
  · injection h with h
    subst h
    rfl
  · cases h

def dec_il (ps : List Pay) : Option (Int × (List Int)) := match ps with
  | [.i x1, .l x2] => some (x1, x2)
  | _ => none
def enc_il (p : Int × (List Int)) : List Pay := [.i p.1, .l p.2]
theorem dec_enc_il : ∀ (ps : List Pay) (p : Int × (List Int)), dec_il ps = some p → ps = enc_il p := by
  intro ps p h
  unfold dec_il at h
  split at h
  · injection h with h
    subst h
    rfl
  · cases h

def impl_ValidLawn_t0 : StTm := ⟨46, [(1, .ptr 1 0 36), (3, .int .i8), (18, .int .i8), (21, .int .i8)], [(1, 36, true, .ints)]⟩
def impl_ValidLawn_t0_1 : StTm := ⟨46, [(2, .bool)], []⟩
def impl_ValidLawn_t0_2 : StTm := ⟨46, [(1, .ptr 1 0 36), (18, .int .i8)], [(1, 36, true, .ints)]⟩
def impl_ValidLawn_w0 (k : Nat) (R : Type) (K : Ex → St → Option R) (rec : Int × Int × Int × (List Int) → Option R) (p : Int × Int × Int × (List Int)) : Option R := impl_ValidLawn_s0 k (fun y1 => K .ret (fSt impl_ValidLawn_t0_1 [.b y1])) (fun y1 y2 => K (.exit 2) (fSt impl_ValidLawn_t0_2 [.i y1, .l y2])) (fun h1 h2 h3 h4 => rec (h1, h2, h3, h4)) p.1 p.2.1 p.2.2.1 p.2.2.2
def impl_ValidLawn_c0 (k : Nat) : Lcall := lcallOf tab impl_ValidLawn_t0 dec_iiil [1, 3, 18, 21] k (impl_ValidLawn_w0 k)
def impl_ValidLawn_t1 : StTm := ⟨46, [(1, .ptr 1 0 36), (18, .int .i8)], [(1, 36, true, .ints)]⟩
def impl_ValidLawn_t1_1 : StTm := ⟨46, [(2, .bool)], []⟩
def impl_ValidLawn_t1_2 : StTm := ⟨46, [], []⟩
def impl_ValidLawn_w1 (k : Nat) (R : Type) (K : Ex → St → Option R) (rec : Int × (List Int) → Option R) (p : Int × (List Int)) : Option R := impl_ValidLawn_s1 k (fun y1 => K .ret (fSt impl_ValidLawn_t1_1 [.b y1])) (K (.exit 0) (fSt impl_ValidLawn_t1_2 [])) (fun h1 h2 => rec (h1, h2)) p.1 p.2
def impl_ValidLawn_c1 (k : Nat) : Lcall := lcallOf tab impl_ValidLawn_t1 dec_il [1, 18] k (impl_ValidLawn_w1 k)
def impl_ValidLawn_C (k : Nat) : Cfg := ⟨tab, mvs, oraOf [impl_within_e k, impl_Lawn_has_e k], loOf [(2, impl_ValidLawn_c0 k), (0, impl_ValidLawn_c1 k)]⟩
theorem impl_ValidLawn_es (k : Nat) : ∀ e ∈ ([impl_within_e k, impl_Lawn_has_e k] : List Ent), EntOK Try.prog tab mvs e := by
  intro e he
  simp only [List.mem_cons, List.not_mem_nil, or_false] at he
  rcases he with rfl | rfl
  · exact impl_within_ok k
  · exact impl_Lawn_has_ok k
theorem impl_ValidLawn_step0 (k : Nat) (R : Type) (K : Ex → St → Option R) (g : St → Option R) (p : Int × Int × Int × (List Int)) : evCode (impl_ValidLawn_C k) (loopP [0, 0] (0, codeOf Try.f69)).2 (loopP [0, 0] (0, codeOf Try.f69)).1 (fSt impl_ValidLawn_t0 (enc_iiil p)) (loopK tab [1, 3, 18, 21] [1, 18] [2] g K) = impl_ValidLawn_w0 k R K (fun p => g (fSt impl_ValidLawn_t0 (enc_iiil p))) p := by
  kernel_rfl
theorem impl_ValidLawn_lok0 (k : Nat) : LoopOK Try.prog tab (impl_ValidLawn_C k).lo (loopP [0, 0] (0, codeOf Try.f69)).1 (loopP [0, 0] (0, codeOf Try.f69)).2 :=
  loopOK_of (C := impl_ValidLawn_C k) tabOK eqTabOK (oraOf_ok (impl_ValidLawn_es k)) (oraOf_nat (impl_ValidLawn_es k)) follows (forall_getD _ 0 (0, Code.skip) (by kernel_rfl) fun i hi => by
      omega)
    (tm := impl_ValidLawn_t0) (dec := dec_iiil) (enc := enc_iiil) (ksIn := [1, 3, 18, 21]) (ksOut := [1, 18]) (ksRet := [2]) (k := k) (step := impl_ValidLawn_w0 k) dec_enc_iiil (fun p => by kernel_rfl) (fun s R K => by kernel_rfl) (impl_ValidLawn_step0 k)
theorem impl_ValidLawn_step1 (k : Nat) (R : Type) (K : Ex → St → Option R) (g : St → Option R) (p : Int × (List Int)) : evCode (impl_ValidLawn_C k) (loopP [0] (0, codeOf Try.f69)).2 (loopP [0] (0, codeOf Try.f69)).1 (fSt impl_ValidLawn_t1 (enc_il p)) (loopK tab [1, 18] [] [2] g K) = impl_ValidLawn_w1 k R K (fun p => g (fSt impl_ValidLawn_t1 (enc_il p))) p := by
  kernel_rfl
theorem impl_ValidLawn_lok1 (k : Nat) : LoopOK Try.prog tab (impl_ValidLawn_C k).lo (loopP [0] (0, codeOf Try.f69)).1 (loopP [0] (0, codeOf Try.f69)).2 :=
  loopOK_of (C := impl_ValidLawn_C k) tabOK eqTabOK (oraOf_ok (impl_ValidLawn_es k)) (oraOf_nat (impl_ValidLawn_es k)) follows (forall_getD _ 1 (0, Code.skip) (by kernel_rfl) fun i hi => by
      match i, hi with
      | 0, _ => exact impl_ValidLawn_lok0 k
      | n + 1, h => omega)
    (tm := impl_ValidLawn_t1) (dec := dec_il) (enc := enc_il) (ksIn := [1, 18]) (ksOut := []) (ksRet := [2]) (k := k) (step := impl_ValidLawn_w1 k) dec_enc_il (fun p => by kernel_rfl) (fun s R K => by kernel_rfl) (impl_ValidLawn_step1 k)
def impl_ValidLawn_e (k : Nat) : Ent := (69, callOf [.agg 36] dec_l fun (p : (List Int)) R K => (impl_ValidLawn k p).bind fun (b : Bool) => K ((fV (.bool) (enc_b b)).1, none))
theorem impl_ValidLawn_run (k : Nat) (p : (List Int)) : runF (impl_ValidLawn_C k) Try.f69 false (fL [.agg 36] (enc_l p)).1 (resK (.bool) dec_b) = impl_ValidLawn k p := by
  kernel_rfl
theorem impl_ValidLawn_ok (k : Nat) : EntOK Try.prog tab mvs (impl_ValidLawn_e k) :=
  fn_ok (C := impl_ValidLawn_C k) tabOK eqTabOK (impl_ValidLawn_es k) rfl follows Try.func69 (by kernel_rfl) (by kernel_rfl) rfl (forall_getD _ 1 (0, Code.skip) (by kernel_rfl) fun i hi => by
      match i, hi with
      | 0, _ => exact impl_ValidLawn_lok1 k
      | n + 1, h => omega)
    dec_enc_l dec_enc_b (impl_ValidLawn_run k)

def impl_cellsCode_1_C (k : Nat) : Cfg := ⟨tab, mvs, oraOf [impl_Lawn_has_e k], loOf []⟩
theorem impl_cellsCode_1_es (k : Nat) : ∀ e ∈ ([impl_Lawn_has_e k] : List Ent), EntOK Try.prog tab mvs e := by
  intro e he
  simp only [List.mem_cons, List.not_mem_nil, or_false] at he
  rcases he with rfl
  · exact impl_Lawn_has_ok k
def impl_cellsCode_1_e (k : Nat) : Ent := (102, callOf [.agg 43, .pvi (some 36) 0 36] dec_ll fun (p : (List Int) × (List Int)) R K => (impl_cellsCode_1 k p.1 p.2).bind fun (b : Bool) => K ((fV (.bool) (enc_b b)).1, none))
theorem impl_cellsCode_1_run (k : Nat) (p : (List Int) × (List Int)) : runF (impl_cellsCode_1_C k) Try.f102 false (fL [.agg 43, .pvi (some 36) 0 36] (enc_ll p)).1 (resK (.bool) dec_b) = impl_cellsCode_1 k p.1 p.2 := by
  kernel_rfl
theorem impl_cellsCode_1_ok (k : Nat) : EntOK Try.prog tab mvs (impl_cellsCode_1_e k) :=
  fn_ok (C := impl_cellsCode_1_C k) tabOK eqTabOK (impl_cellsCode_1_es k) rfl follows Try.func102 (by kernel_rfl) (by kernel_rfl) rfl (forall_getD _ 0 (0, Code.skip) (by kernel_rfl) fun i hi => by
      omega)
    dec_enc_ll dec_enc_b (impl_cellsCode_1_run k)

def dec_lgii (ps : List Pay) : Option ((List Int) × (List Int → Option Bool) × Int × Int) := match ps with
  | [.l x1, .g x2, .i x3, .i x4] => some (x1, x2, x3, x4)
  | _ => none
def enc_lgii (p : (List Int) × (List Int → Option Bool) × Int × Int) : List Pay := [.l p.1, .g p.2.1, .i p.2.2.1, .i p.2.2.2]
theorem dec_enc_lgii : ∀ (ps : List Pay) (p : (List Int) × (List Int → Option Bool) × Int × Int), dec_lgii ps = some p → ps = enc_lgii p := by
  intro ps p h
  unfold dec_lgii at h
  split at h
  · injection h with h
    subst h
    rfl
  · cases h

def dec_lg (ps : List Pay) : Option ((List Int) × (List Int → Option Bool)) := match ps with
  | [.l x1, .g x2] => some (x1, x2)
  | _ => none
def enc_lg (p : (List Int) × (List Int → Option Bool)) : List Pay := [.l p.1, .g p.2]
theorem dec_enc_lg : ∀ (ps : List Pay) (p : (List Int) × (List Int → Option Bool)), dec_lg ps = some p → ps = enc_lg p := by
  intro ps p h
  unfold dec_lg at h
  split at h
  · injection h with h
    subst h
    rfl
  · cases h

def slices_IndexFunc_impl_Cell_t0 : StTm := ⟨19, [(0, .slv 43), (1, .cloB 43), (7, .int .i64), (8, .int .i64)], []⟩
def slices_IndexFunc_impl_Cell_t0_1 : StTm := ⟨19, [(4, .int .i64)], []⟩
def slices_IndexFunc_impl_Cell_t0_2 : StTm := ⟨19, [], []⟩
def slices_IndexFunc_impl_Cell_w0 (k : Nat) (R : Type) (K : Ex → St → Option R) (rec : (List Int) × (List Int → Option Bool) × Int × Int → Option R) (p : (List Int) × (List Int → Option Bool) × Int × Int) : Option R := slices_IndexFunc_impl_Cell_s0 k (fun y1 => K .ret (fSt slices_IndexFunc_impl_Cell_t0_1 [.i y1])) (K (.exit 0) (fSt slices_IndexFunc_impl_Cell_t0_2 [])) (fun h1 h2 h3 h4 => rec (h1, h2, h3, h4)) p.1 p.2.1 p.2.2.1 p.2.2.2
def slices_IndexFunc_impl_Cell_c0 (k : Nat) : Lcall := lcallOf tab slices_IndexFunc_impl_Cell_t0 dec_lgii [0, 1, 7, 8] k (slices_IndexFunc_impl_Cell_w0 k)
def slices_IndexFunc_impl_Cell_C (k : Nat) : Cfg := ⟨tab, mvs, oraOf [], loOf [(0, slices_IndexFunc_impl_Cell_c0 k)]⟩
theorem slices_IndexFunc_impl_Cell_es (k : Nat) : ∀ e ∈ ([] : List Ent), EntOK Try.prog tab mvs e := by
  intro e he
  simp at he
theorem slices_IndexFunc_impl_Cell_step0 (k : Nat) (R : Type) (K : Ex → St → Option R) (g : St → Option R) (p : (List Int) × (List Int → Option Bool) × Int × Int) : evCode (slices_IndexFunc_impl_Cell_C k) (loopP [0] (0, codeOf Try.f115)).2 (loopP [0] (0, codeOf Try.f115)).1 (fSt slices_IndexFunc_impl_Cell_t0 (enc_lgii p)) (loopK tab [0, 1, 7, 8] [] [4] g K) = slices_IndexFunc_impl_Cell_w0 k R K (fun p => g (fSt slices_IndexFunc_impl_Cell_t0 (enc_lgii p))) p := by
  kernel_rfl
theorem slices_IndexFunc_impl_Cell_lok0 (k : Nat) : LoopOK Try.prog tab (slices_IndexFunc_impl_Cell_C k).lo (loopP [0] (0, codeOf Try.f115)).1 (loopP [0] (0, codeOf Try.f115)).2 :=
  loopOK_of (C := slices_IndexFunc_impl_Cell_C k) tabOK eqTabOK (oraOf_ok (slices_IndexFunc_impl_Cell_es k)) (oraOf_nat (slices_IndexFunc_impl_Cell_es k)) follows (forall_getD _ 0 (0, Code.skip) (by kernel_rfl) fun i hi => by
      omega)
    (tm := slices_IndexFunc_impl_Cell_t0) (dec := dec_lgii) (enc := enc_lgii) (ksIn := [0, 1, 7, 8]) (ksOut := []) (ksRet := [4]) (k := k) (step := slices_IndexFunc_impl_Cell_w0 k) dec_enc_lgii (fun p => by kernel_rfl) (fun s R K => by kernel_rfl) (slices_IndexFunc_impl_Cell_step0 k)
def slices_IndexFunc_impl_Cell_e (k : Nat) : Ent := (115, callOf [.slv 43, .cloB 43] dec_lg fun (p : (List Int) × (List Int → Option Bool)) R K => (slices_IndexFunc_impl_Cell k p.1 p.2).bind fun (b : Int) => K ((fV (.int .i64) (enc_i b)).1, none))
theorem slices_IndexFunc_impl_Cell_run (k : Nat) (p : (List Int) × (List Int → Option Bool)) : runF (slices_IndexFunc_impl_Cell_C k) Try.f115 false (fL [.slv 43, .cloB 43] (enc_lg p)).1 (resK (.int .i64) dec_i) = slices_IndexFunc_impl_Cell k p.1 p.2 := by
  kernel_rfl
theorem slices_IndexFunc_impl_Cell_ok (k : Nat) : EntOK Try.prog tab mvs (slices_IndexFunc_impl_Cell_e k) :=
  fn_ok (C := slices_IndexFunc_impl_Cell_C k) tabOK eqTabOK (slices_IndexFunc_impl_Cell_es k) rfl follows Try.func115 (by kernel_rfl) (by kernel_rfl) rfl (forall_getD _ 1 (0, Code.skip) (by kernel_rfl) fun i hi => by
      match i, hi with
      | 0, _ => exact slices_IndexFunc_impl_Cell_lok0 k
      | n + 1, h => omega)
    dec_enc_lg dec_enc_i (slices_IndexFunc_impl_Cell_run k)

def slices_ContainsFunc_impl_Cell_C (k : Nat) : Cfg := ⟨tab, mvs, oraOf [slices_IndexFunc_impl_Cell_e k], loOf []⟩
theorem slices_ContainsFunc_impl_Cell_es (k : Nat) : ∀ e ∈ ([slices_IndexFunc_impl_Cell_e k] : List Ent), EntOK Try.prog tab mvs e := by
  intro e he
  simp only [List.mem_cons, List.not_mem_nil, or_false] at he
  rcases he with rfl
  · exact slices_IndexFunc_impl_Cell_ok k
def slices_ContainsFunc_impl_Cell_e (k : Nat) : Ent := (74, callOf [.slv 43, .cloB 43] dec_lg fun (p : (List Int) × (List Int → Option Bool)) R K => (slices_ContainsFunc_impl_Cell k p.1 p.2).bind fun (b : Bool) => K ((fV (.bool) (enc_b b)).1, none))
theorem slices_ContainsFunc_impl_Cell_run (k : Nat) (p : (List Int) × (List Int → Option Bool)) : runF (slices_ContainsFunc_impl_Cell_C k) Try.f74 false (fL [.slv 43, .cloB 43] (enc_lg p)).1 (resK (.bool) dec_b) = slices_ContainsFunc_impl_Cell k p.1 p.2 := by
  kernel_rfl
theorem slices_ContainsFunc_impl_Cell_ok (k : Nat) : EntOK Try.prog tab mvs (slices_ContainsFunc_impl_Cell_e k) :=
  fn_ok (C := slices_ContainsFunc_impl_Cell_C k) tabOK eqTabOK (slices_ContainsFunc_impl_Cell_es k) rfl follows Try.func74 (by kernel_rfl) (by kernel_rfl) rfl (forall_getD _ 0 (0, Code.skip) (by kernel_rfl) fun i hi => by
      omega)
    dec_enc_lg dec_enc_b (slices_ContainsFunc_impl_Cell_run k)

def impl_cellsCode_C (k : Nat) : Cfg := ⟨tab, mvs, oraOf [impl_ValidLawn_e k, impl_cellsCode_1_e k, slices_ContainsFunc_impl_Cell_e k], loOf []⟩
theorem impl_cellsCode_es (k : Nat) : ∀ e ∈ ([impl_ValidLawn_e k, impl_cellsCode_1_e k, slices_ContainsFunc_impl_Cell_e k] : List Ent), EntOK Try.prog tab mvs e := by
  intro e he
  simp only [List.mem_cons, List.not_mem_nil, or_false] at he
  rcases he with rfl | rfl | rfl
  · exact impl_ValidLawn_ok k
  · exact impl_cellsCode_1_ok k
  · exact slices_ContainsFunc_impl_Cell_ok k
def impl_cellsCode_e (k : Nat) : Ent := (55, callOf [.agg 36, .slv 43] dec_ll fun (p : (List Int) × (List Int)) R K => (impl_cellsCode k p.1 p.2).bind fun (b : Int) => K ((fV (.int .i64) (enc_i b)).1, none))
theorem impl_cellsCode_run (k : Nat) (p : (List Int) × (List Int)) : runF (impl_cellsCode_C k) Try.f55 false (fL [.agg 36, .slv 43] (enc_ll p)).1 (resK (.int .i64) dec_i) = impl_cellsCode k p.1 p.2 := by
  kernel_rfl
theorem impl_cellsCode_ok (k : Nat) : EntOK Try.prog tab mvs (impl_cellsCode_e k) :=
  fn_ok (C := impl_cellsCode_C k) tabOK eqTabOK (impl_cellsCode_es k) rfl follows Try.func55 (by kernel_rfl) (by kernel_rfl) rfl (forall_getD _ 0 (0, Code.skip) (by kernel_rfl) fun i hi => by
      omega)
    dec_enc_ll dec_enc_i (impl_cellsCode_run k)

def impl_Lawn_kind_C (k : Nat) : Cfg := ⟨tab, mvs, oraOf [], loOf []⟩
theorem impl_Lawn_kind_es (k : Nat) : ∀ e ∈ ([] : List Ent), EntOK Try.prog tab mvs e := by
  intro e he
  simp at he
def impl_Lawn_kind_e (k : Nat) : Ent := (62, callOf [.agg 36, .agg 43] dec_ll fun (p : (List Int) × (List Int)) R K => (impl_Lawn_kind k p.1 p.2).bind fun (b : Int) => K ((fV (.int .i64) (enc_i b)).1, none))
theorem impl_Lawn_kind_run (k : Nat) (p : (List Int) × (List Int)) : runF (impl_Lawn_kind_C k) Try.f62 false (fL [.agg 36, .agg 43] (enc_ll p)).1 (resK (.int .i64) dec_i) = impl_Lawn_kind k p.1 p.2 := by
  kernel_rfl
theorem impl_Lawn_kind_ok (k : Nat) : EntOK Try.prog tab mvs (impl_Lawn_kind_e k) :=
  fn_ok (C := impl_Lawn_kind_C k) tabOK eqTabOK (impl_Lawn_kind_es k) rfl follows Try.func62 (by kernel_rfl) (by kernel_rfl) rfl (forall_getD _ 0 (0, Code.skip) (by kernel_rfl) fun i hi => by
      omega)
    dec_enc_ll dec_enc_i (impl_Lawn_kind_run k)

def dec_lli (ps : List Pay) : Option ((List Int) × (List Int) × Int) := match ps with
  | [.l x1, .l x2, .i x3] => some (x1, x2, x3)
  | _ => none
def enc_lli (p : (List Int) × (List Int) × Int) : List Pay := [.l p.1, .l p.2.1, .i p.2.2]
theorem dec_enc_lli : ∀ (ps : List Pay) (p : (List Int) × (List Int) × Int), dec_lli ps = some p → ps = enc_lli p := by
  intro ps p h
  unfold dec_lli at h
  split at h
  · injection h with h
    subst h
    rfl
  · cases h

def impl_Lawn_is_C (k : Nat) : Cfg := ⟨tab, mvs, oraOf [impl_Lawn_has_e k, impl_Lawn_kind_e k], loOf []⟩
theorem impl_Lawn_is_es (k : Nat) : ∀ e ∈ ([impl_Lawn_has_e k, impl_Lawn_kind_e k] : List Ent), EntOK Try.prog tab mvs e := by
  intro e he
  simp only [List.mem_cons, List.not_mem_nil, or_false] at he
  rcases he with rfl | rfl
  · exact impl_Lawn_has_ok k
  · exact impl_Lawn_kind_ok k
def impl_Lawn_is_e (k : Nat) : Ent := (110, callOf [.agg 36, .agg 43, .int .i64] dec_lli fun (p : (List Int) × (List Int) × Int) R K => (impl_Lawn_is k p.1 p.2.1 p.2.2).bind fun (b : Bool) => K ((fV (.bool) (enc_b b)).1, none))
theorem impl_Lawn_is_run (k : Nat) (p : (List Int) × (List Int) × Int) : runF (impl_Lawn_is_C k) Try.f110 false (fL [.agg 36, .agg 43, .int .i64] (enc_lli p)).1 (resK (.bool) dec_b) = impl_Lawn_is k p.1 p.2.1 p.2.2 := by
  kernel_rfl
theorem impl_Lawn_is_ok (k : Nat) : EntOK Try.prog tab mvs (impl_Lawn_is_e k) :=
  fn_ok (C := impl_Lawn_is_C k) tabOK eqTabOK (impl_Lawn_is_es k) rfl follows Try.func110 (by kernel_rfl) (by kernel_rfl) rfl (forall_getD _ 0 (0, Code.skip) (by kernel_rfl) fun i hi => by
      omega)
    dec_enc_lli dec_enc_b (impl_Lawn_is_run k)

def impl_Lawn_open_C (k : Nat) : Cfg := ⟨tab, mvs, oraOf [impl_Lawn_is_e k], loOf []⟩
theorem impl_Lawn_open_es (k : Nat) : ∀ e ∈ ([impl_Lawn_is_e k] : List Ent), EntOK Try.prog tab mvs e := by
  intro e he
  simp only [List.mem_cons, List.not_mem_nil, or_false] at he
  rcases he with rfl
  · exact impl_Lawn_is_ok k
def impl_Lawn_open_e (k : Nat) : Ent := (127, callOf [.agg 36, .agg 43] dec_ll fun (p : (List Int) × (List Int)) R K => (impl_Lawn_open k p.1 p.2).bind fun (b : Bool) => K ((fV (.bool) (enc_b b)).1, none))
theorem impl_Lawn_open_run (k : Nat) (p : (List Int) × (List Int)) : runF (impl_Lawn_open_C k) Try.f127 false (fL [.agg 36, .agg 43] (enc_ll p)).1 (resK (.bool) dec_b) = impl_Lawn_open k p.1 p.2 := by
  kernel_rfl
theorem impl_Lawn_open_ok (k : Nat) : EntOK Try.prog tab mvs (impl_Lawn_open_e k) :=
  fn_ok (C := impl_Lawn_open_C k) tabOK eqTabOK (impl_Lawn_open_es k) rfl follows Try.func127 (by kernel_rfl) (by kernel_rfl) rfl (forall_getD _ 0 (0, Code.skip) (by kernel_rfl) fun i hi => by
      omega)
    dec_enc_ll dec_enc_b (impl_Lawn_open_run k)

def impl_openCode_1_C (k : Nat) : Cfg := ⟨tab, mvs, oraOf [impl_Lawn_open_e k], loOf []⟩
theorem impl_openCode_1_es (k : Nat) : ∀ e ∈ ([impl_Lawn_open_e k] : List Ent), EntOK Try.prog tab mvs e := by
  intro e he
  simp only [List.mem_cons, List.not_mem_nil, or_false] at he
  rcases he with rfl
  · exact impl_Lawn_open_ok k
def impl_openCode_1_e (k : Nat) : Ent := (143, callOf [.agg 43, .pvi (some 36) 0 36] dec_ll fun (p : (List Int) × (List Int)) R K => (impl_openCode_1 k p.1 p.2).bind fun (b : Bool) => K ((fV (.bool) (enc_b b)).1, none))
theorem impl_openCode_1_run (k : Nat) (p : (List Int) × (List Int)) : runF (impl_openCode_1_C k) Try.f143 false (fL [.agg 43, .pvi (some 36) 0 36] (enc_ll p)).1 (resK (.bool) dec_b) = impl_openCode_1 k p.1 p.2 := by
  kernel_rfl
theorem impl_openCode_1_ok (k : Nat) : EntOK Try.prog tab mvs (impl_openCode_1_e k) :=
  fn_ok (C := impl_openCode_1_C k) tabOK eqTabOK (impl_openCode_1_es k) rfl follows Try.func143 (by kernel_rfl) (by kernel_rfl) rfl (forall_getD _ 0 (0, Code.skip) (by kernel_rfl) fun i hi => by
      omega)
    dec_enc_ll dec_enc_b (impl_openCode_1_run k)

def impl_openCode_C (k : Nat) : Cfg := ⟨tab, mvs, oraOf [impl_cellsCode_e k, impl_openCode_1_e k, slices_ContainsFunc_impl_Cell_e k], loOf []⟩
theorem impl_openCode_es (k : Nat) : ∀ e ∈ ([impl_cellsCode_e k, impl_openCode_1_e k, slices_ContainsFunc_impl_Cell_e k] : List Ent), EntOK Try.prog tab mvs e := by
  intro e he
  simp only [List.mem_cons, List.not_mem_nil, or_false] at he
  rcases he with rfl | rfl | rfl
  · exact impl_cellsCode_ok k
  · exact impl_openCode_1_ok k
  · exact slices_ContainsFunc_impl_Cell_ok k
def impl_openCode_e (k : Nat) : Ent := (126, callOf [.agg 36, .slv 43] dec_ll fun (p : (List Int) × (List Int)) R K => (impl_openCode k p.1 p.2).bind fun (b : Int) => K ((fV (.int .i64) (enc_i b)).1, none))
theorem impl_openCode_run (k : Nat) (p : (List Int) × (List Int)) : runF (impl_openCode_C k) Try.f126 false (fL [.agg 36, .slv 43] (enc_ll p)).1 (resK (.int .i64) dec_i) = impl_openCode k p.1 p.2 := by
  kernel_rfl
theorem impl_openCode_ok (k : Nat) : EntOK Try.prog tab mvs (impl_openCode_e k) :=
  fn_ok (C := impl_openCode_C k) tabOK eqTabOK (impl_openCode_es k) rfl follows Try.func126 (by kernel_rfl) (by kernel_rfl) rfl (forall_getD _ 0 (0, Code.skip) (by kernel_rfl) fun i hi => by
      omega)
    dec_enc_ll dec_enc_i (impl_openCode_run k)

def impl_Lawn_grass_C (k : Nat) : Cfg := ⟨tab, mvs, oraOf [impl_Lawn_is_e k], loOf []⟩
theorem impl_Lawn_grass_es (k : Nat) : ∀ e ∈ ([impl_Lawn_is_e k] : List Ent), EntOK Try.prog tab mvs e := by
  intro e he
  simp only [List.mem_cons, List.not_mem_nil, or_false] at he
  rcases he with rfl
  · exact impl_Lawn_is_ok k
def impl_Lawn_grass_e (k : Nat) : Ent := (63, callOf [.agg 36, .agg 43] dec_ll fun (p : (List Int) × (List Int)) R K => (impl_Lawn_grass k p.1 p.2).bind fun (b : Bool) => K ((fV (.bool) (enc_b b)).1, none))
theorem impl_Lawn_grass_run (k : Nat) (p : (List Int) × (List Int)) : runF (impl_Lawn_grass_C k) Try.f63 false (fL [.agg 36, .agg 43] (enc_ll p)).1 (resK (.bool) dec_b) = impl_Lawn_grass k p.1 p.2 := by
  kernel_rfl
theorem impl_Lawn_grass_ok (k : Nat) : EntOK Try.prog tab mvs (impl_Lawn_grass_e k) :=
  fn_ok (C := impl_Lawn_grass_C k) tabOK eqTabOK (impl_Lawn_grass_es k) rfl follows Try.func63 (by kernel_rfl) (by kernel_rfl) rfl (forall_getD _ 0 (0, Code.skip) (by kernel_rfl) fun i hi => by
      omega)
    dec_enc_ll dec_enc_b (impl_Lawn_grass_run k)

def dec_iiiiill (ps : List Pay) : Option (Int × Int × Int × Int × Int × (List Int) × (List Int)) := match ps with
  | [.i x1, .i x2, .i x3, .i x4, .i x5, .l x6, .l x7] => some (x1, x2, x3, x4, x5, x6, x7)
  | _ => none
def enc_iiiiill (p : Int × Int × Int × Int × Int × (List Int) × (List Int)) : List Pay := [.i p.1, .i p.2.1, .i p.2.2.1, .i p.2.2.2.1, .i p.2.2.2.2.1, .l p.2.2.2.2.2.1, .l p.2.2.2.2.2.2]
theorem dec_enc_iiiiill : ∀ (ps : List Pay) (p : Int × Int × Int × Int × Int × (List Int) × (List Int)), dec_iiiiill ps = some p → ps = enc_iiiiill p := by
  intro ps p h
  unfold dec_iiiiill at h
  split at h
  · injection h with h
    subst h
    rfl
  · cases h

def dec_iill (ps : List Pay) : Option (Int × Int × (List Int) × (List Int)) := match ps with
  | [.i x1, .i x2, .l x3, .l x4] => some (x1, x2, x3, x4)
  | _ => none
def enc_iill (p : Int × Int × (List Int) × (List Int)) : List Pay := [.i p.1, .i p.2.1, .l p.2.2.1, .l p.2.2.2]
theorem dec_enc_iill : ∀ (ps : List Pay) (p : Int × Int × (List Int) × (List Int)), dec_iill ps = some p → ps = enc_iill p := by
  intro ps p h
  unfold dec_iill at h
  split at h
  · injection h with h
    subst h
    rfl
  · cases h

def impl_Lawn_all_t0 : StTm := ⟨26, [(1, .ptr 1 0 36), (3, .slw 3 43), (4, .int .i8), (8, .int .i8), (9, .int .i8), (13, .int .i8), (14, .int .i8)], [(1, 36, true, .ints), (3, 43, false, .ints)]⟩
def impl_Lawn_all_t0_1 : StTm := ⟨26, [(1, .ptr 1 0 36), (3, .slw 3 43), (8, .int .i8), (9, .int .i8)], [(1, 36, true, .ints), (3, 43, false, .ints)]⟩
def impl_Lawn_all_w0 (k : Nat) (R : Type) (K : Ex → St → Option R) (rec : Int × Int × Int × Int × Int × (List Int) × (List Int) → Option R) (p : Int × Int × Int × Int × Int × (List Int) × (List Int)) : Option R := impl_Lawn_all_s0 k (fun y1 y2 y3 y4 => K (.exit 2) (fSt impl_Lawn_all_t0_1 [.i y1, .i y2, .l y3, .l y4])) (fun h1 h2 h3 h4 h5 h6 h7 => rec (h1, h2, h3, h4, h5, h6, h7)) p.1 p.2.1 p.2.2.1 p.2.2.2.1 p.2.2.2.2.1 p.2.2.2.2.2.1 p.2.2.2.2.2.2
def impl_Lawn_all_c0 (k : Nat) : Lcall := lcallOf tab impl_Lawn_all_t0 dec_iiiiill [1, 3, 4, 8, 9, 13, 14] k (impl_Lawn_all_w0 k)
def impl_Lawn_all_t1 : StTm := ⟨26, [(1, .ptr 1 0 36), (3, .slw 3 43), (8, .int .i8), (9, .int .i8)], [(1, 36, true, .ints), (3, 43, false, .ints)]⟩
def impl_Lawn_all_t1_1 : StTm := ⟨26, [(3, .slw 3 43)], [(3, 43, false, .ints)]⟩
def impl_Lawn_all_w1 (k : Nat) (R : Type) (K : Ex → St → Option R) (rec : Int × Int × (List Int) × (List Int) → Option R) (p : Int × Int × (List Int) × (List Int)) : Option R := impl_Lawn_all_s1 k (fun y1 => K (.exit 0) (fSt impl_Lawn_all_t1_1 [.l y1])) (fun h1 h2 h3 h4 => rec (h1, h2, h3, h4)) p.1 p.2.1 p.2.2.1 p.2.2.2
def impl_Lawn_all_c1 (k : Nat) : Lcall := lcallOf tab impl_Lawn_all_t1 dec_iill [1, 3, 8, 9] k (impl_Lawn_all_w1 k)
def impl_Lawn_all_C (k : Nat) : Cfg := ⟨tab, mvs, oraOf [], loOf [(2, impl_Lawn_all_c0 k), (0, impl_Lawn_all_c1 k)]⟩
theorem impl_Lawn_all_es (k : Nat) : ∀ e ∈ ([] : List Ent), EntOK Try.prog tab mvs e := by
  intro e he
  simp at he
theorem impl_Lawn_all_step0 (k : Nat) (R : Type) (K : Ex → St → Option R) (g : St → Option R) (p : Int × Int × Int × Int × Int × (List Int) × (List Int)) : evCode (impl_Lawn_all_C k) (loopP [0, 0] (0, codeOf Try.f104)).2 (loopP [0, 0] (0, codeOf Try.f104)).1 (fSt impl_Lawn_all_t0 (enc_iiiiill p)) (loopK tab [1, 3, 4, 8, 9, 13, 14] [1, 3, 8, 9] [2] g K) = impl_Lawn_all_w0 k R K (fun p => g (fSt impl_Lawn_all_t0 (enc_iiiiill p))) p := by
  kernel_rfl
theorem impl_Lawn_all_lok0 (k : Nat) : LoopOK Try.prog tab (impl_Lawn_all_C k).lo (loopP [0, 0] (0, codeOf Try.f104)).1 (loopP [0, 0] (0, codeOf Try.f104)).2 :=
  loopOK_of (C := impl_Lawn_all_C k) tabOK eqTabOK (oraOf_ok (impl_Lawn_all_es k)) (oraOf_nat (impl_Lawn_all_es k)) follows (forall_getD _ 0 (0, Code.skip) (by kernel_rfl) fun i hi => by
      omega)
    (tm := impl_Lawn_all_t0) (dec := dec_iiiiill) (enc := enc_iiiiill) (ksIn := [1, 3, 4, 8, 9, 13, 14]) (ksOut := [1, 3, 8, 9]) (ksRet := [2]) (k := k) (step := impl_Lawn_all_w0 k) dec_enc_iiiiill (fun p => by kernel_rfl) (fun s R K => by kernel_rfl) (impl_Lawn_all_step0 k)
theorem impl_Lawn_all_step1 (k : Nat) (R : Type) (K : Ex → St → Option R) (g : St → Option R) (p : Int × Int × (List Int) × (List Int)) : evCode (impl_Lawn_all_C k) (loopP [0] (0, codeOf Try.f104)).2 (loopP [0] (0, codeOf Try.f104)).1 (fSt impl_Lawn_all_t1 (enc_iill p)) (loopK tab [1, 3, 8, 9] [3] [2] g K) = impl_Lawn_all_w1 k R K (fun p => g (fSt impl_Lawn_all_t1 (enc_iill p))) p := by
  kernel_rfl
theorem impl_Lawn_all_lok1 (k : Nat) : LoopOK Try.prog tab (impl_Lawn_all_C k).lo (loopP [0] (0, codeOf Try.f104)).1 (loopP [0] (0, codeOf Try.f104)).2 :=
  loopOK_of (C := impl_Lawn_all_C k) tabOK eqTabOK (oraOf_ok (impl_Lawn_all_es k)) (oraOf_nat (impl_Lawn_all_es k)) follows (forall_getD _ 1 (0, Code.skip) (by kernel_rfl) fun i hi => by
      match i, hi with
      | 0, _ => exact impl_Lawn_all_lok0 k
      | n + 1, h => omega)
    (tm := impl_Lawn_all_t1) (dec := dec_iill) (enc := enc_iill) (ksIn := [1, 3, 8, 9]) (ksOut := [3]) (ksRet := [2]) (k := k) (step := impl_Lawn_all_w1 k) dec_enc_iill (fun p => by kernel_rfl) (fun s R K => by kernel_rfl) (impl_Lawn_all_step1 k)
def impl_Lawn_all_e (k : Nat) : Ent := (104, callOf [.agg 36] dec_l fun (p : (List Int)) R K => (impl_Lawn_all k p).bind fun (b : (List Int)) => K ((fV (.slv 43) (enc_l b)).1, none))
theorem impl_Lawn_all_run (k : Nat) (p : (List Int)) : runF (impl_Lawn_all_C k) Try.f104 false (fL [.agg 36] (enc_l p)).1 (resK (.slv 43) dec_l) = impl_Lawn_all k p := by
  kernel_rfl
theorem impl_Lawn_all_ok (k : Nat) : EntOK Try.prog tab mvs (impl_Lawn_all_e k) :=
  fn_ok (C := impl_Lawn_all_C k) tabOK eqTabOK (impl_Lawn_all_es k) rfl follows Try.func104 (by kernel_rfl) (by kernel_rfl) rfl (forall_getD _ 1 (0, Code.skip) (by kernel_rfl) fun i hi => by
      match i, hi with
      | 0, _ => exact impl_Lawn_all_lok1 k
      | n + 1, h => omega)
    dec_enc_l dec_enc_l (impl_Lawn_all_run k)

def impl_Lawn_those_1_C (k : Nat) : Cfg := ⟨tab, mvs, oraOf [], loOf []⟩
theorem impl_Lawn_those_1_es (k : Nat) : ∀ e ∈ ([] : List Ent), EntOK Try.prog tab mvs e := by
  intro e he
  simp at he
def impl_Lawn_those_1_e (k : Nat) : Ent := (137, callOf [.agg 43, .pvv [.cloB 43] 0 105] dec_lg fun (p : (List Int) × (List Int → Option Bool)) R K => (impl_Lawn_those_1 k p.1 p.2).bind fun (b : Bool) => K ((fV (.bool) (enc_b b)).1, none))
theorem impl_Lawn_those_1_run (k : Nat) (p : (List Int) × (List Int → Option Bool)) : runF (impl_Lawn_those_1_C k) Try.f137 false (fL [.agg 43, .pvv [.cloB 43] 0 105] (enc_lg p)).1 (resK (.bool) dec_b) = impl_Lawn_those_1 k p.1 p.2 := by
  kernel_rfl
theorem impl_Lawn_those_1_ok (k : Nat) : EntOK Try.prog tab mvs (impl_Lawn_those_1_e k) :=
  fn_ok (C := impl_Lawn_those_1_C k) tabOK eqTabOK (impl_Lawn_those_1_es k) rfl follows Try.func137 (by kernel_rfl) (by kernel_rfl) rfl (forall_getD _ 0 (0, Code.skip) (by kernel_rfl) fun i hi => by
      omega)
    dec_enc_lg dec_enc_b (impl_Lawn_those_1_run k)

def dec_giil (ps : List Pay) : Option ((List Int → Option Bool) × Int × Int × (List Int)) := match ps with
  | [.g x1, .i x2, .i x3, .l x4] => some (x1, x2, x3, x4)
  | _ => none
def enc_giil (p : (List Int → Option Bool) × Int × Int × (List Int)) : List Pay := [.g p.1, .i p.2.1, .i p.2.2.1, .l p.2.2.2]
theorem dec_enc_giil : ∀ (ps : List Pay) (p : (List Int → Option Bool) × Int × Int × (List Int)), dec_giil ps = some p → ps = enc_giil p := by
  intro ps p h
  unfold dec_giil at h
  split at h
  · injection h with h
    subst h
    rfl
  · cases h

def slices_DeleteFunc_impl_Cell_t0 : StTm := ⟨42, [(0, .slw 42 43), (1, .cloB 43), (5, .int .i64), (6, .int .i64)], [(42, 43, false, .ints)]⟩
def slices_DeleteFunc_impl_Cell_t0_1 : StTm := ⟨42, [(0, .slw 42 43), (5, .int .i64)], [(42, 43, false, .ints)]⟩
def slices_DeleteFunc_impl_Cell_w0 (k : Nat) (R : Type) (K : Ex → St → Option R) (rec : (List Int → Option Bool) × Int × Int × (List Int) → Option R) (p : (List Int → Option Bool) × Int × Int × (List Int)) : Option R := slices_DeleteFunc_impl_Cell_s0 k (fun y1 y2 => K (.exit 0) (fSt slices_DeleteFunc_impl_Cell_t0_1 [.i y1, .l y2])) (fun h1 h2 h3 h4 => rec (h1, h2, h3, h4)) p.1 p.2.1 p.2.2.1 p.2.2.2
def slices_DeleteFunc_impl_Cell_c0 (k : Nat) : Lcall := lcallOf tab slices_DeleteFunc_impl_Cell_t0 dec_giil [0, 1, 5, 6] k (slices_DeleteFunc_impl_Cell_w0 k)
def slices_DeleteFunc_impl_Cell_C (k : Nat) : Cfg := ⟨tab, mvs, oraOf [slices_IndexFunc_impl_Cell_e k], loOf [(0, slices_DeleteFunc_impl_Cell_c0 k)]⟩
theorem slices_DeleteFunc_impl_Cell_es (k : Nat) : ∀ e ∈ ([slices_IndexFunc_impl_Cell_e k] : List Ent), EntOK Try.prog tab mvs e := by
  intro e he
  simp only [List.mem_cons, List.not_mem_nil, or_false] at he
  rcases he with rfl
  · exact slices_IndexFunc_impl_Cell_ok k
theorem slices_DeleteFunc_impl_Cell_step0 (k : Nat) (R : Type) (K : Ex → St → Option R) (g : St → Option R) (p : (List Int → Option Bool) × Int × Int × (List Int)) : evCode (slices_DeleteFunc_impl_Cell_C k) (loopP [0] (0, codeOf Try.f136)).2 (loopP [0] (0, codeOf Try.f136)).1 (fSt slices_DeleteFunc_impl_Cell_t0 (enc_giil p)) (loopK tab [0, 1, 5, 6] [0, 5] [4] g K) = slices_DeleteFunc_impl_Cell_w0 k R K (fun p => g (fSt slices_DeleteFunc_impl_Cell_t0 (enc_giil p))) p := by
  kernel_rfl
theorem slices_DeleteFunc_impl_Cell_lok0 (k : Nat) : LoopOK Try.prog tab (slices_DeleteFunc_impl_Cell_C k).lo (loopP [0] (0, codeOf Try.f136)).1 (loopP [0] (0, codeOf Try.f136)).2 :=
  loopOK_of (C := slices_DeleteFunc_impl_Cell_C k) tabOK eqTabOK (oraOf_ok (slices_DeleteFunc_impl_Cell_es k)) (oraOf_nat (slices_DeleteFunc_impl_Cell_es k)) follows (forall_getD _ 0 (0, Code.skip) (by kernel_rfl) fun i hi => by
      omega)
    (tm := slices_DeleteFunc_impl_Cell_t0) (dec := dec_giil) (enc := enc_giil) (ksIn := [0, 1, 5, 6]) (ksOut := [0, 5]) (ksRet := [4]) (k := k) (step := slices_DeleteFunc_impl_Cell_w0 k) dec_enc_giil (fun p => by kernel_rfl) (fun s R K => by kernel_rfl) (slices_DeleteFunc_impl_Cell_step0 k)
def slices_DeleteFunc_impl_Cell_e (k : Nat) : Ent := (136, callOf [.slv 43, .cloB 43] dec_lg fun (p : (List Int) × (List Int → Option Bool)) R K => (slices_DeleteFunc_impl_Cell k p.1 p.2).bind fun (b : (List Int)) => K ((fV (.slv 43) (enc_l b)).1, none))
theorem slices_DeleteFunc_impl_Cell_run (k : Nat) (p : (List Int) × (List Int → Option Bool)) : runF (slices_DeleteFunc_impl_Cell_C k) Try.f136 true (fL [.slv 43, .cloB 43] (enc_lg p)).1 (resK (.slv 43) dec_l) = slices_DeleteFunc_impl_Cell k p.1 p.2 := by
  kernel_rfl
theorem slices_DeleteFunc_impl_Cell_ok (k : Nat) : EntOK Try.prog tab mvs (slices_DeleteFunc_impl_Cell_e k) :=
  fnm_ok (C := slices_DeleteFunc_impl_Cell_C k) tabOK eqTabOK (slices_DeleteFunc_impl_Cell_es k) rfl follows Try.func136 (by kernel_rfl) (by kernel_rfl) rfl (forall_getD _ 1 (0, Code.skip) (by kernel_rfl) fun i hi => by
      match i, hi with
      | 0, _ => exact slices_DeleteFunc_impl_Cell_lok0 k
      | n + 1, h => omega)
    dec_enc_lg dec_enc_l (slices_DeleteFunc_impl_Cell_run k)

def impl_Lawn_those_C (k : Nat) : Cfg := ⟨tab, mvs, oraOf [impl_Lawn_all_e k, impl_Lawn_those_1_e k, slices_DeleteFunc_impl_Cell_e k], loOf []⟩
theorem impl_Lawn_those_es (k : Nat) : ∀ e ∈ ([impl_Lawn_all_e k, impl_Lawn_those_1_e k, slices_DeleteFunc_impl_Cell_e k] : List Ent), EntOK Try.prog tab mvs e := by
  intro e he
  simp only [List.mem_cons, List.not_mem_nil, or_false] at he
  rcases he with rfl | rfl | rfl
  · exact impl_Lawn_all_ok k
  · exact impl_Lawn_those_1_ok k
  · exact slices_DeleteFunc_impl_Cell_ok k
def impl_Lawn_those_e (k : Nat) : Ent := (113, callOf [.agg 36, .cloB 43] dec_lg fun (p : (List Int) × (List Int → Option Bool)) R K => (impl_Lawn_those k p.1 p.2).bind fun (b : (List Int)) => K ((fV (.slv 43) (enc_l b)).1, none))
theorem impl_Lawn_those_run (k : Nat) (p : (List Int) × (List Int → Option Bool)) : runF (impl_Lawn_those_C k) Try.f113 false (fL [.agg 36, .cloB 43] (enc_lg p)).1 (resK (.slv 43) dec_l) = impl_Lawn_those k p.1 p.2 := by
  kernel_rfl
theorem impl_Lawn_those_ok (k : Nat) : EntOK Try.prog tab mvs (impl_Lawn_those_e k) :=
  fn_ok (C := impl_Lawn_those_C k) tabOK eqTabOK (impl_Lawn_those_es k) rfl follows Try.func113 (by kernel_rfl) (by kernel_rfl) rfl (forall_getD _ 0 (0, Code.skip) (by kernel_rfl) fun i hi => by
      omega)
    dec_enc_lg dec_enc_l (impl_Lawn_those_run k)

def impl_wholeCode_C (k : Nat) : Cfg := ⟨tab, mvs, oraOf [impl_openCode_e k, impl_Lawn_grass_e k, impl_Lawn_those_e k, impl_Lawn_open_e k], loOf []⟩
theorem impl_wholeCode_es (k : Nat) : ∀ e ∈ ([impl_openCode_e k, impl_Lawn_grass_e k, impl_Lawn_those_e k, impl_Lawn_open_e k] : List Ent), EntOK Try.prog tab mvs e := by
  intro e he
  simp only [List.mem_cons, List.not_mem_nil, or_false] at he
  rcases he with rfl | rfl | rfl | rfl
  · exact impl_openCode_ok k
  · exact impl_Lawn_grass_ok k
  · exact impl_Lawn_those_ok k
  · exact impl_Lawn_open_ok k
def impl_wholeCode_e (k : Nat) : Ent := (87, callOf [.agg 36, .agg 43] dec_ll fun (p : (List Int) × (List Int)) R K => (impl_wholeCode k p.1 p.2).bind fun (b : Int) => K ((fV (.int .i64) (enc_i b)).1, none))
theorem impl_wholeCode_run (k : Nat) (p : (List Int) × (List Int)) : runF (impl_wholeCode_C k) Try.f87 false (fL [.agg 36, .agg 43] (enc_ll p)).1 (resK (.int .i64) dec_i) = impl_wholeCode k p.1 p.2 := by
  kernel_rfl
theorem impl_wholeCode_ok (k : Nat) : EntOK Try.prog tab mvs (impl_wholeCode_e k) :=
  fn_ok (C := impl_wholeCode_C k) tabOK eqTabOK (impl_wholeCode_es k) rfl follows Try.func87 (by kernel_rfl) (by kernel_rfl) rfl (forall_getD _ 0 (0, Code.skip) (by kernel_rfl) fun i hi => by
      omega)
    dec_enc_ll dec_enc_i (impl_wholeCode_run k)

def dec_iiml (ps : List Pay) : Option (Int × Int × (List (List Int × Int)) × (List Int)) := match ps with
  | [.i x1, .i x2, .m x3, .l x4] => some (x1, x2, x3, x4)
  | _ => none
def enc_iiml (p : Int × Int × (List (List Int × Int)) × (List Int)) : List Pay := [.i p.1, .i p.2.1, .m p.2.2.1, .l p.2.2.2]
theorem dec_enc_iiml : ∀ (ps : List Pay) (p : Int × Int × (List (List Int × Int)) × (List Int)), dec_iiml ps = some p → ps = enc_iiml p := by
  intro ps p h
  unfold dec_iiml at h
  split at h
  · injection h with h
    subst h
    rfl
  · cases h

def dec_m (ps : List Pay) : Option ((List (List Int × Int))) := match ps with
  | [.m x1] => some x1
  | _ => none
def enc_m (p : (List (List Int × Int))) : List Pay := [.m p]
theorem dec_enc_m : ∀ (ps : List Pay) (p : (List (List Int × Int))), dec_m ps = some p → ps = enc_m p := by
  intro ps p h
  unfold dec_m at h
  split at h
  · injection h with h
    subst h
    rfl
  · cases h

def impl_Lawn_bits_t0 : StTm := ⟨22, [(3, .mapk 6 136), (10, .slw 10 43), (11, .int .i64), (12, .int .i64)], [(6, 136, false, .mapI), (10, 43, false, .ints)]⟩
def impl_Lawn_bits_t0_1 : StTm := ⟨22, [(3, .mapk 6 136)], [(6, 136, false, .mapI)]⟩
def impl_Lawn_bits_w0 (k : Nat) (R : Type) (K : Ex → St → Option R) (rec : Int × Int × (List (List Int × Int)) × (List Int) → Option R) (p : Int × Int × (List (List Int × Int)) × (List Int)) : Option R := impl_Lawn_bits_s0 k (fun y1 => K (.exit 0) (fSt impl_Lawn_bits_t0_1 [.m y1])) (fun h1 h2 h3 h4 => rec (h1, h2, h3, h4)) p.1 p.2.1 p.2.2.1 p.2.2.2
def impl_Lawn_bits_c0 (k : Nat) : Lcall := lcallOf tab impl_Lawn_bits_t0 dec_iiml [3, 10, 11, 12] k (impl_Lawn_bits_w0 k)
def impl_Lawn_bits_C (k : Nat) : Cfg := ⟨tab, mvs, oraOf [impl_Lawn_grass_e k, impl_Lawn_those_e k], loOf [(0, impl_Lawn_bits_c0 k)]⟩
theorem impl_Lawn_bits_es (k : Nat) : ∀ e ∈ ([impl_Lawn_grass_e k, impl_Lawn_those_e k] : List Ent), EntOK Try.prog tab mvs e := by
  intro e he
  simp only [List.mem_cons, List.not_mem_nil, or_false] at he
  rcases he with rfl | rfl
  · exact impl_Lawn_grass_ok k
  · exact impl_Lawn_those_ok k
theorem impl_Lawn_bits_step0 (k : Nat) (R : Type) (K : Ex → St → Option R) (g : St → Option R) (p : Int × Int × (List (List Int × Int)) × (List Int)) : evCode (impl_Lawn_bits_C k) (loopP [0] (0, codeOf Try.f88)).2 (loopP [0] (0, codeOf Try.f88)).1 (fSt impl_Lawn_bits_t0 (enc_iiml p)) (loopK tab [3, 10, 11, 12] [3] [2] g K) = impl_Lawn_bits_w0 k R K (fun p => g (fSt impl_Lawn_bits_t0 (enc_iiml p))) p := by
  kernel_rfl
theorem impl_Lawn_bits_lok0 (k : Nat) : LoopOK Try.prog tab (impl_Lawn_bits_C k).lo (loopP [0] (0, codeOf Try.f88)).1 (loopP [0] (0, codeOf Try.f88)).2 :=
  loopOK_of (C := impl_Lawn_bits_C k) tabOK eqTabOK (oraOf_ok (impl_Lawn_bits_es k)) (oraOf_nat (impl_Lawn_bits_es k)) follows (forall_getD _ 0 (0, Code.skip) (by kernel_rfl) fun i hi => by
      omega)
    (tm := impl_Lawn_bits_t0) (dec := dec_iiml) (enc := enc_iiml) (ksIn := [3, 10, 11, 12]) (ksOut := [3]) (ksRet := [2]) (k := k) (step := impl_Lawn_bits_w0 k) dec_enc_iiml (fun p => by kernel_rfl) (fun s R K => by kernel_rfl) (impl_Lawn_bits_step0 k)
def impl_Lawn_bits_e (k : Nat) : Ent := (88, callOf [.agg 36] dec_l fun (p : (List Int)) R K => (impl_Lawn_bits k p).bind fun (b : (List (List Int × Int))) => K ((fV (.ownM 136) (enc_m b)).1, none))
theorem impl_Lawn_bits_run (k : Nat) (p : (List Int)) : runF (impl_Lawn_bits_C k) Try.f88 false (fL [.agg 36] (enc_l p)).1 (resK (.ownM 136) dec_m) = impl_Lawn_bits k p := by
  kernel_rfl
theorem impl_Lawn_bits_ok (k : Nat) : EntOK Try.prog tab mvs (impl_Lawn_bits_e k) :=
  fn_ok (C := impl_Lawn_bits_C k) tabOK eqTabOK (impl_Lawn_bits_es k) rfl follows Try.func88 (by kernel_rfl) (by kernel_rfl) rfl (forall_getD _ 1 (0, Code.skip) (by kernel_rfl) fun i hi => by
      match i, hi with
      | 0, _ => exact impl_Lawn_bits_lok0 k
      | n + 1, h => omega)
    dec_enc_l dec_enc_m (impl_Lawn_bits_run k)

def dec_llm (ps : List Pay) : Option ((List Int) × (List Int) × (List (List Int × Int))) := match ps with
  | [.l x1, .l x2, .m x3] => some (x1, x2, x3)
  | _ => none
def enc_llm (p : (List Int) × (List Int) × (List (List Int × Int))) : List Pay := [.l p.1, .l p.2.1, .m p.2.2]
theorem dec_enc_llm : ∀ (ps : List Pay) (p : (List Int) × (List Int) × (List (List Int × Int))), dec_llm ps = some p → ps = enc_llm p := by
  intro ps p h
  unfold dec_llm at h
  split at h
  · injection h with h
    subst h
    rfl
  · cases h

def impl_Lawn_begin_C (k : Nat) : Cfg := ⟨tab, mvs, oraOf [], loOf []⟩
theorem impl_Lawn_begin_es (k : Nat) : ∀ e ∈ ([] : List Ent), EntOK Try.prog tab mvs e := by
  intro e he
  simp at he
def impl_Lawn_begin_e (k : Nat) : Ent := (89, callOf [.agg 36, .agg 43, .mapv 136] dec_llm fun (p : (List Int) × (List Int) × (List (List Int × Int))) R K => (impl_Lawn_begin k p.1 p.2.1 p.2.2).bind fun (b : (List Int)) => K ((fV (.agg 139) (enc_l b)).1, none))
theorem impl_Lawn_begin_run (k : Nat) (p : (List Int) × (List Int) × (List (List Int × Int))) : runF (impl_Lawn_begin_C k) Try.f89 false (fL [.agg 36, .agg 43, .mapv 136] (enc_llm p)).1 (resK (.agg 139) dec_l) = impl_Lawn_begin k p.1 p.2.1 p.2.2 := by
  kernel_rfl
theorem impl_Lawn_begin_ok (k : Nat) : EntOK Try.prog tab mvs (impl_Lawn_begin_e k) :=
  fn_ok (C := impl_Lawn_begin_C k) tabOK eqTabOK (impl_Lawn_begin_es k) rfl follows Try.func89 (by kernel_rfl) (by kernel_rfl) rfl (forall_getD _ 0 (0, Code.skip) (by kernel_rfl) fun i hi => by
      omega)
    dec_enc_llm dec_enc_l (impl_Lawn_begin_run k)

def impl_beside_C (k : Nat) : Cfg := ⟨tab, mvs, oraOf [], loOf []⟩
theorem impl_beside_es (k : Nat) : ∀ e ∈ ([] : List Ent), EntOK Try.prog tab mvs e := by
  intro e he
  simp at he
def impl_beside_e (k : Nat) : Ent := (71, callOf [.agg 43] dec_l fun (p : (List Int)) R K => (impl_beside k p).bind fun (b : (List Int)) => K ((fV (.slv 43) (enc_l b)).1, none))
theorem impl_beside_run (k : Nat) (p : (List Int)) : runF (impl_beside_C k) Try.f71 false (fL [.agg 43] (enc_l p)).1 (resK (.slv 43) dec_l) = impl_beside k p := by
  kernel_rfl
theorem impl_beside_ok (k : Nat) : EntOK Try.prog tab mvs (impl_beside_e k) :=
  fn_ok (C := impl_beside_C k) tabOK eqTabOK (impl_beside_es k) rfl follows Try.func71 (by kernel_rfl) (by kernel_rfl) rfl (forall_getD _ 0 (0, Code.skip) (by kernel_rfl) fun i hi => by
      omega)
    dec_enc_l dec_enc_l (impl_beside_run k)

def strings_IndexByte_e (k : Nat) : Ent := (144, callOf [.str, .int .u8] dec_si fun (p : ByteArray × Int) R K => (strings_IndexByte k p.1 p.2).bind fun (b : Int) => K ((fV (.int .i64) (enc_i b)).1, none))
theorem strings_IndexByte_ok (k : Nat) : EntOK Try.prog tab mvs (strings_IndexByte_e k) :=
  strByte_ok rfl Try.func144 (by kernel_rfl) (by kernel_rfl) _ ext_IndexByte dec_enc_si (fun _ => rfl) (fun _ => rfl) (F := strings_IndexByte k) (fun _ _ => rfl)

def impl_go1_C (k : Nat) : Cfg := ⟨tab, mvs, oraOf [impl_beside_e k, strings_IndexByte_e k], loOf []⟩
theorem impl_go1_es (k : Nat) : ∀ e ∈ ([impl_beside_e k, strings_IndexByte_e k] : List Ent), EntOK Try.prog tab mvs e := by
  intro e he
  simp only [List.mem_cons, List.not_mem_nil, or_false] at he
  rcases he with rfl | rfl
  · exact impl_beside_ok k
  · exact strings_IndexByte_ok k
def impl_go1_e (k : Nat) : Ent := (128, callOf [.agg 43, .int .u8] dec_li fun (p : (List Int) × Int) R K => (impl_go1 k p.1 p.2).bind fun (b : (List Int)) => K ((fV (.agg 43) (enc_l b)).1, none))
theorem impl_go1_run (k : Nat) (p : (List Int) × Int) : runF (impl_go1_C k) Try.f128 false (fL [.agg 43, .int .u8] (enc_li p)).1 (resK (.agg 43) dec_l) = impl_go1 k p.1 p.2 := by
  kernel_rfl
theorem impl_go1_ok (k : Nat) : EntOK Try.prog tab mvs (impl_go1_e k) :=
  fn_ok (C := impl_go1_C k) tabOK eqTabOK (impl_go1_es k) rfl follows Try.func128 (by kernel_rfl) (by kernel_rfl) rfl (forall_getD _ 0 (0, Code.skip) (by kernel_rfl) fun i hi => by
      omega)
    dec_enc_li dec_enc_l (impl_go1_run k)

def dec_llim (ps : List Pay) : Option ((List Int) × (List Int) × Int × (List (List Int × Int))) := match ps with
  | [.l x1, .l x2, .i x3, .m x4] => some (x1, x2, x3, x4)
  | _ => none
def enc_llim (p : (List Int) × (List Int) × Int × (List (List Int × Int))) : List Pay := [.l p.1, .l p.2.1, .i p.2.2.1, .m p.2.2.2]
theorem dec_enc_llim : ∀ (ps : List Pay) (p : (List Int) × (List Int) × Int × (List (List Int × Int))), dec_llim ps = some p → ps = enc_llim p := by
  intro ps p h
  unfold dec_llim at h
  split at h
  · injection h with h
    subst h
    rfl
  · cases h

def impl_Lawn_next_C (k : Nat) : Cfg := ⟨tab, mvs, oraOf [impl_go1_e k, impl_Lawn_open_e k], loOf []⟩
theorem impl_Lawn_next_es (k : Nat) : ∀ e ∈ ([impl_go1_e k, impl_Lawn_open_e k] : List Ent), EntOK Try.prog tab mvs e := by
  intro e he
  simp only [List.mem_cons, List.not_mem_nil, or_false] at he
  rcases he with rfl | rfl
  · exact impl_go1_ok k
  · exact impl_Lawn_open_ok k
def impl_Lawn_next_e (k : Nat) : Ent := (90, callOf [.agg 36, .agg 139, .int .u8, .mapv 136] dec_llim fun (p : (List Int) × (List Int) × Int × (List (List Int × Int))) R K => (impl_Lawn_next k p.1 p.2.1 p.2.2.1 p.2.2.2).bind fun (b : (List Int) × Bool) => K ((fV (.tup [.agg 139, .bool]) (enc_lb b)).1, none))
theorem impl_Lawn_next_run (k : Nat) (p : (List Int) × (List Int) × Int × (List (List Int × Int))) : runF (impl_Lawn_next_C k) Try.f90 false (fL [.agg 36, .agg 139, .int .u8, .mapv 136] (enc_llim p)).1 (resK (.tup [.agg 139, .bool]) dec_lb) = impl_Lawn_next k p.1 p.2.1 p.2.2.1 p.2.2.2 := by
  kernel_rfl
theorem impl_Lawn_next_ok (k : Nat) : EntOK Try.prog tab mvs (impl_Lawn_next_e k) :=
  fn_ok (C := impl_Lawn_next_C k) tabOK eqTabOK (impl_Lawn_next_es k) rfl follows Try.func90 (by kernel_rfl) (by kernel_rfl) rfl (forall_getD _ 0 (0, Code.skip) (by kernel_rfl) fun i hi => by
      omega)
    dec_enc_llim dec_enc_lb (impl_Lawn_next_run k)

def dec_iilmtll (ps : List Pay) : Option (Int × Int × (List Int) × (List (List Int × Int)) × (List (List Int × ByteArray)) × (List Int) × (List Int)) := match ps with
  | [.i x1, .i x2, .l x3, .m x4, .t x5, .l x6, .l x7] => some (x1, x2, x3, x4, x5, x6, x7)
  | _ => none
def enc_iilmtll (p : Int × Int × (List Int) × (List (List Int × Int)) × (List (List Int × ByteArray)) × (List Int) × (List Int)) : List Pay := [.i p.1, .i p.2.1, .l p.2.2.1, .m p.2.2.2.1, .t p.2.2.2.2.1, .l p.2.2.2.2.2.1, .l p.2.2.2.2.2.2]
theorem dec_enc_iilmtll : ∀ (ps : List Pay) (p : Int × Int × (List Int) × (List (List Int × Int)) × (List (List Int × ByteArray)) × (List Int) × (List Int)), dec_iilmtll ps = some p → ps = enc_iilmtll p := by
  intro ps p h
  unfold dec_iilmtll at h
  split at h
  · injection h with h
    subst h
    rfl
  · cases h

def dec_ilmtl (ps : List Pay) : Option (Int × (List Int) × (List (List Int × Int)) × (List (List Int × ByteArray)) × (List Int)) := match ps with
  | [.i x1, .l x2, .m x3, .t x4, .l x5] => some (x1, x2, x3, x4, x5)
  | _ => none
def enc_ilmtl (p : Int × (List Int) × (List (List Int × Int)) × (List (List Int × ByteArray)) × (List Int)) : List Pay := [.i p.1, .l p.2.1, .m p.2.2.1, .t p.2.2.2.1, .l p.2.2.2.2]
theorem dec_enc_ilmtl : ∀ (ps : List Pay) (p : Int × (List Int) × (List (List Int × Int)) × (List (List Int × ByteArray)) × (List Int)), dec_ilmtl ps = some p → ps = enc_ilmtl p := by
  intro ps p h
  unfold dec_ilmtl at h
  split at h
  · injection h with h
    subst h
    rfl
  · cases h

def impl_ShortestWhole_t0 : StTm := ⟨93, [(2, .ptr 2 0 36), (7, .mapk 25 136), (9, .mapk 30 141), (10, .int .i64), (11, .slw 11 139), (12, .ptr 12 0 139), (54, .int .i64)], [(2, 36, true, .ints), (25, 136, false, .mapI), (30, 141, false, .mapS), (11, 139, false, .ints), (12, 139, true, .ints)]⟩
def impl_ShortestWhole_t0_1 : StTm := ⟨93, [(2, .ptr 2 0 36), (7, .mapk 25 136), (9, .mapk 30 141), (10, .int .i64), (11, .slw 11 139)], [(2, 36, true, .ints), (25, 136, false, .mapI), (30, 141, false, .mapS), (11, 139, false, .ints)]⟩
def impl_ShortestWhole_w0 (k : Nat) (R : Type) (K : Ex → St → Option R) (rec : Int × Int × (List Int) × (List (List Int × Int)) × (List (List Int × ByteArray)) × (List Int) × (List Int) → Option R) (p : Int × Int × (List Int) × (List (List Int × Int)) × (List (List Int × ByteArray)) × (List Int) × (List Int)) : Option R := impl_ShortestWhole_s0 k (fun y1 y2 y3 y4 y5 => K (.exit 2) (fSt impl_ShortestWhole_t0_1 [.i y1, .l y2, .m y3, .t y4, .l y5])) (fun h1 h2 h3 h4 h5 h6 h7 => rec (h1, h2, h3, h4, h5, h6, h7)) p.1 p.2.1 p.2.2.1 p.2.2.2.1 p.2.2.2.2.1 p.2.2.2.2.2.1 p.2.2.2.2.2.2
def impl_ShortestWhole_c0 (k : Nat) : Lcall := lcallOf tab impl_ShortestWhole_t0 dec_iilmtll [2, 7, 9, 10, 11, 12, 54] k (impl_ShortestWhole_w0 k)
def impl_ShortestWhole_t1 : StTm := ⟨93, [(2, .ptr 2 0 36), (7, .mapk 25 136), (9, .mapk 30 141), (10, .int .i64), (11, .slw 11 139)], [(2, 36, true, .ints), (25, 136, false, .mapI), (30, 141, false, .mapS), (11, 139, false, .ints)]⟩
def impl_ShortestWhole_t1_1 : StTm := ⟨93, [(4, .str), (5, .int .i64)], []⟩
def impl_ShortestWhole_t1_2 : StTm := ⟨93, [], []⟩
def impl_ShortestWhole_w1 (k : Nat) (R : Type) (K : Ex → St → Option R) (rec : Int × (List Int) × (List (List Int × Int)) × (List (List Int × ByteArray)) × (List Int) → Option R) (p : Int × (List Int) × (List (List Int × Int)) × (List (List Int × ByteArray)) × (List Int)) : Option R := impl_ShortestWhole_s1 k (fun y1 y2 => K .ret (fSt impl_ShortestWhole_t1_1 [.s y1, .i y2])) (K (.exit 0) (fSt impl_ShortestWhole_t1_2 [])) (fun h1 h2 h3 h4 h5 => rec (h1, h2, h3, h4, h5)) p.1 p.2.1 p.2.2.1 p.2.2.2.1 p.2.2.2.2
def impl_ShortestWhole_c1 (k : Nat) : Lcall := lcallOf tab impl_ShortestWhole_t1 dec_ilmtl [2, 7, 9, 10, 11] k (impl_ShortestWhole_w1 k)
def impl_ShortestWhole_C (k : Nat) : Cfg := ⟨tab, mvs, oraOf [impl_wholeCode_e k, impl_Lawn_bits_e k, impl_Lawn_begin_e k, impl_Lawn_next_e k], loOf [(2, impl_ShortestWhole_c0 k), (0, impl_ShortestWhole_c1 k)]⟩
theorem impl_ShortestWhole_es (k : Nat) : ∀ e ∈ ([impl_wholeCode_e k, impl_Lawn_bits_e k, impl_Lawn_begin_e k, impl_Lawn_next_e k] : List Ent), EntOK Try.prog tab mvs e := by
  intro e he
  simp only [List.mem_cons, List.not_mem_nil, or_false] at he
  rcases he with rfl | rfl | rfl | rfl
  · exact impl_wholeCode_ok k
  · exact impl_Lawn_bits_ok k
  · exact impl_Lawn_begin_ok k
  · exact impl_Lawn_next_ok k
theorem impl_ShortestWhole_step0 (k : Nat) (R : Type) (K : Ex → St → Option R) (g : St → Option R) (p : Int × Int × (List Int) × (List (List Int × Int)) × (List (List Int × ByteArray)) × (List Int) × (List Int)) : evCode (impl_ShortestWhole_C k) (loopP [0, 0] (0, codeOf Try.f37)).2 (loopP [0, 0] (0, codeOf Try.f37)).1 (fSt impl_ShortestWhole_t0 (enc_iilmtll p)) (loopK tab [2, 7, 9, 10, 11, 12, 54] [2, 7, 9, 10, 11] [4, 5] g K) = impl_ShortestWhole_w0 k R K (fun p => g (fSt impl_ShortestWhole_t0 (enc_iilmtll p))) p := by
  kernel_rfl
theorem impl_ShortestWhole_lok0 (k : Nat) : LoopOK Try.prog tab (impl_ShortestWhole_C k).lo (loopP [0, 0] (0, codeOf Try.f37)).1 (loopP [0, 0] (0, codeOf Try.f37)).2 :=
  loopOK_of (C := impl_ShortestWhole_C k) tabOK eqTabOK (oraOf_ok (impl_ShortestWhole_es k)) (oraOf_nat (impl_ShortestWhole_es k)) follows (forall_getD _ 0 (0, Code.skip) (by kernel_rfl) fun i hi => by
      omega)
    (tm := impl_ShortestWhole_t0) (dec := dec_iilmtll) (enc := enc_iilmtll) (ksIn := [2, 7, 9, 10, 11, 12, 54]) (ksOut := [2, 7, 9, 10, 11]) (ksRet := [4, 5]) (k := k) (step := impl_ShortestWhole_w0 k) dec_enc_iilmtll (fun p => by kernel_rfl) (fun s R K => by kernel_rfl) (impl_ShortestWhole_step0 k)
theorem impl_ShortestWhole_step1 (k : Nat) (R : Type) (K : Ex → St → Option R) (g : St → Option R) (p : Int × (List Int) × (List (List Int × Int)) × (List (List Int × ByteArray)) × (List Int)) : evCode (impl_ShortestWhole_C k) (loopP [0] (0, codeOf Try.f37)).2 (loopP [0] (0, codeOf Try.f37)).1 (fSt impl_ShortestWhole_t1 (enc_ilmtl p)) (loopK tab [2, 7, 9, 10, 11] [] [4, 5] g K) = impl_ShortestWhole_w1 k R K (fun p => g (fSt impl_ShortestWhole_t1 (enc_ilmtl p))) p := by
  kernel_rfl
theorem impl_ShortestWhole_lok1 (k : Nat) : LoopOK Try.prog tab (impl_ShortestWhole_C k).lo (loopP [0] (0, codeOf Try.f37)).1 (loopP [0] (0, codeOf Try.f37)).2 :=
  loopOK_of (C := impl_ShortestWhole_C k) tabOK eqTabOK (oraOf_ok (impl_ShortestWhole_es k)) (oraOf_nat (impl_ShortestWhole_es k)) follows (forall_getD _ 1 (0, Code.skip) (by kernel_rfl) fun i hi => by
      match i, hi with
      | 0, _ => exact impl_ShortestWhole_lok0 k
      | n + 1, h => omega)
    (tm := impl_ShortestWhole_t1) (dec := dec_ilmtl) (enc := enc_ilmtl) (ksIn := [2, 7, 9, 10, 11]) (ksOut := []) (ksRet := [4, 5]) (k := k) (step := impl_ShortestWhole_w1 k) dec_enc_ilmtl (fun p => by kernel_rfl) (fun s R K => by kernel_rfl) (impl_ShortestWhole_step1 k)
def impl_ShortestWhole_e (k : Nat) : Ent := (37, callOf [.agg 36, .agg 43] dec_ll fun (p : (List Int) × (List Int)) R K => (impl_ShortestWhole k p.1 p.2).bind fun (b : ByteArray × Int) => K ((fV (.tup [.str, .int .i64]) (enc_si b)).1, none))
theorem impl_ShortestWhole_run (k : Nat) (p : (List Int) × (List Int)) : runF (impl_ShortestWhole_C k) Try.f37 false (fL [.agg 36, .agg 43] (enc_ll p)).1 (resK (.tup [.str, .int .i64]) dec_si) = impl_ShortestWhole k p.1 p.2 := by
  kernel_rfl
theorem impl_ShortestWhole_ok (k : Nat) : EntOK Try.prog tab mvs (impl_ShortestWhole_e k) :=
  fn_ok (C := impl_ShortestWhole_C k) tabOK eqTabOK (impl_ShortestWhole_es k) rfl follows Try.func37 (by kernel_rfl) (by kernel_rfl) rfl (forall_getD _ 1 (0, Code.skip) (by kernel_rfl) fun i hi => by
      match i, hi with
      | 0, _ => exact impl_ShortestWhole_lok1 k
      | n + 1, h => omega)
    dec_enc_ll dec_enc_si (impl_ShortestWhole_run k)

def laws_FnExactShortestWhole_C (k : Nat) : Cfg := ⟨tab, mvs, oraOf [laws_toLawn_e k, laws_toCell_e k, spec_ShortestWhole_e k, impl_ShortestWhole_e k], loOf []⟩
theorem laws_FnExactShortestWhole_es (k : Nat) : ∀ e ∈ ([laws_toLawn_e k, laws_toCell_e k, spec_ShortestWhole_e k, impl_ShortestWhole_e k] : List Ent), EntOK Try.prog tab mvs e := by
  intro e he
  simp only [List.mem_cons, List.not_mem_nil, or_false] at he
  rcases he with rfl | rfl | rfl | rfl
  · exact laws_toLawn_ok k
  · exact laws_toCell_ok k
  · exact spec_ShortestWhole_ok k
  · exact impl_ShortestWhole_ok k
def laws_FnExactShortestWhole_e (k : Nat) : Ent := (7, callOf [.agg 58, .agg 70] dec_ll fun (p : (List Int) × (List Int)) R K => (laws_FnExactShortestWhole k p.1 p.2).bind fun (b : Bool) => K ((fV (.bool) (enc_b b)).1, none))
theorem laws_FnExactShortestWhole_run (k : Nat) (p : (List Int) × (List Int)) : runF (laws_FnExactShortestWhole_C k) Try.f7 false (fL [.agg 58, .agg 70] (enc_ll p)).1 (resK (.bool) dec_b) = laws_FnExactShortestWhole k p.1 p.2 := by
  kernel_rfl
theorem laws_FnExactShortestWhole_ok (k : Nat) : EntOK Try.prog tab mvs (laws_FnExactShortestWhole_e k) :=
  fn_ok (C := laws_FnExactShortestWhole_C k) tabOK eqTabOK (laws_FnExactShortestWhole_es k) rfl follows Try.func7 (by kernel_rfl) (by kernel_rfl) rfl (forall_getD _ 0 (0, Code.skip) (by kernel_rfl) fun i hi => by
      omega)
    dec_enc_ll dec_enc_b (laws_FnExactShortestWhole_run k)




end Go.Proofs.Ytkdpdmfkomnalaa.Tt
