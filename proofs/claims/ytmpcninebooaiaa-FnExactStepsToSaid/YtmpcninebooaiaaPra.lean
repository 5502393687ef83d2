/- The code is what the functions in plain Lean say. -/
import Derived.Test.YtmpcninebooaiaaTab
import Derived.Test.YtmpcninebooaiaaSh
import Derived.Test.YtmpcninebooaiaaExt
import Derived.Test.YtmpcninebooaiaaE6
set_option linter.unusedVariables false
set_option linter.unusedSimpArgs false
set_option linter.unusedVariables false
namespace Go.Proofs.Ytmpcninebooaiaa.Tt
open Go.Ev Go
set_option maxRecDepth 100000


def mvs : List Nat := [115, 28, 46]

def dec_illl (ps : List Pay) : Option (Int × (List Int) × (List Int) × (List Int)) := match ps with
  | [.i x1, .l x2, .l x3, .l x4] => some (x1, x2, x3, x4)
  | _ => none
def enc_illl (p : Int × (List Int) × (List Int) × (List Int)) : List Pay := [.i p.1, .l p.2.1, .l p.2.2.1, .l p.2.2.2]
theorem dec_enc_illl : ∀ (ps : List Pay) (p : Int × (List Int) × (List Int) × (List Int)), dec_illl ps = some p → ps = enc_illl p := by
  intro ps p h
  unfold dec_illl at h
  split at h
  · injection h with h
    subst h
    rfl
  · cases h

def dec_l (ps : List Pay) : Option ((List Int)) := match ps with
  | [.l x1] => some x1
  | _ => none
def enc_l (p : (List Int)) : List Pay := [.l p]
theorem dec_enc_l : ∀ (ps : List Pay) (p : (List Int)), dec_l ps = some p → ps = enc_l p := by
  intro ps p h
  unfold dec_l at h
  split at h
  · injection h with h
    subst h
    rfl
  · cases h

def laws_toByteA10_t0 : StTm := ⟨15, [(1, .ptr 1 0 23), (2, .ptr 2 0 23), (3, .ptr 3 0 23), (4, .int .i64)], [(1, 23, true, .ints), (2, 23, true, .ints), (3, 23, true, .ints)]⟩
def laws_toByteA10_t0_1 : StTm := ⟨15, [(2, .ptr 2 0 23), (3, .ptr 3 0 23)], [(2, 23, true, .ints), (3, 23, true, .ints)]⟩
def laws_toByteA10_w0 (k : Nat) (R : Type) (K : Ex → St → Option R) (rec : Int × (List Int) × (List Int) × (List Int) → Option R) (p : Int × (List Int) × (List Int) × (List Int)) : Option R := laws_toByteA10_s0 k (fun y1 y2 => K (.exit 0) (fSt laws_toByteA10_t0_1 [.l y1, .l y2])) (fun h1 h2 h3 h4 => rec (h1, h2, h3, h4)) p.1 p.2.1 p.2.2.1 p.2.2.2
def laws_toByteA10_c0 (k : Nat) : Lcall := lcallOf tab laws_toByteA10_t0 dec_illl [1, 2, 3, 4] k (laws_toByteA10_w0 k)
def laws_toByteA10_C (k : Nat) : Cfg := ⟨tab, mvs, oraOf [], loOf [(0, laws_toByteA10_c0 k)]⟩
theorem laws_toByteA10_es (k : Nat) : ∀ e ∈ ([] : List Ent), EntOK Try.prog tab mvs e := by
  intro e he
  simp at he
theorem laws_toByteA10_step0 (k : Nat) (R : Type) (K : Ex → St → Option R) (g : St → Option R) (p : Int × (List Int) × (List Int) × (List Int)) : evCode (laws_toByteA10_C k) (loopP [0] (0, codeOf Try.f103)).2 (loopP [0] (0, codeOf Try.f103)).1 (fSt laws_toByteA10_t0 (enc_illl p)) (loopK tab [1, 2, 3, 4] [2, 3] [2] g K) = laws_toByteA10_w0 k R K (fun p => g (fSt laws_toByteA10_t0 (enc_illl p))) p := by
  kernel_rfl
theorem laws_toByteA10_lok0 (k : Nat) : LoopOK Try.prog tab (laws_toByteA10_C k).lo (loopP [0] (0, codeOf Try.f103)).1 (loopP [0] (0, codeOf Try.f103)).2 :=
  loopOK_of (C := laws_toByteA10_C k) tabOK eqTabOK (oraOf_ok (laws_toByteA10_es k)) (oraOf_nat (laws_toByteA10_es k)) follows (forall_getD _ 0 (0, Code.skip) (by kernel_rfl) fun i hi => by
      omega)
    (tm := laws_toByteA10_t0) (dec := dec_illl) (enc := enc_illl) (ksIn := [1, 2, 3, 4]) (ksOut := [2, 3]) (ksRet := [2]) (k := k) (step := laws_toByteA10_w0 k) dec_enc_illl (fun p => by kernel_rfl) (fun s R K => by kernel_rfl) (laws_toByteA10_step0 k)
def laws_toByteA10_e (k : Nat) : Ent := (103, callOf [.agg 23] dec_l fun (p : (List Int)) R K => (laws_toByteA10 k p).bind fun (b : (List Int)) => K ((fV (.agg 23) (enc_l b)).1, none))
theorem laws_toByteA10_run (k : Nat) (p : (List Int)) : runF (laws_toByteA10_C k) Try.f103 false (fL [.agg 23] (enc_l p)).1 (resK (.agg 23) dec_l) = laws_toByteA10 k p := by
  kernel_rfl
theorem laws_toByteA10_ok (k : Nat) : EntOK Try.prog tab mvs (laws_toByteA10_e k) :=
  fn_ok (C := laws_toByteA10_C k) tabOK eqTabOK (laws_toByteA10_es k) rfl follows Try.func103 (by kernel_rfl) (by kernel_rfl) rfl (forall_getD _ 1 (0, Code.skip) (by kernel_rfl) fun i hi => by
      match i, hi with
      | 0, _ => exact laws_toByteA10_lok0 k
      | n + 1, h => omega)
    dec_enc_l dec_enc_l (laws_toByteA10_run k)

def laws_toByteA10A10_t0 : StTm := ⟨16, [(1, .ptr 1 0 24), (2, .ptr 2 0 24), (3, .ptr 3 0 24), (4, .int .i64)], [(1, 24, true, .ints), (2, 24, true, .ints), (3, 24, true, .ints)]⟩
def laws_toByteA10A10_t0_1 : StTm := ⟨16, [(2, .ptr 2 0 24), (3, .ptr 3 0 24)], [(2, 24, true, .ints), (3, 24, true, .ints)]⟩
def laws_toByteA10A10_w0 (k : Nat) (R : Type) (K : Ex → St → Option R) (rec : Int × (List Int) × (List Int) × (List Int) → Option R) (p : Int × (List Int) × (List Int) × (List Int)) : Option R := laws_toByteA10A10_s0 k (fun y1 y2 => K (.exit 0) (fSt laws_toByteA10A10_t0_1 [.l y1, .l y2])) (fun h1 h2 h3 h4 => rec (h1, h2, h3, h4)) p.1 p.2.1 p.2.2.1 p.2.2.2
def laws_toByteA10A10_c0 (k : Nat) : Lcall := lcallOf tab laws_toByteA10A10_t0 dec_illl [1, 2, 3, 4] k (laws_toByteA10A10_w0 k)
def laws_toByteA10A10_C (k : Nat) : Cfg := ⟨tab, mvs, oraOf [laws_toByteA10_e k], loOf [(0, laws_toByteA10A10_c0 k)]⟩
theorem laws_toByteA10A10_es (k : Nat) : ∀ e ∈ ([laws_toByteA10_e k] : List Ent), EntOK Try.prog tab mvs e := by
  intro e he
  simp only [List.mem_cons, List.not_mem_nil, or_false] at he
  rcases he with rfl
  · exact laws_toByteA10_ok k
theorem laws_toByteA10A10_step0 (k : Nat) (R : Type) (K : Ex → St → Option R) (g : St → Option R) (p : Int × (List Int) × (List Int) × (List Int)) : evCode (laws_toByteA10A10_C k) (loopP [0] (0, codeOf Try.f56)).2 (loopP [0] (0, codeOf Try.f56)).1 (fSt laws_toByteA10A10_t0 (enc_illl p)) (loopK tab [1, 2, 3, 4] [2, 3] [2] g K) = laws_toByteA10A10_w0 k R K (fun p => g (fSt laws_toByteA10A10_t0 (enc_illl p))) p := by
  kernel_rfl
theorem laws_toByteA10A10_lok0 (k : Nat) : LoopOK Try.prog tab (laws_toByteA10A10_C k).lo (loopP [0] (0, codeOf Try.f56)).1 (loopP [0] (0, codeOf Try.f56)).2 :=
  loopOK_of (C := laws_toByteA10A10_C k) tabOK eqTabOK (oraOf_ok (laws_toByteA10A10_es k)) (oraOf_nat (laws_toByteA10A10_es k)) follows (forall_getD _ 0 (0, Code.skip) (by kernel_rfl) fun i hi => by
      omega)
    (tm := laws_toByteA10A10_t0) (dec := dec_illl) (enc := enc_illl) (ksIn := [1, 2, 3, 4]) (ksOut := [2, 3]) (ksRet := [2]) (k := k) (step := laws_toByteA10A10_w0 k) dec_enc_illl (fun p => by kernel_rfl) (fun s R K => by kernel_rfl) (laws_toByteA10A10_step0 k)
def laws_toByteA10A10_e (k : Nat) : Ent := (56, callOf [.agg 24] dec_l fun (p : (List Int)) R K => (laws_toByteA10A10 k p).bind fun (b : (List Int)) => K ((fV (.agg 24) (enc_l b)).1, none))
theorem laws_toByteA10A10_run (k : Nat) (p : (List Int)) : runF (laws_toByteA10A10_C k) Try.f56 false (fL [.agg 24] (enc_l p)).1 (resK (.agg 24) dec_l) = laws_toByteA10A10 k p := by
  kernel_rfl
theorem laws_toByteA10A10_ok (k : Nat) : EntOK Try.prog tab mvs (laws_toByteA10A10_e k) :=
  fn_ok (C := laws_toByteA10A10_C k) tabOK eqTabOK (laws_toByteA10A10_es k) rfl follows Try.func56 (by kernel_rfl) (by kernel_rfl) rfl (forall_getD _ 1 (0, Code.skip) (by kernel_rfl) fun i hi => by
      match i, hi with
      | 0, _ => exact laws_toByteA10A10_lok0 k
      | n + 1, h => omega)
    dec_enc_l dec_enc_l (laws_toByteA10A10_run k)

def laws_toLawn_C (k : Nat) : Cfg := ⟨tab, mvs, oraOf [laws_toByteA10A10_e k], loOf []⟩
theorem laws_toLawn_es (k : Nat) : ∀ e ∈ ([laws_toByteA10A10_e k] : List Ent), EntOK Try.prog tab mvs e := by
  intro e he
  simp only [List.mem_cons, List.not_mem_nil, or_false] at he
  rcases he with rfl
  · exact laws_toByteA10A10_ok k
def laws_toLawn_e (k : Nat) : Ent := (16, callOf [.agg 26] dec_l fun (p : (List Int)) R K => (laws_toLawn k p).bind fun (b : (List Int)) => K ((fV (.agg 33) (enc_l b)).1, none))
theorem laws_toLawn_run (k : Nat) (p : (List Int)) : runF (laws_toLawn_C k) Try.f16 false (fL [.agg 26] (enc_l p)).1 (resK (.agg 33) dec_l) = laws_toLawn k p := by
  kernel_rfl
theorem laws_toLawn_ok (k : Nat) : EntOK Try.prog tab mvs (laws_toLawn_e k) :=
  fn_ok (C := laws_toLawn_C k) tabOK eqTabOK (laws_toLawn_es k) rfl follows Try.func16 (by kernel_rfl) (by kernel_rfl) rfl (forall_getD _ 0 (0, Code.skip) (by kernel_rfl) fun i hi => by
      omega)
    dec_enc_l dec_enc_l (laws_toLawn_run k)

def dec_iii (ps : List Pay) : Option (Int × Int × Int) := match ps with
  | [.i x1, .i x2, .i x3] => some (x1, x2, x3)
  | _ => none
def enc_iii (p : Int × Int × Int) : List Pay := [.i p.1, .i p.2.1, .i p.2.2]
theorem dec_enc_iii : ∀ (ps : List Pay) (p : Int × Int × Int), dec_iii ps = some p → ps = enc_iii p := by
  intro ps p h
  unfold dec_iii at h
  split at h
  · injection h with h
    subst h
    rfl
  · cases h

def dec_b (ps : List Pay) : Option (Bool) := match ps with
  | [.b x1] => some x1
  | _ => none
def enc_b (p : Bool) : List Pay := [.b p]
theorem dec_enc_b : ∀ (ps : List Pay) (p : Bool), dec_b ps = some p → ps = enc_b p := by
  intro ps p h
  unfold dec_b at h
  split at h
  · injection h with h
    subst h
    rfl
  · cases h

def spec_l00In_C (k : Nat) : Cfg := ⟨tab, mvs, oraOf [], loOf []⟩
theorem spec_l00In_es (k : Nat) : ∀ e ∈ ([] : List Ent), EntOK Try.prog tab mvs e := by
  intro e he
  simp at he
def spec_l00In_e (k : Nat) : Ent := (108, callOf [.int .i64, .int .i64, .int .i64] dec_iii fun (p : Int × Int × Int) R K => (spec_l00In k p.1 p.2.1 p.2.2).bind fun (b : Bool) => K ((fV (.bool) (enc_b b)).1, none))
theorem spec_l00In_run (k : Nat) (p : Int × Int × Int) : runF (spec_l00In_C k) Try.f108 false (fL [.int .i64, .int .i64, .int .i64] (enc_iii p)).1 (resK (.bool) dec_b) = spec_l00In k p.1 p.2.1 p.2.2 := by
  kernel_rfl
theorem spec_l00In_ok (k : Nat) : EntOK Try.prog tab mvs (spec_l00In_e k) :=
  fn_ok (C := spec_l00In_C k) tabOK eqTabOK (spec_l00In_es k) rfl follows Try.func108 (by kernel_rfl) (by kernel_rfl) rfl (forall_getD _ 0 (0, Code.skip) (by kernel_rfl) fun i hi => by
      omega)
    dec_enc_iii dec_enc_b (spec_l00In_run k)

def dec_i (ps : List Pay) : Option (Int) := match ps with
  | [.i x1] => some x1
  | _ => none
def enc_i (p : Int) : List Pay := [.i p]
theorem dec_enc_i : ∀ (ps : List Pay) (p : Int), dec_i ps = some p → ps = enc_i p := by
  intro ps p h
  unfold dec_i at h
  split at h
  · injection h with h
    subst h
    rfl
  · cases h

def spec_l01Side_C (k : Nat) : Cfg := ⟨tab, mvs, oraOf [spec_l00In_e k], loOf []⟩
theorem spec_l01Side_es (k : Nat) : ∀ e ∈ ([spec_l00In_e k] : List Ent), EntOK Try.prog tab mvs e := by
  intro e he
  simp only [List.mem_cons, List.not_mem_nil, or_false] at he
  rcases he with rfl
  · exact spec_l00In_ok k
def spec_l01Side_e (k : Nat) : Ent := (99, callOf [.int .i64] dec_i fun (p : Int) R K => (spec_l01Side k p).bind fun (b : Bool) => K ((fV (.bool) (enc_b b)).1, none))
theorem spec_l01Side_run (k : Nat) (p : Int) : runF (spec_l01Side_C k) Try.f99 false (fL [.int .i64] (enc_i p)).1 (resK (.bool) dec_b) = spec_l01Side k p := by
  kernel_rfl
theorem spec_l01Side_ok (k : Nat) : EntOK Try.prog tab mvs (spec_l01Side_e k) :=
  fn_ok (C := spec_l01Side_C k) tabOK eqTabOK (spec_l01Side_es k) rfl follows Try.func99 (by kernel_rfl) (by kernel_rfl) rfl (forall_getD _ 0 (0, Code.skip) (by kernel_rfl) fun i hi => by
      omega)
    dec_enc_i dec_enc_b (spec_l01Side_run k)

def spec_l01Kind_C (k : Nat) : Cfg := ⟨tab, mvs, oraOf [spec_l00In_e k], loOf []⟩
theorem spec_l01Kind_es (k : Nat) : ∀ e ∈ ([spec_l00In_e k] : List Ent), EntOK Try.prog tab mvs e := by
  intro e he
  simp only [List.mem_cons, List.not_mem_nil, or_false] at he
  rcases he with rfl
  · exact spec_l00In_ok k
def spec_l01Kind_e (k : Nat) : Ent := (100, callOf [.int .i64] dec_i fun (p : Int) R K => (spec_l01Kind k p).bind fun (b : Bool) => K ((fV (.bool) (enc_b b)).1, none))
theorem spec_l01Kind_run (k : Nat) (p : Int) : runF (spec_l01Kind_C k) Try.f100 false (fL [.int .i64] (enc_i p)).1 (resK (.bool) dec_b) = spec_l01Kind k p := by
  kernel_rfl
theorem spec_l01Kind_ok (k : Nat) : EntOK Try.prog tab mvs (spec_l01Kind_e k) :=
  fn_ok (C := spec_l01Kind_C k) tabOK eqTabOK (spec_l01Kind_es k) rfl follows Try.func100 (by kernel_rfl) (by kernel_rfl) rfl (forall_getD _ 0 (0, Code.skip) (by kernel_rfl) fun i hi => by
      omega)
    dec_enc_i dec_enc_b (spec_l01Kind_run k)

def dec_ll (ps : List Pay) : Option ((List Int) × (List Int)) := match ps with
  | [.l x1, .l x2] => some (x1, x2)
  | _ => none
def enc_ll (p : (List Int) × (List Int)) : List Pay := [.l p.1, .l p.2]
theorem dec_enc_ll : ∀ (ps : List Pay) (p : (List Int) × (List Int)), dec_ll ps = some p → ps = enc_ll p := by
  intro ps p h
  unfold dec_ll at h
  split at h
  · injection h with h
    subst h
    rfl
  · cases h

def spec_l01Is_C (k : Nat) : Cfg := ⟨tab, mvs, oraOf [spec_l00In_e k], loOf []⟩
theorem spec_l01Is_es (k : Nat) : ∀ e ∈ ([spec_l00In_e k] : List Ent), EntOK Try.prog tab mvs e := by
  intro e he
  simp only [List.mem_cons, List.not_mem_nil, or_false] at he
  rcases he with rfl
  · exact spec_l00In_ok k
def spec_l01Is_e (k : Nat) : Ent := (89, callOf [.pvi (some 33) 0 33, .agg 28] dec_ll fun (p : (List Int) × (List Int)) R K => (spec_l01Is k p.1 p.2).bind fun (b : Bool) => K ((fV (.bool) (enc_b b)).1, none))
theorem spec_l01Is_run (k : Nat) (p : (List Int) × (List Int)) : runF (spec_l01Is_C k) Try.f89 false (fL [.pvi (some 33) 0 33, .agg 28] (enc_ll p)).1 (resK (.bool) dec_b) = spec_l01Is k p.1 p.2 := by
  kernel_rfl
theorem spec_l01Is_ok (k : Nat) : EntOK Try.prog tab mvs (spec_l01Is_e k) :=
  fn_ok (C := spec_l01Is_C k) tabOK eqTabOK (spec_l01Is_es k) rfl follows Try.func89 (by kernel_rfl) (by kernel_rfl) rfl (forall_getD _ 0 (0, Code.skip) (by kernel_rfl) fun i hi => by
      omega)
    dec_enc_ll dec_enc_b (spec_l01Is_run k)

def dec_lii (ps : List Pay) : Option ((List Int) × Int × Int) := match ps with
  | [.l x1, .i x2, .i x3] => some (x1, x2, x3)
  | _ => none
def enc_lii (p : (List Int) × Int × Int) : List Pay := [.l p.1, .i p.2.1, .i p.2.2]
theorem dec_enc_lii : ∀ (ps : List Pay) (p : (List Int) × Int × Int), dec_lii ps = some p → ps = enc_lii p := by
  intro ps p h
  unfold dec_lii at h
  split at h
  · injection h with h
    subst h
    rfl
  · cases h

def dec_li (ps : List Pay) : Option ((List Int) × Int) := match ps with
  | [.l x1, .i x2] => some (x1, x2)
  | _ => none
def enc_li (p : (List Int) × Int) : List Pay := [.l p.1, .i p.2]
theorem dec_enc_li : ∀ (ps : List Pay) (p : (List Int) × Int), dec_li ps = some p → ps = enc_li p := by
  intro ps p h
  unfold dec_li at h
  split at h
  · injection h with h
    subst h
    rfl
  · cases h

def spec_l01Ok_t0 : StTm := ⟨54, [(0, .pvi (some 33) 0 33), (3, .int .i8), (4, .int .i8)], []⟩
def spec_l01Ok_t0_1 : StTm := ⟨54, [(2, .bool)], []⟩
def spec_l01Ok_t0_2 : StTm := ⟨54, [(0, .pvi (some 33) 0 33), (3, .int .i8)], []⟩
def spec_l01Ok_w0 (k : Nat) (R : Type) (K : Ex → St → Option R) (rec : (List Int) × Int × Int → Option R) (p : (List Int) × Int × Int) : Option R := spec_l01Ok_s0 k (fun y1 => K .ret (fSt spec_l01Ok_t0_1 [.b y1])) (fun y1 y2 => K (.exit 2) (fSt spec_l01Ok_t0_2 [.l y1, .i y2])) (fun h1 h2 h3 => rec (h1, h2, h3)) p.1 p.2.1 p.2.2
def spec_l01Ok_c0 (k : Nat) : Lcall := lcallOf tab spec_l01Ok_t0 dec_lii [0, 3, 4] k (spec_l01Ok_w0 k)
def spec_l01Ok_t1 : StTm := ⟨54, [(0, .pvi (some 33) 0 33), (3, .int .i8)], []⟩
def spec_l01Ok_t1_1 : StTm := ⟨54, [(2, .bool)], []⟩
def spec_l01Ok_t1_2 : StTm := ⟨54, [], []⟩
def spec_l01Ok_w1 (k : Nat) (R : Type) (K : Ex → St → Option R) (rec : (List Int) × Int → Option R) (p : (List Int) × Int) : Option R := spec_l01Ok_s1 k (fun y1 => K .ret (fSt spec_l01Ok_t1_1 [.b y1])) (K (.exit 0) (fSt spec_l01Ok_t1_2 [])) (fun h1 h2 => rec (h1, h2)) p.1 p.2
def spec_l01Ok_c1 (k : Nat) : Lcall := lcallOf tab spec_l01Ok_t1 dec_li [0, 3] k (spec_l01Ok_w1 k)
def spec_l01Ok_C (k : Nat) : Cfg := ⟨tab, mvs, oraOf [spec_l01Side_e k, spec_l01Kind_e k, spec_l01Is_e k], loOf [(2, spec_l01Ok_c0 k), (0, spec_l01Ok_c1 k)]⟩
theorem spec_l01Ok_es (k : Nat) : ∀ e ∈ ([spec_l01Side_e k, spec_l01Kind_e k, spec_l01Is_e k] : List Ent), EntOK Try.prog tab mvs e := by
  intro e he
  simp only [List.mem_cons, List.not_mem_nil, or_false] at he
  rcases he with rfl | rfl | rfl
  · exact spec_l01Side_ok k
  · exact spec_l01Kind_ok k
  · exact spec_l01Is_ok k
theorem spec_l01Ok_step0 (k : Nat) (R : Type) (K : Ex → St → Option R) (g : St → Option R) (p : (List Int) × Int × Int) : evCode (spec_l01Ok_C k) (loopP [0, 0] (0, codeOf Try.f54)).2 (loopP [0, 0] (0, codeOf Try.f54)).1 (fSt spec_l01Ok_t0 (enc_lii p)) (loopK tab [0, 3, 4] [0, 3] [2] g K) = spec_l01Ok_w0 k R K (fun p => g (fSt spec_l01Ok_t0 (enc_lii p))) p := by
  kernel_rfl
theorem spec_l01Ok_lok0 (k : Nat) : LoopOK Try.prog tab (spec_l01Ok_C k).lo (loopP [0, 0] (0, codeOf Try.f54)).1 (loopP [0, 0] (0, codeOf Try.f54)).2 :=
  loopOK_of (C := spec_l01Ok_C k) tabOK eqTabOK (oraOf_ok (spec_l01Ok_es k)) (oraOf_nat (spec_l01Ok_es k)) follows (forall_getD _ 0 (0, Code.skip) (by kernel_rfl) fun i hi => by
      omega)
    (tm := spec_l01Ok_t0) (dec := dec_lii) (enc := enc_lii) (ksIn := [0, 3, 4]) (ksOut := [0, 3]) (ksRet := [2]) (k := k) (step := spec_l01Ok_w0 k) dec_enc_lii (fun p => by kernel_rfl) (fun s R K => by kernel_rfl) (spec_l01Ok_step0 k)
theorem spec_l01Ok_step1 (k : Nat) (R : Type) (K : Ex → St → Option R) (g : St → Option R) (p : (List Int) × Int) : evCode (spec_l01Ok_C k) (loopP [0] (0, codeOf Try.f54)).2 (loopP [0] (0, codeOf Try.f54)).1 (fSt spec_l01Ok_t1 (enc_li p)) (loopK tab [0, 3] [] [2] g K) = spec_l01Ok_w1 k R K (fun p => g (fSt spec_l01Ok_t1 (enc_li p))) p := by
  kernel_rfl
theorem spec_l01Ok_lok1 (k : Nat) : LoopOK Try.prog tab (spec_l01Ok_C k).lo (loopP [0] (0, codeOf Try.f54)).1 (loopP [0] (0, codeOf Try.f54)).2 :=
  loopOK_of (C := spec_l01Ok_C k) tabOK eqTabOK (oraOf_ok (spec_l01Ok_es k)) (oraOf_nat (spec_l01Ok_es k)) follows (forall_getD _ 1 (0, Code.skip) (by kernel_rfl) fun i hi => by
      match i, hi with
      | 0, _ => exact spec_l01Ok_lok0 k
      | n + 1, h => omega)
    (tm := spec_l01Ok_t1) (dec := dec_li) (enc := enc_li) (ksIn := [0, 3]) (ksOut := []) (ksRet := [2]) (k := k) (step := spec_l01Ok_w1 k) dec_enc_li (fun p => by kernel_rfl) (fun s R K => by kernel_rfl) (spec_l01Ok_step1 k)
def spec_l01Ok_e (k : Nat) : Ent := (54, callOf [.pvi (some 33) 0 33] dec_l fun (p : (List Int)) R K => (spec_l01Ok k p).bind fun (b : Bool) => K ((fV (.bool) (enc_b b)).1, none))
theorem spec_l01Ok_run (k : Nat) (p : (List Int)) : runF (spec_l01Ok_C k) Try.f54 false (fL [.pvi (some 33) 0 33] (enc_l p)).1 (resK (.bool) dec_b) = spec_l01Ok k p := by
  kernel_rfl
theorem spec_l01Ok_ok (k : Nat) : EntOK Try.prog tab mvs (spec_l01Ok_e k) :=
  fn_ok (C := spec_l01Ok_C k) tabOK eqTabOK (spec_l01Ok_es k) rfl follows Try.func54 (by kernel_rfl) (by kernel_rfl) rfl (forall_getD _ 1 (0, Code.skip) (by kernel_rfl) fun i hi => by
      match i, hi with
      | 0, _ => exact spec_l01Ok_lok1 k
      | n + 1, h => omega)
    dec_enc_l dec_enc_b (spec_l01Ok_run k)

def dec_liil (ps : List Pay) : Option ((List Int) × Int × Int × (List Int)) := match ps with
  | [.l x1, .i x2, .i x3, .l x4] => some (x1, x2, x3, x4)
  | _ => none
def enc_liil (p : (List Int) × Int × Int × (List Int)) : List Pay := [.l p.1, .i p.2.1, .i p.2.2.1, .l p.2.2.2]
theorem dec_enc_liil : ∀ (ps : List Pay) (p : (List Int) × Int × Int × (List Int)), dec_liil ps = some p → ps = enc_liil p := by
  intro ps p h
  unfold dec_liil at h
  split at h
  · injection h with h
    subst h
    rfl
  · cases h

def dec_lil (ps : List Pay) : Option ((List Int) × Int × (List Int)) := match ps with
  | [.l x1, .i x2, .l x3] => some (x1, x2, x3)
  | _ => none
def enc_lil (p : (List Int) × Int × (List Int)) : List Pay := [.l p.1, .i p.2.1, .l p.2.2]
theorem dec_enc_lil : ∀ (ps : List Pay) (p : (List Int) × Int × (List Int)), dec_lil ps = some p → ps = enc_lil p := by
  intro ps p h
  unfold dec_lil at h
  split at h
  · injection h with h
    subst h
    rfl
  · cases h

def spec_l01All_t0 : StTm := ⟨30, [(0, .pvi (some 33) 0 33), (3, .slw 3 28), (4, .int .i8), (5, .int .i8)], [(3, 28, false, .ints)]⟩
def spec_l01All_t0_1 : StTm := ⟨30, [(0, .pvi (some 33) 0 33), (3, .slw 3 28), (4, .int .i8)], [(3, 28, false, .ints)]⟩
def spec_l01All_w0 (k : Nat) (R : Type) (K : Ex → St → Option R) (rec : (List Int) × Int × Int × (List Int) → Option R) (p : (List Int) × Int × Int × (List Int)) : Option R := spec_l01All_s0 k (fun y1 y2 y3 => K (.exit 2) (fSt spec_l01All_t0_1 [.l y1, .i y2, .l y3])) (fun h1 h2 h3 h4 => rec (h1, h2, h3, h4)) p.1 p.2.1 p.2.2.1 p.2.2.2
def spec_l01All_c0 (k : Nat) : Lcall := lcallOf tab spec_l01All_t0 dec_liil [0, 3, 4, 5] k (spec_l01All_w0 k)
def spec_l01All_t1 : StTm := ⟨30, [(0, .pvi (some 33) 0 33), (3, .slw 3 28), (4, .int .i8)], [(3, 28, false, .ints)]⟩
def spec_l01All_t1_1 : StTm := ⟨30, [(3, .slw 3 28)], [(3, 28, false, .ints)]⟩
def spec_l01All_w1 (k : Nat) (R : Type) (K : Ex → St → Option R) (rec : (List Int) × Int × (List Int) → Option R) (p : (List Int) × Int × (List Int)) : Option R := spec_l01All_s1 k (fun y1 => K (.exit 0) (fSt spec_l01All_t1_1 [.l y1])) (fun h1 h2 h3 => rec (h1, h2, h3)) p.1 p.2.1 p.2.2
def spec_l01All_c1 (k : Nat) : Lcall := lcallOf tab spec_l01All_t1 dec_lil [0, 3, 4] k (spec_l01All_w1 k)
def spec_l01All_C (k : Nat) : Cfg := ⟨tab, mvs, oraOf [], loOf [(2, spec_l01All_c0 k), (0, spec_l01All_c1 k)]⟩
theorem spec_l01All_es (k : Nat) : ∀ e ∈ ([] : List Ent), EntOK Try.prog tab mvs e := by
  intro e he
  simp at he
theorem spec_l01All_step0 (k : Nat) (R : Type) (K : Ex → St → Option R) (g : St → Option R) (p : (List Int) × Int × Int × (List Int)) : evCode (spec_l01All_C k) (loopP [0, 0] (0, codeOf Try.f112)).2 (loopP [0, 0] (0, codeOf Try.f112)).1 (fSt spec_l01All_t0 (enc_liil p)) (loopK tab [0, 3, 4, 5] [0, 3, 4] [2] g K) = spec_l01All_w0 k R K (fun p => g (fSt spec_l01All_t0 (enc_liil p))) p := by
  kernel_rfl
theorem spec_l01All_lok0 (k : Nat) : LoopOK Try.prog tab (spec_l01All_C k).lo (loopP [0, 0] (0, codeOf Try.f112)).1 (loopP [0, 0] (0, codeOf Try.f112)).2 :=
  loopOK_of (C := spec_l01All_C k) tabOK eqTabOK (oraOf_ok (spec_l01All_es k)) (oraOf_nat (spec_l01All_es k)) follows (forall_getD _ 0 (0, Code.skip) (by kernel_rfl) fun i hi => by
      omega)
    (tm := spec_l01All_t0) (dec := dec_liil) (enc := enc_liil) (ksIn := [0, 3, 4, 5]) (ksOut := [0, 3, 4]) (ksRet := [2]) (k := k) (step := spec_l01All_w0 k) dec_enc_liil (fun p => by kernel_rfl) (fun s R K => by kernel_rfl) (spec_l01All_step0 k)
theorem spec_l01All_step1 (k : Nat) (R : Type) (K : Ex → St → Option R) (g : St → Option R) (p : (List Int) × Int × (List Int)) : evCode (spec_l01All_C k) (loopP [0] (0, codeOf Try.f112)).2 (loopP [0] (0, codeOf Try.f112)).1 (fSt spec_l01All_t1 (enc_lil p)) (loopK tab [0, 3, 4] [3] [2] g K) = spec_l01All_w1 k R K (fun p => g (fSt spec_l01All_t1 (enc_lil p))) p := by
  kernel_rfl
theorem spec_l01All_lok1 (k : Nat) : LoopOK Try.prog tab (spec_l01All_C k).lo (loopP [0] (0, codeOf Try.f112)).1 (loopP [0] (0, codeOf Try.f112)).2 :=
  loopOK_of (C := spec_l01All_C k) tabOK eqTabOK (oraOf_ok (spec_l01All_es k)) (oraOf_nat (spec_l01All_es k)) follows (forall_getD _ 1 (0, Code.skip) (by kernel_rfl) fun i hi => by
      match i, hi with
      | 0, _ => exact spec_l01All_lok0 k
      | n + 1, h => omega)
    (tm := spec_l01All_t1) (dec := dec_lil) (enc := enc_lil) (ksIn := [0, 3, 4]) (ksOut := [3]) (ksRet := [2]) (k := k) (step := spec_l01All_w1 k) dec_enc_lil (fun p => by kernel_rfl) (fun s R K => by kernel_rfl) (spec_l01All_step1 k)
def spec_l01All_e (k : Nat) : Ent := (112, callOf [.pvi (some 33) 0 33] dec_l fun (p : (List Int)) R K => (spec_l01All k p).bind fun (b : (List Int)) => K ((fV (.slv 28) (enc_l b)).1, none))
theorem spec_l01All_run (k : Nat) (p : (List Int)) : runF (spec_l01All_C k) Try.f112 false (fL [.pvi (some 33) 0 33] (enc_l p)).1 (resK (.slv 28) dec_l) = spec_l01All k p := by
  kernel_rfl
theorem spec_l01All_ok (k : Nat) : EntOK Try.prog tab mvs (spec_l01All_e k) :=
  fn_ok (C := spec_l01All_C k) tabOK eqTabOK (spec_l01All_es k) rfl follows Try.func112 (by kernel_rfl) (by kernel_rfl) rfl (forall_getD _ 1 (0, Code.skip) (by kernel_rfl) fun i hi => by
      match i, hi with
      | 0, _ => exact spec_l01All_lok1 k
      | n + 1, h => omega)
    dec_enc_l dec_enc_l (spec_l01All_run k)

def spec_l01At_C (k : Nat) : Cfg := ⟨tab, mvs, oraOf [], loOf []⟩
theorem spec_l01At_es (k : Nat) : ∀ e ∈ ([] : List Ent), EntOK Try.prog tab mvs e := by
  intro e he
  simp at he
def spec_l01At_e (k : Nat) : Ent := (113, callOf [.pvi (some 33) 0 33, .agg 28] dec_ll fun (p : (List Int) × (List Int)) R K => (spec_l01At k p.1 p.2).bind fun (b : Int) => K ((fV (.int .i64) (enc_i b)).1, none))
theorem spec_l01At_run (k : Nat) (p : (List Int) × (List Int)) : runF (spec_l01At_C k) Try.f113 false (fL [.pvi (some 33) 0 33, .agg 28] (enc_ll p)).1 (resK (.int .i64) dec_i) = spec_l01At k p.1 p.2 := by
  kernel_rfl
theorem spec_l01At_ok (k : Nat) : EntOK Try.prog tab mvs (spec_l01At_e k) :=
  fn_ok (C := spec_l01At_C k) tabOK eqTabOK (spec_l01At_es k) rfl follows Try.func113 (by kernel_rfl) (by kernel_rfl) rfl (forall_getD _ 0 (0, Code.skip) (by kernel_rfl) fun i hi => by
      omega)
    dec_enc_ll dec_enc_i (spec_l01At_run k)

def dec_liill (ps : List Pay) : Option ((List Int) × Int × Int × (List Int) × (List Int)) := match ps with
  | [.l x1, .i x2, .i x3, .l x4, .l x5] => some (x1, x2, x3, x4, x5)
  | _ => none
def enc_liill (p : (List Int) × Int × Int × (List Int) × (List Int)) : List Pay := [.l p.1, .i p.2.1, .i p.2.2.1, .l p.2.2.2.1, .l p.2.2.2.2]
theorem dec_enc_liill : ∀ (ps : List Pay) (p : (List Int) × Int × Int × (List Int) × (List Int)), dec_liill ps = some p → ps = enc_liill p := by
  intro ps p h
  unfold dec_liill at h
  split at h
  · injection h with h
    subst h
    rfl
  · cases h

def spec_l01Cells_t0 : StTm := ⟨33, [(0, .pvi (some 33) 0 33), (1, .int .i64), (5, .slw 5 28), (6, .slw 6 28), (7, .int .i64)], [(5, 28, false, .ints), (6, 28, false, .ints)]⟩
def spec_l01Cells_t0_1 : StTm := ⟨33, [(5, .slw 5 28)], [(5, 28, false, .ints)]⟩
def spec_l01Cells_w0 (k : Nat) (R : Type) (K : Ex → St → Option R) (rec : (List Int) × Int × Int × (List Int) × (List Int) → Option R) (p : (List Int) × Int × Int × (List Int) × (List Int)) : Option R := spec_l01Cells_s0 k (fun y1 => K (.exit 0) (fSt spec_l01Cells_t0_1 [.l y1])) (fun h1 h2 h3 h4 h5 => rec (h1, h2, h3, h4, h5)) p.1 p.2.1 p.2.2.1 p.2.2.2.1 p.2.2.2.2
def spec_l01Cells_c0 (k : Nat) : Lcall := lcallOf tab spec_l01Cells_t0 dec_liill [0, 1, 5, 6, 7] k (spec_l01Cells_w0 k)
def spec_l01Cells_C (k : Nat) : Cfg := ⟨tab, mvs, oraOf [spec_l01All_e k, spec_l01At_e k], loOf [(0, spec_l01Cells_c0 k)]⟩
theorem spec_l01Cells_es (k : Nat) : ∀ e ∈ ([spec_l01All_e k, spec_l01At_e k] : List Ent), EntOK Try.prog tab mvs e := by
  intro e he
  simp only [List.mem_cons, List.not_mem_nil, or_false] at he
  rcases he with rfl | rfl
  · exact spec_l01All_ok k
  · exact spec_l01At_ok k
theorem spec_l01Cells_step0 (k : Nat) (R : Type) (K : Ex → St → Option R) (g : St → Option R) (p : (List Int) × Int × Int × (List Int) × (List Int)) : evCode (spec_l01Cells_C k) (loopP [0] (0, codeOf Try.f64)).2 (loopP [0] (0, codeOf Try.f64)).1 (fSt spec_l01Cells_t0 (enc_liill p)) (loopK tab [0, 1, 5, 6, 7] [5] [4] g K) = spec_l01Cells_w0 k R K (fun p => g (fSt spec_l01Cells_t0 (enc_liill p))) p := by
  kernel_rfl
theorem spec_l01Cells_lok0 (k : Nat) : LoopOK Try.prog tab (spec_l01Cells_C k).lo (loopP [0] (0, codeOf Try.f64)).1 (loopP [0] (0, codeOf Try.f64)).2 :=
  loopOK_of (C := spec_l01Cells_C k) tabOK eqTabOK (oraOf_ok (spec_l01Cells_es k)) (oraOf_nat (spec_l01Cells_es k)) follows (forall_getD _ 0 (0, Code.skip) (by kernel_rfl) fun i hi => by
      omega)
    (tm := spec_l01Cells_t0) (dec := dec_liill) (enc := enc_liill) (ksIn := [0, 1, 5, 6, 7]) (ksOut := [5]) (ksRet := [4]) (k := k) (step := spec_l01Cells_w0 k) dec_enc_liill (fun p => by kernel_rfl) (fun s R K => by kernel_rfl) (spec_l01Cells_step0 k)
def spec_l01Cells_e (k : Nat) : Ent := (64, callOf [.pvi (some 33) 0 33, .int .i64] dec_li fun (p : (List Int) × Int) R K => (spec_l01Cells k p.1 p.2).bind fun (b : (List Int)) => K ((fV (.slv 28) (enc_l b)).1, none))
theorem spec_l01Cells_run (k : Nat) (p : (List Int) × Int) : runF (spec_l01Cells_C k) Try.f64 false (fL [.pvi (some 33) 0 33, .int .i64] (enc_li p)).1 (resK (.slv 28) dec_l) = spec_l01Cells k p.1 p.2 := by
  kernel_rfl
theorem spec_l01Cells_ok (k : Nat) : EntOK Try.prog tab mvs (spec_l01Cells_e k) :=
  fn_ok (C := spec_l01Cells_C k) tabOK eqTabOK (spec_l01Cells_es k) rfl follows Try.func64 (by kernel_rfl) (by kernel_rfl) rfl (forall_getD _ 1 (0, Code.skip) (by kernel_rfl) fun i hi => by
      match i, hi with
      | 0, _ => exact spec_l01Cells_lok0 k
      | n + 1, h => omega)
    dec_enc_li dec_enc_l (spec_l01Cells_run k)

def dec_lbi (ps : List Pay) : Option ((List Int) × Bool × Int) := match ps with
  | [.l x1, .b x2, .i x3] => some (x1, x2, x3)
  | _ => none
def enc_lbi (p : (List Int) × Bool × Int) : List Pay := [.l p.1, .b p.2.1, .i p.2.2]
theorem dec_enc_lbi : ∀ (ps : List Pay) (p : (List Int) × Bool × Int), dec_lbi ps = some p → ps = enc_lbi p := by
  intro ps p h
  unfold dec_lbi at h
  split at h
  · injection h with h
    subst h
    rfl
  · cases h

def spec_l01Back_C (k : Nat) : Cfg := ⟨tab, mvs, oraOf [], loOf []⟩
theorem spec_l01Back_es (k : Nat) : ∀ e ∈ ([] : List Ent), EntOK Try.prog tab mvs e := by
  intro e he
  simp at he
def spec_l01Back_e (k : Nat) : Ent := (102, callOf [.agg 28, .bool, .int .i8] dec_lbi fun (p : (List Int) × Bool × Int) R K => (spec_l01Back k p.1 p.2.1 p.2.2).bind fun (b : (List Int)) => K ((fV (.agg 28) (enc_l b)).1, none))
theorem spec_l01Back_run (k : Nat) (p : (List Int) × Bool × Int) : runF (spec_l01Back_C k) Try.f102 false (fL [.agg 28, .bool, .int .i8] (enc_lbi p)).1 (resK (.agg 28) dec_l) = spec_l01Back k p.1 p.2.1 p.2.2 := by
  kernel_rfl
theorem spec_l01Back_ok (k : Nat) : EntOK Try.prog tab mvs (spec_l01Back_e k) :=
  fn_ok (C := spec_l01Back_C k) tabOK eqTabOK (spec_l01Back_es k) rfl follows Try.func102 (by kernel_rfl) (by kernel_rfl) rfl (forall_getD _ 0 (0, Code.skip) (by kernel_rfl) fun i hi => by
      omega)
    dec_enc_lbi dec_enc_l (spec_l01Back_run k)

def spec_l01Grass_C (k : Nat) : Cfg := ⟨tab, mvs, oraOf [spec_l01Is_e k, spec_l01At_e k], loOf []⟩
theorem spec_l01Grass_es (k : Nat) : ∀ e ∈ ([spec_l01Is_e k, spec_l01At_e k] : List Ent), EntOK Try.prog tab mvs e := by
  intro e he
  simp only [List.mem_cons, List.not_mem_nil, or_false] at he
  rcases he with rfl | rfl
  · exact spec_l01Is_ok k
  · exact spec_l01At_ok k
def spec_l01Grass_e (k : Nat) : Ent := (101, callOf [.pvi (some 33) 0 33, .agg 28] dec_ll fun (p : (List Int) × (List Int)) R K => (spec_l01Grass k p.1 p.2).bind fun (b : Bool) => K ((fV (.bool) (enc_b b)).1, none))
theorem spec_l01Grass_run (k : Nat) (p : (List Int) × (List Int)) : runF (spec_l01Grass_C k) Try.f101 false (fL [.pvi (some 33) 0 33, .agg 28] (enc_ll p)).1 (resK (.bool) dec_b) = spec_l01Grass k p.1 p.2 := by
  kernel_rfl
theorem spec_l01Grass_ok (k : Nat) : EntOK Try.prog tab mvs (spec_l01Grass_e k) :=
  fn_ok (C := spec_l01Grass_C k) tabOK eqTabOK (spec_l01Grass_es k) rfl follows Try.func101 (by kernel_rfl) (by kernel_rfl) rfl (forall_getD _ 0 (0, Code.skip) (by kernel_rfl) fun i hi => by
      omega)
    dec_enc_ll dec_enc_b (spec_l01Grass_run k)

def dec_lbilll (ps : List Pay) : Option ((List Int) × Bool × Int × (List Int) × (List Int) × (List Int)) := match ps with
  | [.l x1, .b x2, .i x3, .l x4, .l x5, .l x6] => some (x1, x2, x3, x4, x5, x6)
  | _ => none
def enc_lbilll (p : (List Int) × Bool × Int × (List Int) × (List Int) × (List Int)) : List Pay := [.l p.1, .b p.2.1, .i p.2.2.1, .l p.2.2.2.1, .l p.2.2.2.2.1, .l p.2.2.2.2.2]
theorem dec_enc_lbilll : ∀ (ps : List Pay) (p : (List Int) × Bool × Int × (List Int) × (List Int) × (List Int)), dec_lbilll ps = some p → ps = enc_lbilll p := by
  intro ps p h
  unfold dec_lbilll at h
  split at h
  · injection h with h
    subst h
    rfl
  · cases h

def dec_lbill (ps : List Pay) : Option ((List Int) × Bool × Int × (List Int) × (List Int)) := match ps with
  | [.l x1, .b x2, .i x3, .l x4, .l x5] => some (x1, x2, x3, x4, x5)
  | _ => none
def enc_lbill (p : (List Int) × Bool × Int × (List Int) × (List Int)) : List Pay := [.l p.1, .b p.2.1, .i p.2.2.1, .l p.2.2.2.1, .l p.2.2.2.2]
theorem dec_enc_lbill : ∀ (ps : List Pay) (p : (List Int) × Bool × Int × (List Int) × (List Int)), dec_lbill ps = some p → ps = enc_lbill p := by
  intro ps p h
  unfold dec_lbill at h
  split at h
  · injection h with h
    subst h
    rfl
  · cases h

def dec_lb (ps : List Pay) : Option ((List Int) × Bool) := match ps with
  | [.l x1, .b x2] => some (x1, x2)
  | _ => none
def enc_lb (p : (List Int) × Bool) : List Pay := [.l p.1, .b p.2]
theorem dec_enc_lb : ∀ (ps : List Pay) (p : (List Int) × Bool), dec_lb ps = some p → ps = enc_lb p := by
  intro ps p h
  unfold dec_lb at h
  split at h
  · injection h with h
    subst h
    rfl
  · cases h

def spec_l01Runs_t0 : StTm := ⟨51, [(0, .pvi (some 33) 0 33), (1, .bool), (5, .slw 5 30), (6, .slw 6 28), (7, .int .i64), (8, .ptr 8 0 30)], [(5, 30, false, .ints), (6, 28, false, .ints), (8, 30, true, .ints)]⟩
def spec_l01Runs_t0_1 : StTm := ⟨51, [(0, .pvi (some 33) 0 33), (1, .bool), (5, .slw 5 30), (6, .slw 6 28), (7, .int .i64), (8, .ptr 8 0 30)], [(5, 30, false, .ints), (6, 28, false, .ints), (8, 30, true, .ints)]⟩
def spec_l01Runs_w0 (k : Nat) (R : Type) (K : Ex → St → Option R) (rec : (List Int) × Bool × Int × (List Int) × (List Int) × (List Int) → Option R) (p : (List Int) × Bool × Int × (List Int) × (List Int) × (List Int)) : Option R := spec_l01Runs_s0 k (fun y1 y2 y3 y4 y5 y6 => K (.exit 2) (fSt spec_l01Runs_t0_1 [.l y1, .b y2, .i y3, .l y4, .l y5, .l y6])) (fun h1 h2 h3 h4 h5 h6 => rec (h1, h2, h3, h4, h5, h6)) p.1 p.2.1 p.2.2.1 p.2.2.2.1 p.2.2.2.2.1 p.2.2.2.2.2
def spec_l01Runs_c0 (k : Nat) : Lcall := lcallOf tab spec_l01Runs_t0 dec_lbilll [0, 1, 5, 6, 7, 8] k (spec_l01Runs_w0 k)
def spec_l01Runs_t1 : StTm := ⟨51, [(0, .pvi (some 33) 0 33), (1, .bool), (5, .slw 5 30), (6, .slw 6 28), (7, .int .i64)], [(5, 30, false, .ints), (6, 28, false, .ints)]⟩
def spec_l01Runs_t1_1 : StTm := ⟨51, [(5, .slw 5 30)], [(5, 30, false, .ints)]⟩
def spec_l01Runs_w1 (k : Nat) (R : Type) (K : Ex → St → Option R) (rec : (List Int) × Bool × Int × (List Int) × (List Int) → Option R) (p : (List Int) × Bool × Int × (List Int) × (List Int)) : Option R := spec_l01Runs_s1 k (fun y1 => K (.exit 0) (fSt spec_l01Runs_t1_1 [.l y1])) (fun h1 h2 h3 h4 h5 => rec (h1, h2, h3, h4, h5)) p.1 p.2.1 p.2.2.1 p.2.2.2.1 p.2.2.2.2
def spec_l01Runs_c1 (k : Nat) : Lcall := lcallOf tab spec_l01Runs_t1 dec_lbill [0, 1, 5, 6, 7] k (spec_l01Runs_w1 k)
def spec_l01Runs_C (k : Nat) : Cfg := ⟨tab, mvs, oraOf [spec_l01Cells_e k, spec_l01Back_e k, spec_l01Grass_e k], loOf [(2, spec_l01Runs_c0 k), (0, spec_l01Runs_c1 k)]⟩
theorem spec_l01Runs_es (k : Nat) : ∀ e ∈ ([spec_l01Cells_e k, spec_l01Back_e k, spec_l01Grass_e k] : List Ent), EntOK Try.prog tab mvs e := by
  intro e he
  simp only [List.mem_cons, List.not_mem_nil, or_false] at he
  rcases he with rfl | rfl | rfl
  · exact spec_l01Cells_ok k
  · exact spec_l01Back_ok k
  · exact spec_l01Grass_ok k
theorem spec_l01Runs_step0 (k : Nat) (R : Type) (K : Ex → St → Option R) (g : St → Option R) (p : (List Int) × Bool × Int × (List Int) × (List Int) × (List Int)) : evCode (spec_l01Runs_C k) (loopP [0, 0] (0, codeOf Try.f55)).2 (loopP [0, 0] (0, codeOf Try.f55)).1 (fSt spec_l01Runs_t0 (enc_lbilll p)) (loopK tab [0, 1, 5, 6, 7, 8] [0, 1, 5, 6, 7, 8] [4] g K) = spec_l01Runs_w0 k R K (fun p => g (fSt spec_l01Runs_t0 (enc_lbilll p))) p := by
  kernel_rfl
theorem spec_l01Runs_lok0 (k : Nat) : LoopOK Try.prog tab (spec_l01Runs_C k).lo (loopP [0, 0] (0, codeOf Try.f55)).1 (loopP [0, 0] (0, codeOf Try.f55)).2 :=
  loopOK_of (C := spec_l01Runs_C k) tabOK eqTabOK (oraOf_ok (spec_l01Runs_es k)) (oraOf_nat (spec_l01Runs_es k)) follows (forall_getD _ 0 (0, Code.skip) (by kernel_rfl) fun i hi => by
      omega)
    (tm := spec_l01Runs_t0) (dec := dec_lbilll) (enc := enc_lbilll) (ksIn := [0, 1, 5, 6, 7, 8]) (ksOut := [0, 1, 5, 6, 7, 8]) (ksRet := [4]) (k := k) (step := spec_l01Runs_w0 k) dec_enc_lbilll (fun p => by kernel_rfl) (fun s R K => by kernel_rfl) (spec_l01Runs_step0 k)
theorem spec_l01Runs_step1 (k : Nat) (R : Type) (K : Ex → St → Option R) (g : St → Option R) (p : (List Int) × Bool × Int × (List Int) × (List Int)) : evCode (spec_l01Runs_C k) (loopP [0] (0, codeOf Try.f55)).2 (loopP [0] (0, codeOf Try.f55)).1 (fSt spec_l01Runs_t1 (enc_lbill p)) (loopK tab [0, 1, 5, 6, 7] [5] [4] g K) = spec_l01Runs_w1 k R K (fun p => g (fSt spec_l01Runs_t1 (enc_lbill p))) p := by
  kernel_rfl
theorem spec_l01Runs_lok1 (k : Nat) : LoopOK Try.prog tab (spec_l01Runs_C k).lo (loopP [0] (0, codeOf Try.f55)).1 (loopP [0] (0, codeOf Try.f55)).2 :=
  loopOK_of (C := spec_l01Runs_C k) tabOK eqTabOK (oraOf_ok (spec_l01Runs_es k)) (oraOf_nat (spec_l01Runs_es k)) follows (forall_getD _ 1 (0, Code.skip) (by kernel_rfl) fun i hi => by
      match i, hi with
      | 0, _ => exact spec_l01Runs_lok0 k
      | n + 1, h => omega)
    (tm := spec_l01Runs_t1) (dec := dec_lbill) (enc := enc_lbill) (ksIn := [0, 1, 5, 6, 7]) (ksOut := [5]) (ksRet := [4]) (k := k) (step := spec_l01Runs_w1 k) dec_enc_lbill (fun p => by kernel_rfl) (fun s R K => by kernel_rfl) (spec_l01Runs_step1 k)
def spec_l01Runs_e (k : Nat) : Ent := (55, callOf [.pvi (some 33) 0 33, .bool] dec_lb fun (p : (List Int) × Bool) R K => (spec_l01Runs k p.1 p.2).bind fun (b : (List Int)) => K ((fV (.slv 30) (enc_l b)).1, none))
theorem spec_l01Runs_run (k : Nat) (p : (List Int) × Bool) : runF (spec_l01Runs_C k) Try.f55 false (fL [.pvi (some 33) 0 33, .bool] (enc_lb p)).1 (resK (.slv 30) dec_l) = spec_l01Runs k p.1 p.2 := by
  kernel_rfl
theorem spec_l01Runs_ok (k : Nat) : EntOK Try.prog tab mvs (spec_l01Runs_e k) :=
  fn_ok (C := spec_l01Runs_C k) tabOK eqTabOK (spec_l01Runs_es k) rfl follows Try.func55 (by kernel_rfl) (by kernel_rfl) rfl (forall_getD _ 1 (0, Code.skip) (by kernel_rfl) fun i hi => by
      match i, hi with
      | 0, _ => exact spec_l01Runs_lok1 k
      | n + 1, h => omega)
    dec_enc_lb dec_enc_l (spec_l01Runs_run k)

def spec_LongestRun_t0 : StTm := ⟨38, [(4, .ptr 4 0 30), (6, .ptr 6 0 30), (7, .slw 7 30), (8, .int .i64)], [(4, 30, true, .ints), (6, 30, true, .ints), (7, 30, false, .ints)]⟩
def spec_LongestRun_t0_1 : StTm := ⟨38, [(4, .ptr 4 0 30), (6, .ptr 6 0 30)], [(4, 30, true, .ints), (6, 30, true, .ints)]⟩
def spec_LongestRun_w0 (k : Nat) (R : Type) (K : Ex → St → Option R) (rec : Int × (List Int) × (List Int) × (List Int) → Option R) (p : Int × (List Int) × (List Int) × (List Int)) : Option R := spec_LongestRun_s0 k (fun y1 y2 => K (.exit 0) (fSt spec_LongestRun_t0_1 [.l y1, .l y2])) (fun h1 h2 h3 h4 => rec (h1, h2, h3, h4)) p.1 p.2.1 p.2.2.1 p.2.2.2
def spec_LongestRun_c0 (k : Nat) : Lcall := lcallOf tab spec_LongestRun_t0 dec_illl [4, 6, 7, 8] k (spec_LongestRun_w0 k)
def spec_LongestRun_C (k : Nat) : Cfg := ⟨tab, mvs, oraOf [spec_l01Ok_e k, spec_l01Runs_e k], loOf [(0, spec_LongestRun_c0 k)]⟩
theorem spec_LongestRun_es (k : Nat) : ∀ e ∈ ([spec_l01Ok_e k, spec_l01Runs_e k] : List Ent), EntOK Try.prog tab mvs e := by
  intro e he
  simp only [List.mem_cons, List.not_mem_nil, or_false] at he
  rcases he with rfl | rfl
  · exact spec_l01Ok_ok k
  · exact spec_l01Runs_ok k
theorem spec_LongestRun_step0 (k : Nat) (R : Type) (K : Ex → St → Option R) (g : St → Option R) (p : Int × (List Int) × (List Int) × (List Int)) : evCode (spec_LongestRun_C k) (loopP [0] (0, codeOf Try.f15)).2 (loopP [0] (0, codeOf Try.f15)).1 (fSt spec_LongestRun_t0 (enc_illl p)) (loopK tab [4, 6, 7, 8] [4, 6] [4, 5] g K) = spec_LongestRun_w0 k R K (fun p => g (fSt spec_LongestRun_t0 (enc_illl p))) p := by
  kernel_rfl
theorem spec_LongestRun_lok0 (k : Nat) : LoopOK Try.prog tab (spec_LongestRun_C k).lo (loopP [0] (0, codeOf Try.f15)).1 (loopP [0] (0, codeOf Try.f15)).2 :=
  loopOK_of (C := spec_LongestRun_C k) tabOK eqTabOK (oraOf_ok (spec_LongestRun_es k)) (oraOf_nat (spec_LongestRun_es k)) follows (forall_getD _ 0 (0, Code.skip) (by kernel_rfl) fun i hi => by
      omega)
    (tm := spec_LongestRun_t0) (dec := dec_illl) (enc := enc_illl) (ksIn := [4, 6, 7, 8]) (ksOut := [4, 6]) (ksRet := [4, 5]) (k := k) (step := spec_LongestRun_w0 k) dec_enc_illl (fun p => by kernel_rfl) (fun s R K => by kernel_rfl) (spec_LongestRun_step0 k)
def spec_LongestRun_e (k : Nat) : Ent := (15, callOf [.agg 33, .bool] dec_lb fun (p : (List Int) × Bool) R K => (spec_LongestRun k p.1 p.2).bind fun (b : (List Int) × Int) => K ((fV (.tup [.agg 30, .int .i64]) (enc_li b)).1, none))
theorem spec_LongestRun_run (k : Nat) (p : (List Int) × Bool) : runF (spec_LongestRun_C k) Try.f15 false (fL [.agg 33, .bool] (enc_lb p)).1 (resK (.tup [.agg 30, .int .i64]) dec_li) = spec_LongestRun k p.1 p.2 := by
  kernel_rfl
theorem spec_LongestRun_ok (k : Nat) : EntOK Try.prog tab mvs (spec_LongestRun_e k) :=
  fn_ok (C := spec_LongestRun_C k) tabOK eqTabOK (spec_LongestRun_es k) rfl follows Try.func15 (by kernel_rfl) (by kernel_rfl) rfl (forall_getD _ 1 (0, Code.skip) (by kernel_rfl) fun i hi => by
      match i, hi with
      | 0, _ => exact spec_LongestRun_lok0 k
      | n + 1, h => omega)
    dec_enc_lb dec_enc_li (spec_LongestRun_run k)

def impl_within_C (k : Nat) : Cfg := ⟨tab, mvs, oraOf [], loOf []⟩
theorem impl_within_es (k : Nat) : ∀ e ∈ ([] : List Ent), EntOK Try.prog tab mvs e := by
  intro e he
  simp at he
def impl_within_e (k : Nat) : Ent := (109, callOf [.int .i64, .int .i64, .int .i64] dec_iii fun (p : Int × Int × Int) R K => (impl_within k p.1 p.2.1 p.2.2).bind fun (b : Bool) => K ((fV (.bool) (enc_b b)).1, none))
theorem impl_within_run (k : Nat) (p : Int × Int × Int) : runF (impl_within_C k) Try.f109 false (fL [.int .i64, .int .i64, .int .i64] (enc_iii p)).1 (resK (.bool) dec_b) = impl_within k p.1 p.2.1 p.2.2 := by
  kernel_rfl
theorem impl_within_ok (k : Nat) : EntOK Try.prog tab mvs (impl_within_e k) :=
  fn_ok (C := impl_within_C k) tabOK eqTabOK (impl_within_es k) rfl follows Try.func109 (by kernel_rfl) (by kernel_rfl) rfl (forall_getD _ 0 (0, Code.skip) (by kernel_rfl) fun i hi => by
      omega)
    dec_enc_iii dec_enc_b (impl_within_run k)

def impl_Lawn_has_C (k : Nat) : Cfg := ⟨tab, mvs, oraOf [], loOf []⟩
theorem impl_Lawn_has_es (k : Nat) : ∀ e ∈ ([] : List Ent), EntOK Try.prog tab mvs e := by
  intro e he
  simp at he
def impl_Lawn_has_e (k : Nat) : Ent := (106, callOf [.agg 33, .agg 28] dec_ll fun (p : (List Int) × (List Int)) R K => (impl_Lawn_has k p.1 p.2).bind fun (b : Bool) => K ((fV (.bool) (enc_b b)).1, none))
theorem impl_Lawn_has_run (k : Nat) (p : (List Int) × (List Int)) : runF (impl_Lawn_has_C k) Try.f106 false (fL [.agg 33, .agg 28] (enc_ll p)).1 (resK (.bool) dec_b) = impl_Lawn_has k p.1 p.2 := by
  kernel_rfl
theorem impl_Lawn_has_ok (k : Nat) : EntOK Try.prog tab mvs (impl_Lawn_has_e k) :=
  fn_ok (C := impl_Lawn_has_C k) tabOK eqTabOK (impl_Lawn_has_es k) rfl follows Try.func106 (by kernel_rfl) (by kernel_rfl) rfl (forall_getD _ 0 (0, Code.skip) (by kernel_rfl) fun i hi => by
      omega)
    dec_enc_ll dec_enc_b (impl_Lawn_has_run k)

def dec_iiil (ps : List Pay) : Option (Int × Int × Int × (List Int)) := match ps with
  | [.i x1, .i x2, .i x3, .l x4] => some (x1, x2, x3, x4)
  | _ => none
def enc_iiil (p : Int × Int × Int × (List Int)) : List Pay := [.i p.1, .i p.2.1, .i p.2.2.1, .l p.2.2.2]
theorem dec_enc_iiil : ∀ (ps : List Pay) (p : Int × Int × Int × (List Int)), dec_iiil ps = some p → ps = enc_iiil p := by
  intro ps p h
  unfold dec_iiil at h
  split at h
  · injection h with h
    subst h
    rfl
  · cases h

def dec_il (ps : List Pay) : Option (Int × (List Int)) := match ps with
  | [.i x1, .l x2] => some (x1, x2)
  | _ => none
def enc_il (p : Int × (List Int)) : List Pay := [.i p.1, .l p.2]
theorem dec_enc_il : ∀ (ps : List Pay) (p : Int × (List Int)), dec_il ps = some p → ps = enc_il p := by
  intro ps p h
  unfold dec_il at h
  split at h
  · injection h with h
    subst h
    rfl
  · cases h

def impl_ValidLawn_t0 : StTm := ⟨46, [(1, .ptr 1 0 33), (3, .int .i8), (18, .int .i8), (21, .int .i8)], [(1, 33, true, .ints)]⟩
def impl_ValidLawn_t0_1 : StTm := ⟨46, [(2, .bool)], []⟩
def impl_ValidLawn_t0_2 : StTm := ⟨46, [(1, .ptr 1 0 33), (18, .int .i8)], [(1, 33, true, .ints)]⟩
def impl_ValidLawn_w0 (k : Nat) (R : Type) (K : Ex → St → Option R) (rec : Int × Int × Int × (List Int) → Option R) (p : Int × Int × Int × (List Int)) : Option R := impl_ValidLawn_s0 k (fun y1 => K .ret (fSt impl_ValidLawn_t0_1 [.b y1])) (fun y1 y2 => K (.exit 2) (fSt impl_ValidLawn_t0_2 [.i y1, .l y2])) (fun h1 h2 h3 h4 => rec (h1, h2, h3, h4)) p.1 p.2.1 p.2.2.1 p.2.2.2
def impl_ValidLawn_c0 (k : Nat) : Lcall := lcallOf tab impl_ValidLawn_t0 dec_iiil [1, 3, 18, 21] k (impl_ValidLawn_w0 k)
def impl_ValidLawn_t1 : StTm := ⟨46, [(1, .ptr 1 0 33), (18, .int .i8)], [(1, 33, true, .ints)]⟩
def impl_ValidLawn_t1_1 : StTm := ⟨46, [(2, .bool)], []⟩
def impl_ValidLawn_t1_2 : StTm := ⟨46, [], []⟩
def impl_ValidLawn_w1 (k : Nat) (R : Type) (K : Ex → St → Option R) (rec : Int × (List Int) → Option R) (p : Int × (List Int)) : Option R := impl_ValidLawn_s1 k (fun y1 => K .ret (fSt impl_ValidLawn_t1_1 [.b y1])) (K (.exit 0) (fSt impl_ValidLawn_t1_2 [])) (fun h1 h2 => rec (h1, h2)) p.1 p.2
def impl_ValidLawn_c1 (k : Nat) : Lcall := lcallOf tab impl_ValidLawn_t1 dec_il [1, 18] k (impl_ValidLawn_w1 k)
def impl_ValidLawn_C (k : Nat) : Cfg := ⟨tab, mvs, oraOf [impl_within_e k, impl_Lawn_has_e k], loOf [(2, impl_ValidLawn_c0 k), (0, impl_ValidLawn_c1 k)]⟩
theorem impl_ValidLawn_es (k : Nat) : ∀ e ∈ ([impl_within_e k, impl_Lawn_has_e k] : List Ent), EntOK Try.prog tab mvs e := by
  intro e he
  simp only [List.mem_cons, List.not_mem_nil, or_false] at he
  rcases he with rfl | rfl
  · exact impl_within_ok k
  · exact impl_Lawn_has_ok k
theorem impl_ValidLawn_step0 (k : Nat) (R : Type) (K : Ex → St → Option R) (g : St → Option R) (p : Int × Int × Int × (List Int)) : evCode (impl_ValidLawn_C k) (loopP [0, 0] (0, codeOf Try.f61)).2 (loopP [0, 0] (0, codeOf Try.f61)).1 (fSt impl_ValidLawn_t0 (enc_iiil p)) (loopK tab [1, 3, 18, 21] [1, 18] [2] g K) = impl_ValidLawn_w0 k R K (fun p => g (fSt impl_ValidLawn_t0 (enc_iiil p))) p := by
  kernel_rfl
theorem impl_ValidLawn_lok0 (k : Nat) : LoopOK Try.prog tab (impl_ValidLawn_C k).lo (loopP [0, 0] (0, codeOf Try.f61)).1 (loopP [0, 0] (0, codeOf Try.f61)).2 :=
  loopOK_of (C := impl_ValidLawn_C k) tabOK eqTabOK (oraOf_ok (impl_ValidLawn_es k)) (oraOf_nat (impl_ValidLawn_es k)) follows (forall_getD _ 0 (0, Code.skip) (by kernel_rfl) fun i hi => by
      omega)
    (tm := impl_ValidLawn_t0) (dec := dec_iiil) (enc := enc_iiil) (ksIn := [1, 3, 18, 21]) (ksOut := [1, 18]) (ksRet := [2]) (k := k) (step := impl_ValidLawn_w0 k) dec_enc_iiil (fun p => by kernel_rfl) (fun s R K => by kernel_rfl) (impl_ValidLawn_step0 k)
theorem impl_ValidLawn_step1 (k : Nat) (R : Type) (K : Ex → St → Option R) (g : St → Option R) (p : Int × (List Int)) : evCode (impl_ValidLawn_C k) (loopP [0] (0, codeOf Try.f61)).2 (loopP [0] (0, codeOf Try.f61)).1 (fSt impl_ValidLawn_t1 (enc_il p)) (loopK tab [1, 18] [] [2] g K) = impl_ValidLawn_w1 k R K (fun p => g (fSt impl_ValidLawn_t1 (enc_il p))) p := by
  kernel_rfl
theorem impl_ValidLawn_lok1 (k : Nat) : LoopOK Try.prog tab (impl_ValidLawn_C k).lo (loopP [0] (0, codeOf Try.f61)).1 (loopP [0] (0, codeOf Try.f61)).2 :=
  loopOK_of (C := impl_ValidLawn_C k) tabOK eqTabOK (oraOf_ok (impl_ValidLawn_es k)) (oraOf_nat (impl_ValidLawn_es k)) follows (forall_getD _ 1 (0, Code.skip) (by kernel_rfl) fun i hi => by
      match i, hi with
      | 0, _ => exact impl_ValidLawn_lok0 k
      | n + 1, h => omega)
    (tm := impl_ValidLawn_t1) (dec := dec_il) (enc := enc_il) (ksIn := [1, 18]) (ksOut := []) (ksRet := [2]) (k := k) (step := impl_ValidLawn_w1 k) dec_enc_il (fun p => by kernel_rfl) (fun s R K => by kernel_rfl) (impl_ValidLawn_step1 k)
def impl_ValidLawn_e (k : Nat) : Ent := (61, callOf [.agg 33] dec_l fun (p : (List Int)) R K => (impl_ValidLawn k p).bind fun (b : Bool) => K ((fV (.bool) (enc_b b)).1, none))
theorem impl_ValidLawn_run (k : Nat) (p : (List Int)) : runF (impl_ValidLawn_C k) Try.f61 false (fL [.agg 33] (enc_l p)).1 (resK (.bool) dec_b) = impl_ValidLawn k p := by
  kernel_rfl
theorem impl_ValidLawn_ok (k : Nat) : EntOK Try.prog tab mvs (impl_ValidLawn_e k) :=
  fn_ok (C := impl_ValidLawn_C k) tabOK eqTabOK (impl_ValidLawn_es k) rfl follows Try.func61 (by kernel_rfl) (by kernel_rfl) rfl (forall_getD _ 1 (0, Code.skip) (by kernel_rfl) fun i hi => by
      match i, hi with
      | 0, _ => exact impl_ValidLawn_lok1 k
      | n + 1, h => omega)
    dec_enc_l dec_enc_b (impl_ValidLawn_run k)

def impl_cellsCode_1_C (k : Nat) : Cfg := ⟨tab, mvs, oraOf [impl_Lawn_has_e k], loOf []⟩
theorem impl_cellsCode_1_es (k : Nat) : ∀ e ∈ ([impl_Lawn_has_e k] : List Ent), EntOK Try.prog tab mvs e := by
  intro e he
  simp only [List.mem_cons, List.not_mem_nil, or_false] at he
  rcases he with rfl
  · exact impl_Lawn_has_ok k
def impl_cellsCode_1_e (k : Nat) : Ent := (105, callOf [.agg 28, .pvi (some 33) 0 33] dec_ll fun (p : (List Int) × (List Int)) R K => (impl_cellsCode_1 k p.1 p.2).bind fun (b : Bool) => K ((fV (.bool) (enc_b b)).1, none))
theorem impl_cellsCode_1_run (k : Nat) (p : (List Int) × (List Int)) : runF (impl_cellsCode_1_C k) Try.f105 false (fL [.agg 28, .pvi (some 33) 0 33] (enc_ll p)).1 (resK (.bool) dec_b) = impl_cellsCode_1 k p.1 p.2 := by
  kernel_rfl
theorem impl_cellsCode_1_ok (k : Nat) : EntOK Try.prog tab mvs (impl_cellsCode_1_e k) :=
  fn_ok (C := impl_cellsCode_1_C k) tabOK eqTabOK (impl_cellsCode_1_es k) rfl follows Try.func105 (by kernel_rfl) (by kernel_rfl) rfl (forall_getD _ 0 (0, Code.skip) (by kernel_rfl) fun i hi => by
      omega)
    dec_enc_ll dec_enc_b (impl_cellsCode_1_run k)

def dec_lgii (ps : List Pay) : Option ((List Int) × (List Int → Option Bool) × Int × Int) := match ps with
  | [.l x1, .g x2, .i x3, .i x4] => some (x1, x2, x3, x4)
  | _ => none
def enc_lgii (p : (List Int) × (List Int → Option Bool) × Int × Int) : List Pay := [.l p.1, .g p.2.1, .i p.2.2.1, .i p.2.2.2]
theorem dec_enc_lgii : ∀ (ps : List Pay) (p : (List Int) × (List Int → Option Bool) × Int × Int), dec_lgii ps = some p → ps = enc_lgii p := by
  intro ps p h
  unfold dec_lgii at h
  split at h
  · injection h with h
    subst h
    rfl
  · cases h

def dec_lg (ps : List Pay) : Option ((List Int) × (List Int → Option Bool)) := match ps with
  | [.l x1, .g x2] => some (x1, x2)
  | _ => none
def enc_lg (p : (List Int) × (List Int → Option Bool)) : List Pay := [.l p.1, .g p.2]
theorem dec_enc_lg : ∀ (ps : List Pay) (p : (List Int) × (List Int → Option Bool)), dec_lg ps = some p → ps = enc_lg p := by
  intro ps p h
  unfold dec_lg at h
  split at h
  · injection h with h
    subst h
    rfl
  · cases h

def slices_IndexFunc_impl_Cell_t0 : StTm := ⟨19, [(0, .slv 28), (1, .cloB 28), (7, .int .i64), (8, .int .i64)], []⟩
def slices_IndexFunc_impl_Cell_t0_1 : StTm := ⟨19, [(4, .int .i64)], []⟩
def slices_IndexFunc_impl_Cell_t0_2 : StTm := ⟨19, [], []⟩
def slices_IndexFunc_impl_Cell_w0 (k : Nat) (R : Type) (K : Ex → St → Option R) (rec : (List Int) × (List Int → Option Bool) × Int × Int → Option R) (p : (List Int) × (List Int → Option Bool) × Int × Int) : Option R := slices_IndexFunc_impl_Cell_s0 k (fun y1 => K .ret (fSt slices_IndexFunc_impl_Cell_t0_1 [.i y1])) (K (.exit 0) (fSt slices_IndexFunc_impl_Cell_t0_2 [])) (fun h1 h2 h3 h4 => rec (h1, h2, h3, h4)) p.1 p.2.1 p.2.2.1 p.2.2.2
def slices_IndexFunc_impl_Cell_c0 (k : Nat) : Lcall := lcallOf tab slices_IndexFunc_impl_Cell_t0 dec_lgii [0, 1, 7, 8] k (slices_IndexFunc_impl_Cell_w0 k)
def slices_IndexFunc_impl_Cell_C (k : Nat) : Cfg := ⟨tab, mvs, oraOf [], loOf [(0, slices_IndexFunc_impl_Cell_c0 k)]⟩
theorem slices_IndexFunc_impl_Cell_es (k : Nat) : ∀ e ∈ ([] : List Ent), EntOK Try.prog tab mvs e := by
  intro e he
  simp at he
theorem slices_IndexFunc_impl_Cell_step0 (k : Nat) (R : Type) (K : Ex → St → Option R) (g : St → Option R) (p : (List Int) × (List Int → Option Bool) × Int × Int) : evCode (slices_IndexFunc_impl_Cell_C k) (loopP [0] (0, codeOf Try.f133)).2 (loopP [0] (0, codeOf Try.f133)).1 (fSt slices_IndexFunc_impl_Cell_t0 (enc_lgii p)) (loopK tab [0, 1, 7, 8] [] [4] g K) = slices_IndexFunc_impl_Cell_w0 k R K (fun p => g (fSt slices_IndexFunc_impl_Cell_t0 (enc_lgii p))) p := by
  kernel_rfl
theorem slices_IndexFunc_impl_Cell_lok0 (k : Nat) : LoopOK Try.prog tab (slices_IndexFunc_impl_Cell_C k).lo (loopP [0] (0, codeOf Try.f133)).1 (loopP [0] (0, codeOf Try.f133)).2 :=
  loopOK_of (C := slices_IndexFunc_impl_Cell_C k) tabOK eqTabOK (oraOf_ok (slices_IndexFunc_impl_Cell_es k)) (oraOf_nat (slices_IndexFunc_impl_Cell_es k)) follows (forall_getD _ 0 (0, Code.skip) (by kernel_rfl) fun i hi => by
      omega)
    (tm := slices_IndexFunc_impl_Cell_t0) (dec := dec_lgii) (enc := enc_lgii) (ksIn := [0, 1, 7, 8]) (ksOut := []) (ksRet := [4]) (k := k) (step := slices_IndexFunc_impl_Cell_w0 k) dec_enc_lgii (fun p => by kernel_rfl) (fun s R K => by kernel_rfl) (slices_IndexFunc_impl_Cell_step0 k)
def slices_IndexFunc_impl_Cell_e (k : Nat) : Ent := (133, callOf [.slv 28, .cloB 28] dec_lg fun (p : (List Int) × (List Int → Option Bool)) R K => (slices_IndexFunc_impl_Cell k p.1 p.2).bind fun (b : Int) => K ((fV (.int .i64) (enc_i b)).1, none))
theorem slices_IndexFunc_impl_Cell_run (k : Nat) (p : (List Int) × (List Int → Option Bool)) : runF (slices_IndexFunc_impl_Cell_C k) Try.f133 false (fL [.slv 28, .cloB 28] (enc_lg p)).1 (resK (.int .i64) dec_i) = slices_IndexFunc_impl_Cell k p.1 p.2 := by
  kernel_rfl
theorem slices_IndexFunc_impl_Cell_ok (k : Nat) : EntOK Try.prog tab mvs (slices_IndexFunc_impl_Cell_e k) :=
  fn_ok (C := slices_IndexFunc_impl_Cell_C k) tabOK eqTabOK (slices_IndexFunc_impl_Cell_es k) rfl follows Try.func133 (by kernel_rfl) (by kernel_rfl) rfl (forall_getD _ 1 (0, Code.skip) (by kernel_rfl) fun i hi => by
      match i, hi with
      | 0, _ => exact slices_IndexFunc_impl_Cell_lok0 k
      | n + 1, h => omega)
    dec_enc_lg dec_enc_i (slices_IndexFunc_impl_Cell_run k)

def slices_ContainsFunc_impl_Cell_C (k : Nat) : Cfg := ⟨tab, mvs, oraOf [slices_IndexFunc_impl_Cell_e k], loOf []⟩
theorem slices_ContainsFunc_impl_Cell_es (k : Nat) : ∀ e ∈ ([slices_IndexFunc_impl_Cell_e k] : List Ent), EntOK Try.prog tab mvs e := by
  intro e he
  simp only [List.mem_cons, List.not_mem_nil, or_false] at he
  rcases he with rfl
  · exact slices_IndexFunc_impl_Cell_ok k
def slices_ContainsFunc_impl_Cell_e (k : Nat) : Ent := (104, callOf [.slv 28, .cloB 28] dec_lg fun (p : (List Int) × (List Int → Option Bool)) R K => (slices_ContainsFunc_impl_Cell k p.1 p.2).bind fun (b : Bool) => K ((fV (.bool) (enc_b b)).1, none))
theorem slices_ContainsFunc_impl_Cell_run (k : Nat) (p : (List Int) × (List Int → Option Bool)) : runF (slices_ContainsFunc_impl_Cell_C k) Try.f104 false (fL [.slv 28, .cloB 28] (enc_lg p)).1 (resK (.bool) dec_b) = slices_ContainsFunc_impl_Cell k p.1 p.2 := by
  kernel_rfl
theorem slices_ContainsFunc_impl_Cell_ok (k : Nat) : EntOK Try.prog tab mvs (slices_ContainsFunc_impl_Cell_e k) :=
  fn_ok (C := slices_ContainsFunc_impl_Cell_C k) tabOK eqTabOK (slices_ContainsFunc_impl_Cell_es k) rfl follows Try.func104 (by kernel_rfl) (by kernel_rfl) rfl (forall_getD _ 0 (0, Code.skip) (by kernel_rfl) fun i hi => by
      omega)
    dec_enc_lg dec_enc_b (slices_ContainsFunc_impl_Cell_run k)

def impl_cellsCode_C (k : Nat) : Cfg := ⟨tab, mvs, oraOf [impl_ValidLawn_e k, impl_cellsCode_1_e k, slices_ContainsFunc_impl_Cell_e k], loOf []⟩
theorem impl_cellsCode_es (k : Nat) : ∀ e ∈ ([impl_ValidLawn_e k, impl_cellsCode_1_e k, slices_ContainsFunc_impl_Cell_e k] : List Ent), EntOK Try.prog tab mvs e := by
  intro e he
  simp only [List.mem_cons, List.not_mem_nil, or_false] at he
  rcases he with rfl | rfl | rfl
  · exact impl_ValidLawn_ok k
  · exact impl_cellsCode_1_ok k
  · exact slices_ContainsFunc_impl_Cell_ok k
def impl_cellsCode_e (k : Nat) : Ent := (57, callOf [.agg 33, .slv 28] dec_ll fun (p : (List Int) × (List Int)) R K => (impl_cellsCode k p.1 p.2).bind fun (b : Int) => K ((fV (.int .i64) (enc_i b)).1, none))
theorem impl_cellsCode_run (k : Nat) (p : (List Int) × (List Int)) : runF (impl_cellsCode_C k) Try.f57 false (fL [.agg 33, .slv 28] (enc_ll p)).1 (resK (.int .i64) dec_i) = impl_cellsCode k p.1 p.2 := by
  kernel_rfl
theorem impl_cellsCode_ok (k : Nat) : EntOK Try.prog tab mvs (impl_cellsCode_e k) :=
  fn_ok (C := impl_cellsCode_C k) tabOK eqTabOK (impl_cellsCode_es k) rfl follows Try.func57 (by kernel_rfl) (by kernel_rfl) rfl (forall_getD _ 0 (0, Code.skip) (by kernel_rfl) fun i hi => by
      omega)
    dec_enc_ll dec_enc_i (impl_cellsCode_run k)

def dec_iiiiill (ps : List Pay) : Option (Int × Int × Int × Int × Int × (List Int) × (List Int)) := match ps with
  | [.i x1, .i x2, .i x3, .i x4, .i x5, .l x6, .l x7] => some (x1, x2, x3, x4, x5, x6, x7)
  | _ => none
def enc_iiiiill (p : Int × Int × Int × Int × Int × (List Int) × (List Int)) : List Pay := [.i p.1, .i p.2.1, .i p.2.2.1, .i p.2.2.2.1, .i p.2.2.2.2.1, .l p.2.2.2.2.2.1, .l p.2.2.2.2.2.2]
theorem dec_enc_iiiiill : ∀ (ps : List Pay) (p : Int × Int × Int × Int × Int × (List Int) × (List Int)), dec_iiiiill ps = some p → ps = enc_iiiiill p := by
  intro ps p h
  unfold dec_iiiiill at h
  split at h
  · injection h with h
    subst h
    rfl
  · cases h

def dec_iill (ps : List Pay) : Option (Int × Int × (List Int) × (List Int)) := match ps with
  | [.i x1, .i x2, .l x3, .l x4] => some (x1, x2, x3, x4)
  | _ => none
def enc_iill (p : Int × Int × (List Int) × (List Int)) : List Pay := [.i p.1, .i p.2.1, .l p.2.2.1, .l p.2.2.2]
theorem dec_enc_iill : ∀ (ps : List Pay) (p : Int × Int × (List Int) × (List Int)), dec_iill ps = some p → ps = enc_iill p := by
  intro ps p h
  unfold dec_iill at h
  split at h
  · injection h with h
    subst h
    rfl
  · cases h

def impl_Lawn_all_t0 : StTm := ⟨26, [(1, .ptr 1 0 33), (3, .slw 3 28), (4, .int .i8), (8, .int .i8), (9, .int .i8), (13, .int .i8), (14, .int .i8)], [(1, 33, true, .ints), (3, 28, false, .ints)]⟩
def impl_Lawn_all_t0_1 : StTm := ⟨26, [(1, .ptr 1 0 33), (3, .slw 3 28), (8, .int .i8), (9, .int .i8)], [(1, 33, true, .ints), (3, 28, false, .ints)]⟩
def impl_Lawn_all_w0 (k : Nat) (R : Type) (K : Ex → St → Option R) (rec : Int × Int × Int × Int × Int × (List Int) × (List Int) → Option R) (p : Int × Int × Int × Int × Int × (List Int) × (List Int)) : Option R := impl_Lawn_all_s0 k (fun y1 y2 y3 y4 => K (.exit 2) (fSt impl_Lawn_all_t0_1 [.i y1, .i y2, .l y3, .l y4])) (fun h1 h2 h3 h4 h5 h6 h7 => rec (h1, h2, h3, h4, h5, h6, h7)) p.1 p.2.1 p.2.2.1 p.2.2.2.1 p.2.2.2.2.1 p.2.2.2.2.2.1 p.2.2.2.2.2.2
def impl_Lawn_all_c0 (k : Nat) : Lcall := lcallOf tab impl_Lawn_all_t0 dec_iiiiill [1, 3, 4, 8, 9, 13, 14] k (impl_Lawn_all_w0 k)
def impl_Lawn_all_t1 : StTm := ⟨26, [(1, .ptr 1 0 33), (3, .slw 3 28), (8, .int .i8), (9, .int .i8)], [(1, 33, true, .ints), (3, 28, false, .ints)]⟩
def impl_Lawn_all_t1_1 : StTm := ⟨26, [(3, .slw 3 28)], [(3, 28, false, .ints)]⟩
def impl_Lawn_all_w1 (k : Nat) (R : Type) (K : Ex → St → Option R) (rec : Int × Int × (List Int) × (List Int) → Option R) (p : Int × Int × (List Int) × (List Int)) : Option R := impl_Lawn_all_s1 k (fun y1 => K (.exit 0) (fSt impl_Lawn_all_t1_1 [.l y1])) (fun h1 h2 h3 h4 => rec (h1, h2, h3, h4)) p.1 p.2.1 p.2.2.1 p.2.2.2
def impl_Lawn_all_c1 (k : Nat) : Lcall := lcallOf tab impl_Lawn_all_t1 dec_iill [1, 3, 8, 9] k (impl_Lawn_all_w1 k)
def impl_Lawn_all_C (k : Nat) : Cfg := ⟨tab, mvs, oraOf [], loOf [(2, impl_Lawn_all_c0 k), (0, impl_Lawn_all_c1 k)]⟩
theorem impl_Lawn_all_es (k : Nat) : ∀ e ∈ ([] : List Ent), EntOK Try.prog tab mvs e := by
  intro e he
  simp at he
theorem impl_Lawn_all_step0 (k : Nat) (R : Type) (K : Ex → St → Option R) (g : St → Option R) (p : Int × Int × Int × Int × Int × (List Int) × (List Int)) : evCode (impl_Lawn_all_C k) (loopP [0, 0] (0, codeOf Try.f107)).2 (loopP [0, 0] (0, codeOf Try.f107)).1 (fSt impl_Lawn_all_t0 (enc_iiiiill p)) (loopK tab [1, 3, 4, 8, 9, 13, 14] [1, 3, 8, 9] [2] g K) = impl_Lawn_all_w0 k R K (fun p => g (fSt impl_Lawn_all_t0 (enc_iiiiill p))) p := by
  kernel_rfl
theorem impl_Lawn_all_lok0 (k : Nat) : LoopOK Try.prog tab (impl_Lawn_all_C k).lo (loopP [0, 0] (0, codeOf Try.f107)).1 (loopP [0, 0] (0, codeOf Try.f107)).2 :=
  loopOK_of (C := impl_Lawn_all_C k) tabOK eqTabOK (oraOf_ok (impl_Lawn_all_es k)) (oraOf_nat (impl_Lawn_all_es k)) follows (forall_getD _ 0 (0, Code.skip) (by kernel_rfl) fun i hi => by
      omega)
    (tm := impl_Lawn_all_t0) (dec := dec_iiiiill) (enc := enc_iiiiill) (ksIn := [1, 3, 4, 8, 9, 13, 14]) (ksOut := [1, 3, 8, 9]) (ksRet := [2]) (k := k) (step := impl_Lawn_all_w0 k) dec_enc_iiiiill (fun p => by kernel_rfl) (fun s R K => by kernel_rfl) (impl_Lawn_all_step0 k)
theorem impl_Lawn_all_step1 (k : Nat) (R : Type) (K : Ex → St → Option R) (g : St → Option R) (p : Int × Int × (List Int) × (List Int)) : evCode (impl_Lawn_all_C k) (loopP [0] (0, codeOf Try.f107)).2 (loopP [0] (0, codeOf Try.f107)).1 (fSt impl_Lawn_all_t1 (enc_iill p)) (loopK tab [1, 3, 8, 9] [3] [2] g K) = impl_Lawn_all_w1 k R K (fun p => g (fSt impl_Lawn_all_t1 (enc_iill p))) p := by
  kernel_rfl
theorem impl_Lawn_all_lok1 (k : Nat) : LoopOK Try.prog tab (impl_Lawn_all_C k).lo (loopP [0] (0, codeOf Try.f107)).1 (loopP [0] (0, codeOf Try.f107)).2 :=
  loopOK_of (C := impl_Lawn_all_C k) tabOK eqTabOK (oraOf_ok (impl_Lawn_all_es k)) (oraOf_nat (impl_Lawn_all_es k)) follows (forall_getD _ 1 (0, Code.skip) (by kernel_rfl) fun i hi => by
      match i, hi with
      | 0, _ => exact impl_Lawn_all_lok0 k
      | n + 1, h => omega)
    (tm := impl_Lawn_all_t1) (dec := dec_iill) (enc := enc_iill) (ksIn := [1, 3, 8, 9]) (ksOut := [3]) (ksRet := [2]) (k := k) (step := impl_Lawn_all_w1 k) dec_enc_iill (fun p => by kernel_rfl) (fun s R K => by kernel_rfl) (impl_Lawn_all_step1 k)
def impl_Lawn_all_e (k : Nat) : Ent := (107, callOf [.agg 33] dec_l fun (p : (List Int)) R K => (impl_Lawn_all k p).bind fun (b : (List Int)) => K ((fV (.slv 28) (enc_l b)).1, none))
theorem impl_Lawn_all_run (k : Nat) (p : (List Int)) : runF (impl_Lawn_all_C k) Try.f107 false (fL [.agg 33] (enc_l p)).1 (resK (.slv 28) dec_l) = impl_Lawn_all k p := by
  kernel_rfl
theorem impl_Lawn_all_ok (k : Nat) : EntOK Try.prog tab mvs (impl_Lawn_all_e k) :=
  fn_ok (C := impl_Lawn_all_C k) tabOK eqTabOK (impl_Lawn_all_es k) rfl follows Try.func107 (by kernel_rfl) (by kernel_rfl) rfl (forall_getD _ 1 (0, Code.skip) (by kernel_rfl) fun i hi => by
      match i, hi with
      | 0, _ => exact impl_Lawn_all_lok1 k
      | n + 1, h => omega)
    dec_enc_l dec_enc_l (impl_Lawn_all_run k)

def impl_Lawn_kind_C (k : Nat) : Cfg := ⟨tab, mvs, oraOf [], loOf []⟩
theorem impl_Lawn_kind_es (k : Nat) : ∀ e ∈ ([] : List Ent), EntOK Try.prog tab mvs e := by
  intro e he
  simp at he
def impl_Lawn_kind_e (k : Nat) : Ent := (117, callOf [.agg 33, .agg 28] dec_ll fun (p : (List Int) × (List Int)) R K => (impl_Lawn_kind k p.1 p.2).bind fun (b : Int) => K ((fV (.int .i64) (enc_i b)).1, none))
theorem impl_Lawn_kind_run (k : Nat) (p : (List Int) × (List Int)) : runF (impl_Lawn_kind_C k) Try.f117 false (fL [.agg 33, .agg 28] (enc_ll p)).1 (resK (.int .i64) dec_i) = impl_Lawn_kind k p.1 p.2 := by
  kernel_rfl
theorem impl_Lawn_kind_ok (k : Nat) : EntOK Try.prog tab mvs (impl_Lawn_kind_e k) :=
  fn_ok (C := impl_Lawn_kind_C k) tabOK eqTabOK (impl_Lawn_kind_es k) rfl follows Try.func117 (by kernel_rfl) (by kernel_rfl) rfl (forall_getD _ 0 (0, Code.skip) (by kernel_rfl) fun i hi => by
      omega)
    dec_enc_ll dec_enc_i (impl_Lawn_kind_run k)

def dec_lli (ps : List Pay) : Option ((List Int) × (List Int) × Int) := match ps with
  | [.l x1, .l x2, .i x3] => some (x1, x2, x3)
  | _ => none
def enc_lli (p : (List Int) × (List Int) × Int) : List Pay := [.l p.1, .l p.2.1, .i p.2.2]
theorem dec_enc_lli : ∀ (ps : List Pay) (p : (List Int) × (List Int) × Int), dec_lli ps = some p → ps = enc_lli p := by
  intro ps p h
  unfold dec_lli at h
  split at h
  · injection h with h
    subst h
    rfl
  · cases h

def impl_Lawn_is_C (k : Nat) : Cfg := ⟨tab, mvs, oraOf [impl_Lawn_has_e k, impl_Lawn_kind_e k], loOf []⟩
theorem impl_Lawn_is_es (k : Nat) : ∀ e ∈ ([impl_Lawn_has_e k, impl_Lawn_kind_e k] : List Ent), EntOK Try.prog tab mvs e := by
  intro e he
  simp only [List.mem_cons, List.not_mem_nil, or_false] at he
  rcases he with rfl | rfl
  · exact impl_Lawn_has_ok k
  · exact impl_Lawn_kind_ok k
def impl_Lawn_is_e (k : Nat) : Ent := (69, callOf [.agg 33, .agg 28, .int .i64] dec_lli fun (p : (List Int) × (List Int) × Int) R K => (impl_Lawn_is k p.1 p.2.1 p.2.2).bind fun (b : Bool) => K ((fV (.bool) (enc_b b)).1, none))
theorem impl_Lawn_is_run (k : Nat) (p : (List Int) × (List Int) × Int) : runF (impl_Lawn_is_C k) Try.f69 false (fL [.agg 33, .agg 28, .int .i64] (enc_lli p)).1 (resK (.bool) dec_b) = impl_Lawn_is k p.1 p.2.1 p.2.2 := by
  kernel_rfl
theorem impl_Lawn_is_ok (k : Nat) : EntOK Try.prog tab mvs (impl_Lawn_is_e k) :=
  fn_ok (C := impl_Lawn_is_C k) tabOK eqTabOK (impl_Lawn_is_es k) rfl follows Try.func69 (by kernel_rfl) (by kernel_rfl) rfl (forall_getD _ 0 (0, Code.skip) (by kernel_rfl) fun i hi => by
      omega)
    dec_enc_lli dec_enc_b (impl_Lawn_is_run k)

def impl_Lawn_grass_C (k : Nat) : Cfg := ⟨tab, mvs, oraOf [impl_Lawn_is_e k], loOf []⟩
theorem impl_Lawn_grass_es (k : Nat) : ∀ e ∈ ([impl_Lawn_is_e k] : List Ent), EntOK Try.prog tab mvs e := by
  intro e he
  simp only [List.mem_cons, List.not_mem_nil, or_false] at he
  rcases he with rfl
  · exact impl_Lawn_is_ok k
def impl_Lawn_grass_e (k : Nat) : Ent := (76, callOf [.agg 33, .agg 28] dec_ll fun (p : (List Int) × (List Int)) R K => (impl_Lawn_grass k p.1 p.2).bind fun (b : Bool) => K ((fV (.bool) (enc_b b)).1, none))
theorem impl_Lawn_grass_run (k : Nat) (p : (List Int) × (List Int)) : runF (impl_Lawn_grass_C k) Try.f76 false (fL [.agg 33, .agg 28] (enc_ll p)).1 (resK (.bool) dec_b) = impl_Lawn_grass k p.1 p.2 := by
  kernel_rfl
theorem impl_Lawn_grass_ok (k : Nat) : EntOK Try.prog tab mvs (impl_Lawn_grass_e k) :=
  fn_ok (C := impl_Lawn_grass_C k) tabOK eqTabOK (impl_Lawn_grass_es k) rfl follows Try.func76 (by kernel_rfl) (by kernel_rfl) rfl (forall_getD _ 0 (0, Code.skip) (by kernel_rfl) fun i hi => by
      omega)
    dec_enc_ll dec_enc_b (impl_Lawn_grass_run k)

def dec_iiiiillll (ps : List Pay) : Option (Int × Int × Int × Int × Int × (List Int) × (List Int) × (List Int) × (List Int)) := match ps with
  | [.i x1, .i x2, .i x3, .i x4, .i x5, .l x6, .l x7, .l x8, .l x9] => some (x1, x2, x3, x4, x5, x6, x7, x8, x9)
  | _ => none
def enc_iiiiillll (p : Int × Int × Int × Int × Int × (List Int) × (List Int) × (List Int) × (List Int)) : List Pay := [.i p.1, .i p.2.1, .i p.2.2.1, .i p.2.2.2.1, .i p.2.2.2.2.1, .l p.2.2.2.2.2.1, .l p.2.2.2.2.2.2.1, .l p.2.2.2.2.2.2.2.1, .l p.2.2.2.2.2.2.2.2]
theorem dec_enc_iiiiillll : ∀ (ps : List Pay) (p : Int × Int × Int × Int × Int × (List Int) × (List Int) × (List Int) × (List Int)), dec_iiiiillll ps = some p → ps = enc_iiiiillll p := by
  intro ps p h
  unfold dec_iiiiillll at h
  split at h
  · injection h with h
    subst h
    rfl
  · cases h

def dec_iiiilll (ps : List Pay) : Option (Int × Int × Int × Int × (List Int) × (List Int) × (List Int)) := match ps with
  | [.i x1, .i x2, .i x3, .i x4, .l x5, .l x6, .l x7] => some (x1, x2, x3, x4, x5, x6, x7)
  | _ => none
def enc_iiiilll (p : Int × Int × Int × Int × (List Int) × (List Int) × (List Int)) : List Pay := [.i p.1, .i p.2.1, .i p.2.2.1, .i p.2.2.2.1, .l p.2.2.2.2.1, .l p.2.2.2.2.2.1, .l p.2.2.2.2.2.2]
theorem dec_enc_iiiilll : ∀ (ps : List Pay) (p : Int × Int × Int × Int × (List Int) × (List Int) × (List Int)), dec_iiiilll ps = some p → ps = enc_iiiilll p := by
  intro ps p h
  unfold dec_iiiilll at h
  split at h
  · injection h with h
    subst h
    rfl
  · cases h

def impl_Lawn_runs_t0 : StTm := ⟨63, [(2, .ptr 2 0 33), (5, .slw 5 30), (6, .int .i8), (7, .int .i8), (9, .ptr 9 0 28), (10, .int .i8), (15, .slw 15 28), (16, .int .i64), (17, .int .i64)], [(2, 33, true, .ints), (5, 30, false, .ints), (9, 28, true, .ints), (15, 28, false, .ints)]⟩
def impl_Lawn_runs_t0_1 : StTm := ⟨63, [(2, .ptr 2 0 33), (5, .slw 5 30), (6, .int .i8), (7, .int .i8), (9, .ptr 9 0 28), (10, .int .i8), (15, .slw 15 28), (16, .int .i64), (17, .int .i64)], [(2, 33, true, .ints), (5, 30, false, .ints), (9, 28, true, .ints), (15, 28, false, .ints)]⟩
def impl_Lawn_runs_w0 (k : Nat) (R : Type) (K : Ex → St → Option R) (rec : Int × Int × Int × Int × Int × (List Int) × (List Int) × (List Int) × (List Int) → Option R) (p : Int × Int × Int × Int × Int × (List Int) × (List Int) × (List Int) × (List Int)) : Option R := impl_Lawn_runs_s0 k (fun y1 y2 y3 y4 y5 y6 y7 y8 y9 => K (.exit 2) (fSt impl_Lawn_runs_t0_1 [.i y1, .i y2, .i y3, .i y4, .i y5, .l y6, .l y7, .l y8, .l y9])) (fun h1 h2 h3 h4 h5 h6 h7 h8 h9 => rec (h1, h2, h3, h4, h5, h6, h7, h8, h9)) p.1 p.2.1 p.2.2.1 p.2.2.2.1 p.2.2.2.2.1 p.2.2.2.2.2.1 p.2.2.2.2.2.2.1 p.2.2.2.2.2.2.2.1 p.2.2.2.2.2.2.2.2
def impl_Lawn_runs_c0 (k : Nat) : Lcall := lcallOf tab impl_Lawn_runs_t0 dec_iiiiillll [2, 5, 6, 7, 9, 10, 15, 16, 17] k (impl_Lawn_runs_w0 k)
def impl_Lawn_runs_t1 : StTm := ⟨63, [(2, .ptr 2 0 33), (5, .slw 5 30), (6, .int .i8), (7, .int .i8), (15, .slw 15 28), (16, .int .i64), (17, .int .i64)], [(2, 33, true, .ints), (5, 30, false, .ints), (15, 28, false, .ints)]⟩
def impl_Lawn_runs_t1_1 : StTm := ⟨63, [(5, .slw 5 30)], [(5, 30, false, .ints)]⟩
def impl_Lawn_runs_w1 (k : Nat) (R : Type) (K : Ex → St → Option R) (rec : Int × Int × Int × Int × (List Int) × (List Int) × (List Int) → Option R) (p : Int × Int × Int × Int × (List Int) × (List Int) × (List Int)) : Option R := impl_Lawn_runs_s1 k (fun y1 => K (.exit 0) (fSt impl_Lawn_runs_t1_1 [.l y1])) (fun h1 h2 h3 h4 h5 h6 h7 => rec (h1, h2, h3, h4, h5, h6, h7)) p.1 p.2.1 p.2.2.1 p.2.2.2.1 p.2.2.2.2.1 p.2.2.2.2.2.1 p.2.2.2.2.2.2
def impl_Lawn_runs_c1 (k : Nat) : Lcall := lcallOf tab impl_Lawn_runs_t1 dec_iiiilll [2, 5, 6, 7, 15, 16, 17] k (impl_Lawn_runs_w1 k)
def impl_Lawn_runs_C (k : Nat) : Cfg := ⟨tab, mvs, oraOf [impl_Lawn_all_e k, impl_Lawn_grass_e k], loOf [(2, impl_Lawn_runs_c0 k), (0, impl_Lawn_runs_c1 k)]⟩
theorem impl_Lawn_runs_es (k : Nat) : ∀ e ∈ ([impl_Lawn_all_e k, impl_Lawn_grass_e k] : List Ent), EntOK Try.prog tab mvs e := by
  intro e he
  simp only [List.mem_cons, List.not_mem_nil, or_false] at he
  rcases he with rfl | rfl
  · exact impl_Lawn_all_ok k
  · exact impl_Lawn_grass_ok k
theorem impl_Lawn_runs_step0 (k : Nat) (R : Type) (K : Ex → St → Option R) (g : St → Option R) (p : Int × Int × Int × Int × Int × (List Int) × (List Int) × (List Int) × (List Int)) : evCode (impl_Lawn_runs_C k) (loopP [0, 0] (0, codeOf Try.f58)).2 (loopP [0, 0] (0, codeOf Try.f58)).1 (fSt impl_Lawn_runs_t0 (enc_iiiiillll p)) (loopK tab [2, 5, 6, 7, 9, 10, 15, 16, 17] [2, 5, 6, 7, 9, 10, 15, 16, 17] [4] g K) = impl_Lawn_runs_w0 k R K (fun p => g (fSt impl_Lawn_runs_t0 (enc_iiiiillll p))) p := by
  kernel_rfl
theorem impl_Lawn_runs_lok0 (k : Nat) : LoopOK Try.prog tab (impl_Lawn_runs_C k).lo (loopP [0, 0] (0, codeOf Try.f58)).1 (loopP [0, 0] (0, codeOf Try.f58)).2 :=
  loopOK_of (C := impl_Lawn_runs_C k) tabOK eqTabOK (oraOf_ok (impl_Lawn_runs_es k)) (oraOf_nat (impl_Lawn_runs_es k)) follows (forall_getD _ 0 (0, Code.skip) (by kernel_rfl) fun i hi => by
      omega)
    (tm := impl_Lawn_runs_t0) (dec := dec_iiiiillll) (enc := enc_iiiiillll) (ksIn := [2, 5, 6, 7, 9, 10, 15, 16, 17]) (ksOut := [2, 5, 6, 7, 9, 10, 15, 16, 17]) (ksRet := [4]) (k := k) (step := impl_Lawn_runs_w0 k) dec_enc_iiiiillll (fun p => by kernel_rfl) (fun s R K => by kernel_rfl) (impl_Lawn_runs_step0 k)
theorem impl_Lawn_runs_step1 (k : Nat) (R : Type) (K : Ex → St → Option R) (g : St → Option R) (p : Int × Int × Int × Int × (List Int) × (List Int) × (List Int)) : evCode (impl_Lawn_runs_C k) (loopP [0] (0, codeOf Try.f58)).2 (loopP [0] (0, codeOf Try.f58)).1 (fSt impl_Lawn_runs_t1 (enc_iiiilll p)) (loopK tab [2, 5, 6, 7, 15, 16, 17] [5] [4] g K) = impl_Lawn_runs_w1 k R K (fun p => g (fSt impl_Lawn_runs_t1 (enc_iiiilll p))) p := by
  kernel_rfl
theorem impl_Lawn_runs_lok1 (k : Nat) : LoopOK Try.prog tab (impl_Lawn_runs_C k).lo (loopP [0] (0, codeOf Try.f58)).1 (loopP [0] (0, codeOf Try.f58)).2 :=
  loopOK_of (C := impl_Lawn_runs_C k) tabOK eqTabOK (oraOf_ok (impl_Lawn_runs_es k)) (oraOf_nat (impl_Lawn_runs_es k)) follows (forall_getD _ 1 (0, Code.skip) (by kernel_rfl) fun i hi => by
      match i, hi with
      | 0, _ => exact impl_Lawn_runs_lok0 k
      | n + 1, h => omega)
    (tm := impl_Lawn_runs_t1) (dec := dec_iiiilll) (enc := enc_iiiilll) (ksIn := [2, 5, 6, 7, 15, 16, 17]) (ksOut := [5]) (ksRet := [4]) (k := k) (step := impl_Lawn_runs_w1 k) dec_enc_iiiilll (fun p => by kernel_rfl) (fun s R K => by kernel_rfl) (impl_Lawn_runs_step1 k)
def impl_Lawn_runs_e (k : Nat) : Ent := (58, callOf [.agg 33, .bool] dec_lb fun (p : (List Int) × Bool) R K => (impl_Lawn_runs k p.1 p.2).bind fun (b : (List Int)) => K ((fV (.slv 30) (enc_l b)).1, none))
theorem impl_Lawn_runs_run (k : Nat) (p : (List Int) × Bool) : runF (impl_Lawn_runs_C k) Try.f58 false (fL [.agg 33, .bool] (enc_lb p)).1 (resK (.slv 30) dec_l) = impl_Lawn_runs k p.1 p.2 := by
  kernel_rfl
theorem impl_Lawn_runs_ok (k : Nat) : EntOK Try.prog tab mvs (impl_Lawn_runs_e k) :=
  fn_ok (C := impl_Lawn_runs_C k) tabOK eqTabOK (impl_Lawn_runs_es k) rfl follows Try.func58 (by kernel_rfl) (by kernel_rfl) rfl (forall_getD _ 1 (0, Code.skip) (by kernel_rfl) fun i hi => by
      match i, hi with
      | 0, _ => exact impl_Lawn_runs_lok1 k
      | n + 1, h => omega)
    dec_enc_lb dec_enc_l (impl_Lawn_runs_run k)

def dec_iilll (ps : List Pay) : Option (Int × Int × (List Int) × (List Int) × (List Int)) := match ps with
  | [.i x1, .i x2, .l x3, .l x4, .l x5] => some (x1, x2, x3, x4, x5)
  | _ => none
def enc_iilll (p : Int × Int × (List Int) × (List Int) × (List Int)) : List Pay := [.i p.1, .i p.2.1, .l p.2.2.1, .l p.2.2.2.1, .l p.2.2.2.2]
theorem dec_enc_iilll : ∀ (ps : List Pay) (p : Int × Int × (List Int) × (List Int) × (List Int)), dec_iilll ps = some p → ps = enc_iilll p := by
  intro ps p h
  unfold dec_iilll at h
  split at h
  · injection h with h
    subst h
    rfl
  · cases h

def impl_LongestRun_t0 : StTm := ⟨37, [(4, .ptr 4 0 30), (7, .ptr 7 0 30), (19, .slw 19 30), (20, .int .i64), (21, .int .i64)], [(4, 30, true, .ints), (7, 30, true, .ints), (19, 30, false, .ints)]⟩
def impl_LongestRun_t0_1 : StTm := ⟨37, [(4, .ptr 4 0 30), (7, .ptr 7 0 30)], [(4, 30, true, .ints), (7, 30, true, .ints)]⟩
def impl_LongestRun_w0 (k : Nat) (R : Type) (K : Ex → St → Option R) (rec : Int × Int × (List Int) × (List Int) × (List Int) → Option R) (p : Int × Int × (List Int) × (List Int) × (List Int)) : Option R := impl_LongestRun_s0 k (fun y1 y2 => K (.exit 0) (fSt impl_LongestRun_t0_1 [.l y1, .l y2])) (fun h1 h2 h3 h4 h5 => rec (h1, h2, h3, h4, h5)) p.1 p.2.1 p.2.2.1 p.2.2.2.1 p.2.2.2.2
def impl_LongestRun_c0 (k : Nat) : Lcall := lcallOf tab impl_LongestRun_t0 dec_iilll [4, 7, 19, 20, 21] k (impl_LongestRun_w0 k)
def impl_LongestRun_C (k : Nat) : Cfg := ⟨tab, mvs, oraOf [impl_cellsCode_e k, impl_Lawn_runs_e k], loOf [(0, impl_LongestRun_c0 k)]⟩
theorem impl_LongestRun_es (k : Nat) : ∀ e ∈ ([impl_cellsCode_e k, impl_Lawn_runs_e k] : List Ent), EntOK Try.prog tab mvs e := by
  intro e he
  simp only [List.mem_cons, List.not_mem_nil, or_false] at he
  rcases he with rfl | rfl
  · exact impl_cellsCode_ok k
  · exact impl_Lawn_runs_ok k
theorem impl_LongestRun_step0 (k : Nat) (R : Type) (K : Ex → St → Option R) (g : St → Option R) (p : Int × Int × (List Int) × (List Int) × (List Int)) : evCode (impl_LongestRun_C k) (loopP [0] (0, codeOf Try.f17)).2 (loopP [0] (0, codeOf Try.f17)).1 (fSt impl_LongestRun_t0 (enc_iilll p)) (loopK tab [4, 7, 19, 20, 21] [4, 7] [4, 5] g K) = impl_LongestRun_w0 k R K (fun p => g (fSt impl_LongestRun_t0 (enc_iilll p))) p := by
  kernel_rfl
theorem impl_LongestRun_lok0 (k : Nat) : LoopOK Try.prog tab (impl_LongestRun_C k).lo (loopP [0] (0, codeOf Try.f17)).1 (loopP [0] (0, codeOf Try.f17)).2 :=
  loopOK_of (C := impl_LongestRun_C k) tabOK eqTabOK (oraOf_ok (impl_LongestRun_es k)) (oraOf_nat (impl_LongestRun_es k)) follows (forall_getD _ 0 (0, Code.skip) (by kernel_rfl) fun i hi => by
      omega)
    (tm := impl_LongestRun_t0) (dec := dec_iilll) (enc := enc_iilll) (ksIn := [4, 7, 19, 20, 21]) (ksOut := [4, 7]) (ksRet := [4, 5]) (k := k) (step := impl_LongestRun_w0 k) dec_enc_iilll (fun p => by kernel_rfl) (fun s R K => by kernel_rfl) (impl_LongestRun_step0 k)
def impl_LongestRun_e (k : Nat) : Ent := (17, callOf [.agg 33, .bool] dec_lb fun (p : (List Int) × Bool) R K => (impl_LongestRun k p.1 p.2).bind fun (b : (List Int) × Int) => K ((fV (.tup [.agg 30, .int .i64]) (enc_li b)).1, none))
theorem impl_LongestRun_run (k : Nat) (p : (List Int) × Bool) : runF (impl_LongestRun_C k) Try.f17 false (fL [.agg 33, .bool] (enc_lb p)).1 (resK (.tup [.agg 30, .int .i64]) dec_li) = impl_LongestRun k p.1 p.2 := by
  kernel_rfl
theorem impl_LongestRun_ok (k : Nat) : EntOK Try.prog tab mvs (impl_LongestRun_e k) :=
  fn_ok (C := impl_LongestRun_C k) tabOK eqTabOK (impl_LongestRun_es k) rfl follows Try.func17 (by kernel_rfl) (by kernel_rfl) rfl (forall_getD _ 1 (0, Code.skip) (by kernel_rfl) fun i hi => by
      match i, hi with
      | 0, _ => exact impl_LongestRun_lok0 k
      | n + 1, h => omega)
    dec_enc_lb dec_enc_li (impl_LongestRun_run k)

def laws_eqCell_C (k : Nat) : Cfg := ⟨tab, mvs, oraOf [], loOf []⟩
theorem laws_eqCell_es (k : Nat) : ∀ e ∈ ([] : List Ent), EntOK Try.prog tab mvs e := by
  intro e he
  simp at he
def laws_eqCell_e (k : Nat) : Ent := (42, callOf [.agg 28, .agg 28] dec_ll fun (p : (List Int) × (List Int)) R K => (laws_eqCell k p.1 p.2).bind fun (b : Bool) => K ((fV (.bool) (enc_b b)).1, none))
theorem laws_eqCell_run (k : Nat) (p : (List Int) × (List Int)) : runF (laws_eqCell_C k) Try.f42 false (fL [.agg 28, .agg 28] (enc_ll p)).1 (resK (.bool) dec_b) = laws_eqCell k p.1 p.2 := by
  kernel_rfl
theorem laws_eqCell_ok (k : Nat) : EntOK Try.prog tab mvs (laws_eqCell_e k) :=
  fn_ok (C := laws_eqCell_C k) tabOK eqTabOK (laws_eqCell_es k) rfl follows Try.func42 (by kernel_rfl) (by kernel_rfl) rfl (forall_getD _ 0 (0, Code.skip) (by kernel_rfl) fun i hi => by
      omega)
    dec_enc_ll dec_enc_b (laws_eqCell_run k)

def laws_eqRun_C (k : Nat) : Cfg := ⟨tab, mvs, oraOf [laws_eqCell_e k], loOf []⟩
theorem laws_eqRun_es (k : Nat) : ∀ e ∈ ([laws_eqCell_e k] : List Ent), EntOK Try.prog tab mvs e := by
  intro e he
  simp only [List.mem_cons, List.not_mem_nil, or_false] at he
  rcases he with rfl
  · exact laws_eqCell_ok k
def laws_eqRun_e (k : Nat) : Ent := (18, callOf [.agg 30, .agg 30] dec_ll fun (p : (List Int) × (List Int)) R K => (laws_eqRun k p.1 p.2).bind fun (b : Bool) => K ((fV (.bool) (enc_b b)).1, none))
theorem laws_eqRun_run (k : Nat) (p : (List Int) × (List Int)) : runF (laws_eqRun_C k) Try.f18 false (fL [.agg 30, .agg 30] (enc_ll p)).1 (resK (.bool) dec_b) = laws_eqRun k p.1 p.2 := by
  kernel_rfl
theorem laws_eqRun_ok (k : Nat) : EntOK Try.prog tab mvs (laws_eqRun_e k) :=
  fn_ok (C := laws_eqRun_C k) tabOK eqTabOK (laws_eqRun_es k) rfl follows Try.func18 (by kernel_rfl) (by kernel_rfl) rfl (forall_getD _ 0 (0, Code.skip) (by kernel_rfl) fun i hi => by
      omega)
    dec_enc_ll dec_enc_b (laws_eqRun_run k)

def laws_FnExactLongestRun_C (k : Nat) : Cfg := ⟨tab, mvs, oraOf [laws_toLawn_e k, spec_LongestRun_e k, impl_LongestRun_e k, laws_eqRun_e k], loOf []⟩
theorem laws_FnExactLongestRun_es (k : Nat) : ∀ e ∈ ([laws_toLawn_e k, spec_LongestRun_e k, impl_LongestRun_e k, laws_eqRun_e k] : List Ent), EntOK Try.prog tab mvs e := by
  intro e he
  simp only [List.mem_cons, List.not_mem_nil, or_false] at he
  rcases he with rfl | rfl | rfl | rfl
  · exact laws_toLawn_ok k
  · exact spec_LongestRun_ok k
  · exact impl_LongestRun_ok k
  · exact laws_eqRun_ok k
def laws_FnExactLongestRun_e (k : Nat) : Ent := (3, callOf [.agg 26, .bool] dec_lb fun (p : (List Int) × Bool) R K => (laws_FnExactLongestRun k p.1 p.2).bind fun (b : Bool) => K ((fV (.bool) (enc_b b)).1, none))
theorem laws_FnExactLongestRun_run (k : Nat) (p : (List Int) × Bool) : runF (laws_FnExactLongestRun_C k) Try.f3 false (fL [.agg 26, .bool] (enc_lb p)).1 (resK (.bool) dec_b) = laws_FnExactLongestRun k p.1 p.2 := by
  kernel_rfl
theorem laws_FnExactLongestRun_ok (k : Nat) : EntOK Try.prog tab mvs (laws_FnExactLongestRun_e k) :=
  fn_ok (C := laws_FnExactLongestRun_C k) tabOK eqTabOK (laws_FnExactLongestRun_es k) rfl follows Try.func3 (by kernel_rfl) (by kernel_rfl) rfl (forall_getD _ 0 (0, Code.skip) (by kernel_rfl) fun i hi => by
      omega)
    dec_enc_lb dec_enc_b (laws_FnExactLongestRun_run k)

def laws_toWear_t0 : StTm := ⟨15, [(1, .ptr 1 0 37), (2, .ptr 2 0 40), (3, .ptr 3 0 40), (4, .int .i64)], [(1, 37, true, .ints), (2, 40, true, .ints), (3, 40, true, .ints)]⟩
def laws_toWear_t0_1 : StTm := ⟨15, [(2, .ptr 2 0 40), (3, .ptr 3 0 40)], [(2, 40, true, .ints), (3, 40, true, .ints)]⟩
def laws_toWear_w0 (k : Nat) (R : Type) (K : Ex → St → Option R) (rec : Int × (List Int) × (List Int) × (List Int) → Option R) (p : Int × (List Int) × (List Int) × (List Int)) : Option R := laws_toWear_s0 k (fun y1 y2 => K (.exit 0) (fSt laws_toWear_t0_1 [.l y1, .l y2])) (fun h1 h2 h3 h4 => rec (h1, h2, h3, h4)) p.1 p.2.1 p.2.2.1 p.2.2.2
def laws_toWear_c0 (k : Nat) : Lcall := lcallOf tab laws_toWear_t0 dec_illl [1, 2, 3, 4] k (laws_toWear_w0 k)
def laws_toWear_C (k : Nat) : Cfg := ⟨tab, mvs, oraOf [], loOf [(0, laws_toWear_c0 k)]⟩
theorem laws_toWear_es (k : Nat) : ∀ e ∈ ([] : List Ent), EntOK Try.prog tab mvs e := by
  intro e he
  simp at he
theorem laws_toWear_step0 (k : Nat) (R : Type) (K : Ex → St → Option R) (g : St → Option R) (p : Int × (List Int) × (List Int) × (List Int)) : evCode (laws_toWear_C k) (loopP [0] (0, codeOf Try.f20)).2 (loopP [0] (0, codeOf Try.f20)).1 (fSt laws_toWear_t0 (enc_illl p)) (loopK tab [1, 2, 3, 4] [2, 3] [2] g K) = laws_toWear_w0 k R K (fun p => g (fSt laws_toWear_t0 (enc_illl p))) p := by
  kernel_rfl
theorem laws_toWear_lok0 (k : Nat) : LoopOK Try.prog tab (laws_toWear_C k).lo (loopP [0] (0, codeOf Try.f20)).1 (loopP [0] (0, codeOf Try.f20)).2 :=
  loopOK_of (C := laws_toWear_C k) tabOK eqTabOK (oraOf_ok (laws_toWear_es k)) (oraOf_nat (laws_toWear_es k)) follows (forall_getD _ 0 (0, Code.skip) (by kernel_rfl) fun i hi => by
      omega)
    (tm := laws_toWear_t0) (dec := dec_illl) (enc := enc_illl) (ksIn := [1, 2, 3, 4]) (ksOut := [2, 3]) (ksRet := [2]) (k := k) (step := laws_toWear_w0 k) dec_enc_illl (fun p => by kernel_rfl) (fun s R K => by kernel_rfl) (laws_toWear_step0 k)
def laws_toWear_e (k : Nat) : Ent := (20, callOf [.agg 37] dec_l fun (p : (List Int)) R K => (laws_toWear k p).bind fun (b : (List Int)) => K ((fV (.agg 40) (enc_l b)).1, none))
theorem laws_toWear_run (k : Nat) (p : (List Int)) : runF (laws_toWear_C k) Try.f20 false (fL [.agg 37] (enc_l p)).1 (resK (.agg 40) dec_l) = laws_toWear k p := by
  kernel_rfl
theorem laws_toWear_ok (k : Nat) : EntOK Try.prog tab mvs (laws_toWear_e k) :=
  fn_ok (C := laws_toWear_C k) tabOK eqTabOK (laws_toWear_es k) rfl follows Try.func20 (by kernel_rfl) (by kernel_rfl) rfl (forall_getD _ 1 (0, Code.skip) (by kernel_rfl) fun i hi => by
      match i, hi with
      | 0, _ => exact laws_toWear_lok0 k
      | n + 1, h => omega)
    dec_enc_l dec_enc_l (laws_toWear_run k)

def spec_l05Wear_t0 : StTm := ⟨21, [(0, .pvi (some 40) 0 40), (3, .int .i64)], []⟩
def spec_l05Wear_t0_1 : StTm := ⟨21, [(2, .bool)], []⟩
def spec_l05Wear_t0_2 : StTm := ⟨21, [(0, .pvi (some 40) 0 40)], []⟩
def spec_l05Wear_w0 (k : Nat) (R : Type) (K : Ex → St → Option R) (rec : (List Int) × Int → Option R) (p : (List Int) × Int) : Option R := spec_l05Wear_s0 k (fun y1 => K .ret (fSt spec_l05Wear_t0_1 [.b y1])) (fun y1 => K (.exit 0) (fSt spec_l05Wear_t0_2 [.l y1])) (fun h1 h2 => rec (h1, h2)) p.1 p.2
def spec_l05Wear_c0 (k : Nat) : Lcall := lcallOf tab spec_l05Wear_t0 dec_li [0, 3] k (spec_l05Wear_w0 k)
def spec_l05Wear_C (k : Nat) : Cfg := ⟨tab, mvs, oraOf [spec_l00In_e k], loOf [(0, spec_l05Wear_c0 k)]⟩
theorem spec_l05Wear_es (k : Nat) : ∀ e ∈ ([spec_l00In_e k] : List Ent), EntOK Try.prog tab mvs e := by
  intro e he
  simp only [List.mem_cons, List.not_mem_nil, or_false] at he
  rcases he with rfl
  · exact spec_l00In_ok k
theorem spec_l05Wear_step0 (k : Nat) (R : Type) (K : Ex → St → Option R) (g : St → Option R) (p : (List Int) × Int) : evCode (spec_l05Wear_C k) (loopP [0] (0, codeOf Try.f59)).2 (loopP [0] (0, codeOf Try.f59)).1 (fSt spec_l05Wear_t0 (enc_li p)) (loopK tab [0, 3] [0] [2] g K) = spec_l05Wear_w0 k R K (fun p => g (fSt spec_l05Wear_t0 (enc_li p))) p := by
  kernel_rfl
theorem spec_l05Wear_lok0 (k : Nat) : LoopOK Try.prog tab (spec_l05Wear_C k).lo (loopP [0] (0, codeOf Try.f59)).1 (loopP [0] (0, codeOf Try.f59)).2 :=
  loopOK_of (C := spec_l05Wear_C k) tabOK eqTabOK (oraOf_ok (spec_l05Wear_es k)) (oraOf_nat (spec_l05Wear_es k)) follows (forall_getD _ 0 (0, Code.skip) (by kernel_rfl) fun i hi => by
      omega)
    (tm := spec_l05Wear_t0) (dec := dec_li) (enc := enc_li) (ksIn := [0, 3]) (ksOut := [0]) (ksRet := [2]) (k := k) (step := spec_l05Wear_w0 k) dec_enc_li (fun p => by kernel_rfl) (fun s R K => by kernel_rfl) (spec_l05Wear_step0 k)
def spec_l05Wear_e (k : Nat) : Ent := (59, callOf [.pvi (some 40) 0 40] dec_l fun (p : (List Int)) R K => (spec_l05Wear k p).bind fun (b : Bool) => K ((fV (.bool) (enc_b b)).1, none))
theorem spec_l05Wear_run (k : Nat) (p : (List Int)) : runF (spec_l05Wear_C k) Try.f59 false (fL [.pvi (some 40) 0 40] (enc_l p)).1 (resK (.bool) dec_b) = spec_l05Wear k p := by
  kernel_rfl
theorem spec_l05Wear_ok (k : Nat) : EntOK Try.prog tab mvs (spec_l05Wear_e k) :=
  fn_ok (C := spec_l05Wear_C k) tabOK eqTabOK (spec_l05Wear_es k) rfl follows Try.func59 (by kernel_rfl) (by kernel_rfl) rfl (forall_getD _ 1 (0, Code.skip) (by kernel_rfl) fun i hi => by
      match i, hi with
      | 0, _ => exact spec_l05Wear_lok0 k
      | n + 1, h => omega)
    dec_enc_l dec_enc_b (spec_l05Wear_run k)

def spec_l05Near_C (k : Nat) : Cfg := ⟨tab, mvs, oraOf [], loOf []⟩
theorem spec_l05Near_es (k : Nat) : ∀ e ∈ ([] : List Ent), EntOK Try.prog tab mvs e := by
  intro e he
  simp at he
def spec_l05Near_e (k : Nat) : Ent := (114, callOf [.agg 28] dec_l fun (p : (List Int)) R K => (spec_l05Near k p).bind fun (b : (List Int)) => K ((fV (.slv 28) (enc_l b)).1, none))
theorem spec_l05Near_run (k : Nat) (p : (List Int)) : runF (spec_l05Near_C k) Try.f114 false (fL [.agg 28] (enc_l p)).1 (resK (.slv 28) dec_l) = spec_l05Near k p := by
  kernel_rfl
theorem spec_l05Near_ok (k : Nat) : EntOK Try.prog tab mvs (spec_l05Near_e k) :=
  fn_ok (C := spec_l05Near_C k) tabOK eqTabOK (spec_l05Near_es k) rfl follows Try.func114 (by kernel_rfl) (by kernel_rfl) rfl (forall_getD _ 0 (0, Code.skip) (by kernel_rfl) fun i hi => by
      omega)
    dec_enc_l dec_enc_l (spec_l05Near_run k)

def dec_lilll (ps : List Pay) : Option ((List Int) × Int × (List Int) × (List Int) × (List Int)) := match ps with
  | [.l x1, .i x2, .l x3, .l x4, .l x5] => some (x1, x2, x3, x4, x5)
  | _ => none
def enc_lilll (p : (List Int) × Int × (List Int) × (List Int) × (List Int)) : List Pay := [.l p.1, .i p.2.1, .l p.2.2.1, .l p.2.2.2.1, .l p.2.2.2.2]
theorem dec_enc_lilll : ∀ (ps : List Pay) (p : (List Int) × Int × (List Int) × (List Int) × (List Int)), dec_lilll ps = some p → ps = enc_lilll p := by
  intro ps p h
  unfold dec_lilll at h
  split at h
  · injection h with h
    subst h
    rfl
  · cases h

def spec_l05At_t0 : StTm := ⟨38, [(0, .pvi (some 33) 0 33), (4, .ptr 4 0 91), (5, .ptr 5 0 91), (6, .slw 6 28), (7, .int .i64)], [(4, 91, true, .ints), (5, 91, true, .ints), (6, 28, false, .ints)]⟩
def spec_l05At_t0_1 : StTm := ⟨38, [(4, .ptr 4 0 91), (5, .ptr 5 0 91)], [(4, 91, true, .ints), (5, 91, true, .ints)]⟩
def spec_l05At_w0 (k : Nat) (R : Type) (K : Ex → St → Option R) (rec : (List Int) × Int × (List Int) × (List Int) × (List Int) → Option R) (p : (List Int) × Int × (List Int) × (List Int) × (List Int)) : Option R := spec_l05At_s0 k (fun y1 y2 => K (.exit 0) (fSt spec_l05At_t0_1 [.l y1, .l y2])) (fun h1 h2 h3 h4 h5 => rec (h1, h2, h3, h4, h5)) p.1 p.2.1 p.2.2.1 p.2.2.2.1 p.2.2.2.2
def spec_l05At_c0 (k : Nat) : Lcall := lcallOf tab spec_l05At_t0 dec_lilll [0, 4, 5, 6, 7] k (spec_l05At_w0 k)
def spec_l05At_C (k : Nat) : Cfg := ⟨tab, mvs, oraOf [spec_l05Near_e k, spec_l01Is_e k, spec_l01At_e k], loOf [(0, spec_l05At_c0 k)]⟩
theorem spec_l05At_es (k : Nat) : ∀ e ∈ ([spec_l05Near_e k, spec_l01Is_e k, spec_l01At_e k] : List Ent), EntOK Try.prog tab mvs e := by
  intro e he
  simp only [List.mem_cons, List.not_mem_nil, or_false] at he
  rcases he with rfl | rfl | rfl
  · exact spec_l05Near_ok k
  · exact spec_l01Is_ok k
  · exact spec_l01At_ok k
theorem spec_l05At_step0 (k : Nat) (R : Type) (K : Ex → St → Option R) (g : St → Option R) (p : (List Int) × Int × (List Int) × (List Int) × (List Int)) : evCode (spec_l05At_C k) (loopP [0] (0, codeOf Try.f65)).2 (loopP [0] (0, codeOf Try.f65)).1 (fSt spec_l05At_t0 (enc_lilll p)) (loopK tab [0, 4, 5, 6, 7] [4, 5] [4] g K) = spec_l05At_w0 k R K (fun p => g (fSt spec_l05At_t0 (enc_lilll p))) p := by
  kernel_rfl
theorem spec_l05At_lok0 (k : Nat) : LoopOK Try.prog tab (spec_l05At_C k).lo (loopP [0] (0, codeOf Try.f65)).1 (loopP [0] (0, codeOf Try.f65)).2 :=
  loopOK_of (C := spec_l05At_C k) tabOK eqTabOK (oraOf_ok (spec_l05At_es k)) (oraOf_nat (spec_l05At_es k)) follows (forall_getD _ 0 (0, Code.skip) (by kernel_rfl) fun i hi => by
      omega)
    (tm := spec_l05At_t0) (dec := dec_lilll) (enc := enc_lilll) (ksIn := [0, 4, 5, 6, 7]) (ksOut := [4, 5]) (ksRet := [4]) (k := k) (step := spec_l05At_w0 k) dec_enc_lilll (fun p => by kernel_rfl) (fun s R K => by kernel_rfl) (spec_l05At_step0 k)
def spec_l05At_e (k : Nat) : Ent := (65, callOf [.pvi (some 33) 0 33, .agg 28] dec_ll fun (p : (List Int) × (List Int)) R K => (spec_l05At k p.1 p.2).bind fun (b : (List Int)) => K ((fV (.agg 91) (enc_l b)).1, none))
theorem spec_l05At_run (k : Nat) (p : (List Int) × (List Int)) : runF (spec_l05At_C k) Try.f65 false (fL [.pvi (some 33) 0 33, .agg 28] (enc_ll p)).1 (resK (.agg 91) dec_l) = spec_l05At k p.1 p.2 := by
  kernel_rfl
theorem spec_l05At_ok (k : Nat) : EntOK Try.prog tab mvs (spec_l05At_e k) :=
  fn_ok (C := spec_l05At_C k) tabOK eqTabOK (spec_l05At_es k) rfl follows Try.func65 (by kernel_rfl) (by kernel_rfl) rfl (forall_getD _ 1 (0, Code.skip) (by kernel_rfl) fun i hi => by
      match i, hi with
      | 0, _ => exact spec_l05At_lok0 k
      | n + 1, h => omega)
    dec_enc_ll dec_enc_l (spec_l05At_run k)

def dec_liillll (ps : List Pay) : Option ((List Int) × Int × Int × (List Int) × (List Int) × (List Int) × (List Int)) := match ps with
  | [.l x1, .i x2, .i x3, .l x4, .l x5, .l x6, .l x7] => some (x1, x2, x3, x4, x5, x6, x7)
  | _ => none
def enc_liillll (p : (List Int) × Int × Int × (List Int) × (List Int) × (List Int) × (List Int)) : List Pay := [.l p.1, .i p.2.1, .i p.2.2.1, .l p.2.2.2.1, .l p.2.2.2.2.1, .l p.2.2.2.2.2.1, .l p.2.2.2.2.2.2]
theorem dec_enc_liillll : ∀ (ps : List Pay) (p : (List Int) × Int × Int × (List Int) × (List Int) × (List Int) × (List Int)), dec_liillll ps = some p → ps = enc_liillll p := by
  intro ps p h
  unfold dec_liillll at h
  split at h
  · injection h with h
    subst h
    rfl
  · cases h

def spec_l05All_t0 : StTm := ⟨36, [(0, .pvi (some 33) 0 33), (2, .ptr 2 0 91), (3, .ptr 3 0 91), (4, .slw 4 28), (5, .int .i64), (6, .ptr 6 0 91), (7, .int .i64)], [(2, 91, true, .ints), (3, 91, true, .ints), (4, 28, false, .ints), (6, 91, true, .ints)]⟩
def spec_l05All_t0_1 : StTm := ⟨36, [(0, .pvi (some 33) 0 33), (2, .ptr 2 0 91), (3, .ptr 3 0 91), (4, .slw 4 28), (5, .int .i64)], [(2, 91, true, .ints), (3, 91, true, .ints), (4, 28, false, .ints)]⟩
def spec_l05All_w0 (k : Nat) (R : Type) (K : Ex → St → Option R) (rec : (List Int) × Int × Int × (List Int) × (List Int) × (List Int) × (List Int) → Option R) (p : (List Int) × Int × Int × (List Int) × (List Int) × (List Int) × (List Int)) : Option R := spec_l05All_s0 k (fun y1 y2 y3 y4 y5 => K (.exit 2) (fSt spec_l05All_t0_1 [.l y1, .i y2, .l y3, .l y4, .l y5])) (fun h1 h2 h3 h4 h5 h6 h7 => rec (h1, h2, h3, h4, h5, h6, h7)) p.1 p.2.1 p.2.2.1 p.2.2.2.1 p.2.2.2.2.1 p.2.2.2.2.2.1 p.2.2.2.2.2.2
def spec_l05All_c0 (k : Nat) : Lcall := lcallOf tab spec_l05All_t0 dec_liillll [0, 2, 3, 4, 5, 6, 7] k (spec_l05All_w0 k)
def spec_l05All_t1 : StTm := ⟨36, [(0, .pvi (some 33) 0 33), (2, .ptr 2 0 91), (3, .ptr 3 0 91), (4, .slw 4 28), (5, .int .i64)], [(2, 91, true, .ints), (3, 91, true, .ints), (4, 28, false, .ints)]⟩
def spec_l05All_t1_1 : StTm := ⟨36, [(2, .ptr 2 0 91), (3, .ptr 3 0 91)], [(2, 91, true, .ints), (3, 91, true, .ints)]⟩
def spec_l05All_w1 (k : Nat) (R : Type) (K : Ex → St → Option R) (rec : (List Int) × Int × (List Int) × (List Int) × (List Int) → Option R) (p : (List Int) × Int × (List Int) × (List Int) × (List Int)) : Option R := spec_l05All_s1 k (fun y1 y2 => K (.exit 0) (fSt spec_l05All_t1_1 [.l y1, .l y2])) (fun h1 h2 h3 h4 h5 => rec (h1, h2, h3, h4, h5)) p.1 p.2.1 p.2.2.1 p.2.2.2.1 p.2.2.2.2
def spec_l05All_c1 (k : Nat) : Lcall := lcallOf tab spec_l05All_t1 dec_lilll [0, 2, 3, 4, 5] k (spec_l05All_w1 k)
def spec_l05All_C (k : Nat) : Cfg := ⟨tab, mvs, oraOf [spec_l01Cells_e k, spec_l05At_e k], loOf [(2, spec_l05All_c0 k), (0, spec_l05All_c1 k)]⟩
theorem spec_l05All_es (k : Nat) : ∀ e ∈ ([spec_l01Cells_e k, spec_l05At_e k] : List Ent), EntOK Try.prog tab mvs e := by
  intro e he
  simp only [List.mem_cons, List.not_mem_nil, or_false] at he
  rcases he with rfl | rfl
  · exact spec_l01Cells_ok k
  · exact spec_l05At_ok k
theorem spec_l05All_step0 (k : Nat) (R : Type) (K : Ex → St → Option R) (g : St → Option R) (p : (List Int) × Int × Int × (List Int) × (List Int) × (List Int) × (List Int)) : evCode (spec_l05All_C k) (loopP [0, 0] (0, codeOf Try.f60)).2 (loopP [0, 0] (0, codeOf Try.f60)).1 (fSt spec_l05All_t0 (enc_liillll p)) (loopK tab [0, 2, 3, 4, 5, 6, 7] [0, 2, 3, 4, 5] [2] g K) = spec_l05All_w0 k R K (fun p => g (fSt spec_l05All_t0 (enc_liillll p))) p := by
  kernel_rfl
theorem spec_l05All_lok0 (k : Nat) : LoopOK Try.prog tab (spec_l05All_C k).lo (loopP [0, 0] (0, codeOf Try.f60)).1 (loopP [0, 0] (0, codeOf Try.f60)).2 :=
  loopOK_of (C := spec_l05All_C k) tabOK eqTabOK (oraOf_ok (spec_l05All_es k)) (oraOf_nat (spec_l05All_es k)) follows (forall_getD _ 0 (0, Code.skip) (by kernel_rfl) fun i hi => by
      omega)
    (tm := spec_l05All_t0) (dec := dec_liillll) (enc := enc_liillll) (ksIn := [0, 2, 3, 4, 5, 6, 7]) (ksOut := [0, 2, 3, 4, 5]) (ksRet := [2]) (k := k) (step := spec_l05All_w0 k) dec_enc_liillll (fun p => by kernel_rfl) (fun s R K => by kernel_rfl) (spec_l05All_step0 k)
theorem spec_l05All_step1 (k : Nat) (R : Type) (K : Ex → St → Option R) (g : St → Option R) (p : (List Int) × Int × (List Int) × (List Int) × (List Int)) : evCode (spec_l05All_C k) (loopP [0] (0, codeOf Try.f60)).2 (loopP [0] (0, codeOf Try.f60)).1 (fSt spec_l05All_t1 (enc_lilll p)) (loopK tab [0, 2, 3, 4, 5] [2, 3] [2] g K) = spec_l05All_w1 k R K (fun p => g (fSt spec_l05All_t1 (enc_lilll p))) p := by
  kernel_rfl
theorem spec_l05All_lok1 (k : Nat) : LoopOK Try.prog tab (spec_l05All_C k).lo (loopP [0] (0, codeOf Try.f60)).1 (loopP [0] (0, codeOf Try.f60)).2 :=
  loopOK_of (C := spec_l05All_C k) tabOK eqTabOK (oraOf_ok (spec_l05All_es k)) (oraOf_nat (spec_l05All_es k)) follows (forall_getD _ 1 (0, Code.skip) (by kernel_rfl) fun i hi => by
      match i, hi with
      | 0, _ => exact spec_l05All_lok0 k
      | n + 1, h => omega)
    (tm := spec_l05All_t1) (dec := dec_lilll) (enc := enc_lilll) (ksIn := [0, 2, 3, 4, 5]) (ksOut := [2, 3]) (ksRet := [2]) (k := k) (step := spec_l05All_w1 k) dec_enc_lilll (fun p => by kernel_rfl) (fun s R K => by kernel_rfl) (spec_l05All_step1 k)
def spec_l05All_e (k : Nat) : Ent := (60, callOf [.pvi (some 33) 0 33] dec_l fun (p : (List Int)) R K => (spec_l05All k p).bind fun (b : (List Int)) => K ((fV (.agg 91) (enc_l b)).1, none))
theorem spec_l05All_run (k : Nat) (p : (List Int)) : runF (spec_l05All_C k) Try.f60 false (fL [.pvi (some 33) 0 33] (enc_l p)).1 (resK (.agg 91) dec_l) = spec_l05All k p := by
  kernel_rfl
theorem spec_l05All_ok (k : Nat) : EntOK Try.prog tab mvs (spec_l05All_e k) :=
  fn_ok (C := spec_l05All_C k) tabOK eqTabOK (spec_l05All_es k) rfl follows Try.func60 (by kernel_rfl) (by kernel_rfl) rfl (forall_getD _ 1 (0, Code.skip) (by kernel_rfl) fun i hi => by
      match i, hi with
      | 0, _ => exact spec_l05All_lok1 k
      | n + 1, h => omega)
    dec_enc_l dec_enc_l (spec_l05All_run k)

def dec_ii (ps : List Pay) : Option (Int × Int) := match ps with
  | [.i x1, .i x2] => some (x1, x2)
  | _ => none
def enc_ii (p : Int × Int) : List Pay := [.i p.1, .i p.2]
theorem dec_enc_ii : ∀ (ps : List Pay) (p : Int × Int), dec_ii ps = some p → ps = enc_ii p := by
  intro ps p h
  unfold dec_ii at h
  split at h
  · injection h with h
    subst h
    rfl
  · cases h

def spec_LineFor_t0 : StTm := ⟨31, [(3, .ptr 3 0 40), (6, .ptr 6 0 91), (7, .int .i64), (8, .int .i64)], [(3, 40, true, .ints), (6, 91, true, .ints)]⟩
def spec_LineFor_t0_1 : StTm := ⟨31, [(7, .int .i64)], []⟩
def spec_LineFor_w0 (k : Nat) (R : Type) (K : Ex → St → Option R) (rec : Int × Int × (List Int) × (List Int) → Option R) (p : Int × Int × (List Int) × (List Int)) : Option R := spec_LineFor_s0 k (fun y1 => K (.exit 0) (fSt spec_LineFor_t0_1 [.i y1])) (fun h1 h2 h3 h4 => rec (h1, h2, h3, h4)) p.1 p.2.1 p.2.2.1 p.2.2.2
def spec_LineFor_c0 (k : Nat) : Lcall := lcallOf tab spec_LineFor_t0 dec_iill [3, 6, 7, 8] k (spec_LineFor_w0 k)
def spec_LineFor_C (k : Nat) : Cfg := ⟨tab, mvs, oraOf [spec_l01Ok_e k, spec_l05Wear_e k, spec_l05All_e k], loOf [(0, spec_LineFor_c0 k)]⟩
theorem spec_LineFor_es (k : Nat) : ∀ e ∈ ([spec_l01Ok_e k, spec_l05Wear_e k, spec_l05All_e k] : List Ent), EntOK Try.prog tab mvs e := by
  intro e he
  simp only [List.mem_cons, List.not_mem_nil, or_false] at he
  rcases he with rfl | rfl | rfl
  · exact spec_l01Ok_ok k
  · exact spec_l05Wear_ok k
  · exact spec_l05All_ok k
theorem spec_LineFor_step0 (k : Nat) (R : Type) (K : Ex → St → Option R) (g : St → Option R) (p : Int × Int × (List Int) × (List Int)) : evCode (spec_LineFor_C k) (loopP [0] (0, codeOf Try.f19)).2 (loopP [0] (0, codeOf Try.f19)).1 (fSt spec_LineFor_t0 (enc_iill p)) (loopK tab [3, 6, 7, 8] [7] [4, 5] g K) = spec_LineFor_w0 k R K (fun p => g (fSt spec_LineFor_t0 (enc_iill p))) p := by
  kernel_rfl
theorem spec_LineFor_lok0 (k : Nat) : LoopOK Try.prog tab (spec_LineFor_C k).lo (loopP [0] (0, codeOf Try.f19)).1 (loopP [0] (0, codeOf Try.f19)).2 :=
  loopOK_of (C := spec_LineFor_C k) tabOK eqTabOK (oraOf_ok (spec_LineFor_es k)) (oraOf_nat (spec_LineFor_es k)) follows (forall_getD _ 0 (0, Code.skip) (by kernel_rfl) fun i hi => by
      omega)
    (tm := spec_LineFor_t0) (dec := dec_iill) (enc := enc_iill) (ksIn := [3, 6, 7, 8]) (ksOut := [7]) (ksRet := [4, 5]) (k := k) (step := spec_LineFor_w0 k) dec_enc_iill (fun p => by kernel_rfl) (fun s R K => by kernel_rfl) (spec_LineFor_step0 k)
def spec_LineFor_e (k : Nat) : Ent := (19, callOf [.agg 33, .agg 40] dec_ll fun (p : (List Int) × (List Int)) R K => (spec_LineFor k p.1 p.2).bind fun (b : Int × Int) => K ((fV (.tup [.int .i64, .int .i64]) (enc_ii b)).1, none))
theorem spec_LineFor_run (k : Nat) (p : (List Int) × (List Int)) : runF (spec_LineFor_C k) Try.f19 false (fL [.agg 33, .agg 40] (enc_ll p)).1 (resK (.tup [.int .i64, .int .i64]) dec_ii) = spec_LineFor k p.1 p.2 := by
  kernel_rfl
theorem spec_LineFor_ok (k : Nat) : EntOK Try.prog tab mvs (spec_LineFor_e k) :=
  fn_ok (C := spec_LineFor_C k) tabOK eqTabOK (spec_LineFor_es k) rfl follows Try.func19 (by kernel_rfl) (by kernel_rfl) rfl (forall_getD _ 1 (0, Code.skip) (by kernel_rfl) fun i hi => by
      match i, hi with
      | 0, _ => exact spec_LineFor_lok0 k
      | n + 1, h => omega)
    dec_enc_ll dec_enc_ii (spec_LineFor_run k)

def impl_ValidWear_1_C (k : Nat) : Cfg := ⟨tab, mvs, oraOf [impl_within_e k], loOf []⟩
theorem impl_ValidWear_1_es (k : Nat) : ∀ e ∈ ([impl_within_e k] : List Ent), EntOK Try.prog tab mvs e := by
  intro e he
  simp only [List.mem_cons, List.not_mem_nil, or_false] at he
  rcases he with rfl
  · exact impl_within_ok k
def impl_ValidWear_1_e (k : Nat) : Ent := (111, callOf [.int .i8] dec_i fun (p : Int) R K => (impl_ValidWear_1 k p).bind fun (b : Bool) => K ((fV (.bool) (enc_b b)).1, none))
theorem impl_ValidWear_1_run (k : Nat) (p : Int) : runF (impl_ValidWear_1_C k) Try.f111 false (fL [.int .i8] (enc_i p)).1 (resK (.bool) dec_b) = impl_ValidWear_1 k p := by
  kernel_rfl
theorem impl_ValidWear_1_ok (k : Nat) : EntOK Try.prog tab mvs (impl_ValidWear_1_e k) :=
  fn_ok (C := impl_ValidWear_1_C k) tabOK eqTabOK (impl_ValidWear_1_es k) rfl follows Try.func111 (by kernel_rfl) (by kernel_rfl) rfl (forall_getD _ 0 (0, Code.skip) (by kernel_rfl) fun i hi => by
      omega)
    dec_enc_i dec_enc_b (impl_ValidWear_1_run k)

def slices_IndexFunc_int8_t0 : StTm := ⟨19, [(0, .slv 22), (1, .cloB 22), (7, .int .i64), (8, .int .i64)], []⟩
def slices_IndexFunc_int8_t0_1 : StTm := ⟨19, [(4, .int .i64)], []⟩
def slices_IndexFunc_int8_t0_2 : StTm := ⟨19, [], []⟩
def slices_IndexFunc_int8_w0 (k : Nat) (R : Type) (K : Ex → St → Option R) (rec : (List Int) × (List Int → Option Bool) × Int × Int → Option R) (p : (List Int) × (List Int → Option Bool) × Int × Int) : Option R := slices_IndexFunc_int8_s0 k (fun y1 => K .ret (fSt slices_IndexFunc_int8_t0_1 [.i y1])) (K (.exit 0) (fSt slices_IndexFunc_int8_t0_2 [])) (fun h1 h2 h3 h4 => rec (h1, h2, h3, h4)) p.1 p.2.1 p.2.2.1 p.2.2.2
def slices_IndexFunc_int8_c0 (k : Nat) : Lcall := lcallOf tab slices_IndexFunc_int8_t0 dec_lgii [0, 1, 7, 8] k (slices_IndexFunc_int8_w0 k)
def slices_IndexFunc_int8_C (k : Nat) : Cfg := ⟨tab, mvs, oraOf [], loOf [(0, slices_IndexFunc_int8_c0 k)]⟩
theorem slices_IndexFunc_int8_es (k : Nat) : ∀ e ∈ ([] : List Ent), EntOK Try.prog tab mvs e := by
  intro e he
  simp at he
theorem slices_IndexFunc_int8_step0 (k : Nat) (R : Type) (K : Ex → St → Option R) (g : St → Option R) (p : (List Int) × (List Int → Option Bool) × Int × Int) : evCode (slices_IndexFunc_int8_C k) (loopP [0] (0, codeOf Try.f134)).2 (loopP [0] (0, codeOf Try.f134)).1 (fSt slices_IndexFunc_int8_t0 (enc_lgii p)) (loopK tab [0, 1, 7, 8] [] [4] g K) = slices_IndexFunc_int8_w0 k R K (fun p => g (fSt slices_IndexFunc_int8_t0 (enc_lgii p))) p := by
  kernel_rfl
theorem slices_IndexFunc_int8_lok0 (k : Nat) : LoopOK Try.prog tab (slices_IndexFunc_int8_C k).lo (loopP [0] (0, codeOf Try.f134)).1 (loopP [0] (0, codeOf Try.f134)).2 :=
  loopOK_of (C := slices_IndexFunc_int8_C k) tabOK eqTabOK (oraOf_ok (slices_IndexFunc_int8_es k)) (oraOf_nat (slices_IndexFunc_int8_es k)) follows (forall_getD _ 0 (0, Code.skip) (by kernel_rfl) fun i hi => by
      omega)
    (tm := slices_IndexFunc_int8_t0) (dec := dec_lgii) (enc := enc_lgii) (ksIn := [0, 1, 7, 8]) (ksOut := []) (ksRet := [4]) (k := k) (step := slices_IndexFunc_int8_w0 k) dec_enc_lgii (fun p => by kernel_rfl) (fun s R K => by kernel_rfl) (slices_IndexFunc_int8_step0 k)
def slices_IndexFunc_int8_e (k : Nat) : Ent := (134, callOf [.slv 22, .cloB 22] dec_lg fun (p : (List Int) × (List Int → Option Bool)) R K => (slices_IndexFunc_int8 k p.1 p.2).bind fun (b : Int) => K ((fV (.int .i64) (enc_i b)).1, none))
theorem slices_IndexFunc_int8_run (k : Nat) (p : (List Int) × (List Int → Option Bool)) : runF (slices_IndexFunc_int8_C k) Try.f134 false (fL [.slv 22, .cloB 22] (enc_lg p)).1 (resK (.int .i64) dec_i) = slices_IndexFunc_int8 k p.1 p.2 := by
  kernel_rfl
theorem slices_IndexFunc_int8_ok (k : Nat) : EntOK Try.prog tab mvs (slices_IndexFunc_int8_e k) :=
  fn_ok (C := slices_IndexFunc_int8_C k) tabOK eqTabOK (slices_IndexFunc_int8_es k) rfl follows Try.func134 (by kernel_rfl) (by kernel_rfl) rfl (forall_getD _ 1 (0, Code.skip) (by kernel_rfl) fun i hi => by
      match i, hi with
      | 0, _ => exact slices_IndexFunc_int8_lok0 k
      | n + 1, h => omega)
    dec_enc_lg dec_enc_i (slices_IndexFunc_int8_run k)

def slices_ContainsFunc_int8_C (k : Nat) : Cfg := ⟨tab, mvs, oraOf [slices_IndexFunc_int8_e k], loOf []⟩
theorem slices_ContainsFunc_int8_es (k : Nat) : ∀ e ∈ ([slices_IndexFunc_int8_e k] : List Ent), EntOK Try.prog tab mvs e := by
  intro e he
  simp only [List.mem_cons, List.not_mem_nil, or_false] at he
  rcases he with rfl
  · exact slices_IndexFunc_int8_ok k
def slices_ContainsFunc_int8_e (k : Nat) : Ent := (110, callOf [.slv 22, .cloB 22] dec_lg fun (p : (List Int) × (List Int → Option Bool)) R K => (slices_ContainsFunc_int8 k p.1 p.2).bind fun (b : Bool) => K ((fV (.bool) (enc_b b)).1, none))
theorem slices_ContainsFunc_int8_run (k : Nat) (p : (List Int) × (List Int → Option Bool)) : runF (slices_ContainsFunc_int8_C k) Try.f110 false (fL [.slv 22, .cloB 22] (enc_lg p)).1 (resK (.bool) dec_b) = slices_ContainsFunc_int8 k p.1 p.2 := by
  kernel_rfl
theorem slices_ContainsFunc_int8_ok (k : Nat) : EntOK Try.prog tab mvs (slices_ContainsFunc_int8_e k) :=
  fn_ok (C := slices_ContainsFunc_int8_C k) tabOK eqTabOK (slices_ContainsFunc_int8_es k) rfl follows Try.func110 (by kernel_rfl) (by kernel_rfl) rfl (forall_getD _ 0 (0, Code.skip) (by kernel_rfl) fun i hi => by
      omega)
    dec_enc_lg dec_enc_b (slices_ContainsFunc_int8_run k)

def impl_ValidWear_C (k : Nat) : Cfg := ⟨tab, mvs, oraOf [impl_ValidWear_1_e k, slices_ContainsFunc_int8_e k], loOf []⟩
theorem impl_ValidWear_es (k : Nat) : ∀ e ∈ ([impl_ValidWear_1_e k, slices_ContainsFunc_int8_e k] : List Ent), EntOK Try.prog tab mvs e := by
  intro e he
  simp only [List.mem_cons, List.not_mem_nil, or_false] at he
  rcases he with rfl | rfl
  · exact impl_ValidWear_1_ok k
  · exact slices_ContainsFunc_int8_ok k
def impl_ValidWear_e (k : Nat) : Ent := (62, callOf [.agg 40] dec_l fun (p : (List Int)) R K => (impl_ValidWear k p).bind fun (b : Bool) => K ((fV (.bool) (enc_b b)).1, none))
theorem impl_ValidWear_run (k : Nat) (p : (List Int)) : runF (impl_ValidWear_C k) Try.f62 false (fL [.agg 40] (enc_l p)).1 (resK (.bool) dec_b) = impl_ValidWear k p := by
  kernel_rfl
theorem impl_ValidWear_ok (k : Nat) : EntOK Try.prog tab mvs (impl_ValidWear_e k) :=
  fn_ok (C := impl_ValidWear_C k) tabOK eqTabOK (impl_ValidWear_es k) rfl follows Try.func62 (by kernel_rfl) (by kernel_rfl) rfl (forall_getD _ 0 (0, Code.skip) (by kernel_rfl) fun i hi => by
      omega)
    dec_enc_l dec_enc_b (impl_ValidWear_run k)

def impl_Lawn_those_1_C (k : Nat) : Cfg := ⟨tab, mvs, oraOf [], loOf []⟩
theorem impl_Lawn_those_1_es (k : Nat) : ∀ e ∈ ([] : List Ent), EntOK Try.prog tab mvs e := by
  intro e he
  simp at he
def impl_Lawn_those_1_e (k : Nat) : Ent := (116, callOf [.agg 28, .pvv [.cloB 28] 0 102] dec_lg fun (p : (List Int) × (List Int → Option Bool)) R K => (impl_Lawn_those_1 k p.1 p.2).bind fun (b : Bool) => K ((fV (.bool) (enc_b b)).1, none))
theorem impl_Lawn_those_1_run (k : Nat) (p : (List Int) × (List Int → Option Bool)) : runF (impl_Lawn_those_1_C k) Try.f116 false (fL [.agg 28, .pvv [.cloB 28] 0 102] (enc_lg p)).1 (resK (.bool) dec_b) = impl_Lawn_those_1 k p.1 p.2 := by
  kernel_rfl
theorem impl_Lawn_those_1_ok (k : Nat) : EntOK Try.prog tab mvs (impl_Lawn_those_1_e k) :=
  fn_ok (C := impl_Lawn_those_1_C k) tabOK eqTabOK (impl_Lawn_those_1_es k) rfl follows Try.func116 (by kernel_rfl) (by kernel_rfl) rfl (forall_getD _ 0 (0, Code.skip) (by kernel_rfl) fun i hi => by
      omega)
    dec_enc_lg dec_enc_b (impl_Lawn_those_1_run k)

def dec_giil (ps : List Pay) : Option ((List Int → Option Bool) × Int × Int × (List Int)) := match ps with
  | [.g x1, .i x2, .i x3, .l x4] => some (x1, x2, x3, x4)
  | _ => none
def enc_giil (p : (List Int → Option Bool) × Int × Int × (List Int)) : List Pay := [.g p.1, .i p.2.1, .i p.2.2.1, .l p.2.2.2]
theorem dec_enc_giil : ∀ (ps : List Pay) (p : (List Int → Option Bool) × Int × Int × (List Int)), dec_giil ps = some p → ps = enc_giil p := by
  intro ps p h
  unfold dec_giil at h
  split at h
  · injection h with h
    subst h
    rfl
  · cases h

def slices_DeleteFunc_impl_Cell_t0 : StTm := ⟨42, [(0, .slw 42 28), (1, .cloB 28), (5, .int .i64), (6, .int .i64)], [(42, 28, false, .ints)]⟩
def slices_DeleteFunc_impl_Cell_t0_1 : StTm := ⟨42, [(0, .slw 42 28), (5, .int .i64)], [(42, 28, false, .ints)]⟩
def slices_DeleteFunc_impl_Cell_w0 (k : Nat) (R : Type) (K : Ex → St → Option R) (rec : (List Int → Option Bool) × Int × Int × (List Int) → Option R) (p : (List Int → Option Bool) × Int × Int × (List Int)) : Option R := slices_DeleteFunc_impl_Cell_s0 k (fun y1 y2 => K (.exit 0) (fSt slices_DeleteFunc_impl_Cell_t0_1 [.i y1, .l y2])) (fun h1 h2 h3 h4 => rec (h1, h2, h3, h4)) p.1 p.2.1 p.2.2.1 p.2.2.2
def slices_DeleteFunc_impl_Cell_c0 (k : Nat) : Lcall := lcallOf tab slices_DeleteFunc_impl_Cell_t0 dec_giil [0, 1, 5, 6] k (slices_DeleteFunc_impl_Cell_w0 k)
def slices_DeleteFunc_impl_Cell_C (k : Nat) : Cfg := ⟨tab, mvs, oraOf [slices_IndexFunc_impl_Cell_e k], loOf [(0, slices_DeleteFunc_impl_Cell_c0 k)]⟩
theorem slices_DeleteFunc_impl_Cell_es (k : Nat) : ∀ e ∈ ([slices_IndexFunc_impl_Cell_e k] : List Ent), EntOK Try.prog tab mvs e := by
  intro e he
  simp only [List.mem_cons, List.not_mem_nil, or_false] at he
  rcases he with rfl
  · exact slices_IndexFunc_impl_Cell_ok k
theorem slices_DeleteFunc_impl_Cell_step0 (k : Nat) (R : Type) (K : Ex → St → Option R) (g : St → Option R) (p : (List Int → Option Bool) × Int × Int × (List Int)) : evCode (slices_DeleteFunc_impl_Cell_C k) (loopP [0] (0, codeOf Try.f115)).2 (loopP [0] (0, codeOf Try.f115)).1 (fSt slices_DeleteFunc_impl_Cell_t0 (enc_giil p)) (loopK tab [0, 1, 5, 6] [0, 5] [4] g K) = slices_DeleteFunc_impl_Cell_w0 k R K (fun p => g (fSt slices_DeleteFunc_impl_Cell_t0 (enc_giil p))) p := by
  kernel_rfl
theorem slices_DeleteFunc_impl_Cell_lok0 (k : Nat) : LoopOK Try.prog tab (slices_DeleteFunc_impl_Cell_C k).lo (loopP [0] (0, codeOf Try.f115)).1 (loopP [0] (0, codeOf Try.f115)).2 :=
  loopOK_of (C := slices_DeleteFunc_impl_Cell_C k) tabOK eqTabOK (oraOf_ok (slices_DeleteFunc_impl_Cell_es k)) (oraOf_nat (slices_DeleteFunc_impl_Cell_es k)) follows (forall_getD _ 0 (0, Code.skip) (by kernel_rfl) fun i hi => by
      omega)
    (tm := slices_DeleteFunc_impl_Cell_t0) (dec := dec_giil) (enc := enc_giil) (ksIn := [0, 1, 5, 6]) (ksOut := [0, 5]) (ksRet := [4]) (k := k) (step := slices_DeleteFunc_impl_Cell_w0 k) dec_enc_giil (fun p => by kernel_rfl) (fun s R K => by kernel_rfl) (slices_DeleteFunc_impl_Cell_step0 k)
def slices_DeleteFunc_impl_Cell_e (k : Nat) : Ent := (115, callOf [.slv 28, .cloB 28] dec_lg fun (p : (List Int) × (List Int → Option Bool)) R K => (slices_DeleteFunc_impl_Cell k p.1 p.2).bind fun (b : (List Int)) => K ((fV (.slv 28) (enc_l b)).1, none))
theorem slices_DeleteFunc_impl_Cell_run (k : Nat) (p : (List Int) × (List Int → Option Bool)) : runF (slices_DeleteFunc_impl_Cell_C k) Try.f115 true (fL [.slv 28, .cloB 28] (enc_lg p)).1 (resK (.slv 28) dec_l) = slices_DeleteFunc_impl_Cell k p.1 p.2 := by
  kernel_rfl
theorem slices_DeleteFunc_impl_Cell_ok (k : Nat) : EntOK Try.prog tab mvs (slices_DeleteFunc_impl_Cell_e k) :=
  fnm_ok (C := slices_DeleteFunc_impl_Cell_C k) tabOK eqTabOK (slices_DeleteFunc_impl_Cell_es k) rfl follows Try.func115 (by kernel_rfl) (by kernel_rfl) rfl (forall_getD _ 1 (0, Code.skip) (by kernel_rfl) fun i hi => by
      match i, hi with
      | 0, _ => exact slices_DeleteFunc_impl_Cell_lok0 k
      | n + 1, h => omega)
    dec_enc_lg dec_enc_l (slices_DeleteFunc_impl_Cell_run k)

def impl_Lawn_those_C (k : Nat) : Cfg := ⟨tab, mvs, oraOf [impl_Lawn_all_e k, impl_Lawn_those_1_e k, slices_DeleteFunc_impl_Cell_e k], loOf []⟩
theorem impl_Lawn_those_es (k : Nat) : ∀ e ∈ ([impl_Lawn_all_e k, impl_Lawn_those_1_e k, slices_DeleteFunc_impl_Cell_e k] : List Ent), EntOK Try.prog tab mvs e := by
  intro e he
  simp only [List.mem_cons, List.not_mem_nil, or_false] at he
  rcases he with rfl | rfl | rfl
  · exact impl_Lawn_all_ok k
  · exact impl_Lawn_those_1_ok k
  · exact slices_DeleteFunc_impl_Cell_ok k
def impl_Lawn_those_e (k : Nat) : Ent := (67, callOf [.agg 33, .cloB 28] dec_lg fun (p : (List Int) × (List Int → Option Bool)) R K => (impl_Lawn_those k p.1 p.2).bind fun (b : (List Int)) => K ((fV (.slv 28) (enc_l b)).1, none))
theorem impl_Lawn_those_run (k : Nat) (p : (List Int) × (List Int → Option Bool)) : runF (impl_Lawn_those_C k) Try.f67 false (fL [.agg 33, .cloB 28] (enc_lg p)).1 (resK (.slv 28) dec_l) = impl_Lawn_those k p.1 p.2 := by
  kernel_rfl
theorem impl_Lawn_those_ok (k : Nat) : EntOK Try.prog tab mvs (impl_Lawn_those_e k) :=
  fn_ok (C := impl_Lawn_those_C k) tabOK eqTabOK (impl_Lawn_those_es k) rfl follows Try.func67 (by kernel_rfl) (by kernel_rfl) rfl (forall_getD _ 0 (0, Code.skip) (by kernel_rfl) fun i hi => by
      omega)
    dec_enc_lg dec_enc_l (impl_Lawn_those_run k)

def impl_beside_C (k : Nat) : Cfg := ⟨tab, mvs, oraOf [], loOf []⟩
theorem impl_beside_es (k : Nat) : ∀ e ∈ ([] : List Ent), EntOK Try.prog tab mvs e := by
  intro e he
  simp at he
def impl_beside_e (k : Nat) : Ent := (118, callOf [.agg 28] dec_l fun (p : (List Int)) R K => (impl_beside k p).bind fun (b : (List Int)) => K ((fV (.slv 28) (enc_l b)).1, none))
theorem impl_beside_run (k : Nat) (p : (List Int)) : runF (impl_beside_C k) Try.f118 false (fL [.agg 28] (enc_l p)).1 (resK (.slv 28) dec_l) = impl_beside k p := by
  kernel_rfl
theorem impl_beside_ok (k : Nat) : EntOK Try.prog tab mvs (impl_beside_e k) :=
  fn_ok (C := impl_beside_C k) tabOK eqTabOK (impl_beside_es k) rfl follows Try.func118 (by kernel_rfl) (by kernel_rfl) rfl (forall_getD _ 0 (0, Code.skip) (by kernel_rfl) fun i hi => by
      omega)
    dec_enc_l dec_enc_l (impl_beside_run k)

def dec_iillll (ps : List Pay) : Option (Int × Int × (List Int) × (List Int) × (List Int) × (List Int)) := match ps with
  | [.i x1, .i x2, .l x3, .l x4, .l x5, .l x6] => some (x1, x2, x3, x4, x5, x6)
  | _ => none
def enc_iillll (p : Int × Int × (List Int) × (List Int) × (List Int) × (List Int)) : List Pay := [.i p.1, .i p.2.1, .l p.2.2.1, .l p.2.2.2.1, .l p.2.2.2.2.1, .l p.2.2.2.2.2]
theorem dec_enc_iillll : ∀ (ps : List Pay) (p : Int × Int × (List Int) × (List Int) × (List Int) × (List Int)), dec_iillll ps = some p → ps = enc_iillll p := by
  intro ps p h
  unfold dec_iillll at h
  split at h
  · injection h with h
    subst h
    rfl
  · cases h

def impl_Lawn_around_t0 : StTm := ⟨32, [(2, .ptr 2 0 33), (4, .ptr 4 0 91), (5, .ptr 5 0 91), (10, .slw 10 28), (11, .int .i64), (12, .int .i64)], [(2, 33, true, .ints), (4, 91, true, .ints), (5, 91, true, .ints), (10, 28, false, .ints)]⟩
def impl_Lawn_around_t0_1 : StTm := ⟨32, [(4, .ptr 4 0 91), (5, .ptr 5 0 91)], [(4, 91, true, .ints), (5, 91, true, .ints)]⟩
def impl_Lawn_around_w0 (k : Nat) (R : Type) (K : Ex → St → Option R) (rec : Int × Int × (List Int) × (List Int) × (List Int) × (List Int) → Option R) (p : Int × Int × (List Int) × (List Int) × (List Int) × (List Int)) : Option R := impl_Lawn_around_s0 k (fun y1 y2 => K (.exit 0) (fSt impl_Lawn_around_t0_1 [.l y1, .l y2])) (fun h1 h2 h3 h4 h5 h6 => rec (h1, h2, h3, h4, h5, h6)) p.1 p.2.1 p.2.2.1 p.2.2.2.1 p.2.2.2.2.1 p.2.2.2.2.2
def impl_Lawn_around_c0 (k : Nat) : Lcall := lcallOf tab impl_Lawn_around_t0 dec_iillll [2, 4, 5, 10, 11, 12] k (impl_Lawn_around_w0 k)
def impl_Lawn_around_C (k : Nat) : Cfg := ⟨tab, mvs, oraOf [impl_beside_e k, impl_Lawn_has_e k, impl_Lawn_kind_e k], loOf [(0, impl_Lawn_around_c0 k)]⟩
theorem impl_Lawn_around_es (k : Nat) : ∀ e ∈ ([impl_beside_e k, impl_Lawn_has_e k, impl_Lawn_kind_e k] : List Ent), EntOK Try.prog tab mvs e := by
  intro e he
  simp only [List.mem_cons, List.not_mem_nil, or_false] at he
  rcases he with rfl | rfl | rfl
  · exact impl_beside_ok k
  · exact impl_Lawn_has_ok k
  · exact impl_Lawn_kind_ok k
theorem impl_Lawn_around_step0 (k : Nat) (R : Type) (K : Ex → St → Option R) (g : St → Option R) (p : Int × Int × (List Int) × (List Int) × (List Int) × (List Int)) : evCode (impl_Lawn_around_C k) (loopP [0] (0, codeOf Try.f70)).2 (loopP [0] (0, codeOf Try.f70)).1 (fSt impl_Lawn_around_t0 (enc_iillll p)) (loopK tab [2, 4, 5, 10, 11, 12] [4, 5] [4] g K) = impl_Lawn_around_w0 k R K (fun p => g (fSt impl_Lawn_around_t0 (enc_iillll p))) p := by
  kernel_rfl
theorem impl_Lawn_around_lok0 (k : Nat) : LoopOK Try.prog tab (impl_Lawn_around_C k).lo (loopP [0] (0, codeOf Try.f70)).1 (loopP [0] (0, codeOf Try.f70)).2 :=
  loopOK_of (C := impl_Lawn_around_C k) tabOK eqTabOK (oraOf_ok (impl_Lawn_around_es k)) (oraOf_nat (impl_Lawn_around_es k)) follows (forall_getD _ 0 (0, Code.skip) (by kernel_rfl) fun i hi => by
      omega)
    (tm := impl_Lawn_around_t0) (dec := dec_iillll) (enc := enc_iillll) (ksIn := [2, 4, 5, 10, 11, 12]) (ksOut := [4, 5]) (ksRet := [4]) (k := k) (step := impl_Lawn_around_w0 k) dec_enc_iillll (fun p => by kernel_rfl) (fun s R K => by kernel_rfl) (impl_Lawn_around_step0 k)
def impl_Lawn_around_e (k : Nat) : Ent := (70, callOf [.agg 33, .agg 28] dec_ll fun (p : (List Int) × (List Int)) R K => (impl_Lawn_around k p.1 p.2).bind fun (b : (List Int)) => K ((fV (.agg 91) (enc_l b)).1, none))
theorem impl_Lawn_around_run (k : Nat) (p : (List Int) × (List Int)) : runF (impl_Lawn_around_C k) Try.f70 false (fL [.agg 33, .agg 28] (enc_ll p)).1 (resK (.agg 91) dec_l) = impl_Lawn_around k p.1 p.2 := by
  kernel_rfl
theorem impl_Lawn_around_ok (k : Nat) : EntOK Try.prog tab mvs (impl_Lawn_around_e k) :=
  fn_ok (C := impl_Lawn_around_C k) tabOK eqTabOK (impl_Lawn_around_es k) rfl follows Try.func70 (by kernel_rfl) (by kernel_rfl) rfl (forall_getD _ 1 (0, Code.skip) (by kernel_rfl) fun i hi => by
      match i, hi with
      | 0, _ => exact impl_Lawn_around_lok0 k
      | n + 1, h => omega)
    dec_enc_ll dec_enc_l (impl_Lawn_around_run k)

def dec_iilillll (ps : List Pay) : Option (Int × Int × (List Int) × Int × (List Int) × (List Int) × (List Int) × (List Int)) := match ps with
  | [.i x1, .i x2, .l x3, .i x4, .l x5, .l x6, .l x7, .l x8] => some (x1, x2, x3, x4, x5, x6, x7, x8)
  | _ => none
def enc_iilillll (p : Int × Int × (List Int) × Int × (List Int) × (List Int) × (List Int) × (List Int)) : List Pay := [.i p.1, .i p.2.1, .l p.2.2.1, .i p.2.2.2.1, .l p.2.2.2.2.1, .l p.2.2.2.2.2.1, .l p.2.2.2.2.2.2.1, .l p.2.2.2.2.2.2.2]
theorem dec_enc_iilillll : ∀ (ps : List Pay) (p : Int × Int × (List Int) × Int × (List Int) × (List Int) × (List Int) × (List Int)), dec_iilillll ps = some p → ps = enc_iilillll p := by
  intro ps p h
  unfold dec_iilillll at h
  split at h
  · injection h with h
    subst h
    rfl
  · cases h

def impl_Lawn_sides_t0 : StTm := ⟨34, [(1, .ptr 1 0 33), (2, .ptr 2 0 91), (3, .ptr 3 0 91), (12, .slw 12 28), (13, .int .i64), (14, .int .i64), (20, .agg 91), (21, .int .i64)], [(1, 33, true, .ints), (2, 91, true, .ints), (3, 91, true, .ints), (12, 28, false, .ints)]⟩
def impl_Lawn_sides_t0_1 : StTm := ⟨34, [(1, .ptr 1 0 33), (2, .ptr 2 0 91), (3, .ptr 3 0 91), (12, .slw 12 28), (13, .int .i64), (14, .int .i64)], [(1, 33, true, .ints), (2, 91, true, .ints), (3, 91, true, .ints), (12, 28, false, .ints)]⟩
def impl_Lawn_sides_w0 (k : Nat) (R : Type) (K : Ex → St → Option R) (rec : Int × Int × (List Int) × Int × (List Int) × (List Int) × (List Int) × (List Int) → Option R) (p : Int × Int × (List Int) × Int × (List Int) × (List Int) × (List Int) × (List Int)) : Option R := impl_Lawn_sides_s0 k (fun y1 y2 y3 y4 y5 y6 => K (.exit 2) (fSt impl_Lawn_sides_t0_1 [.i y1, .i y2, .l y3, .l y4, .l y5, .l y6])) (fun h1 h2 h3 h4 h5 h6 h7 h8 => rec (h1, h2, h3, h4, h5, h6, h7, h8)) p.1 p.2.1 p.2.2.1 p.2.2.2.1 p.2.2.2.2.1 p.2.2.2.2.2.1 p.2.2.2.2.2.2.1 p.2.2.2.2.2.2.2
def impl_Lawn_sides_c0 (k : Nat) : Lcall := lcallOf tab impl_Lawn_sides_t0 dec_iilillll [1, 2, 3, 12, 13, 14, 20, 21] k (impl_Lawn_sides_w0 k)
def impl_Lawn_sides_t1 : StTm := ⟨34, [(1, .ptr 1 0 33), (2, .ptr 2 0 91), (3, .ptr 3 0 91), (12, .slw 12 28), (13, .int .i64), (14, .int .i64)], [(1, 33, true, .ints), (2, 91, true, .ints), (3, 91, true, .ints), (12, 28, false, .ints)]⟩
def impl_Lawn_sides_t1_1 : StTm := ⟨34, [(2, .ptr 2 0 91), (3, .ptr 3 0 91)], [(2, 91, true, .ints), (3, 91, true, .ints)]⟩
def impl_Lawn_sides_w1 (k : Nat) (R : Type) (K : Ex → St → Option R) (rec : Int × Int × (List Int) × (List Int) × (List Int) × (List Int) → Option R) (p : Int × Int × (List Int) × (List Int) × (List Int) × (List Int)) : Option R := impl_Lawn_sides_s1 k (fun y1 y2 => K (.exit 0) (fSt impl_Lawn_sides_t1_1 [.l y1, .l y2])) (fun h1 h2 h3 h4 h5 h6 => rec (h1, h2, h3, h4, h5, h6)) p.1 p.2.1 p.2.2.1 p.2.2.2.1 p.2.2.2.2.1 p.2.2.2.2.2
def impl_Lawn_sides_c1 (k : Nat) : Lcall := lcallOf tab impl_Lawn_sides_t1 dec_iillll [1, 2, 3, 12, 13, 14] k (impl_Lawn_sides_w1 k)
def impl_Lawn_sides_C (k : Nat) : Cfg := ⟨tab, mvs, oraOf [impl_Lawn_grass_e k, impl_Lawn_those_e k, impl_Lawn_around_e k], loOf [(2, impl_Lawn_sides_c0 k), (0, impl_Lawn_sides_c1 k)]⟩
theorem impl_Lawn_sides_es (k : Nat) : ∀ e ∈ ([impl_Lawn_grass_e k, impl_Lawn_those_e k, impl_Lawn_around_e k] : List Ent), EntOK Try.prog tab mvs e := by
  intro e he
  simp only [List.mem_cons, List.not_mem_nil, or_false] at he
  rcases he with rfl | rfl | rfl
  · exact impl_Lawn_grass_ok k
  · exact impl_Lawn_those_ok k
  · exact impl_Lawn_around_ok k
theorem impl_Lawn_sides_step0 (k : Nat) (R : Type) (K : Ex → St → Option R) (g : St → Option R) (p : Int × Int × (List Int) × Int × (List Int) × (List Int) × (List Int) × (List Int)) : evCode (impl_Lawn_sides_C k) (loopP [0, 0] (0, codeOf Try.f63)).2 (loopP [0, 0] (0, codeOf Try.f63)).1 (fSt impl_Lawn_sides_t0 (enc_iilillll p)) (loopK tab [1, 2, 3, 12, 13, 14, 20, 21] [1, 2, 3, 12, 13, 14] [2] g K) = impl_Lawn_sides_w0 k R K (fun p => g (fSt impl_Lawn_sides_t0 (enc_iilillll p))) p := by
  kernel_rfl
theorem impl_Lawn_sides_lok0 (k : Nat) : LoopOK Try.prog tab (impl_Lawn_sides_C k).lo (loopP [0, 0] (0, codeOf Try.f63)).1 (loopP [0, 0] (0, codeOf Try.f63)).2 :=
  loopOK_of (C := impl_Lawn_sides_C k) tabOK eqTabOK (oraOf_ok (impl_Lawn_sides_es k)) (oraOf_nat (impl_Lawn_sides_es k)) follows (forall_getD _ 0 (0, Code.skip) (by kernel_rfl) fun i hi => by
      omega)
    (tm := impl_Lawn_sides_t0) (dec := dec_iilillll) (enc := enc_iilillll) (ksIn := [1, 2, 3, 12, 13, 14, 20, 21]) (ksOut := [1, 2, 3, 12, 13, 14]) (ksRet := [2]) (k := k) (step := impl_Lawn_sides_w0 k) dec_enc_iilillll (fun p => by kernel_rfl) (fun s R K => by kernel_rfl) (impl_Lawn_sides_step0 k)
theorem impl_Lawn_sides_step1 (k : Nat) (R : Type) (K : Ex → St → Option R) (g : St → Option R) (p : Int × Int × (List Int) × (List Int) × (List Int) × (List Int)) : evCode (impl_Lawn_sides_C k) (loopP [0] (0, codeOf Try.f63)).2 (loopP [0] (0, codeOf Try.f63)).1 (fSt impl_Lawn_sides_t1 (enc_iillll p)) (loopK tab [1, 2, 3, 12, 13, 14] [2, 3] [2] g K) = impl_Lawn_sides_w1 k R K (fun p => g (fSt impl_Lawn_sides_t1 (enc_iillll p))) p := by
  kernel_rfl
theorem impl_Lawn_sides_lok1 (k : Nat) : LoopOK Try.prog tab (impl_Lawn_sides_C k).lo (loopP [0] (0, codeOf Try.f63)).1 (loopP [0] (0, codeOf Try.f63)).2 :=
  loopOK_of (C := impl_Lawn_sides_C k) tabOK eqTabOK (oraOf_ok (impl_Lawn_sides_es k)) (oraOf_nat (impl_Lawn_sides_es k)) follows (forall_getD _ 1 (0, Code.skip) (by kernel_rfl) fun i hi => by
      match i, hi with
      | 0, _ => exact impl_Lawn_sides_lok0 k
      | n + 1, h => omega)
    (tm := impl_Lawn_sides_t1) (dec := dec_iillll) (enc := enc_iillll) (ksIn := [1, 2, 3, 12, 13, 14]) (ksOut := [2, 3]) (ksRet := [2]) (k := k) (step := impl_Lawn_sides_w1 k) dec_enc_iillll (fun p => by kernel_rfl) (fun s R K => by kernel_rfl) (impl_Lawn_sides_step1 k)
def impl_Lawn_sides_e (k : Nat) : Ent := (63, callOf [.agg 33] dec_l fun (p : (List Int)) R K => (impl_Lawn_sides k p).bind fun (b : (List Int)) => K ((fV (.agg 91) (enc_l b)).1, none))
theorem impl_Lawn_sides_run (k : Nat) (p : (List Int)) : runF (impl_Lawn_sides_C k) Try.f63 false (fL [.agg 33] (enc_l p)).1 (resK (.agg 91) dec_l) = impl_Lawn_sides k p := by
  kernel_rfl
theorem impl_Lawn_sides_ok (k : Nat) : EntOK Try.prog tab mvs (impl_Lawn_sides_e k) :=
  fn_ok (C := impl_Lawn_sides_C k) tabOK eqTabOK (impl_Lawn_sides_es k) rfl follows Try.func63 (by kernel_rfl) (by kernel_rfl) rfl (forall_getD _ 1 (0, Code.skip) (by kernel_rfl) fun i hi => by
      match i, hi with
      | 0, _ => exact impl_Lawn_sides_lok1 k
      | n + 1, h => omega)
    dec_enc_l dec_enc_l (impl_Lawn_sides_run k)

def dec_ilil (ps : List Pay) : Option (Int × (List Int) × Int × (List Int)) := match ps with
  | [.i x1, .l x2, .i x3, .l x4] => some (x1, x2, x3, x4)
  | _ => none
def enc_ilil (p : Int × (List Int) × Int × (List Int)) : List Pay := [.i p.1, .l p.2.1, .i p.2.2.1, .l p.2.2.2]
theorem dec_enc_ilil : ∀ (ps : List Pay) (p : Int × (List Int) × Int × (List Int)), dec_ilil ps = some p → ps = enc_ilil p := by
  intro ps p h
  unfold dec_ilil at h
  split at h
  · injection h with h
    subst h
    rfl
  · cases h

def impl_LineFor_t0 : StTm := ⟨33, [(3, .ptr 3 0 40), (6, .int .i64), (18, .agg 91), (19, .int .i64)], [(3, 40, true, .ints)]⟩
def impl_LineFor_t0_1 : StTm := ⟨33, [(6, .int .i64)], []⟩
def impl_LineFor_w0 (k : Nat) (R : Type) (K : Ex → St → Option R) (rec : Int × (List Int) × Int × (List Int) → Option R) (p : Int × (List Int) × Int × (List Int)) : Option R := impl_LineFor_s0 k (fun y1 => K (.exit 0) (fSt impl_LineFor_t0_1 [.i y1])) (fun h1 h2 h3 h4 => rec (h1, h2, h3, h4)) p.1 p.2.1 p.2.2.1 p.2.2.2
def impl_LineFor_c0 (k : Nat) : Lcall := lcallOf tab impl_LineFor_t0 dec_ilil [3, 6, 18, 19] k (impl_LineFor_w0 k)
def impl_LineFor_C (k : Nat) : Cfg := ⟨tab, mvs, oraOf [impl_ValidLawn_e k, impl_ValidWear_e k, impl_Lawn_sides_e k], loOf [(0, impl_LineFor_c0 k)]⟩
theorem impl_LineFor_es (k : Nat) : ∀ e ∈ ([impl_ValidLawn_e k, impl_ValidWear_e k, impl_Lawn_sides_e k] : List Ent), EntOK Try.prog tab mvs e := by
  intro e he
  simp only [List.mem_cons, List.not_mem_nil, or_false] at he
  rcases he with rfl | rfl | rfl
  · exact impl_ValidLawn_ok k
  · exact impl_ValidWear_ok k
  · exact impl_Lawn_sides_ok k
theorem impl_LineFor_step0 (k : Nat) (R : Type) (K : Ex → St → Option R) (g : St → Option R) (p : Int × (List Int) × Int × (List Int)) : evCode (impl_LineFor_C k) (loopP [0] (0, codeOf Try.f21)).2 (loopP [0] (0, codeOf Try.f21)).1 (fSt impl_LineFor_t0 (enc_ilil p)) (loopK tab [3, 6, 18, 19] [6] [4, 5] g K) = impl_LineFor_w0 k R K (fun p => g (fSt impl_LineFor_t0 (enc_ilil p))) p := by
  kernel_rfl
theorem impl_LineFor_lok0 (k : Nat) : LoopOK Try.prog tab (impl_LineFor_C k).lo (loopP [0] (0, codeOf Try.f21)).1 (loopP [0] (0, codeOf Try.f21)).2 :=
  loopOK_of (C := impl_LineFor_C k) tabOK eqTabOK (oraOf_ok (impl_LineFor_es k)) (oraOf_nat (impl_LineFor_es k)) follows (forall_getD _ 0 (0, Code.skip) (by kernel_rfl) fun i hi => by
      omega)
    (tm := impl_LineFor_t0) (dec := dec_ilil) (enc := enc_ilil) (ksIn := [3, 6, 18, 19]) (ksOut := [6]) (ksRet := [4, 5]) (k := k) (step := impl_LineFor_w0 k) dec_enc_ilil (fun p => by kernel_rfl) (fun s R K => by kernel_rfl) (impl_LineFor_step0 k)
def impl_LineFor_e (k : Nat) : Ent := (21, callOf [.agg 33, .agg 40] dec_ll fun (p : (List Int) × (List Int)) R K => (impl_LineFor k p.1 p.2).bind fun (b : Int × Int) => K ((fV (.tup [.int .i64, .int .i64]) (enc_ii b)).1, none))
theorem impl_LineFor_run (k : Nat) (p : (List Int) × (List Int)) : runF (impl_LineFor_C k) Try.f21 false (fL [.agg 33, .agg 40] (enc_ll p)).1 (resK (.tup [.int .i64, .int .i64]) dec_ii) = impl_LineFor k p.1 p.2 := by
  kernel_rfl
theorem impl_LineFor_ok (k : Nat) : EntOK Try.prog tab mvs (impl_LineFor_e k) :=
  fn_ok (C := impl_LineFor_C k) tabOK eqTabOK (impl_LineFor_es k) rfl follows Try.func21 (by kernel_rfl) (by kernel_rfl) rfl (forall_getD _ 1 (0, Code.skip) (by kernel_rfl) fun i hi => by
      match i, hi with
      | 0, _ => exact impl_LineFor_lok0 k
      | n + 1, h => omega)
    dec_enc_ll dec_enc_ii (impl_LineFor_run k)

def laws_FnExactLineFor_C (k : Nat) : Cfg := ⟨tab, mvs, oraOf [laws_toLawn_e k, laws_toWear_e k, spec_LineFor_e k, impl_LineFor_e k], loOf []⟩
theorem laws_FnExactLineFor_es (k : Nat) : ∀ e ∈ ([laws_toLawn_e k, laws_toWear_e k, spec_LineFor_e k, impl_LineFor_e k] : List Ent), EntOK Try.prog tab mvs e := by
  intro e he
  simp only [List.mem_cons, List.not_mem_nil, or_false] at he
  rcases he with rfl | rfl | rfl | rfl
  · exact laws_toLawn_ok k
  · exact laws_toWear_ok k
  · exact spec_LineFor_ok k
  · exact impl_LineFor_ok k
def laws_FnExactLineFor_e (k : Nat) : Ent := (4, callOf [.agg 26, .agg 37] dec_ll fun (p : (List Int) × (List Int)) R K => (laws_FnExactLineFor k p.1 p.2).bind fun (b : Bool) => K ((fV (.bool) (enc_b b)).1, none))
theorem laws_FnExactLineFor_run (k : Nat) (p : (List Int) × (List Int)) : runF (laws_FnExactLineFor_C k) Try.f4 false (fL [.agg 26, .agg 37] (enc_ll p)).1 (resK (.bool) dec_b) = laws_FnExactLineFor k p.1 p.2 := by
  kernel_rfl
theorem laws_FnExactLineFor_ok (k : Nat) : EntOK Try.prog tab mvs (laws_FnExactLineFor_e k) :=
  fn_ok (C := laws_FnExactLineFor_C k) tabOK eqTabOK (laws_FnExactLineFor_es k) rfl follows Try.func4 (by kernel_rfl) (by kernel_rfl) rfl (forall_getD _ 0 (0, Code.skip) (by kernel_rfl) fun i hi => by
      omega)
    dec_enc_ll dec_enc_b (laws_FnExactLineFor_run k)

def spec_l05With_C (k : Nat) : Cfg := ⟨tab, mvs, oraOf [], loOf []⟩
theorem spec_l05With_es (k : Nat) : ∀ e ∈ ([] : List Ent), EntOK Try.prog tab mvs e := by
  intro e he
  simp at he
def spec_l05With_e (k : Nat) : Ent := (66, callOf [.agg 33, .agg 28, .int .u8] dec_lli fun (p : (List Int) × (List Int) × Int) R K => (spec_l05With k p.1 p.2.1 p.2.2).bind fun (b : (List Int)) => K ((fV (.agg 33) (enc_l b)).1, none))
theorem spec_l05With_run (k : Nat) (p : (List Int) × (List Int) × Int) : runF (spec_l05With_C k) Try.f66 false (fL [.agg 33, .agg 28, .int .u8] (enc_lli p)).1 (resK (.agg 33) dec_l) = spec_l05With k p.1 p.2.1 p.2.2 := by
  kernel_rfl
theorem spec_l05With_ok (k : Nat) : EntOK Try.prog tab mvs (spec_l05With_e k) :=
  fn_ok (C := spec_l05With_C k) tabOK eqTabOK (spec_l05With_es k) rfl follows Try.func66 (by kernel_rfl) (by kernel_rfl) rfl (forall_getD _ 0 (0, Code.skip) (by kernel_rfl) fun i hi => by
      omega)
    dec_enc_lli dec_enc_l (spec_l05With_run k)

def dec_ibilll (ps : List Pay) : Option (Int × Bool × Int × (List Int) × (List Int) × (List Int)) := match ps with
  | [.i x1, .b x2, .i x3, .l x4, .l x5, .l x6] => some (x1, x2, x3, x4, x5, x6)
  | _ => none
def enc_ibilll (p : Int × Bool × Int × (List Int) × (List Int) × (List Int)) : List Pay := [.i p.1, .b p.2.1, .i p.2.2.1, .l p.2.2.2.1, .l p.2.2.2.2.1, .l p.2.2.2.2.2]
theorem dec_enc_ibilll : ∀ (ps : List Pay) (p : Int × Bool × Int × (List Int) × (List Int) × (List Int)), dec_ibilll ps = some p → ps = enc_ibilll p := by
  intro ps p h
  unfold dec_ibilll at h
  split at h
  · injection h with h
    subst h
    rfl
  · cases h

def dec_ibll (ps : List Pay) : Option (Int × Bool × (List Int) × (List Int)) := match ps with
  | [.i x1, .b x2, .l x3, .l x4] => some (x1, x2, x3, x4)
  | _ => none
def enc_ibll (p : Int × Bool × (List Int) × (List Int)) : List Pay := [.i p.1, .b p.2.1, .l p.2.2.1, .l p.2.2.2]
theorem dec_enc_ibll : ∀ (ps : List Pay) (p : Int × Bool × (List Int) × (List Int)), dec_ibll ps = some p → ps = enc_ibll p := by
  intro ps p h
  unfold dec_ibll at h
  split at h
  · injection h with h
    subst h
    rfl
  · cases h

def spec_RoundOff_t0 : StTm := ⟨41, [(1, .ptr 1 0 33), (2, .ptr 2 0 33), (5, .int .i64), (6, .bool), (7, .slw 7 28), (8, .int .i64)], [(1, 33, true, .ints), (2, 33, true, .ints), (7, 28, false, .ints)]⟩
def spec_RoundOff_t0_1 : StTm := ⟨41, [(1, .ptr 1 0 33), (2, .ptr 2 0 33), (5, .int .i64), (6, .bool)], [(1, 33, true, .ints), (2, 33, true, .ints)]⟩
def spec_RoundOff_w0 (k : Nat) (R : Type) (K : Ex → St → Option R) (rec : Int × Bool × Int × (List Int) × (List Int) × (List Int) → Option R) (p : Int × Bool × Int × (List Int) × (List Int) × (List Int)) : Option R := spec_RoundOff_s0 k (fun y1 y2 y3 y4 => K (.exit 2) (fSt spec_RoundOff_t0_1 [.i y1, .b y2, .l y3, .l y4])) (fun h1 h2 h3 h4 h5 h6 => rec (h1, h2, h3, h4, h5, h6)) p.1 p.2.1 p.2.2.1 p.2.2.2.1 p.2.2.2.2.1 p.2.2.2.2.2
def spec_RoundOff_c0 (k : Nat) : Lcall := lcallOf tab spec_RoundOff_t0 dec_ibilll [1, 2, 5, 6, 7, 8] k (spec_RoundOff_w0 k)
def spec_RoundOff_t1 : StTm := ⟨41, [(1, .ptr 1 0 33), (2, .ptr 2 0 33), (5, .int .i64), (6, .bool)], [(1, 33, true, .ints), (2, 33, true, .ints)]⟩
def spec_RoundOff_t1_1 : StTm := ⟨41, [(1, .ptr 1 0 33), (2, .ptr 2 0 33), (5, .int .i64)], [(1, 33, true, .ints), (2, 33, true, .ints)]⟩
def spec_RoundOff_w1 (k : Nat) (R : Type) (K : Ex → St → Option R) (rec : Int × Bool × (List Int) × (List Int) → Option R) (p : Int × Bool × (List Int) × (List Int)) : Option R := spec_RoundOff_s1 k (fun y1 y2 y3 => K (.exit 0) (fSt spec_RoundOff_t1_1 [.i y1, .l y2, .l y3])) (fun h1 h2 h3 h4 => rec (h1, h2, h3, h4)) p.1 p.2.1 p.2.2.1 p.2.2.2
def spec_RoundOff_c1 (k : Nat) : Lcall := lcallOf tab spec_RoundOff_t1 dec_ibll [1, 2, 5, 6] k (spec_RoundOff_w1 k)
def spec_RoundOff_C (k : Nat) : Cfg := ⟨tab, mvs, oraOf [spec_l01Ok_e k, spec_l01Cells_e k, spec_l05At_e k, spec_l05With_e k], loOf [(2, spec_RoundOff_c0 k), (0, spec_RoundOff_c1 k)]⟩
theorem spec_RoundOff_es (k : Nat) : ∀ e ∈ ([spec_l01Ok_e k, spec_l01Cells_e k, spec_l05At_e k, spec_l05With_e k] : List Ent), EntOK Try.prog tab mvs e := by
  intro e he
  simp only [List.mem_cons, List.not_mem_nil, or_false] at he
  rcases he with rfl | rfl | rfl | rfl
  · exact spec_l01Ok_ok k
  · exact spec_l01Cells_ok k
  · exact spec_l05At_ok k
  · exact spec_l05With_ok k
theorem spec_RoundOff_step0 (k : Nat) (R : Type) (K : Ex → St → Option R) (g : St → Option R) (p : Int × Bool × Int × (List Int) × (List Int) × (List Int)) : evCode (spec_RoundOff_C k) (loopP [0, 0] (0, codeOf Try.f22)).2 (loopP [0, 0] (0, codeOf Try.f22)).1 (fSt spec_RoundOff_t0 (enc_ibilll p)) (loopK tab [1, 2, 5, 6, 7, 8] [1, 2, 5, 6] [2, 3, 4] g K) = spec_RoundOff_w0 k R K (fun p => g (fSt spec_RoundOff_t0 (enc_ibilll p))) p := by
  kernel_rfl
theorem spec_RoundOff_lok0 (k : Nat) : LoopOK Try.prog tab (spec_RoundOff_C k).lo (loopP [0, 0] (0, codeOf Try.f22)).1 (loopP [0, 0] (0, codeOf Try.f22)).2 :=
  loopOK_of (C := spec_RoundOff_C k) tabOK eqTabOK (oraOf_ok (spec_RoundOff_es k)) (oraOf_nat (spec_RoundOff_es k)) follows (forall_getD _ 0 (0, Code.skip) (by kernel_rfl) fun i hi => by
      omega)
    (tm := spec_RoundOff_t0) (dec := dec_ibilll) (enc := enc_ibilll) (ksIn := [1, 2, 5, 6, 7, 8]) (ksOut := [1, 2, 5, 6]) (ksRet := [2, 3, 4]) (k := k) (step := spec_RoundOff_w0 k) dec_enc_ibilll (fun p => by kernel_rfl) (fun s R K => by kernel_rfl) (spec_RoundOff_step0 k)
theorem spec_RoundOff_step1 (k : Nat) (R : Type) (K : Ex → St → Option R) (g : St → Option R) (p : Int × Bool × (List Int) × (List Int)) : evCode (spec_RoundOff_C k) (loopP [0] (0, codeOf Try.f22)).2 (loopP [0] (0, codeOf Try.f22)).1 (fSt spec_RoundOff_t1 (enc_ibll p)) (loopK tab [1, 2, 5, 6] [1, 2, 5] [2, 3, 4] g K) = spec_RoundOff_w1 k R K (fun p => g (fSt spec_RoundOff_t1 (enc_ibll p))) p := by
  kernel_rfl
theorem spec_RoundOff_lok1 (k : Nat) : LoopOK Try.prog tab (spec_RoundOff_C k).lo (loopP [0] (0, codeOf Try.f22)).1 (loopP [0] (0, codeOf Try.f22)).2 :=
  loopOK_of (C := spec_RoundOff_C k) tabOK eqTabOK (oraOf_ok (spec_RoundOff_es k)) (oraOf_nat (spec_RoundOff_es k)) follows (forall_getD _ 1 (0, Code.skip) (by kernel_rfl) fun i hi => by
      match i, hi with
      | 0, _ => exact spec_RoundOff_lok0 k
      | n + 1, h => omega)
    (tm := spec_RoundOff_t1) (dec := dec_ibll) (enc := enc_ibll) (ksIn := [1, 2, 5, 6]) (ksOut := [1, 2, 5]) (ksRet := [2, 3, 4]) (k := k) (step := spec_RoundOff_w1 k) dec_enc_ibll (fun p => by kernel_rfl) (fun s R K => by kernel_rfl) (spec_RoundOff_step1 k)
def spec_RoundOff_e (k : Nat) : Ent := (22, callOf [.agg 33] dec_l fun (p : (List Int)) R K => (spec_RoundOff k p).bind fun (b : (List Int) × Int × Int) => K ((fV (.tup [.agg 33, .int .i64, .int .i64]) (enc_lii b)).1, none))
theorem spec_RoundOff_run (k : Nat) (p : (List Int)) : runF (spec_RoundOff_C k) Try.f22 false (fL [.agg 33] (enc_l p)).1 (resK (.tup [.agg 33, .int .i64, .int .i64]) dec_lii) = spec_RoundOff k p := by
  kernel_rfl
theorem spec_RoundOff_ok (k : Nat) : EntOK Try.prog tab mvs (spec_RoundOff_e k) :=
  fn_ok (C := spec_RoundOff_C k) tabOK eqTabOK (spec_RoundOff_es k) rfl follows Try.func22 (by kernel_rfl) (by kernel_rfl) rfl (forall_getD _ 1 (0, Code.skip) (by kernel_rfl) fun i hi => by
      match i, hi with
      | 0, _ => exact spec_RoundOff_lok1 k
      | n + 1, h => omega)
    dec_enc_l dec_enc_lii (spec_RoundOff_run k)

def impl_RoundOff_1_C (k : Nat) : Cfg := ⟨tab, mvs, oraOf [impl_Lawn_is_e k, impl_Lawn_around_e k], loOf []⟩
theorem impl_RoundOff_1_es (k : Nat) : ∀ e ∈ ([impl_Lawn_is_e k, impl_Lawn_around_e k] : List Ent), EntOK Try.prog tab mvs e := by
  intro e he
  simp only [List.mem_cons, List.not_mem_nil, or_false] at he
  rcases he with rfl | rfl
  · exact impl_Lawn_is_ok k
  · exact impl_Lawn_around_ok k
def impl_RoundOff_1_e (k : Nat) : Ent := (68, callOf [.agg 28, .pvi (some 33) 0 33] dec_ll fun (p : (List Int) × (List Int)) R K => (impl_RoundOff_1 k p.1 p.2).bind fun (b : Bool) => K ((fV (.bool) (enc_b b)).1, none))
theorem impl_RoundOff_1_run (k : Nat) (p : (List Int) × (List Int)) : runF (impl_RoundOff_1_C k) Try.f68 false (fL [.agg 28, .pvi (some 33) 0 33] (enc_ll p)).1 (resK (.bool) dec_b) = impl_RoundOff_1 k p.1 p.2 := by
  kernel_rfl
theorem impl_RoundOff_1_ok (k : Nat) : EntOK Try.prog tab mvs (impl_RoundOff_1_e k) :=
  fn_ok (C := impl_RoundOff_1_C k) tabOK eqTabOK (impl_RoundOff_1_es k) rfl follows Try.func68 (by kernel_rfl) (by kernel_rfl) rfl (forall_getD _ 0 (0, Code.skip) (by kernel_rfl) fun i hi => by
      omega)
    dec_enc_ll dec_enc_b (impl_RoundOff_1_run k)

def impl_Lawn_turned_C (k : Nat) : Cfg := ⟨tab, mvs, oraOf [], loOf []⟩
theorem impl_Lawn_turned_es (k : Nat) : ∀ e ∈ ([] : List Ent), EntOK Try.prog tab mvs e := by
  intro e he
  simp at he
def impl_Lawn_turned_e (k : Nat) : Ent := (71, callOf [.agg 33, .agg 28, .int .u8] dec_lli fun (p : (List Int) × (List Int) × Int) R K => (impl_Lawn_turned k p.1 p.2.1 p.2.2).bind fun (b : (List Int)) => K ((fV (.agg 33) (enc_l b)).1, none))
theorem impl_Lawn_turned_run (k : Nat) (p : (List Int) × (List Int) × Int) : runF (impl_Lawn_turned_C k) Try.f71 false (fL [.agg 33, .agg 28, .int .u8] (enc_lli p)).1 (resK (.agg 33) dec_l) = impl_Lawn_turned k p.1 p.2.1 p.2.2 := by
  kernel_rfl
theorem impl_Lawn_turned_ok (k : Nat) : EntOK Try.prog tab mvs (impl_Lawn_turned_e k) :=
  fn_ok (C := impl_Lawn_turned_C k) tabOK eqTabOK (impl_Lawn_turned_es k) rfl follows Try.func71 (by kernel_rfl) (by kernel_rfl) rfl (forall_getD _ 0 (0, Code.skip) (by kernel_rfl) fun i hi => by
      omega)
    dec_enc_lli dec_enc_l (impl_Lawn_turned_run k)

def dec_ill (ps : List Pay) : Option (Int × (List Int) × (List Int)) := match ps with
  | [.i x1, .l x2, .l x3] => some (x1, x2, x3)
  | _ => none
def enc_ill (p : Int × (List Int) × (List Int)) : List Pay := [.i p.1, .l p.2.1, .l p.2.2]
theorem dec_enc_ill : ∀ (ps : List Pay) (p : Int × (List Int) × (List Int)), dec_ill ps = some p → ps = enc_ill p := by
  intro ps p h
  unfold dec_ill at h
  split at h
  · injection h with h
    subst h
    rfl
  · cases h

def impl_RoundOff_t0 : StTm := ⟨26, [(1, .ptr 1 0 33), (2, .ptr 2 0 33), (5, .int .i64)], [(1, 33, true, .ints), (2, 33, true, .ints)]⟩
def impl_RoundOff_t0_1 : StTm := ⟨26, [(2, .ptr 2 0 33), (3, .int .i64), (4, .int .i64)], [(2, 33, true, .ints)]⟩
def impl_RoundOff_w0 (k : Nat) (R : Type) (K : Ex → St → Option R) (rec : Int × (List Int) × (List Int) → Option R) (p : Int × (List Int) × (List Int)) : Option R := impl_RoundOff_s0 k (fun y1 y2 y3 => K .ret (fSt impl_RoundOff_t0_1 [.i y1, .i y2, .l y3])) (fun h1 h2 h3 => rec (h1, h2, h3)) p.1 p.2.1 p.2.2
def impl_RoundOff_c0 (k : Nat) : Lcall := lcallOf tab impl_RoundOff_t0 dec_ill [1, 2, 5] k (impl_RoundOff_w0 k)
def impl_RoundOff_C (k : Nat) : Cfg := ⟨tab, mvs, oraOf [impl_ValidLawn_e k, impl_RoundOff_1_e k, impl_Lawn_those_e k, impl_Lawn_turned_e k], loOf [(0, impl_RoundOff_c0 k)]⟩
theorem impl_RoundOff_es (k : Nat) : ∀ e ∈ ([impl_ValidLawn_e k, impl_RoundOff_1_e k, impl_Lawn_those_e k, impl_Lawn_turned_e k] : List Ent), EntOK Try.prog tab mvs e := by
  intro e he
  simp only [List.mem_cons, List.not_mem_nil, or_false] at he
  rcases he with rfl | rfl | rfl | rfl
  · exact impl_ValidLawn_ok k
  · exact impl_RoundOff_1_ok k
  · exact impl_Lawn_those_ok k
  · exact impl_Lawn_turned_ok k
theorem impl_RoundOff_step0 (k : Nat) (R : Type) (K : Ex → St → Option R) (g : St → Option R) (p : Int × (List Int) × (List Int)) : evCode (impl_RoundOff_C k) (loopP [0] (0, codeOf Try.f23)).2 (loopP [0] (0, codeOf Try.f23)).1 (fSt impl_RoundOff_t0 (enc_ill p)) (loopK tab [1, 2, 5] [2, 3, 4] [2, 3, 4] g K) = impl_RoundOff_w0 k R K (fun p => g (fSt impl_RoundOff_t0 (enc_ill p))) p := by
  kernel_rfl
theorem impl_RoundOff_lok0 (k : Nat) : LoopOK Try.prog tab (impl_RoundOff_C k).lo (loopP [0] (0, codeOf Try.f23)).1 (loopP [0] (0, codeOf Try.f23)).2 :=
  loopOK_of (C := impl_RoundOff_C k) tabOK eqTabOK (oraOf_ok (impl_RoundOff_es k)) (oraOf_nat (impl_RoundOff_es k)) follows (forall_getD _ 0 (0, Code.skip) (by kernel_rfl) fun i hi => by
      omega)
    (tm := impl_RoundOff_t0) (dec := dec_ill) (enc := enc_ill) (ksIn := [1, 2, 5]) (ksOut := [2, 3, 4]) (ksRet := [2, 3, 4]) (k := k) (step := impl_RoundOff_w0 k) dec_enc_ill (fun p => by kernel_rfl) (fun s R K => by kernel_rfl) (impl_RoundOff_step0 k)
def impl_RoundOff_e (k : Nat) : Ent := (23, callOf [.agg 33] dec_l fun (p : (List Int)) R K => (impl_RoundOff k p).bind fun (b : (List Int) × Int × Int) => K ((fV (.tup [.agg 33, .int .i64, .int .i64]) (enc_lii b)).1, none))
theorem impl_RoundOff_run (k : Nat) (p : (List Int)) : runF (impl_RoundOff_C k) Try.f23 false (fL [.agg 33] (enc_l p)).1 (resK (.tup [.agg 33, .int .i64, .int .i64]) dec_lii) = impl_RoundOff k p := by
  kernel_rfl
theorem impl_RoundOff_ok (k : Nat) : EntOK Try.prog tab mvs (impl_RoundOff_e k) :=
  fn_ok (C := impl_RoundOff_C k) tabOK eqTabOK (impl_RoundOff_es k) rfl follows Try.func23 (by kernel_rfl) (by kernel_rfl) rfl (forall_getD _ 1 (0, Code.skip) (by kernel_rfl) fun i hi => by
      match i, hi with
      | 0, _ => exact impl_RoundOff_lok0 k
      | n + 1, h => omega)
    dec_enc_l dec_enc_lii (impl_RoundOff_run k)

def laws_eqByteA10_t0 : StTm := ⟨17, [(2, .ptr 2 0 23), (3, .ptr 3 0 23), (5, .int .i64)], [(2, 23, true, .ints), (3, 23, true, .ints)]⟩
def laws_eqByteA10_t0_1 : StTm := ⟨17, [(4, .bool)], []⟩
def laws_eqByteA10_t0_2 : StTm := ⟨17, [], []⟩
def laws_eqByteA10_w0 (k : Nat) (R : Type) (K : Ex → St → Option R) (rec : Int × (List Int) × (List Int) → Option R) (p : Int × (List Int) × (List Int)) : Option R := laws_eqByteA10_s0 k (fun y1 => K .ret (fSt laws_eqByteA10_t0_1 [.b y1])) (K (.exit 0) (fSt laws_eqByteA10_t0_2 [])) (fun h1 h2 h3 => rec (h1, h2, h3)) p.1 p.2.1 p.2.2
def laws_eqByteA10_c0 (k : Nat) : Lcall := lcallOf tab laws_eqByteA10_t0 dec_ill [2, 3, 5] k (laws_eqByteA10_w0 k)
def laws_eqByteA10_C (k : Nat) : Cfg := ⟨tab, mvs, oraOf [], loOf [(0, laws_eqByteA10_c0 k)]⟩
theorem laws_eqByteA10_es (k : Nat) : ∀ e ∈ ([] : List Ent), EntOK Try.prog tab mvs e := by
  intro e he
  simp at he
theorem laws_eqByteA10_step0 (k : Nat) (R : Type) (K : Ex → St → Option R) (g : St → Option R) (p : Int × (List Int) × (List Int)) : evCode (laws_eqByteA10_C k) (loopP [0] (0, codeOf Try.f119)).2 (loopP [0] (0, codeOf Try.f119)).1 (fSt laws_eqByteA10_t0 (enc_ill p)) (loopK tab [2, 3, 5] [] [4] g K) = laws_eqByteA10_w0 k R K (fun p => g (fSt laws_eqByteA10_t0 (enc_ill p))) p := by
  kernel_rfl
theorem laws_eqByteA10_lok0 (k : Nat) : LoopOK Try.prog tab (laws_eqByteA10_C k).lo (loopP [0] (0, codeOf Try.f119)).1 (loopP [0] (0, codeOf Try.f119)).2 :=
  loopOK_of (C := laws_eqByteA10_C k) tabOK eqTabOK (oraOf_ok (laws_eqByteA10_es k)) (oraOf_nat (laws_eqByteA10_es k)) follows (forall_getD _ 0 (0, Code.skip) (by kernel_rfl) fun i hi => by
      omega)
    (tm := laws_eqByteA10_t0) (dec := dec_ill) (enc := enc_ill) (ksIn := [2, 3, 5]) (ksOut := []) (ksRet := [4]) (k := k) (step := laws_eqByteA10_w0 k) dec_enc_ill (fun p => by kernel_rfl) (fun s R K => by kernel_rfl) (laws_eqByteA10_step0 k)
def laws_eqByteA10_e (k : Nat) : Ent := (119, callOf [.agg 23, .agg 23] dec_ll fun (p : (List Int) × (List Int)) R K => (laws_eqByteA10 k p.1 p.2).bind fun (b : Bool) => K ((fV (.bool) (enc_b b)).1, none))
theorem laws_eqByteA10_run (k : Nat) (p : (List Int) × (List Int)) : runF (laws_eqByteA10_C k) Try.f119 false (fL [.agg 23, .agg 23] (enc_ll p)).1 (resK (.bool) dec_b) = laws_eqByteA10 k p.1 p.2 := by
  kernel_rfl
theorem laws_eqByteA10_ok (k : Nat) : EntOK Try.prog tab mvs (laws_eqByteA10_e k) :=
  fn_ok (C := laws_eqByteA10_C k) tabOK eqTabOK (laws_eqByteA10_es k) rfl follows Try.func119 (by kernel_rfl) (by kernel_rfl) rfl (forall_getD _ 1 (0, Code.skip) (by kernel_rfl) fun i hi => by
      match i, hi with
      | 0, _ => exact laws_eqByteA10_lok0 k
      | n + 1, h => omega)
    dec_enc_ll dec_enc_b (laws_eqByteA10_run k)

def laws_eqByteA10A10_t0 : StTm := ⟨18, [(2, .ptr 2 0 24), (3, .ptr 3 0 24), (5, .int .i64)], [(2, 24, true, .ints), (3, 24, true, .ints)]⟩
def laws_eqByteA10A10_t0_1 : StTm := ⟨18, [(4, .bool)], []⟩
def laws_eqByteA10A10_t0_2 : StTm := ⟨18, [], []⟩
def laws_eqByteA10A10_w0 (k : Nat) (R : Type) (K : Ex → St → Option R) (rec : Int × (List Int) × (List Int) → Option R) (p : Int × (List Int) × (List Int)) : Option R := laws_eqByteA10A10_s0 k (fun y1 => K .ret (fSt laws_eqByteA10A10_t0_1 [.b y1])) (K (.exit 0) (fSt laws_eqByteA10A10_t0_2 [])) (fun h1 h2 h3 => rec (h1, h2, h3)) p.1 p.2.1 p.2.2
def laws_eqByteA10A10_c0 (k : Nat) : Lcall := lcallOf tab laws_eqByteA10A10_t0 dec_ill [2, 3, 5] k (laws_eqByteA10A10_w0 k)
def laws_eqByteA10A10_C (k : Nat) : Cfg := ⟨tab, mvs, oraOf [laws_eqByteA10_e k], loOf [(0, laws_eqByteA10A10_c0 k)]⟩
theorem laws_eqByteA10A10_es (k : Nat) : ∀ e ∈ ([laws_eqByteA10_e k] : List Ent), EntOK Try.prog tab mvs e := by
  intro e he
  simp only [List.mem_cons, List.not_mem_nil, or_false] at he
  rcases he with rfl
  · exact laws_eqByteA10_ok k
theorem laws_eqByteA10A10_step0 (k : Nat) (R : Type) (K : Ex → St → Option R) (g : St → Option R) (p : Int × (List Int) × (List Int)) : evCode (laws_eqByteA10A10_C k) (loopP [0] (0, codeOf Try.f72)).2 (loopP [0] (0, codeOf Try.f72)).1 (fSt laws_eqByteA10A10_t0 (enc_ill p)) (loopK tab [2, 3, 5] [] [4] g K) = laws_eqByteA10A10_w0 k R K (fun p => g (fSt laws_eqByteA10A10_t0 (enc_ill p))) p := by
  kernel_rfl
theorem laws_eqByteA10A10_lok0 (k : Nat) : LoopOK Try.prog tab (laws_eqByteA10A10_C k).lo (loopP [0] (0, codeOf Try.f72)).1 (loopP [0] (0, codeOf Try.f72)).2 :=
  loopOK_of (C := laws_eqByteA10A10_C k) tabOK eqTabOK (oraOf_ok (laws_eqByteA10A10_es k)) (oraOf_nat (laws_eqByteA10A10_es k)) follows (forall_getD _ 0 (0, Code.skip) (by kernel_rfl) fun i hi => by
      omega)
    (tm := laws_eqByteA10A10_t0) (dec := dec_ill) (enc := enc_ill) (ksIn := [2, 3, 5]) (ksOut := []) (ksRet := [4]) (k := k) (step := laws_eqByteA10A10_w0 k) dec_enc_ill (fun p => by kernel_rfl) (fun s R K => by kernel_rfl) (laws_eqByteA10A10_step0 k)
def laws_eqByteA10A10_e (k : Nat) : Ent := (72, callOf [.agg 24, .agg 24] dec_ll fun (p : (List Int) × (List Int)) R K => (laws_eqByteA10A10 k p.1 p.2).bind fun (b : Bool) => K ((fV (.bool) (enc_b b)).1, none))
theorem laws_eqByteA10A10_run (k : Nat) (p : (List Int) × (List Int)) : runF (laws_eqByteA10A10_C k) Try.f72 false (fL [.agg 24, .agg 24] (enc_ll p)).1 (resK (.bool) dec_b) = laws_eqByteA10A10 k p.1 p.2 := by
  kernel_rfl
theorem laws_eqByteA10A10_ok (k : Nat) : EntOK Try.prog tab mvs (laws_eqByteA10A10_e k) :=
  fn_ok (C := laws_eqByteA10A10_C k) tabOK eqTabOK (laws_eqByteA10A10_es k) rfl follows Try.func72 (by kernel_rfl) (by kernel_rfl) rfl (forall_getD _ 1 (0, Code.skip) (by kernel_rfl) fun i hi => by
      match i, hi with
      | 0, _ => exact laws_eqByteA10A10_lok0 k
      | n + 1, h => omega)
    dec_enc_ll dec_enc_b (laws_eqByteA10A10_run k)

def laws_eqLawn_C (k : Nat) : Cfg := ⟨tab, mvs, oraOf [laws_eqByteA10A10_e k], loOf []⟩
theorem laws_eqLawn_es (k : Nat) : ∀ e ∈ ([laws_eqByteA10A10_e k] : List Ent), EntOK Try.prog tab mvs e := by
  intro e he
  simp only [List.mem_cons, List.not_mem_nil, or_false] at he
  rcases he with rfl
  · exact laws_eqByteA10A10_ok k
def laws_eqLawn_e (k : Nat) : Ent := (24, callOf [.agg 33, .agg 33] dec_ll fun (p : (List Int) × (List Int)) R K => (laws_eqLawn k p.1 p.2).bind fun (b : Bool) => K ((fV (.bool) (enc_b b)).1, none))
theorem laws_eqLawn_run (k : Nat) (p : (List Int) × (List Int)) : runF (laws_eqLawn_C k) Try.f24 false (fL [.agg 33, .agg 33] (enc_ll p)).1 (resK (.bool) dec_b) = laws_eqLawn k p.1 p.2 := by
  kernel_rfl
theorem laws_eqLawn_ok (k : Nat) : EntOK Try.prog tab mvs (laws_eqLawn_e k) :=
  fn_ok (C := laws_eqLawn_C k) tabOK eqTabOK (laws_eqLawn_es k) rfl follows Try.func24 (by kernel_rfl) (by kernel_rfl) rfl (forall_getD _ 0 (0, Code.skip) (by kernel_rfl) fun i hi => by
      omega)
    dec_enc_ll dec_enc_b (laws_eqLawn_run k)

def laws_FnExactRoundOff_C (k : Nat) : Cfg := ⟨tab, mvs, oraOf [laws_toLawn_e k, spec_RoundOff_e k, impl_RoundOff_e k, laws_eqLawn_e k], loOf []⟩
theorem laws_FnExactRoundOff_es (k : Nat) : ∀ e ∈ ([laws_toLawn_e k, spec_RoundOff_e k, impl_RoundOff_e k, laws_eqLawn_e k] : List Ent), EntOK Try.prog tab mvs e := by
  intro e he
  simp only [List.mem_cons, List.not_mem_nil, or_false] at he
  rcases he with rfl | rfl | rfl | rfl
  · exact laws_toLawn_ok k
  · exact spec_RoundOff_ok k
  · exact impl_RoundOff_ok k
  · exact laws_eqLawn_ok k
def laws_FnExactRoundOff_e (k : Nat) : Ent := (5, callOf [.agg 26] dec_l fun (p : (List Int)) R K => (laws_FnExactRoundOff k p).bind fun (b : Bool) => K ((fV (.bool) (enc_b b)).1, none))
theorem laws_FnExactRoundOff_run (k : Nat) (p : (List Int)) : runF (laws_FnExactRoundOff_C k) Try.f5 false (fL [.agg 26] (enc_l p)).1 (resK (.bool) dec_b) = laws_FnExactRoundOff k p := by
  kernel_rfl
theorem laws_FnExactRoundOff_ok (k : Nat) : EntOK Try.prog tab mvs (laws_FnExactRoundOff_e k) :=
  fn_ok (C := laws_FnExactRoundOff_C k) tabOK eqTabOK (laws_FnExactRoundOff_es k) rfl follows Try.func5 (by kernel_rfl) (by kernel_rfl) rfl (forall_getD _ 0 (0, Code.skip) (by kernel_rfl) fun i hi => by
      omega)
    dec_enc_l dec_enc_b (laws_FnExactRoundOff_run k)

def spec_l05Border_t0 : StTm := ⟨35, [(0, .pvi (some 33) 0 33), (1, .bool), (5, .slw 5 28), (6, .slw 6 28), (7, .int .i64)], [(5, 28, false, .ints), (6, 28, false, .ints)]⟩
def spec_l05Border_t0_1 : StTm := ⟨35, [(5, .slw 5 28)], [(5, 28, false, .ints)]⟩
def spec_l05Border_w0 (k : Nat) (R : Type) (K : Ex → St → Option R) (rec : (List Int) × Bool × Int × (List Int) × (List Int) → Option R) (p : (List Int) × Bool × Int × (List Int) × (List Int)) : Option R := spec_l05Border_s0 k (fun y1 => K (.exit 0) (fSt spec_l05Border_t0_1 [.l y1])) (fun h1 h2 h3 h4 h5 => rec (h1, h2, h3, h4, h5)) p.1 p.2.1 p.2.2.1 p.2.2.2.1 p.2.2.2.2
def spec_l05Border_c0 (k : Nat) : Lcall := lcallOf tab spec_l05Border_t0 dec_lbill [0, 1, 5, 6, 7] k (spec_l05Border_w0 k)
def spec_l05Border_C (k : Nat) : Cfg := ⟨tab, mvs, oraOf [spec_l01Cells_e k, spec_l05At_e k], loOf [(0, spec_l05Border_c0 k)]⟩
theorem spec_l05Border_es (k : Nat) : ∀ e ∈ ([spec_l01Cells_e k, spec_l05At_e k] : List Ent), EntOK Try.prog tab mvs e := by
  intro e he
  simp only [List.mem_cons, List.not_mem_nil, or_false] at he
  rcases he with rfl | rfl
  · exact spec_l01Cells_ok k
  · exact spec_l05At_ok k
theorem spec_l05Border_step0 (k : Nat) (R : Type) (K : Ex → St → Option R) (g : St → Option R) (p : (List Int) × Bool × Int × (List Int) × (List Int)) : evCode (spec_l05Border_C k) (loopP [0] (0, codeOf Try.f73)).2 (loopP [0] (0, codeOf Try.f73)).1 (fSt spec_l05Border_t0 (enc_lbill p)) (loopK tab [0, 1, 5, 6, 7] [5] [4] g K) = spec_l05Border_w0 k R K (fun p => g (fSt spec_l05Border_t0 (enc_lbill p))) p := by
  kernel_rfl
theorem spec_l05Border_lok0 (k : Nat) : LoopOK Try.prog tab (spec_l05Border_C k).lo (loopP [0] (0, codeOf Try.f73)).1 (loopP [0] (0, codeOf Try.f73)).2 :=
  loopOK_of (C := spec_l05Border_C k) tabOK eqTabOK (oraOf_ok (spec_l05Border_es k)) (oraOf_nat (spec_l05Border_es k)) follows (forall_getD _ 0 (0, Code.skip) (by kernel_rfl) fun i hi => by
      omega)
    (tm := spec_l05Border_t0) (dec := dec_lbill) (enc := enc_lbill) (ksIn := [0, 1, 5, 6, 7]) (ksOut := [5]) (ksRet := [4]) (k := k) (step := spec_l05Border_w0 k) dec_enc_lbill (fun p => by kernel_rfl) (fun s R K => by kernel_rfl) (spec_l05Border_step0 k)
def spec_l05Border_e (k : Nat) : Ent := (73, callOf [.pvi (some 33) 0 33, .bool] dec_lb fun (p : (List Int) × Bool) R K => (spec_l05Border k p.1 p.2).bind fun (b : (List Int)) => K ((fV (.slv 28) (enc_l b)).1, none))
theorem spec_l05Border_run (k : Nat) (p : (List Int) × Bool) : runF (spec_l05Border_C k) Try.f73 false (fL [.pvi (some 33) 0 33, .bool] (enc_lb p)).1 (resK (.slv 28) dec_l) = spec_l05Border k p.1 p.2 := by
  kernel_rfl
theorem spec_l05Border_ok (k : Nat) : EntOK Try.prog tab mvs (spec_l05Border_e k) :=
  fn_ok (C := spec_l05Border_C k) tabOK eqTabOK (spec_l05Border_es k) rfl follows Try.func73 (by kernel_rfl) (by kernel_rfl) rfl (forall_getD _ 1 (0, Code.skip) (by kernel_rfl) fun i hi => by
      match i, hi with
      | 0, _ => exact spec_l05Border_lok0 k
      | n + 1, h => omega)
    dec_enc_lb dec_enc_l (spec_l05Border_run k)

def spec_BorderOf_C (k : Nat) : Cfg := ⟨tab, mvs, oraOf [spec_l01Ok_e k, spec_l05Border_e k], loOf []⟩
theorem spec_BorderOf_es (k : Nat) : ∀ e ∈ ([spec_l01Ok_e k, spec_l05Border_e k] : List Ent), EntOK Try.prog tab mvs e := by
  intro e he
  simp only [List.mem_cons, List.not_mem_nil, or_false] at he
  rcases he with rfl | rfl
  · exact spec_l01Ok_ok k
  · exact spec_l05Border_ok k
def spec_BorderOf_e (k : Nat) : Ent := (25, callOf [.agg 33] dec_l fun (p : (List Int)) R K => (spec_BorderOf k p).bind fun (b : (List Int) × Int) => K ((fV (.tup [.slv 28, .int .i64]) (enc_li b)).1, none))
theorem spec_BorderOf_run (k : Nat) (p : (List Int)) : runF (spec_BorderOf_C k) Try.f25 false (fL [.agg 33] (enc_l p)).1 (resK (.tup [.slv 28, .int .i64]) dec_li) = spec_BorderOf k p := by
  kernel_rfl
theorem spec_BorderOf_ok (k : Nat) : EntOK Try.prog tab mvs (spec_BorderOf_e k) :=
  fn_ok (C := spec_BorderOf_C k) tabOK eqTabOK (spec_BorderOf_es k) rfl follows Try.func25 (by kernel_rfl) (by kernel_rfl) rfl (forall_getD _ 0 (0, Code.skip) (by kernel_rfl) fun i hi => by
      omega)
    dec_enc_l dec_enc_li (spec_BorderOf_run k)

def impl_Lawn_isBorder_C (k : Nat) : Cfg := ⟨tab, mvs, oraOf [impl_Lawn_grass_e k, impl_Lawn_around_e k], loOf []⟩
theorem impl_Lawn_isBorder_es (k : Nat) : ∀ e ∈ ([impl_Lawn_grass_e k, impl_Lawn_around_e k] : List Ent), EntOK Try.prog tab mvs e := by
  intro e he
  simp only [List.mem_cons, List.not_mem_nil, or_false] at he
  rcases he with rfl | rfl
  · exact impl_Lawn_grass_ok k
  · exact impl_Lawn_around_ok k
def impl_Lawn_isBorder_e (k : Nat) : Ent := (74, callOf [.agg 33, .agg 28] dec_ll fun (p : (List Int) × (List Int)) R K => (impl_Lawn_isBorder k p.1 p.2).bind fun (b : Bool) => K ((fV (.bool) (enc_b b)).1, none))
theorem impl_Lawn_isBorder_run (k : Nat) (p : (List Int) × (List Int)) : runF (impl_Lawn_isBorder_C k) Try.f74 false (fL [.agg 33, .agg 28] (enc_ll p)).1 (resK (.bool) dec_b) = impl_Lawn_isBorder k p.1 p.2 := by
  kernel_rfl
theorem impl_Lawn_isBorder_ok (k : Nat) : EntOK Try.prog tab mvs (impl_Lawn_isBorder_e k) :=
  fn_ok (C := impl_Lawn_isBorder_C k) tabOK eqTabOK (impl_Lawn_isBorder_es k) rfl follows Try.func74 (by kernel_rfl) (by kernel_rfl) rfl (forall_getD _ 0 (0, Code.skip) (by kernel_rfl) fun i hi => by
      omega)
    dec_enc_ll dec_enc_b (impl_Lawn_isBorder_run k)

def impl_BorderOf_C (k : Nat) : Cfg := ⟨tab, mvs, oraOf [impl_ValidLawn_e k, impl_Lawn_isBorder_e k, impl_Lawn_those_e k], loOf []⟩
theorem impl_BorderOf_es (k : Nat) : ∀ e ∈ ([impl_ValidLawn_e k, impl_Lawn_isBorder_e k, impl_Lawn_those_e k] : List Ent), EntOK Try.prog tab mvs e := by
  intro e he
  simp only [List.mem_cons, List.not_mem_nil, or_false] at he
  rcases he with rfl | rfl | rfl
  · exact impl_ValidLawn_ok k
  · exact impl_Lawn_isBorder_ok k
  · exact impl_Lawn_those_ok k
def impl_BorderOf_e (k : Nat) : Ent := (26, callOf [.agg 33] dec_l fun (p : (List Int)) R K => (impl_BorderOf k p).bind fun (b : (List Int) × Int) => K ((fV (.tup [.slv 28, .int .i64]) (enc_li b)).1, none))
theorem impl_BorderOf_run (k : Nat) (p : (List Int)) : runF (impl_BorderOf_C k) Try.f26 false (fL [.agg 33] (enc_l p)).1 (resK (.tup [.slv 28, .int .i64]) dec_li) = impl_BorderOf k p := by
  kernel_rfl
theorem impl_BorderOf_ok (k : Nat) : EntOK Try.prog tab mvs (impl_BorderOf_e k) :=
  fn_ok (C := impl_BorderOf_C k) tabOK eqTabOK (impl_BorderOf_es k) rfl follows Try.func26 (by kernel_rfl) (by kernel_rfl) rfl (forall_getD _ 0 (0, Code.skip) (by kernel_rfl) fun i hi => by
      omega)
    dec_enc_l dec_enc_li (impl_BorderOf_run k)

def laws_eqCellS_t0 : StTm := ⟨27, [(0, .slv 28), (1, .slv 28), (5, .int .i64)], []⟩
def laws_eqCellS_t0_1 : StTm := ⟨27, [(4, .bool)], []⟩
def laws_eqCellS_t0_2 : StTm := ⟨27, [], []⟩
def laws_eqCellS_w0 (k : Nat) (R : Type) (K : Ex → St → Option R) (rec : (List Int) × (List Int) × Int → Option R) (p : (List Int) × (List Int) × Int) : Option R := laws_eqCellS_s0 k (fun y1 => K .ret (fSt laws_eqCellS_t0_1 [.b y1])) (K (.exit 0) (fSt laws_eqCellS_t0_2 [])) (fun h1 h2 h3 => rec (h1, h2, h3)) p.1 p.2.1 p.2.2
def laws_eqCellS_c0 (k : Nat) : Lcall := lcallOf tab laws_eqCellS_t0 dec_lli [0, 1, 5] k (laws_eqCellS_w0 k)
def laws_eqCellS_C (k : Nat) : Cfg := ⟨tab, mvs, oraOf [laws_eqCell_e k], loOf [(0, laws_eqCellS_c0 k)]⟩
theorem laws_eqCellS_es (k : Nat) : ∀ e ∈ ([laws_eqCell_e k] : List Ent), EntOK Try.prog tab mvs e := by
  intro e he
  simp only [List.mem_cons, List.not_mem_nil, or_false] at he
  rcases he with rfl
  · exact laws_eqCell_ok k
theorem laws_eqCellS_step0 (k : Nat) (R : Type) (K : Ex → St → Option R) (g : St → Option R) (p : (List Int) × (List Int) × Int) : evCode (laws_eqCellS_C k) (loopP [0] (0, codeOf Try.f27)).2 (loopP [0] (0, codeOf Try.f27)).1 (fSt laws_eqCellS_t0 (enc_lli p)) (loopK tab [0, 1, 5] [] [4] g K) = laws_eqCellS_w0 k R K (fun p => g (fSt laws_eqCellS_t0 (enc_lli p))) p := by
  kernel_rfl
theorem laws_eqCellS_lok0 (k : Nat) : LoopOK Try.prog tab (laws_eqCellS_C k).lo (loopP [0] (0, codeOf Try.f27)).1 (loopP [0] (0, codeOf Try.f27)).2 :=
  loopOK_of (C := laws_eqCellS_C k) tabOK eqTabOK (oraOf_ok (laws_eqCellS_es k)) (oraOf_nat (laws_eqCellS_es k)) follows (forall_getD _ 0 (0, Code.skip) (by kernel_rfl) fun i hi => by
      omega)
    (tm := laws_eqCellS_t0) (dec := dec_lli) (enc := enc_lli) (ksIn := [0, 1, 5]) (ksOut := []) (ksRet := [4]) (k := k) (step := laws_eqCellS_w0 k) dec_enc_lli (fun p => by kernel_rfl) (fun s R K => by kernel_rfl) (laws_eqCellS_step0 k)
def laws_eqCellS_e (k : Nat) : Ent := (27, callOf [.slv 28, .slv 28] dec_ll fun (p : (List Int) × (List Int)) R K => (laws_eqCellS k p.1 p.2).bind fun (b : Bool) => K ((fV (.bool) (enc_b b)).1, none))
theorem laws_eqCellS_run (k : Nat) (p : (List Int) × (List Int)) : runF (laws_eqCellS_C k) Try.f27 false (fL [.slv 28, .slv 28] (enc_ll p)).1 (resK (.bool) dec_b) = laws_eqCellS k p.1 p.2 := by
  kernel_rfl
theorem laws_eqCellS_ok (k : Nat) : EntOK Try.prog tab mvs (laws_eqCellS_e k) :=
  fn_ok (C := laws_eqCellS_C k) tabOK eqTabOK (laws_eqCellS_es k) rfl follows Try.func27 (by kernel_rfl) (by kernel_rfl) rfl (forall_getD _ 1 (0, Code.skip) (by kernel_rfl) fun i hi => by
      match i, hi with
      | 0, _ => exact laws_eqCellS_lok0 k
      | n + 1, h => omega)
    dec_enc_ll dec_enc_b (laws_eqCellS_run k)

def dec_iil (ps : List Pay) : Option (Int × Int × (List Int)) := match ps with
  | [.i x1, .i x2, .l x3] => some (x1, x2, x3)
  | _ => none
def enc_iil (p : Int × Int × (List Int)) : List Pay := [.i p.1, .i p.2.1, .l p.2.2]
theorem dec_enc_iil : ∀ (ps : List Pay) (p : Int × Int × (List Int)), dec_iil ps = some p → ps = enc_iil p := by
  intro ps p h
  unfold dec_iil at h
  split at h
  · injection h with h
    subst h
    rfl
  · cases h

def laws_markCellS_t0 : StTm := ⟨29, [(0, .slw 29 28), (1, .int .i64), (5, .int .i64)], [(29, 28, false, .ints)]⟩
def laws_markCellS_t0_1 : StTm := ⟨29, [(1, .int .i64)], [(29, 28, false, .ints)]⟩
def laws_markCellS_w0 (k : Nat) (R : Type) (K : Ex → St → Option R) (rec : Int × Int × (List Int) → Option R) (p : Int × Int × (List Int)) : Option R := laws_markCellS_s0 k (fun y1 y2 => K (.exit 0) (fSt laws_markCellS_t0_1 [.i y1, .l y2])) (fun h1 h2 h3 => rec (h1, h2, h3)) p.1 p.2.1 p.2.2
def laws_markCellS_c0 (k : Nat) : Lcall := lcallOf tab laws_markCellS_t0 dec_iil [0, 1, 5] k (laws_markCellS_w0 k)
def laws_markCellS_C (k : Nat) : Cfg := ⟨tab, mvs, oraOf [], loOf [(0, laws_markCellS_c0 k)]⟩
theorem laws_markCellS_es (k : Nat) : ∀ e ∈ ([] : List Ent), EntOK Try.prog tab mvs e := by
  intro e he
  simp at he
theorem laws_markCellS_step0 (k : Nat) (R : Type) (K : Ex → St → Option R) (g : St → Option R) (p : Int × Int × (List Int)) : evCode (laws_markCellS_C k) (loopP [0] (0, codeOf Try.f28)).2 (loopP [0] (0, codeOf Try.f28)).1 (fSt laws_markCellS_t0 (enc_iil p)) (loopK tab [0, 1, 5] [1] [4] g K) = laws_markCellS_w0 k R K (fun p => g (fSt laws_markCellS_t0 (enc_iil p))) p := by
  kernel_rfl
theorem laws_markCellS_lok0 (k : Nat) : LoopOK Try.prog tab (laws_markCellS_C k).lo (loopP [0] (0, codeOf Try.f28)).1 (loopP [0] (0, codeOf Try.f28)).2 :=
  loopOK_of (C := laws_markCellS_C k) tabOK eqTabOK (oraOf_ok (laws_markCellS_es k)) (oraOf_nat (laws_markCellS_es k)) follows (forall_getD _ 0 (0, Code.skip) (by kernel_rfl) fun i hi => by
      omega)
    (tm := laws_markCellS_t0) (dec := dec_iil) (enc := enc_iil) (ksIn := [0, 1, 5]) (ksOut := [1]) (ksRet := [4]) (k := k) (step := laws_markCellS_w0 k) dec_enc_iil (fun p => by kernel_rfl) (fun s R K => by kernel_rfl) (laws_markCellS_step0 k)
def laws_markCellS_e (k : Nat) : Ent := (28, callOf [.slv 28, .int .i64] dec_li fun (p : (List Int) × Int) R K => (laws_markCellS k p.1 p.2).bind fun (b : (Int) × List Int) => K ((fV (.int .i64) (enc_i b.1)).1, some b.2))
theorem laws_markCellS_run (k : Nat) (p : (List Int) × Int) : runF (laws_markCellS_C k) Try.f28 true (fL [.slv 28, .int .i64] (enc_li p)).1 (resB (.int .i64) dec_i) = laws_markCellS k p.1 p.2 := by
  kernel_rfl
theorem laws_markCellS_ok (k : Nat) : EntOK Try.prog tab mvs (laws_markCellS_e k) :=
  fnb_ok (C := laws_markCellS_C k) tabOK eqTabOK (laws_markCellS_es k) rfl follows Try.func28 (by kernel_rfl) (by kernel_rfl) rfl (forall_getD _ 1 (0, Code.skip) (by kernel_rfl) fun i hi => by
      match i, hi with
      | 0, _ => exact laws_markCellS_lok0 k
      | n + 1, h => omega)
    dec_enc_li dec_enc_i (laws_markCellS_run k)

def laws_heldCellS_t0 : StTm := ⟨33, [(0, .slv 28), (1, .int .i64), (5, .int .i64)], []⟩
def laws_heldCellS_t0_1 : StTm := ⟨33, [(4, .int .i64)], []⟩
def laws_heldCellS_t0_2 : StTm := ⟨33, [(1, .int .i64)], []⟩
def laws_heldCellS_w0 (k : Nat) (R : Type) (K : Ex → St → Option R) (rec : (List Int) × Int × Int → Option R) (p : (List Int) × Int × Int) : Option R := laws_heldCellS_s0 k (fun y1 => K .ret (fSt laws_heldCellS_t0_1 [.i y1])) (fun y1 => K (.exit 0) (fSt laws_heldCellS_t0_2 [.i y1])) (fun h1 h2 h3 => rec (h1, h2, h3)) p.1 p.2.1 p.2.2
def laws_heldCellS_c0 (k : Nat) : Lcall := lcallOf tab laws_heldCellS_t0 dec_lii [0, 1, 5] k (laws_heldCellS_w0 k)
def laws_heldCellS_C (k : Nat) : Cfg := ⟨tab, mvs, oraOf [], loOf [(0, laws_heldCellS_c0 k)]⟩
theorem laws_heldCellS_es (k : Nat) : ∀ e ∈ ([] : List Ent), EntOK Try.prog tab mvs e := by
  intro e he
  simp at he
theorem laws_heldCellS_step0 (k : Nat) (R : Type) (K : Ex → St → Option R) (g : St → Option R) (p : (List Int) × Int × Int) : evCode (laws_heldCellS_C k) (loopP [0] (0, codeOf Try.f29)).2 (loopP [0] (0, codeOf Try.f29)).1 (fSt laws_heldCellS_t0 (enc_lii p)) (loopK tab [0, 1, 5] [1] [4] g K) = laws_heldCellS_w0 k R K (fun p => g (fSt laws_heldCellS_t0 (enc_lii p))) p := by
  kernel_rfl
theorem laws_heldCellS_lok0 (k : Nat) : LoopOK Try.prog tab (laws_heldCellS_C k).lo (loopP [0] (0, codeOf Try.f29)).1 (loopP [0] (0, codeOf Try.f29)).2 :=
  loopOK_of (C := laws_heldCellS_C k) tabOK eqTabOK (oraOf_ok (laws_heldCellS_es k)) (oraOf_nat (laws_heldCellS_es k)) follows (forall_getD _ 0 (0, Code.skip) (by kernel_rfl) fun i hi => by
      omega)
    (tm := laws_heldCellS_t0) (dec := dec_lii) (enc := enc_lii) (ksIn := [0, 1, 5]) (ksOut := [1]) (ksRet := [4]) (k := k) (step := laws_heldCellS_w0 k) dec_enc_lii (fun p => by kernel_rfl) (fun s R K => by kernel_rfl) (laws_heldCellS_step0 k)
def laws_heldCellS_e (k : Nat) : Ent := (29, callOf [.slv 28, .int .i64] dec_li fun (p : (List Int) × Int) R K => (laws_heldCellS k p.1 p.2).bind fun (b : Int) => K ((fV (.int .i64) (enc_i b)).1, none))
theorem laws_heldCellS_run (k : Nat) (p : (List Int) × Int) : runF (laws_heldCellS_C k) Try.f29 false (fL [.slv 28, .int .i64] (enc_li p)).1 (resK (.int .i64) dec_i) = laws_heldCellS k p.1 p.2 := by
  kernel_rfl
theorem laws_heldCellS_ok (k : Nat) : EntOK Try.prog tab mvs (laws_heldCellS_e k) :=
  fn_ok (C := laws_heldCellS_C k) tabOK eqTabOK (laws_heldCellS_es k) rfl follows Try.func29 (by kernel_rfl) (by kernel_rfl) rfl (forall_getD _ 1 (0, Code.skip) (by kernel_rfl) fun i hi => by
      match i, hi with
      | 0, _ => exact laws_heldCellS_lok0 k
      | n + 1, h => omega)
    dec_enc_li dec_enc_i (laws_heldCellS_run k)

def laws_FnExactBorderOf_C (k : Nat) : Cfg := ⟨tab, mvs, oraOf [laws_toLawn_e k, spec_BorderOf_e k, impl_BorderOf_e k, laws_eqCellS_e k, laws_markCellS_e k, laws_heldCellS_e k], loOf []⟩
theorem laws_FnExactBorderOf_es (k : Nat) : ∀ e ∈ ([laws_toLawn_e k, spec_BorderOf_e k, impl_BorderOf_e k, laws_eqCellS_e k, laws_markCellS_e k, laws_heldCellS_e k] : List Ent), EntOK Try.prog tab mvs e := by
  intro e he
  simp only [List.mem_cons, List.not_mem_nil, or_false] at he
  rcases he with rfl | rfl | rfl | rfl | rfl | rfl
  · exact laws_toLawn_ok k
  · exact spec_BorderOf_ok k
  · exact impl_BorderOf_ok k
  · exact laws_eqCellS_ok k
  · exact laws_markCellS_ok k
  · exact laws_heldCellS_ok k
def laws_FnExactBorderOf_e (k : Nat) : Ent := (6, callOf [.agg 26] dec_l fun (p : (List Int)) R K => (laws_FnExactBorderOf k p).bind fun (b : Bool) => K ((fV (.bool) (enc_b b)).1, none))
theorem laws_FnExactBorderOf_run (k : Nat) (p : (List Int)) : runF (laws_FnExactBorderOf_C k) Try.f6 false (fL [.agg 26] (enc_l p)).1 (resK (.bool) dec_b) = laws_FnExactBorderOf k p := by
  kernel_rfl
theorem laws_FnExactBorderOf_ok (k : Nat) : EntOK Try.prog tab mvs (laws_FnExactBorderOf_e k) :=
  fn_ok (C := laws_FnExactBorderOf_C k) tabOK eqTabOK (laws_FnExactBorderOf_es k) rfl follows Try.func6 (by kernel_rfl) (by kernel_rfl) rfl (forall_getD _ 0 (0, Code.skip) (by kernel_rfl) fun i hi => by
      omega)
    dec_enc_l dec_enc_b (laws_FnExactBorderOf_run k)

def spec_InnerOf_C (k : Nat) : Cfg := ⟨tab, mvs, oraOf [spec_l01Ok_e k, spec_l05Border_e k], loOf []⟩
theorem spec_InnerOf_es (k : Nat) : ∀ e ∈ ([spec_l01Ok_e k, spec_l05Border_e k] : List Ent), EntOK Try.prog tab mvs e := by
  intro e he
  simp only [List.mem_cons, List.not_mem_nil, or_false] at he
  rcases he with rfl | rfl
  · exact spec_l01Ok_ok k
  · exact spec_l05Border_ok k
def spec_InnerOf_e (k : Nat) : Ent := (30, callOf [.agg 33] dec_l fun (p : (List Int)) R K => (spec_InnerOf k p).bind fun (b : (List Int) × Int) => K ((fV (.tup [.slv 28, .int .i64]) (enc_li b)).1, none))
theorem spec_InnerOf_run (k : Nat) (p : (List Int)) : runF (spec_InnerOf_C k) Try.f30 false (fL [.agg 33] (enc_l p)).1 (resK (.tup [.slv 28, .int .i64]) dec_li) = spec_InnerOf k p := by
  kernel_rfl
theorem spec_InnerOf_ok (k : Nat) : EntOK Try.prog tab mvs (spec_InnerOf_e k) :=
  fn_ok (C := spec_InnerOf_C k) tabOK eqTabOK (spec_InnerOf_es k) rfl follows Try.func30 (by kernel_rfl) (by kernel_rfl) rfl (forall_getD _ 0 (0, Code.skip) (by kernel_rfl) fun i hi => by
      omega)
    dec_enc_l dec_enc_li (spec_InnerOf_run k)

def impl_InnerOf_1_C (k : Nat) : Cfg := ⟨tab, mvs, oraOf [impl_Lawn_grass_e k, impl_Lawn_isBorder_e k], loOf []⟩
theorem impl_InnerOf_1_es (k : Nat) : ∀ e ∈ ([impl_Lawn_grass_e k, impl_Lawn_isBorder_e k] : List Ent), EntOK Try.prog tab mvs e := by
  intro e he
  simp only [List.mem_cons, List.not_mem_nil, or_false] at he
  rcases he with rfl | rfl
  · exact impl_Lawn_grass_ok k
  · exact impl_Lawn_isBorder_ok k
def impl_InnerOf_1_e (k : Nat) : Ent := (75, callOf [.agg 28, .pvi (some 33) 0 33] dec_ll fun (p : (List Int) × (List Int)) R K => (impl_InnerOf_1 k p.1 p.2).bind fun (b : Bool) => K ((fV (.bool) (enc_b b)).1, none))
theorem impl_InnerOf_1_run (k : Nat) (p : (List Int) × (List Int)) : runF (impl_InnerOf_1_C k) Try.f75 false (fL [.agg 28, .pvi (some 33) 0 33] (enc_ll p)).1 (resK (.bool) dec_b) = impl_InnerOf_1 k p.1 p.2 := by
  kernel_rfl
theorem impl_InnerOf_1_ok (k : Nat) : EntOK Try.prog tab mvs (impl_InnerOf_1_e k) :=
  fn_ok (C := impl_InnerOf_1_C k) tabOK eqTabOK (impl_InnerOf_1_es k) rfl follows Try.func75 (by kernel_rfl) (by kernel_rfl) rfl (forall_getD _ 0 (0, Code.skip) (by kernel_rfl) fun i hi => by
      omega)
    dec_enc_ll dec_enc_b (impl_InnerOf_1_run k)

def impl_InnerOf_C (k : Nat) : Cfg := ⟨tab, mvs, oraOf [impl_ValidLawn_e k, impl_InnerOf_1_e k, impl_Lawn_those_e k], loOf []⟩
theorem impl_InnerOf_es (k : Nat) : ∀ e ∈ ([impl_ValidLawn_e k, impl_InnerOf_1_e k, impl_Lawn_those_e k] : List Ent), EntOK Try.prog tab mvs e := by
  intro e he
  simp only [List.mem_cons, List.not_mem_nil, or_false] at he
  rcases he with rfl | rfl | rfl
  · exact impl_ValidLawn_ok k
  · exact impl_InnerOf_1_ok k
  · exact impl_Lawn_those_ok k
def impl_InnerOf_e (k : Nat) : Ent := (31, callOf [.agg 33] dec_l fun (p : (List Int)) R K => (impl_InnerOf k p).bind fun (b : (List Int) × Int) => K ((fV (.tup [.slv 28, .int .i64]) (enc_li b)).1, none))
theorem impl_InnerOf_run (k : Nat) (p : (List Int)) : runF (impl_InnerOf_C k) Try.f31 false (fL [.agg 33] (enc_l p)).1 (resK (.tup [.slv 28, .int .i64]) dec_li) = impl_InnerOf k p := by
  kernel_rfl
theorem impl_InnerOf_ok (k : Nat) : EntOK Try.prog tab mvs (impl_InnerOf_e k) :=
  fn_ok (C := impl_InnerOf_C k) tabOK eqTabOK (impl_InnerOf_es k) rfl follows Try.func31 (by kernel_rfl) (by kernel_rfl) rfl (forall_getD _ 0 (0, Code.skip) (by kernel_rfl) fun i hi => by
      omega)
    dec_enc_l dec_enc_li (impl_InnerOf_run k)

def laws_FnExactInnerOf_C (k : Nat) : Cfg := ⟨tab, mvs, oraOf [laws_toLawn_e k, spec_InnerOf_e k, impl_InnerOf_e k, laws_eqCellS_e k, laws_markCellS_e k, laws_heldCellS_e k], loOf []⟩
theorem laws_FnExactInnerOf_es (k : Nat) : ∀ e ∈ ([laws_toLawn_e k, spec_InnerOf_e k, impl_InnerOf_e k, laws_eqCellS_e k, laws_markCellS_e k, laws_heldCellS_e k] : List Ent), EntOK Try.prog tab mvs e := by
  intro e he
  simp only [List.mem_cons, List.not_mem_nil, or_false] at he
  rcases he with rfl | rfl | rfl | rfl | rfl | rfl
  · exact laws_toLawn_ok k
  · exact spec_InnerOf_ok k
  · exact impl_InnerOf_ok k
  · exact laws_eqCellS_ok k
  · exact laws_markCellS_ok k
  · exact laws_heldCellS_ok k
def laws_FnExactInnerOf_e (k : Nat) : Ent := (7, callOf [.agg 26] dec_l fun (p : (List Int)) R K => (laws_FnExactInnerOf k p).bind fun (b : Bool) => K ((fV (.bool) (enc_b b)).1, none))
theorem laws_FnExactInnerOf_run (k : Nat) (p : (List Int)) : runF (laws_FnExactInnerOf_C k) Try.f7 false (fL [.agg 26] (enc_l p)).1 (resK (.bool) dec_b) = laws_FnExactInnerOf k p := by
  kernel_rfl
theorem laws_FnExactInnerOf_ok (k : Nat) : EntOK Try.prog tab mvs (laws_FnExactInnerOf_e k) :=
  fn_ok (C := laws_FnExactInnerOf_C k) tabOK eqTabOK (laws_FnExactInnerOf_es k) rfl follows Try.func7 (by kernel_rfl) (by kernel_rfl) rfl (forall_getD _ 0 (0, Code.skip) (by kernel_rfl) fun i hi => by
      omega)
    dec_enc_l dec_enc_b (laws_FnExactInnerOf_run k)

def laws_toInt8A10_t0 : StTm := ⟨15, [(1, .ptr 1 0 57), (2, .ptr 2 0 57), (3, .ptr 3 0 57), (4, .int .i64)], [(1, 57, true, .ints), (2, 57, true, .ints), (3, 57, true, .ints)]⟩
def laws_toInt8A10_t0_1 : StTm := ⟨15, [(2, .ptr 2 0 57), (3, .ptr 3 0 57)], [(2, 57, true, .ints), (3, 57, true, .ints)]⟩
def laws_toInt8A10_w0 (k : Nat) (R : Type) (K : Ex → St → Option R) (rec : Int × (List Int) × (List Int) × (List Int) → Option R) (p : Int × (List Int) × (List Int) × (List Int)) : Option R := laws_toInt8A10_s0 k (fun y1 y2 => K (.exit 0) (fSt laws_toInt8A10_t0_1 [.l y1, .l y2])) (fun h1 h2 h3 h4 => rec (h1, h2, h3, h4)) p.1 p.2.1 p.2.2.1 p.2.2.2
def laws_toInt8A10_c0 (k : Nat) : Lcall := lcallOf tab laws_toInt8A10_t0 dec_illl [1, 2, 3, 4] k (laws_toInt8A10_w0 k)
def laws_toInt8A10_C (k : Nat) : Cfg := ⟨tab, mvs, oraOf [], loOf [(0, laws_toInt8A10_c0 k)]⟩
theorem laws_toInt8A10_es (k : Nat) : ∀ e ∈ ([] : List Ent), EntOK Try.prog tab mvs e := by
  intro e he
  simp at he
theorem laws_toInt8A10_step0 (k : Nat) (R : Type) (K : Ex → St → Option R) (g : St → Option R) (p : Int × (List Int) × (List Int) × (List Int)) : evCode (laws_toInt8A10_C k) (loopP [0] (0, codeOf Try.f81)).2 (loopP [0] (0, codeOf Try.f81)).1 (fSt laws_toInt8A10_t0 (enc_illl p)) (loopK tab [1, 2, 3, 4] [2, 3] [2] g K) = laws_toInt8A10_w0 k R K (fun p => g (fSt laws_toInt8A10_t0 (enc_illl p))) p := by
  kernel_rfl
theorem laws_toInt8A10_lok0 (k : Nat) : LoopOK Try.prog tab (laws_toInt8A10_C k).lo (loopP [0] (0, codeOf Try.f81)).1 (loopP [0] (0, codeOf Try.f81)).2 :=
  loopOK_of (C := laws_toInt8A10_C k) tabOK eqTabOK (oraOf_ok (laws_toInt8A10_es k)) (oraOf_nat (laws_toInt8A10_es k)) follows (forall_getD _ 0 (0, Code.skip) (by kernel_rfl) fun i hi => by
      omega)
    (tm := laws_toInt8A10_t0) (dec := dec_illl) (enc := enc_illl) (ksIn := [1, 2, 3, 4]) (ksOut := [2, 3]) (ksRet := [2]) (k := k) (step := laws_toInt8A10_w0 k) dec_enc_illl (fun p => by kernel_rfl) (fun s R K => by kernel_rfl) (laws_toInt8A10_step0 k)
def laws_toInt8A10_e (k : Nat) : Ent := (81, callOf [.agg 57] dec_l fun (p : (List Int)) R K => (laws_toInt8A10 k p).bind fun (b : (List Int)) => K ((fV (.agg 57) (enc_l b)).1, none))
theorem laws_toInt8A10_run (k : Nat) (p : (List Int)) : runF (laws_toInt8A10_C k) Try.f81 false (fL [.agg 57] (enc_l p)).1 (resK (.agg 57) dec_l) = laws_toInt8A10 k p := by
  kernel_rfl
theorem laws_toInt8A10_ok (k : Nat) : EntOK Try.prog tab mvs (laws_toInt8A10_e k) :=
  fn_ok (C := laws_toInt8A10_C k) tabOK eqTabOK (laws_toInt8A10_es k) rfl follows Try.func81 (by kernel_rfl) (by kernel_rfl) rfl (forall_getD _ 1 (0, Code.skip) (by kernel_rfl) fun i hi => by
      match i, hi with
      | 0, _ => exact laws_toInt8A10_lok0 k
      | n + 1, h => omega)
    dec_enc_l dec_enc_l (laws_toInt8A10_run k)

def laws_toLevels_t0 : StTm := ⟨16, [(1, .ptr 1 0 58), (2, .ptr 2 0 61), (3, .ptr 3 0 61), (4, .int .i64)], [(1, 58, true, .ints), (2, 61, true, .ints), (3, 61, true, .ints)]⟩
def laws_toLevels_t0_1 : StTm := ⟨16, [(2, .ptr 2 0 61), (3, .ptr 3 0 61)], [(2, 61, true, .ints), (3, 61, true, .ints)]⟩
def laws_toLevels_w0 (k : Nat) (R : Type) (K : Ex → St → Option R) (rec : Int × (List Int) × (List Int) × (List Int) → Option R) (p : Int × (List Int) × (List Int) × (List Int)) : Option R := laws_toLevels_s0 k (fun y1 y2 => K (.exit 0) (fSt laws_toLevels_t0_1 [.l y1, .l y2])) (fun h1 h2 h3 h4 => rec (h1, h2, h3, h4)) p.1 p.2.1 p.2.2.1 p.2.2.2
def laws_toLevels_c0 (k : Nat) : Lcall := lcallOf tab laws_toLevels_t0 dec_illl [1, 2, 3, 4] k (laws_toLevels_w0 k)
def laws_toLevels_C (k : Nat) : Cfg := ⟨tab, mvs, oraOf [laws_toInt8A10_e k], loOf [(0, laws_toLevels_c0 k)]⟩
theorem laws_toLevels_es (k : Nat) : ∀ e ∈ ([laws_toInt8A10_e k] : List Ent), EntOK Try.prog tab mvs e := by
  intro e he
  simp only [List.mem_cons, List.not_mem_nil, or_false] at he
  rcases he with rfl
  · exact laws_toInt8A10_ok k
theorem laws_toLevels_step0 (k : Nat) (R : Type) (K : Ex → St → Option R) (g : St → Option R) (p : Int × (List Int) × (List Int) × (List Int)) : evCode (laws_toLevels_C k) (loopP [0] (0, codeOf Try.f36)).2 (loopP [0] (0, codeOf Try.f36)).1 (fSt laws_toLevels_t0 (enc_illl p)) (loopK tab [1, 2, 3, 4] [2, 3] [2] g K) = laws_toLevels_w0 k R K (fun p => g (fSt laws_toLevels_t0 (enc_illl p))) p := by
  kernel_rfl
theorem laws_toLevels_lok0 (k : Nat) : LoopOK Try.prog tab (laws_toLevels_C k).lo (loopP [0] (0, codeOf Try.f36)).1 (loopP [0] (0, codeOf Try.f36)).2 :=
  loopOK_of (C := laws_toLevels_C k) tabOK eqTabOK (oraOf_ok (laws_toLevels_es k)) (oraOf_nat (laws_toLevels_es k)) follows (forall_getD _ 0 (0, Code.skip) (by kernel_rfl) fun i hi => by
      omega)
    (tm := laws_toLevels_t0) (dec := dec_illl) (enc := enc_illl) (ksIn := [1, 2, 3, 4]) (ksOut := [2, 3]) (ksRet := [2]) (k := k) (step := laws_toLevels_w0 k) dec_enc_illl (fun p => by kernel_rfl) (fun s R K => by kernel_rfl) (laws_toLevels_step0 k)
def laws_toLevels_e (k : Nat) : Ent := (36, callOf [.agg 58] dec_l fun (p : (List Int)) R K => (laws_toLevels k p).bind fun (b : (List Int)) => K ((fV (.agg 61) (enc_l b)).1, none))
theorem laws_toLevels_run (k : Nat) (p : (List Int)) : runF (laws_toLevels_C k) Try.f36 false (fL [.agg 58] (enc_l p)).1 (resK (.agg 61) dec_l) = laws_toLevels k p := by
  kernel_rfl
theorem laws_toLevels_ok (k : Nat) : EntOK Try.prog tab mvs (laws_toLevels_e k) :=
  fn_ok (C := laws_toLevels_C k) tabOK eqTabOK (laws_toLevels_es k) rfl follows Try.func36 (by kernel_rfl) (by kernel_rfl) rfl (forall_getD _ 1 (0, Code.skip) (by kernel_rfl) fun i hi => by
      match i, hi with
      | 0, _ => exact laws_toLevels_lok0 k
      | n + 1, h => omega)
    dec_enc_l dec_enc_l (laws_toLevels_run k)

def spec_l06Level_C (k : Nat) : Cfg := ⟨tab, mvs, oraOf [spec_l00In_e k], loOf []⟩
theorem spec_l06Level_es (k : Nat) : ∀ e ∈ ([spec_l00In_e k] : List Ent), EntOK Try.prog tab mvs e := by
  intro e he
  simp only [List.mem_cons, List.not_mem_nil, or_false] at he
  rcases he with rfl
  · exact spec_l00In_ok k
def spec_l06Level_e (k : Nat) : Ent := (129, callOf [.int .i64] dec_i fun (p : Int) R K => (spec_l06Level k p).bind fun (b : Bool) => K ((fV (.bool) (enc_b b)).1, none))
theorem spec_l06Level_run (k : Nat) (p : Int) : runF (spec_l06Level_C k) Try.f129 false (fL [.int .i64] (enc_i p)).1 (resK (.bool) dec_b) = spec_l06Level k p := by
  kernel_rfl
theorem spec_l06Level_ok (k : Nat) : EntOK Try.prog tab mvs (spec_l06Level_e k) :=
  fn_ok (C := spec_l06Level_C k) tabOK eqTabOK (spec_l06Level_es k) rfl follows Try.func129 (by kernel_rfl) (by kernel_rfl) rfl (forall_getD _ 0 (0, Code.skip) (by kernel_rfl) fun i hi => by
      omega)
    dec_enc_i dec_enc_b (spec_l06Level_run k)

def dec_llii (ps : List Pay) : Option ((List Int) × (List Int) × Int × Int) := match ps with
  | [.l x1, .l x2, .i x3, .i x4] => some (x1, x2, x3, x4)
  | _ => none
def enc_llii (p : (List Int) × (List Int) × Int × Int) : List Pay := [.l p.1, .l p.2.1, .i p.2.2.1, .i p.2.2.2]
theorem dec_enc_llii : ∀ (ps : List Pay) (p : (List Int) × (List Int) × Int × Int), dec_llii ps = some p → ps = enc_llii p := by
  intro ps p h
  unfold dec_llii at h
  split at h
  · injection h with h
    subst h
    rfl
  · cases h

def spec_l06Ok_t0 : StTm := ⟨42, [(0, .pvi (some 33) 0 33), (1, .pvi (some 61) 0 61), (5, .int .i8), (6, .int .i8)], []⟩
def spec_l06Ok_t0_1 : StTm := ⟨42, [(4, .bool)], []⟩
def spec_l06Ok_t0_2 : StTm := ⟨42, [(0, .pvi (some 33) 0 33), (1, .pvi (some 61) 0 61), (5, .int .i8)], []⟩
def spec_l06Ok_w0 (k : Nat) (R : Type) (K : Ex → St → Option R) (rec : (List Int) × (List Int) × Int × Int → Option R) (p : (List Int) × (List Int) × Int × Int) : Option R := spec_l06Ok_s0 k (fun y1 => K .ret (fSt spec_l06Ok_t0_1 [.b y1])) (fun y1 y2 y3 => K (.exit 2) (fSt spec_l06Ok_t0_2 [.l y1, .l y2, .i y3])) (fun h1 h2 h3 h4 => rec (h1, h2, h3, h4)) p.1 p.2.1 p.2.2.1 p.2.2.2
def spec_l06Ok_c0 (k : Nat) : Lcall := lcallOf tab spec_l06Ok_t0 dec_llii [0, 1, 5, 6] k (spec_l06Ok_w0 k)
def spec_l06Ok_t1 : StTm := ⟨42, [(0, .pvi (some 33) 0 33), (1, .pvi (some 61) 0 61), (5, .int .i8)], []⟩
def spec_l06Ok_t1_1 : StTm := ⟨42, [(4, .bool)], []⟩
def spec_l06Ok_t1_2 : StTm := ⟨42, [], []⟩
def spec_l06Ok_w1 (k : Nat) (R : Type) (K : Ex → St → Option R) (rec : (List Int) × (List Int) × Int → Option R) (p : (List Int) × (List Int) × Int) : Option R := spec_l06Ok_s1 k (fun y1 => K .ret (fSt spec_l06Ok_t1_1 [.b y1])) (K (.exit 0) (fSt spec_l06Ok_t1_2 [])) (fun h1 h2 h3 => rec (h1, h2, h3)) p.1 p.2.1 p.2.2
def spec_l06Ok_c1 (k : Nat) : Lcall := lcallOf tab spec_l06Ok_t1 dec_lli [0, 1, 5] k (spec_l06Ok_w1 k)
def spec_l06Ok_C (k : Nat) : Cfg := ⟨tab, mvs, oraOf [spec_l01Ok_e k, spec_l06Level_e k, spec_l01Grass_e k], loOf [(2, spec_l06Ok_c0 k), (0, spec_l06Ok_c1 k)]⟩
theorem spec_l06Ok_es (k : Nat) : ∀ e ∈ ([spec_l01Ok_e k, spec_l06Level_e k, spec_l01Grass_e k] : List Ent), EntOK Try.prog tab mvs e := by
  intro e he
  simp only [List.mem_cons, List.not_mem_nil, or_false] at he
  rcases he with rfl | rfl | rfl
  · exact spec_l01Ok_ok k
  · exact spec_l06Level_ok k
  · exact spec_l01Grass_ok k
theorem spec_l06Ok_step0 (k : Nat) (R : Type) (K : Ex → St → Option R) (g : St → Option R) (p : (List Int) × (List Int) × Int × Int) : evCode (spec_l06Ok_C k) (loopP [0, 0] (0, codeOf Try.f85)).2 (loopP [0, 0] (0, codeOf Try.f85)).1 (fSt spec_l06Ok_t0 (enc_llii p)) (loopK tab [0, 1, 5, 6] [0, 1, 5] [4] g K) = spec_l06Ok_w0 k R K (fun p => g (fSt spec_l06Ok_t0 (enc_llii p))) p := by
  kernel_rfl
theorem spec_l06Ok_lok0 (k : Nat) : LoopOK Try.prog tab (spec_l06Ok_C k).lo (loopP [0, 0] (0, codeOf Try.f85)).1 (loopP [0, 0] (0, codeOf Try.f85)).2 :=
  loopOK_of (C := spec_l06Ok_C k) tabOK eqTabOK (oraOf_ok (spec_l06Ok_es k)) (oraOf_nat (spec_l06Ok_es k)) follows (forall_getD _ 0 (0, Code.skip) (by kernel_rfl) fun i hi => by
      omega)
    (tm := spec_l06Ok_t0) (dec := dec_llii) (enc := enc_llii) (ksIn := [0, 1, 5, 6]) (ksOut := [0, 1, 5]) (ksRet := [4]) (k := k) (step := spec_l06Ok_w0 k) dec_enc_llii (fun p => by kernel_rfl) (fun s R K => by kernel_rfl) (spec_l06Ok_step0 k)
theorem spec_l06Ok_step1 (k : Nat) (R : Type) (K : Ex → St → Option R) (g : St → Option R) (p : (List Int) × (List Int) × Int) : evCode (spec_l06Ok_C k) (loopP [0] (0, codeOf Try.f85)).2 (loopP [0] (0, codeOf Try.f85)).1 (fSt spec_l06Ok_t1 (enc_lli p)) (loopK tab [0, 1, 5] [] [4] g K) = spec_l06Ok_w1 k R K (fun p => g (fSt spec_l06Ok_t1 (enc_lli p))) p := by
  kernel_rfl
theorem spec_l06Ok_lok1 (k : Nat) : LoopOK Try.prog tab (spec_l06Ok_C k).lo (loopP [0] (0, codeOf Try.f85)).1 (loopP [0] (0, codeOf Try.f85)).2 :=
  loopOK_of (C := spec_l06Ok_C k) tabOK eqTabOK (oraOf_ok (spec_l06Ok_es k)) (oraOf_nat (spec_l06Ok_es k)) follows (forall_getD _ 1 (0, Code.skip) (by kernel_rfl) fun i hi => by
      match i, hi with
      | 0, _ => exact spec_l06Ok_lok0 k
      | n + 1, h => omega)
    (tm := spec_l06Ok_t1) (dec := dec_lli) (enc := enc_lli) (ksIn := [0, 1, 5]) (ksOut := []) (ksRet := [4]) (k := k) (step := spec_l06Ok_w1 k) dec_enc_lli (fun p => by kernel_rfl) (fun s R K => by kernel_rfl) (spec_l06Ok_step1 k)
def spec_l06Ok_e (k : Nat) : Ent := (85, callOf [.pvi (some 33) 0 33, .pvi (some 61) 0 61] dec_ll fun (p : (List Int) × (List Int)) R K => (spec_l06Ok k p.1 p.2).bind fun (b : Bool) => K ((fV (.bool) (enc_b b)).1, none))
theorem spec_l06Ok_run (k : Nat) (p : (List Int) × (List Int)) : runF (spec_l06Ok_C k) Try.f85 false (fL [.pvi (some 33) 0 33, .pvi (some 61) 0 61] (enc_ll p)).1 (resK (.bool) dec_b) = spec_l06Ok k p.1 p.2 := by
  kernel_rfl
theorem spec_l06Ok_ok (k : Nat) : EntOK Try.prog tab mvs (spec_l06Ok_e k) :=
  fn_ok (C := spec_l06Ok_C k) tabOK eqTabOK (spec_l06Ok_es k) rfl follows Try.func85 (by kernel_rfl) (by kernel_rfl) rfl (forall_getD _ 1 (0, Code.skip) (by kernel_rfl) fun i hi => by
      match i, hi with
      | 0, _ => exact spec_l06Ok_lok1 k
      | n + 1, h => omega)
    dec_enc_ll dec_enc_b (spec_l06Ok_run k)

def spec_l06At_C (k : Nat) : Cfg := ⟨tab, mvs, oraOf [], loOf []⟩
theorem spec_l06At_es (k : Nat) : ∀ e ∈ ([] : List Ent), EntOK Try.prog tab mvs e := by
  intro e he
  simp at he
def spec_l06At_e (k : Nat) : Ent := (86, callOf [.pvi (some 61) 0 61, .agg 28] dec_ll fun (p : (List Int) × (List Int)) R K => (spec_l06At k p.1 p.2).bind fun (b : Int) => K ((fV (.int .i64) (enc_i b)).1, none))
theorem spec_l06At_run (k : Nat) (p : (List Int) × (List Int)) : runF (spec_l06At_C k) Try.f86 false (fL [.pvi (some 61) 0 61, .agg 28] (enc_ll p)).1 (resK (.int .i64) dec_i) = spec_l06At k p.1 p.2 := by
  kernel_rfl
theorem spec_l06At_ok (k : Nat) : EntOK Try.prog tab mvs (spec_l06At_e k) :=
  fn_ok (C := spec_l06At_C k) tabOK eqTabOK (spec_l06At_es k) rfl follows Try.func86 (by kernel_rfl) (by kernel_rfl) rfl (forall_getD _ 0 (0, Code.skip) (by kernel_rfl) fun i hi => by
      omega)
    dec_enc_ll dec_enc_i (spec_l06At_run k)

def dec_illll (ps : List Pay) : Option (Int × (List Int) × (List Int) × (List Int) × (List Int)) := match ps with
  | [.i x1, .l x2, .l x3, .l x4, .l x5] => some (x1, x2, x3, x4, x5)
  | _ => none
def enc_illll (p : Int × (List Int) × (List Int) × (List Int) × (List Int)) : List Pay := [.i p.1, .l p.2.1, .l p.2.2.1, .l p.2.2.2.1, .l p.2.2.2.2]
theorem dec_enc_illll : ∀ (ps : List Pay) (p : Int × (List Int) × (List Int) × (List Int) × (List Int)), dec_illll ps = some p → ps = enc_illll p := by
  intro ps p h
  unfold dec_illll at h
  split at h
  · injection h with h
    subst h
    rfl
  · cases h

def spec_HighestCell_t0 : StTm := ⟨42, [(3, .ptr 3 0 61), (4, .ptr 4 0 28), (7, .slw 7 28), (8, .ptr 8 0 28), (9, .int .i64)], [(3, 61, true, .ints), (4, 28, true, .ints), (7, 28, false, .ints), (8, 28, true, .ints)]⟩
def spec_HighestCell_t0_1 : StTm := ⟨42, [(3, .ptr 3 0 61), (4, .ptr 4 0 28), (8, .ptr 8 0 28)], [(3, 61, true, .ints), (4, 28, true, .ints), (8, 28, true, .ints)]⟩
def spec_HighestCell_w0 (k : Nat) (R : Type) (K : Ex → St → Option R) (rec : Int × (List Int) × (List Int) × (List Int) × (List Int) → Option R) (p : Int × (List Int) × (List Int) × (List Int) × (List Int)) : Option R := spec_HighestCell_s0 k (fun y1 y2 y3 => K (.exit 0) (fSt spec_HighestCell_t0_1 [.l y1, .l y2, .l y3])) (fun h1 h2 h3 h4 h5 => rec (h1, h2, h3, h4, h5)) p.1 p.2.1 p.2.2.1 p.2.2.2.1 p.2.2.2.2
def spec_HighestCell_c0 (k : Nat) : Lcall := lcallOf tab spec_HighestCell_t0 dec_illll [3, 4, 7, 8, 9] k (spec_HighestCell_w0 k)
def spec_HighestCell_C (k : Nat) : Cfg := ⟨tab, mvs, oraOf [spec_l06Ok_e k, spec_l01Cells_e k, spec_l06At_e k], loOf [(0, spec_HighestCell_c0 k)]⟩
theorem spec_HighestCell_es (k : Nat) : ∀ e ∈ ([spec_l06Ok_e k, spec_l01Cells_e k, spec_l06At_e k] : List Ent), EntOK Try.prog tab mvs e := by
  intro e he
  simp only [List.mem_cons, List.not_mem_nil, or_false] at he
  rcases he with rfl | rfl | rfl
  · exact spec_l06Ok_ok k
  · exact spec_l01Cells_ok k
  · exact spec_l06At_ok k
theorem spec_HighestCell_step0 (k : Nat) (R : Type) (K : Ex → St → Option R) (g : St → Option R) (p : Int × (List Int) × (List Int) × (List Int) × (List Int)) : evCode (spec_HighestCell_C k) (loopP [0] (0, codeOf Try.f40)).2 (loopP [0] (0, codeOf Try.f40)).1 (fSt spec_HighestCell_t0 (enc_illll p)) (loopK tab [3, 4, 7, 8, 9] [3, 4, 8] [4, 5, 6] g K) = spec_HighestCell_w0 k R K (fun p => g (fSt spec_HighestCell_t0 (enc_illll p))) p := by
  kernel_rfl
theorem spec_HighestCell_lok0 (k : Nat) : LoopOK Try.prog tab (spec_HighestCell_C k).lo (loopP [0] (0, codeOf Try.f40)).1 (loopP [0] (0, codeOf Try.f40)).2 :=
  loopOK_of (C := spec_HighestCell_C k) tabOK eqTabOK (oraOf_ok (spec_HighestCell_es k)) (oraOf_nat (spec_HighestCell_es k)) follows (forall_getD _ 0 (0, Code.skip) (by kernel_rfl) fun i hi => by
      omega)
    (tm := spec_HighestCell_t0) (dec := dec_illll) (enc := enc_illll) (ksIn := [3, 4, 7, 8, 9]) (ksOut := [3, 4, 8]) (ksRet := [4, 5, 6]) (k := k) (step := spec_HighestCell_w0 k) dec_enc_illll (fun p => by kernel_rfl) (fun s R K => by kernel_rfl) (spec_HighestCell_step0 k)
def spec_HighestCell_e (k : Nat) : Ent := (40, callOf [.agg 33, .agg 61] dec_ll fun (p : (List Int) × (List Int)) R K => (spec_HighestCell k p.1 p.2).bind fun (b : (List Int) × Int × Int) => K ((fV (.tup [.agg 28, .int .i64, .int .i64]) (enc_lii b)).1, none))
theorem spec_HighestCell_run (k : Nat) (p : (List Int) × (List Int)) : runF (spec_HighestCell_C k) Try.f40 false (fL [.agg 33, .agg 61] (enc_ll p)).1 (resK (.tup [.agg 28, .int .i64, .int .i64]) dec_lii) = spec_HighestCell k p.1 p.2 := by
  kernel_rfl
theorem spec_HighestCell_ok (k : Nat) : EntOK Try.prog tab mvs (spec_HighestCell_e k) :=
  fn_ok (C := spec_HighestCell_C k) tabOK eqTabOK (spec_HighestCell_es k) rfl follows Try.func40 (by kernel_rfl) (by kernel_rfl) rfl (forall_getD _ 1 (0, Code.skip) (by kernel_rfl) fun i hi => by
      match i, hi with
      | 0, _ => exact spec_HighestCell_lok0 k
      | n + 1, h => omega)
    dec_enc_ll dec_enc_lii (spec_HighestCell_run k)

def dec_iiill (ps : List Pay) : Option (Int × Int × Int × (List Int) × (List Int)) := match ps with
  | [.i x1, .i x2, .i x3, .l x4, .l x5] => some (x1, x2, x3, x4, x5)
  | _ => none
def enc_iiill (p : Int × Int × Int × (List Int) × (List Int)) : List Pay := [.i p.1, .i p.2.1, .i p.2.2.1, .l p.2.2.2.1, .l p.2.2.2.2]
theorem dec_enc_iiill : ∀ (ps : List Pay) (p : Int × Int × Int × (List Int) × (List Int)), dec_iiill ps = some p → ps = enc_iiill p := by
  intro ps p h
  unfold dec_iiill at h
  split at h
  · injection h with h
    subst h
    rfl
  · cases h

def impl_ValidLevels_t0 : StTm := ⟨41, [(2, .ptr 2 0 33), (3, .ptr 3 0 61), (5, .int .i8), (8, .int .i8), (11, .int .i8)], [(2, 33, true, .ints), (3, 61, true, .ints)]⟩
def impl_ValidLevels_t0_1 : StTm := ⟨41, [(4, .bool)], []⟩
def impl_ValidLevels_t0_2 : StTm := ⟨41, [(2, .ptr 2 0 33), (3, .ptr 3 0 61), (8, .int .i8)], [(2, 33, true, .ints), (3, 61, true, .ints)]⟩
def impl_ValidLevels_w0 (k : Nat) (R : Type) (K : Ex → St → Option R) (rec : Int × Int × Int × (List Int) × (List Int) → Option R) (p : Int × Int × Int × (List Int) × (List Int)) : Option R := impl_ValidLevels_s0 k (fun y1 => K .ret (fSt impl_ValidLevels_t0_1 [.b y1])) (fun y1 y2 y3 => K (.exit 2) (fSt impl_ValidLevels_t0_2 [.i y1, .l y2, .l y3])) (fun h1 h2 h3 h4 h5 => rec (h1, h2, h3, h4, h5)) p.1 p.2.1 p.2.2.1 p.2.2.2.1 p.2.2.2.2
def impl_ValidLevels_c0 (k : Nat) : Lcall := lcallOf tab impl_ValidLevels_t0 dec_iiill [2, 3, 5, 8, 11] k (impl_ValidLevels_w0 k)
def impl_ValidLevels_t1 : StTm := ⟨41, [(2, .ptr 2 0 33), (3, .ptr 3 0 61), (8, .int .i8)], [(2, 33, true, .ints), (3, 61, true, .ints)]⟩
def impl_ValidLevels_t1_1 : StTm := ⟨41, [(4, .bool)], []⟩
def impl_ValidLevels_t1_2 : StTm := ⟨41, [(2, .ptr 2 0 33)], [(2, 33, true, .ints)]⟩
def impl_ValidLevels_w1 (k : Nat) (R : Type) (K : Ex → St → Option R) (rec : Int × (List Int) × (List Int) → Option R) (p : Int × (List Int) × (List Int)) : Option R := impl_ValidLevels_s1 k (fun y1 => K .ret (fSt impl_ValidLevels_t1_1 [.b y1])) (fun y1 => K (.exit 0) (fSt impl_ValidLevels_t1_2 [.l y1])) (fun h1 h2 h3 => rec (h1, h2, h3)) p.1 p.2.1 p.2.2
def impl_ValidLevels_c1 (k : Nat) : Lcall := lcallOf tab impl_ValidLevels_t1 dec_ill [2, 3, 8] k (impl_ValidLevels_w1 k)
def impl_ValidLevels_C (k : Nat) : Cfg := ⟨tab, mvs, oraOf [impl_Lawn_grass_e k, impl_ValidLawn_e k], loOf [(2, impl_ValidLevels_c0 k), (0, impl_ValidLevels_c1 k)]⟩
theorem impl_ValidLevels_es (k : Nat) : ∀ e ∈ ([impl_Lawn_grass_e k, impl_ValidLawn_e k] : List Ent), EntOK Try.prog tab mvs e := by
  intro e he
  simp only [List.mem_cons, List.not_mem_nil, or_false] at he
  rcases he with rfl | rfl
  · exact impl_Lawn_grass_ok k
  · exact impl_ValidLawn_ok k
theorem impl_ValidLevels_step0 (k : Nat) (R : Type) (K : Ex → St → Option R) (g : St → Option R) (p : Int × Int × Int × (List Int) × (List Int)) : evCode (impl_ValidLevels_C k) (loopP [0, 0] (0, codeOf Try.f127)).2 (loopP [0, 0] (0, codeOf Try.f127)).1 (fSt impl_ValidLevels_t0 (enc_iiill p)) (loopK tab [2, 3, 5, 8, 11] [2, 3, 8] [4] g K) = impl_ValidLevels_w0 k R K (fun p => g (fSt impl_ValidLevels_t0 (enc_iiill p))) p := by
  kernel_rfl
theorem impl_ValidLevels_lok0 (k : Nat) : LoopOK Try.prog tab (impl_ValidLevels_C k).lo (loopP [0, 0] (0, codeOf Try.f127)).1 (loopP [0, 0] (0, codeOf Try.f127)).2 :=
  loopOK_of (C := impl_ValidLevels_C k) tabOK eqTabOK (oraOf_ok (impl_ValidLevels_es k)) (oraOf_nat (impl_ValidLevels_es k)) follows (forall_getD _ 0 (0, Code.skip) (by kernel_rfl) fun i hi => by
      omega)
    (tm := impl_ValidLevels_t0) (dec := dec_iiill) (enc := enc_iiill) (ksIn := [2, 3, 5, 8, 11]) (ksOut := [2, 3, 8]) (ksRet := [4]) (k := k) (step := impl_ValidLevels_w0 k) dec_enc_iiill (fun p => by kernel_rfl) (fun s R K => by kernel_rfl) (impl_ValidLevels_step0 k)
theorem impl_ValidLevels_step1 (k : Nat) (R : Type) (K : Ex → St → Option R) (g : St → Option R) (p : Int × (List Int) × (List Int)) : evCode (impl_ValidLevels_C k) (loopP [0] (0, codeOf Try.f127)).2 (loopP [0] (0, codeOf Try.f127)).1 (fSt impl_ValidLevels_t1 (enc_ill p)) (loopK tab [2, 3, 8] [2] [4] g K) = impl_ValidLevels_w1 k R K (fun p => g (fSt impl_ValidLevels_t1 (enc_ill p))) p := by
  kernel_rfl
theorem impl_ValidLevels_lok1 (k : Nat) : LoopOK Try.prog tab (impl_ValidLevels_C k).lo (loopP [0] (0, codeOf Try.f127)).1 (loopP [0] (0, codeOf Try.f127)).2 :=
  loopOK_of (C := impl_ValidLevels_C k) tabOK eqTabOK (oraOf_ok (impl_ValidLevels_es k)) (oraOf_nat (impl_ValidLevels_es k)) follows (forall_getD _ 1 (0, Code.skip) (by kernel_rfl) fun i hi => by
      match i, hi with
      | 0, _ => exact impl_ValidLevels_lok0 k
      | n + 1, h => omega)
    (tm := impl_ValidLevels_t1) (dec := dec_ill) (enc := enc_ill) (ksIn := [2, 3, 8]) (ksOut := [2]) (ksRet := [4]) (k := k) (step := impl_ValidLevels_w1 k) dec_enc_ill (fun p => by kernel_rfl) (fun s R K => by kernel_rfl) (impl_ValidLevels_step1 k)
def impl_ValidLevels_e (k : Nat) : Ent := (127, callOf [.agg 33, .agg 61] dec_ll fun (p : (List Int) × (List Int)) R K => (impl_ValidLevels k p.1 p.2).bind fun (b : Bool) => K ((fV (.bool) (enc_b b)).1, none))
theorem impl_ValidLevels_run (k : Nat) (p : (List Int) × (List Int)) : runF (impl_ValidLevels_C k) Try.f127 false (fL [.agg 33, .agg 61] (enc_ll p)).1 (resK (.bool) dec_b) = impl_ValidLevels k p.1 p.2 := by
  kernel_rfl
theorem impl_ValidLevels_ok (k : Nat) : EntOK Try.prog tab mvs (impl_ValidLevels_e k) :=
  fn_ok (C := impl_ValidLevels_C k) tabOK eqTabOK (impl_ValidLevels_es k) rfl follows Try.func127 (by kernel_rfl) (by kernel_rfl) rfl (forall_getD _ 1 (0, Code.skip) (by kernel_rfl) fun i hi => by
      match i, hi with
      | 0, _ => exact impl_ValidLevels_lok1 k
      | n + 1, h => omega)
    dec_enc_ll dec_enc_b (impl_ValidLevels_run k)

def dec_lll (ps : List Pay) : Option ((List Int) × (List Int) × (List Int)) := match ps with
  | [.l x1, .l x2, .l x3] => some (x1, x2, x3)
  | _ => none
def enc_lll (p : (List Int) × (List Int) × (List Int)) : List Pay := [.l p.1, .l p.2.1, .l p.2.2]
theorem dec_enc_lll : ∀ (ps : List Pay) (p : (List Int) × (List Int) × (List Int)), dec_lll ps = some p → ps = enc_lll p := by
  intro ps p h
  unfold dec_lll at h
  split at h
  · injection h with h
    subst h
    rfl
  · cases h

def impl_soilCode_C (k : Nat) : Cfg := ⟨tab, mvs, oraOf [impl_ValidLevels_e k, impl_cellsCode_e k], loOf []⟩
theorem impl_soilCode_es (k : Nat) : ∀ e ∈ ([impl_ValidLevels_e k, impl_cellsCode_e k] : List Ent), EntOK Try.prog tab mvs e := by
  intro e he
  simp only [List.mem_cons, List.not_mem_nil, or_false] at he
  rcases he with rfl | rfl
  · exact impl_ValidLevels_ok k
  · exact impl_cellsCode_ok k
def impl_soilCode_e (k : Nat) : Ent := (82, callOf [.agg 33, .agg 61, .slv 28] dec_lll fun (p : (List Int) × (List Int) × (List Int)) R K => (impl_soilCode k p.1 p.2.1 p.2.2).bind fun (b : Int) => K ((fV (.int .i64) (enc_i b)).1, none))
theorem impl_soilCode_run (k : Nat) (p : (List Int) × (List Int) × (List Int)) : runF (impl_soilCode_C k) Try.f82 false (fL [.agg 33, .agg 61, .slv 28] (enc_lll p)).1 (resK (.int .i64) dec_i) = impl_soilCode k p.1 p.2.1 p.2.2 := by
  kernel_rfl
theorem impl_soilCode_ok (k : Nat) : EntOK Try.prog tab mvs (impl_soilCode_e k) :=
  fn_ok (C := impl_soilCode_C k) tabOK eqTabOK (impl_soilCode_es k) rfl follows Try.func82 (by kernel_rfl) (by kernel_rfl) rfl (forall_getD _ 0 (0, Code.skip) (by kernel_rfl) fun i hi => by
      omega)
    dec_enc_lll dec_enc_i (impl_soilCode_run k)

def impl_Levels_of_C (k : Nat) : Cfg := ⟨tab, mvs, oraOf [], loOf []⟩
theorem impl_Levels_of_es (k : Nat) : ∀ e ∈ ([] : List Ent), EntOK Try.prog tab mvs e := by
  intro e he
  simp at he
def impl_Levels_of_e (k : Nat) : Ent := (87, callOf [.agg 61, .agg 28] dec_ll fun (p : (List Int) × (List Int)) R K => (impl_Levels_of k p.1 p.2).bind fun (b : Int) => K ((fV (.int .i64) (enc_i b)).1, none))
theorem impl_Levels_of_run (k : Nat) (p : (List Int) × (List Int)) : runF (impl_Levels_of_C k) Try.f87 false (fL [.agg 61, .agg 28] (enc_ll p)).1 (resK (.int .i64) dec_i) = impl_Levels_of k p.1 p.2 := by
  kernel_rfl
theorem impl_Levels_of_ok (k : Nat) : EntOK Try.prog tab mvs (impl_Levels_of_e k) :=
  fn_ok (C := impl_Levels_of_C k) tabOK eqTabOK (impl_Levels_of_es k) rfl follows Try.func87 (by kernel_rfl) (by kernel_rfl) rfl (forall_getD _ 0 (0, Code.skip) (by kernel_rfl) fun i hi => by
      omega)
    dec_enc_ll dec_enc_i (impl_Levels_of_run k)

def impl_HighestCell_t0 : StTm := ⟨49, [(3, .ptr 3 0 61), (4, .ptr 4 0 28), (9, .ptr 9 0 28), (30, .slw 30 28), (31, .int .i64), (32, .int .i64)], [(3, 61, true, .ints), (4, 28, true, .ints), (9, 28, true, .ints), (30, 28, false, .ints)]⟩
def impl_HighestCell_t0_1 : StTm := ⟨49, [(3, .ptr 3 0 61), (4, .ptr 4 0 28), (9, .ptr 9 0 28)], [(3, 61, true, .ints), (4, 28, true, .ints), (9, 28, true, .ints)]⟩
def impl_HighestCell_w0 (k : Nat) (R : Type) (K : Ex → St → Option R) (rec : Int × Int × (List Int) × (List Int) × (List Int) × (List Int) → Option R) (p : Int × Int × (List Int) × (List Int) × (List Int) × (List Int)) : Option R := impl_HighestCell_s0 k (fun y1 y2 y3 => K (.exit 0) (fSt impl_HighestCell_t0_1 [.l y1, .l y2, .l y3])) (fun h1 h2 h3 h4 h5 h6 => rec (h1, h2, h3, h4, h5, h6)) p.1 p.2.1 p.2.2.1 p.2.2.2.1 p.2.2.2.2.1 p.2.2.2.2.2
def impl_HighestCell_c0 (k : Nat) : Lcall := lcallOf tab impl_HighestCell_t0 dec_iillll [3, 4, 9, 30, 31, 32] k (impl_HighestCell_w0 k)
def impl_HighestCell_C (k : Nat) : Cfg := ⟨tab, mvs, oraOf [impl_soilCode_e k, impl_Lawn_grass_e k, impl_Lawn_those_e k, impl_Levels_of_e k], loOf [(0, impl_HighestCell_c0 k)]⟩
theorem impl_HighestCell_es (k : Nat) : ∀ e ∈ ([impl_soilCode_e k, impl_Lawn_grass_e k, impl_Lawn_those_e k, impl_Levels_of_e k] : List Ent), EntOK Try.prog tab mvs e := by
  intro e he
  simp only [List.mem_cons, List.not_mem_nil, or_false] at he
  rcases he with rfl | rfl | rfl | rfl
  · exact impl_soilCode_ok k
  · exact impl_Lawn_grass_ok k
  · exact impl_Lawn_those_ok k
  · exact impl_Levels_of_ok k
theorem impl_HighestCell_step0 (k : Nat) (R : Type) (K : Ex → St → Option R) (g : St → Option R) (p : Int × Int × (List Int) × (List Int) × (List Int) × (List Int)) : evCode (impl_HighestCell_C k) (loopP [0] (0, codeOf Try.f41)).2 (loopP [0] (0, codeOf Try.f41)).1 (fSt impl_HighestCell_t0 (enc_iillll p)) (loopK tab [3, 4, 9, 30, 31, 32] [3, 4, 9] [4, 5, 6] g K) = impl_HighestCell_w0 k R K (fun p => g (fSt impl_HighestCell_t0 (enc_iillll p))) p := by
  kernel_rfl
theorem impl_HighestCell_lok0 (k : Nat) : LoopOK Try.prog tab (impl_HighestCell_C k).lo (loopP [0] (0, codeOf Try.f41)).1 (loopP [0] (0, codeOf Try.f41)).2 :=
  loopOK_of (C := impl_HighestCell_C k) tabOK eqTabOK (oraOf_ok (impl_HighestCell_es k)) (oraOf_nat (impl_HighestCell_es k)) follows (forall_getD _ 0 (0, Code.skip) (by kernel_rfl) fun i hi => by
      omega)
    (tm := impl_HighestCell_t0) (dec := dec_iillll) (enc := enc_iillll) (ksIn := [3, 4, 9, 30, 31, 32]) (ksOut := [3, 4, 9]) (ksRet := [4, 5, 6]) (k := k) (step := impl_HighestCell_w0 k) dec_enc_iillll (fun p => by kernel_rfl) (fun s R K => by kernel_rfl) (impl_HighestCell_step0 k)
def impl_HighestCell_e (k : Nat) : Ent := (41, callOf [.agg 33, .agg 61] dec_ll fun (p : (List Int) × (List Int)) R K => (impl_HighestCell k p.1 p.2).bind fun (b : (List Int) × Int × Int) => K ((fV (.tup [.agg 28, .int .i64, .int .i64]) (enc_lii b)).1, none))
theorem impl_HighestCell_run (k : Nat) (p : (List Int) × (List Int)) : runF (impl_HighestCell_C k) Try.f41 false (fL [.agg 33, .agg 61] (enc_ll p)).1 (resK (.tup [.agg 28, .int .i64, .int .i64]) dec_lii) = impl_HighestCell k p.1 p.2 := by
  kernel_rfl
theorem impl_HighestCell_ok (k : Nat) : EntOK Try.prog tab mvs (impl_HighestCell_e k) :=
  fn_ok (C := impl_HighestCell_C k) tabOK eqTabOK (impl_HighestCell_es k) rfl follows Try.func41 (by kernel_rfl) (by kernel_rfl) rfl (forall_getD _ 1 (0, Code.skip) (by kernel_rfl) fun i hi => by
      match i, hi with
      | 0, _ => exact impl_HighestCell_lok0 k
      | n + 1, h => omega)
    dec_enc_ll dec_enc_lii (impl_HighestCell_run k)

def laws_FnExactHighestCell_C (k : Nat) : Cfg := ⟨tab, mvs, oraOf [laws_toLawn_e k, laws_toLevels_e k, spec_HighestCell_e k, impl_HighestCell_e k, laws_eqCell_e k], loOf []⟩
theorem laws_FnExactHighestCell_es (k : Nat) : ∀ e ∈ ([laws_toLawn_e k, laws_toLevels_e k, spec_HighestCell_e k, impl_HighestCell_e k, laws_eqCell_e k] : List Ent), EntOK Try.prog tab mvs e := by
  intro e he
  simp only [List.mem_cons, List.not_mem_nil, or_false] at he
  rcases he with rfl | rfl | rfl | rfl | rfl
  · exact laws_toLawn_ok k
  · exact laws_toLevels_ok k
  · exact spec_HighestCell_ok k
  · exact impl_HighestCell_ok k
  · exact laws_eqCell_ok k
def laws_FnExactHighestCell_e (k : Nat) : Ent := (10, callOf [.agg 26, .agg 58] dec_ll fun (p : (List Int) × (List Int)) R K => (laws_FnExactHighestCell k p.1 p.2).bind fun (b : Bool) => K ((fV (.bool) (enc_b b)).1, none))
theorem laws_FnExactHighestCell_run (k : Nat) (p : (List Int) × (List Int)) : runF (laws_FnExactHighestCell_C k) Try.f10 false (fL [.agg 26, .agg 58] (enc_ll p)).1 (resK (.bool) dec_b) = laws_FnExactHighestCell k p.1 p.2 := by
  kernel_rfl
theorem laws_FnExactHighestCell_ok (k : Nat) : EntOK Try.prog tab mvs (laws_FnExactHighestCell_e k) :=
  fn_ok (C := laws_FnExactHighestCell_C k) tabOK eqTabOK (laws_FnExactHighestCell_es k) rfl follows Try.func10 (by kernel_rfl) (by kernel_rfl) rfl (forall_getD _ 0 (0, Code.skip) (by kernel_rfl) fun i hi => by
      omega)
    dec_enc_ll dec_enc_b (laws_FnExactHighestCell_run k)

def spec_RunsOf_C (k : Nat) : Cfg := ⟨tab, mvs, oraOf [spec_l01Ok_e k, spec_l01Runs_e k], loOf []⟩
theorem spec_RunsOf_es (k : Nat) : ∀ e ∈ ([spec_l01Ok_e k, spec_l01Runs_e k] : List Ent), EntOK Try.prog tab mvs e := by
  intro e he
  simp only [List.mem_cons, List.not_mem_nil, or_false] at he
  rcases he with rfl | rfl
  · exact spec_l01Ok_ok k
  · exact spec_l01Runs_ok k
def spec_RunsOf_e (k : Nat) : Ent := (43, callOf [.agg 33, .bool] dec_lb fun (p : (List Int) × Bool) R K => (spec_RunsOf k p.1 p.2).bind fun (b : (List Int) × Int) => K ((fV (.tup [.slv 30, .int .i64]) (enc_li b)).1, none))
theorem spec_RunsOf_run (k : Nat) (p : (List Int) × Bool) : runF (spec_RunsOf_C k) Try.f43 false (fL [.agg 33, .bool] (enc_lb p)).1 (resK (.tup [.slv 30, .int .i64]) dec_li) = spec_RunsOf k p.1 p.2 := by
  kernel_rfl
theorem spec_RunsOf_ok (k : Nat) : EntOK Try.prog tab mvs (spec_RunsOf_e k) :=
  fn_ok (C := spec_RunsOf_C k) tabOK eqTabOK (spec_RunsOf_es k) rfl follows Try.func43 (by kernel_rfl) (by kernel_rfl) rfl (forall_getD _ 0 (0, Code.skip) (by kernel_rfl) fun i hi => by
      omega)
    dec_enc_lb dec_enc_li (spec_RunsOf_run k)

def impl_RunsOf_C (k : Nat) : Cfg := ⟨tab, mvs, oraOf [impl_cellsCode_e k, impl_Lawn_runs_e k], loOf []⟩
theorem impl_RunsOf_es (k : Nat) : ∀ e ∈ ([impl_cellsCode_e k, impl_Lawn_runs_e k] : List Ent), EntOK Try.prog tab mvs e := by
  intro e he
  simp only [List.mem_cons, List.not_mem_nil, or_false] at he
  rcases he with rfl | rfl
  · exact impl_cellsCode_ok k
  · exact impl_Lawn_runs_ok k
def impl_RunsOf_e (k : Nat) : Ent := (44, callOf [.agg 33, .bool] dec_lb fun (p : (List Int) × Bool) R K => (impl_RunsOf k p.1 p.2).bind fun (b : (List Int) × Int) => K ((fV (.tup [.slv 30, .int .i64]) (enc_li b)).1, none))
theorem impl_RunsOf_run (k : Nat) (p : (List Int) × Bool) : runF (impl_RunsOf_C k) Try.f44 false (fL [.agg 33, .bool] (enc_lb p)).1 (resK (.tup [.slv 30, .int .i64]) dec_li) = impl_RunsOf k p.1 p.2 := by
  kernel_rfl
theorem impl_RunsOf_ok (k : Nat) : EntOK Try.prog tab mvs (impl_RunsOf_e k) :=
  fn_ok (C := impl_RunsOf_C k) tabOK eqTabOK (impl_RunsOf_es k) rfl follows Try.func44 (by kernel_rfl) (by kernel_rfl) rfl (forall_getD _ 0 (0, Code.skip) (by kernel_rfl) fun i hi => by
      omega)
    dec_enc_lb dec_enc_li (impl_RunsOf_run k)

def laws_eqRunS_t0 : StTm := ⟨27, [(0, .slv 30), (1, .slv 30), (5, .int .i64)], []⟩
def laws_eqRunS_t0_1 : StTm := ⟨27, [(4, .bool)], []⟩
def laws_eqRunS_t0_2 : StTm := ⟨27, [], []⟩
def laws_eqRunS_w0 (k : Nat) (R : Type) (K : Ex → St → Option R) (rec : (List Int) × (List Int) × Int → Option R) (p : (List Int) × (List Int) × Int) : Option R := laws_eqRunS_s0 k (fun y1 => K .ret (fSt laws_eqRunS_t0_1 [.b y1])) (K (.exit 0) (fSt laws_eqRunS_t0_2 [])) (fun h1 h2 h3 => rec (h1, h2, h3)) p.1 p.2.1 p.2.2
def laws_eqRunS_c0 (k : Nat) : Lcall := lcallOf tab laws_eqRunS_t0 dec_lli [0, 1, 5] k (laws_eqRunS_w0 k)
def laws_eqRunS_C (k : Nat) : Cfg := ⟨tab, mvs, oraOf [laws_eqRun_e k], loOf [(0, laws_eqRunS_c0 k)]⟩
theorem laws_eqRunS_es (k : Nat) : ∀ e ∈ ([laws_eqRun_e k] : List Ent), EntOK Try.prog tab mvs e := by
  intro e he
  simp only [List.mem_cons, List.not_mem_nil, or_false] at he
  rcases he with rfl
  · exact laws_eqRun_ok k
theorem laws_eqRunS_step0 (k : Nat) (R : Type) (K : Ex → St → Option R) (g : St → Option R) (p : (List Int) × (List Int) × Int) : evCode (laws_eqRunS_C k) (loopP [0] (0, codeOf Try.f45)).2 (loopP [0] (0, codeOf Try.f45)).1 (fSt laws_eqRunS_t0 (enc_lli p)) (loopK tab [0, 1, 5] [] [4] g K) = laws_eqRunS_w0 k R K (fun p => g (fSt laws_eqRunS_t0 (enc_lli p))) p := by
  kernel_rfl
theorem laws_eqRunS_lok0 (k : Nat) : LoopOK Try.prog tab (laws_eqRunS_C k).lo (loopP [0] (0, codeOf Try.f45)).1 (loopP [0] (0, codeOf Try.f45)).2 :=
  loopOK_of (C := laws_eqRunS_C k) tabOK eqTabOK (oraOf_ok (laws_eqRunS_es k)) (oraOf_nat (laws_eqRunS_es k)) follows (forall_getD _ 0 (0, Code.skip) (by kernel_rfl) fun i hi => by
      omega)
    (tm := laws_eqRunS_t0) (dec := dec_lli) (enc := enc_lli) (ksIn := [0, 1, 5]) (ksOut := []) (ksRet := [4]) (k := k) (step := laws_eqRunS_w0 k) dec_enc_lli (fun p => by kernel_rfl) (fun s R K => by kernel_rfl) (laws_eqRunS_step0 k)
def laws_eqRunS_e (k : Nat) : Ent := (45, callOf [.slv 30, .slv 30] dec_ll fun (p : (List Int) × (List Int)) R K => (laws_eqRunS k p.1 p.2).bind fun (b : Bool) => K ((fV (.bool) (enc_b b)).1, none))
theorem laws_eqRunS_run (k : Nat) (p : (List Int) × (List Int)) : runF (laws_eqRunS_C k) Try.f45 false (fL [.slv 30, .slv 30] (enc_ll p)).1 (resK (.bool) dec_b) = laws_eqRunS k p.1 p.2 := by
  kernel_rfl
theorem laws_eqRunS_ok (k : Nat) : EntOK Try.prog tab mvs (laws_eqRunS_e k) :=
  fn_ok (C := laws_eqRunS_C k) tabOK eqTabOK (laws_eqRunS_es k) rfl follows Try.func45 (by kernel_rfl) (by kernel_rfl) rfl (forall_getD _ 1 (0, Code.skip) (by kernel_rfl) fun i hi => by
      match i, hi with
      | 0, _ => exact laws_eqRunS_lok0 k
      | n + 1, h => omega)
    dec_enc_ll dec_enc_b (laws_eqRunS_run k)

def laws_markRunS_t0 : StTm := ⟨39, [(0, .slw 39 30), (1, .int .i64), (5, .int .i64)], [(39, 30, false, .ints)]⟩
def laws_markRunS_t0_1 : StTm := ⟨39, [(1, .int .i64)], [(39, 30, false, .ints)]⟩
def laws_markRunS_w0 (k : Nat) (R : Type) (K : Ex → St → Option R) (rec : Int × Int × (List Int) → Option R) (p : Int × Int × (List Int)) : Option R := laws_markRunS_s0 k (fun y1 y2 => K (.exit 0) (fSt laws_markRunS_t0_1 [.i y1, .l y2])) (fun h1 h2 h3 => rec (h1, h2, h3)) p.1 p.2.1 p.2.2
def laws_markRunS_c0 (k : Nat) : Lcall := lcallOf tab laws_markRunS_t0 dec_iil [0, 1, 5] k (laws_markRunS_w0 k)
def laws_markRunS_C (k : Nat) : Cfg := ⟨tab, mvs, oraOf [], loOf [(0, laws_markRunS_c0 k)]⟩
theorem laws_markRunS_es (k : Nat) : ∀ e ∈ ([] : List Ent), EntOK Try.prog tab mvs e := by
  intro e he
  simp at he
theorem laws_markRunS_step0 (k : Nat) (R : Type) (K : Ex → St → Option R) (g : St → Option R) (p : Int × Int × (List Int)) : evCode (laws_markRunS_C k) (loopP [0] (0, codeOf Try.f46)).2 (loopP [0] (0, codeOf Try.f46)).1 (fSt laws_markRunS_t0 (enc_iil p)) (loopK tab [0, 1, 5] [1] [4] g K) = laws_markRunS_w0 k R K (fun p => g (fSt laws_markRunS_t0 (enc_iil p))) p := by
  kernel_rfl
theorem laws_markRunS_lok0 (k : Nat) : LoopOK Try.prog tab (laws_markRunS_C k).lo (loopP [0] (0, codeOf Try.f46)).1 (loopP [0] (0, codeOf Try.f46)).2 :=
  loopOK_of (C := laws_markRunS_C k) tabOK eqTabOK (oraOf_ok (laws_markRunS_es k)) (oraOf_nat (laws_markRunS_es k)) follows (forall_getD _ 0 (0, Code.skip) (by kernel_rfl) fun i hi => by
      omega)
    (tm := laws_markRunS_t0) (dec := dec_iil) (enc := enc_iil) (ksIn := [0, 1, 5]) (ksOut := [1]) (ksRet := [4]) (k := k) (step := laws_markRunS_w0 k) dec_enc_iil (fun p => by kernel_rfl) (fun s R K => by kernel_rfl) (laws_markRunS_step0 k)
def laws_markRunS_e (k : Nat) : Ent := (46, callOf [.slv 30, .int .i64] dec_li fun (p : (List Int) × Int) R K => (laws_markRunS k p.1 p.2).bind fun (b : (Int) × List Int) => K ((fV (.int .i64) (enc_i b.1)).1, some b.2))
theorem laws_markRunS_run (k : Nat) (p : (List Int) × Int) : runF (laws_markRunS_C k) Try.f46 true (fL [.slv 30, .int .i64] (enc_li p)).1 (resB (.int .i64) dec_i) = laws_markRunS k p.1 p.2 := by
  kernel_rfl
theorem laws_markRunS_ok (k : Nat) : EntOK Try.prog tab mvs (laws_markRunS_e k) :=
  fnb_ok (C := laws_markRunS_C k) tabOK eqTabOK (laws_markRunS_es k) rfl follows Try.func46 (by kernel_rfl) (by kernel_rfl) rfl (forall_getD _ 1 (0, Code.skip) (by kernel_rfl) fun i hi => by
      match i, hi with
      | 0, _ => exact laws_markRunS_lok0 k
      | n + 1, h => omega)
    dec_enc_li dec_enc_i (laws_markRunS_run k)

def laws_heldRunS_t0 : StTm := ⟨45, [(0, .slv 30), (1, .int .i64), (5, .int .i64)], []⟩
def laws_heldRunS_t0_1 : StTm := ⟨45, [(4, .int .i64)], []⟩
def laws_heldRunS_t0_2 : StTm := ⟨45, [(1, .int .i64)], []⟩
def laws_heldRunS_w0 (k : Nat) (R : Type) (K : Ex → St → Option R) (rec : (List Int) × Int × Int → Option R) (p : (List Int) × Int × Int) : Option R := laws_heldRunS_s0 k (fun y1 => K .ret (fSt laws_heldRunS_t0_1 [.i y1])) (fun y1 => K (.exit 0) (fSt laws_heldRunS_t0_2 [.i y1])) (fun h1 h2 h3 => rec (h1, h2, h3)) p.1 p.2.1 p.2.2
def laws_heldRunS_c0 (k : Nat) : Lcall := lcallOf tab laws_heldRunS_t0 dec_lii [0, 1, 5] k (laws_heldRunS_w0 k)
def laws_heldRunS_C (k : Nat) : Cfg := ⟨tab, mvs, oraOf [], loOf [(0, laws_heldRunS_c0 k)]⟩
theorem laws_heldRunS_es (k : Nat) : ∀ e ∈ ([] : List Ent), EntOK Try.prog tab mvs e := by
  intro e he
  simp at he
theorem laws_heldRunS_step0 (k : Nat) (R : Type) (K : Ex → St → Option R) (g : St → Option R) (p : (List Int) × Int × Int) : evCode (laws_heldRunS_C k) (loopP [0] (0, codeOf Try.f47)).2 (loopP [0] (0, codeOf Try.f47)).1 (fSt laws_heldRunS_t0 (enc_lii p)) (loopK tab [0, 1, 5] [1] [4] g K) = laws_heldRunS_w0 k R K (fun p => g (fSt laws_heldRunS_t0 (enc_lii p))) p := by
  kernel_rfl
theorem laws_heldRunS_lok0 (k : Nat) : LoopOK Try.prog tab (laws_heldRunS_C k).lo (loopP [0] (0, codeOf Try.f47)).1 (loopP [0] (0, codeOf Try.f47)).2 :=
  loopOK_of (C := laws_heldRunS_C k) tabOK eqTabOK (oraOf_ok (laws_heldRunS_es k)) (oraOf_nat (laws_heldRunS_es k)) follows (forall_getD _ 0 (0, Code.skip) (by kernel_rfl) fun i hi => by
      omega)
    (tm := laws_heldRunS_t0) (dec := dec_lii) (enc := enc_lii) (ksIn := [0, 1, 5]) (ksOut := [1]) (ksRet := [4]) (k := k) (step := laws_heldRunS_w0 k) dec_enc_lii (fun p => by kernel_rfl) (fun s R K => by kernel_rfl) (laws_heldRunS_step0 k)
def laws_heldRunS_e (k : Nat) : Ent := (47, callOf [.slv 30, .int .i64] dec_li fun (p : (List Int) × Int) R K => (laws_heldRunS k p.1 p.2).bind fun (b : Int) => K ((fV (.int .i64) (enc_i b)).1, none))
theorem laws_heldRunS_run (k : Nat) (p : (List Int) × Int) : runF (laws_heldRunS_C k) Try.f47 false (fL [.slv 30, .int .i64] (enc_li p)).1 (resK (.int .i64) dec_i) = laws_heldRunS k p.1 p.2 := by
  kernel_rfl
theorem laws_heldRunS_ok (k : Nat) : EntOK Try.prog tab mvs (laws_heldRunS_e k) :=
  fn_ok (C := laws_heldRunS_C k) tabOK eqTabOK (laws_heldRunS_es k) rfl follows Try.func47 (by kernel_rfl) (by kernel_rfl) rfl (forall_getD _ 1 (0, Code.skip) (by kernel_rfl) fun i hi => by
      match i, hi with
      | 0, _ => exact laws_heldRunS_lok0 k
      | n + 1, h => omega)
    dec_enc_li dec_enc_i (laws_heldRunS_run k)

def laws_FnExactRunsOf_C (k : Nat) : Cfg := ⟨tab, mvs, oraOf [laws_toLawn_e k, spec_RunsOf_e k, impl_RunsOf_e k, laws_eqRunS_e k, laws_markRunS_e k, laws_heldRunS_e k], loOf []⟩
theorem laws_FnExactRunsOf_es (k : Nat) : ∀ e ∈ ([laws_toLawn_e k, spec_RunsOf_e k, impl_RunsOf_e k, laws_eqRunS_e k, laws_markRunS_e k, laws_heldRunS_e k] : List Ent), EntOK Try.prog tab mvs e := by
  intro e he
  simp only [List.mem_cons, List.not_mem_nil, or_false] at he
  rcases he with rfl | rfl | rfl | rfl | rfl | rfl
  · exact laws_toLawn_ok k
  · exact spec_RunsOf_ok k
  · exact impl_RunsOf_ok k
  · exact laws_eqRunS_ok k
  · exact laws_markRunS_ok k
  · exact laws_heldRunS_ok k
def laws_FnExactRunsOf_e (k : Nat) : Ent := (11, callOf [.agg 26, .bool] dec_lb fun (p : (List Int) × Bool) R K => (laws_FnExactRunsOf k p.1 p.2).bind fun (b : Bool) => K ((fV (.bool) (enc_b b)).1, none))
theorem laws_FnExactRunsOf_run (k : Nat) (p : (List Int) × Bool) : runF (laws_FnExactRunsOf_C k) Try.f11 false (fL [.agg 26, .bool] (enc_lb p)).1 (resK (.bool) dec_b) = laws_FnExactRunsOf k p.1 p.2 := by
  kernel_rfl
theorem laws_FnExactRunsOf_ok (k : Nat) : EntOK Try.prog tab mvs (laws_FnExactRunsOf_e k) :=
  fn_ok (C := laws_FnExactRunsOf_C k) tabOK eqTabOK (laws_FnExactRunsOf_es k) rfl follows Try.func11 (by kernel_rfl) (by kernel_rfl) rfl (forall_getD _ 0 (0, Code.skip) (by kernel_rfl) fun i hi => by
      omega)
    dec_enc_lb dec_enc_b (laws_FnExactRunsOf_run k)

def spec_l05Edge_C (k : Nat) : Cfg := ⟨tab, mvs, oraOf [spec_l05All_e k], loOf []⟩
theorem spec_l05Edge_es (k : Nat) : ∀ e ∈ ([spec_l05All_e k] : List Ent), EntOK Try.prog tab mvs e := by
  intro e he
  simp only [List.mem_cons, List.not_mem_nil, or_false] at he
  rcases he with rfl
  · exact spec_l05All_ok k
def spec_l05Edge_e (k : Nat) : Ent := (96, callOf [.pvi (some 33) 0 33] dec_l fun (p : (List Int)) R K => (spec_l05Edge k p).bind fun (b : Int) => K ((fV (.int .i64) (enc_i b)).1, none))
theorem spec_l05Edge_run (k : Nat) (p : (List Int)) : runF (spec_l05Edge_C k) Try.f96 false (fL [.pvi (some 33) 0 33] (enc_l p)).1 (resK (.int .i64) dec_i) = spec_l05Edge k p := by
  kernel_rfl
theorem spec_l05Edge_ok (k : Nat) : EntOK Try.prog tab mvs (spec_l05Edge_e k) :=
  fn_ok (C := spec_l05Edge_C k) tabOK eqTabOK (spec_l05Edge_es k) rfl follows Try.func96 (by kernel_rfl) (by kernel_rfl) rfl (forall_getD _ 0 (0, Code.skip) (by kernel_rfl) fun i hi => by
      omega)
    dec_enc_l dec_enc_i (spec_l05Edge_run k)

def spec_GiveUp_t0 : StTm := ⟨46, [(1, .ptr 1 0 33), (2, .ptr 2 0 28), (5, .ptr 5 0 28), (6, .int .i64), (7, .slw 7 28), (8, .int .i64)], [(1, 33, true, .ints), (2, 28, true, .ints), (5, 28, true, .ints), (7, 28, false, .ints)]⟩
def spec_GiveUp_t0_1 : StTm := ⟨46, [(2, .ptr 2 0 28), (5, .ptr 5 0 28), (6, .int .i64)], [(2, 28, true, .ints), (5, 28, true, .ints)]⟩
def spec_GiveUp_w0 (k : Nat) (R : Type) (K : Ex → St → Option R) (rec : Int × Int × (List Int) × (List Int) × (List Int) × (List Int) → Option R) (p : Int × Int × (List Int) × (List Int) × (List Int) × (List Int)) : Option R := spec_GiveUp_s0 k (fun y1 y2 y3 => K (.exit 0) (fSt spec_GiveUp_t0_1 [.i y1, .l y2, .l y3])) (fun h1 h2 h3 h4 h5 h6 => rec (h1, h2, h3, h4, h5, h6)) p.1 p.2.1 p.2.2.1 p.2.2.2.1 p.2.2.2.2.1 p.2.2.2.2.2
def spec_GiveUp_c0 (k : Nat) : Lcall := lcallOf tab spec_GiveUp_t0 dec_iillll [1, 2, 5, 6, 7, 8] k (spec_GiveUp_w0 k)
def spec_GiveUp_C (k : Nat) : Cfg := ⟨tab, mvs, oraOf [spec_l01Ok_e k, spec_l01Cells_e k, spec_l05With_e k, spec_l05Edge_e k], loOf [(0, spec_GiveUp_c0 k)]⟩
theorem spec_GiveUp_es (k : Nat) : ∀ e ∈ ([spec_l01Ok_e k, spec_l01Cells_e k, spec_l05With_e k, spec_l05Edge_e k] : List Ent), EntOK Try.prog tab mvs e := by
  intro e he
  simp only [List.mem_cons, List.not_mem_nil, or_false] at he
  rcases he with rfl | rfl | rfl | rfl
  · exact spec_l01Ok_ok k
  · exact spec_l01Cells_ok k
  · exact spec_l05With_ok k
  · exact spec_l05Edge_ok k
theorem spec_GiveUp_step0 (k : Nat) (R : Type) (K : Ex → St → Option R) (g : St → Option R) (p : Int × Int × (List Int) × (List Int) × (List Int) × (List Int)) : evCode (spec_GiveUp_C k) (loopP [0] (0, codeOf Try.f50)).2 (loopP [0] (0, codeOf Try.f50)).1 (fSt spec_GiveUp_t0 (enc_iillll p)) (loopK tab [1, 2, 5, 6, 7, 8] [2, 5, 6] [2, 3, 4] g K) = spec_GiveUp_w0 k R K (fun p => g (fSt spec_GiveUp_t0 (enc_iillll p))) p := by
  kernel_rfl
theorem spec_GiveUp_lok0 (k : Nat) : LoopOK Try.prog tab (spec_GiveUp_C k).lo (loopP [0] (0, codeOf Try.f50)).1 (loopP [0] (0, codeOf Try.f50)).2 :=
  loopOK_of (C := spec_GiveUp_C k) tabOK eqTabOK (oraOf_ok (spec_GiveUp_es k)) (oraOf_nat (spec_GiveUp_es k)) follows (forall_getD _ 0 (0, Code.skip) (by kernel_rfl) fun i hi => by
      omega)
    (tm := spec_GiveUp_t0) (dec := dec_iillll) (enc := enc_iillll) (ksIn := [1, 2, 5, 6, 7, 8]) (ksOut := [2, 5, 6]) (ksRet := [2, 3, 4]) (k := k) (step := spec_GiveUp_w0 k) dec_enc_iillll (fun p => by kernel_rfl) (fun s R K => by kernel_rfl) (spec_GiveUp_step0 k)
def spec_GiveUp_e (k : Nat) : Ent := (50, callOf [.agg 33] dec_l fun (p : (List Int)) R K => (spec_GiveUp k p).bind fun (b : (List Int) × Int × Int) => K ((fV (.tup [.agg 28, .int .i64, .int .i64]) (enc_lii b)).1, none))
theorem spec_GiveUp_run (k : Nat) (p : (List Int)) : runF (spec_GiveUp_C k) Try.f50 false (fL [.agg 33] (enc_l p)).1 (resK (.tup [.agg 28, .int .i64, .int .i64]) dec_lii) = spec_GiveUp k p := by
  kernel_rfl
theorem spec_GiveUp_ok (k : Nat) : EntOK Try.prog tab mvs (spec_GiveUp_e k) :=
  fn_ok (C := spec_GiveUp_C k) tabOK eqTabOK (spec_GiveUp_es k) rfl follows Try.func50 (by kernel_rfl) (by kernel_rfl) rfl (forall_getD _ 1 (0, Code.skip) (by kernel_rfl) fun i hi => by
      match i, hi with
      | 0, _ => exact spec_GiveUp_lok0 k
      | n + 1, h => omega)
    dec_enc_l dec_enc_lii (spec_GiveUp_run k)

def impl_GiveUp_1_C (k : Nat) : Cfg := ⟨tab, mvs, oraOf [impl_Lawn_is_e k], loOf []⟩
theorem impl_GiveUp_1_es (k : Nat) : ∀ e ∈ ([impl_Lawn_is_e k] : List Ent), EntOK Try.prog tab mvs e := by
  intro e he
  simp only [List.mem_cons, List.not_mem_nil, or_false] at he
  rcases he with rfl
  · exact impl_Lawn_is_ok k
def impl_GiveUp_1_e (k : Nat) : Ent := (97, callOf [.agg 28, .pvi (some 33) 0 33] dec_ll fun (p : (List Int) × (List Int)) R K => (impl_GiveUp_1 k p.1 p.2).bind fun (b : Bool) => K ((fV (.bool) (enc_b b)).1, none))
theorem impl_GiveUp_1_run (k : Nat) (p : (List Int) × (List Int)) : runF (impl_GiveUp_1_C k) Try.f97 false (fL [.agg 28, .pvi (some 33) 0 33] (enc_ll p)).1 (resK (.bool) dec_b) = impl_GiveUp_1 k p.1 p.2 := by
  kernel_rfl
theorem impl_GiveUp_1_ok (k : Nat) : EntOK Try.prog tab mvs (impl_GiveUp_1_e k) :=
  fn_ok (C := impl_GiveUp_1_C k) tabOK eqTabOK (impl_GiveUp_1_es k) rfl follows Try.func97 (by kernel_rfl) (by kernel_rfl) rfl (forall_getD _ 0 (0, Code.skip) (by kernel_rfl) fun i hi => by
      omega)
    dec_enc_ll dec_enc_b (impl_GiveUp_1_run k)

def impl_Lawn_edge_C (k : Nat) : Cfg := ⟨tab, mvs, oraOf [impl_Lawn_sides_e k], loOf []⟩
theorem impl_Lawn_edge_es (k : Nat) : ∀ e ∈ ([impl_Lawn_sides_e k] : List Ent), EntOK Try.prog tab mvs e := by
  intro e he
  simp only [List.mem_cons, List.not_mem_nil, or_false] at he
  rcases he with rfl
  · exact impl_Lawn_sides_ok k
def impl_Lawn_edge_e (k : Nat) : Ent := (98, callOf [.agg 33] dec_l fun (p : (List Int)) R K => (impl_Lawn_edge k p).bind fun (b : Int) => K ((fV (.int .i64) (enc_i b)).1, none))
theorem impl_Lawn_edge_run (k : Nat) (p : (List Int)) : runF (impl_Lawn_edge_C k) Try.f98 false (fL [.agg 33] (enc_l p)).1 (resK (.int .i64) dec_i) = impl_Lawn_edge k p := by
  kernel_rfl
theorem impl_Lawn_edge_ok (k : Nat) : EntOK Try.prog tab mvs (impl_Lawn_edge_e k) :=
  fn_ok (C := impl_Lawn_edge_C k) tabOK eqTabOK (impl_Lawn_edge_es k) rfl follows Try.func98 (by kernel_rfl) (by kernel_rfl) rfl (forall_getD _ 0 (0, Code.skip) (by kernel_rfl) fun i hi => by
      omega)
    dec_enc_l dec_enc_i (impl_Lawn_edge_run k)

def dec_iiillll (ps : List Pay) : Option (Int × Int × Int × (List Int) × (List Int) × (List Int) × (List Int)) := match ps with
  | [.i x1, .i x2, .i x3, .l x4, .l x5, .l x6, .l x7] => some (x1, x2, x3, x4, x5, x6, x7)
  | _ => none
def enc_iiillll (p : Int × Int × Int × (List Int) × (List Int) × (List Int) × (List Int)) : List Pay := [.i p.1, .i p.2.1, .i p.2.2.1, .l p.2.2.2.1, .l p.2.2.2.2.1, .l p.2.2.2.2.2.1, .l p.2.2.2.2.2.2]
theorem dec_enc_iiillll : ∀ (ps : List Pay) (p : Int × Int × Int × (List Int) × (List Int) × (List Int) × (List Int)), dec_iiillll ps = some p → ps = enc_iiillll p := by
  intro ps p h
  unfold dec_iiillll at h
  split at h
  · injection h with h
    subst h
    rfl
  · cases h

def impl_GiveUp_t0 : StTm := ⟨42, [(1, .ptr 1 0 33), (2, .ptr 2 0 28), (5, .ptr 5 0 28), (6, .int .i64), (17, .slw 17 28), (18, .int .i64), (19, .int .i64)], [(1, 33, true, .ints), (2, 28, true, .ints), (5, 28, true, .ints), (17, 28, false, .ints)]⟩
def impl_GiveUp_t0_1 : StTm := ⟨42, [(2, .ptr 2 0 28), (5, .ptr 5 0 28), (6, .int .i64)], [(2, 28, true, .ints), (5, 28, true, .ints)]⟩
def impl_GiveUp_w0 (k : Nat) (R : Type) (K : Ex → St → Option R) (rec : Int × Int × Int × (List Int) × (List Int) × (List Int) × (List Int) → Option R) (p : Int × Int × Int × (List Int) × (List Int) × (List Int) × (List Int)) : Option R := impl_GiveUp_s0 k (fun y1 y2 y3 => K (.exit 0) (fSt impl_GiveUp_t0_1 [.i y1, .l y2, .l y3])) (fun h1 h2 h3 h4 h5 h6 h7 => rec (h1, h2, h3, h4, h5, h6, h7)) p.1 p.2.1 p.2.2.1 p.2.2.2.1 p.2.2.2.2.1 p.2.2.2.2.2.1 p.2.2.2.2.2.2
def impl_GiveUp_c0 (k : Nat) : Lcall := lcallOf tab impl_GiveUp_t0 dec_iiillll [1, 2, 5, 6, 17, 18, 19] k (impl_GiveUp_w0 k)
def impl_GiveUp_C (k : Nat) : Cfg := ⟨tab, mvs, oraOf [impl_ValidLawn_e k, impl_GiveUp_1_e k, impl_Lawn_those_e k, impl_Lawn_turned_e k, impl_Lawn_edge_e k], loOf [(0, impl_GiveUp_c0 k)]⟩
theorem impl_GiveUp_es (k : Nat) : ∀ e ∈ ([impl_ValidLawn_e k, impl_GiveUp_1_e k, impl_Lawn_those_e k, impl_Lawn_turned_e k, impl_Lawn_edge_e k] : List Ent), EntOK Try.prog tab mvs e := by
  intro e he
  simp only [List.mem_cons, List.not_mem_nil, or_false] at he
  rcases he with rfl | rfl | rfl | rfl | rfl
  · exact impl_ValidLawn_ok k
  · exact impl_GiveUp_1_ok k
  · exact impl_Lawn_those_ok k
  · exact impl_Lawn_turned_ok k
  · exact impl_Lawn_edge_ok k
theorem impl_GiveUp_step0 (k : Nat) (R : Type) (K : Ex → St → Option R) (g : St → Option R) (p : Int × Int × Int × (List Int) × (List Int) × (List Int) × (List Int)) : evCode (impl_GiveUp_C k) (loopP [0] (0, codeOf Try.f51)).2 (loopP [0] (0, codeOf Try.f51)).1 (fSt impl_GiveUp_t0 (enc_iiillll p)) (loopK tab [1, 2, 5, 6, 17, 18, 19] [2, 5, 6] [2, 3, 4] g K) = impl_GiveUp_w0 k R K (fun p => g (fSt impl_GiveUp_t0 (enc_iiillll p))) p := by
  kernel_rfl
theorem impl_GiveUp_lok0 (k : Nat) : LoopOK Try.prog tab (impl_GiveUp_C k).lo (loopP [0] (0, codeOf Try.f51)).1 (loopP [0] (0, codeOf Try.f51)).2 :=
  loopOK_of (C := impl_GiveUp_C k) tabOK eqTabOK (oraOf_ok (impl_GiveUp_es k)) (oraOf_nat (impl_GiveUp_es k)) follows (forall_getD _ 0 (0, Code.skip) (by kernel_rfl) fun i hi => by
      omega)
    (tm := impl_GiveUp_t0) (dec := dec_iiillll) (enc := enc_iiillll) (ksIn := [1, 2, 5, 6, 17, 18, 19]) (ksOut := [2, 5, 6]) (ksRet := [2, 3, 4]) (k := k) (step := impl_GiveUp_w0 k) dec_enc_iiillll (fun p => by kernel_rfl) (fun s R K => by kernel_rfl) (impl_GiveUp_step0 k)
def impl_GiveUp_e (k : Nat) : Ent := (51, callOf [.agg 33] dec_l fun (p : (List Int)) R K => (impl_GiveUp k p).bind fun (b : (List Int) × Int × Int) => K ((fV (.tup [.agg 28, .int .i64, .int .i64]) (enc_lii b)).1, none))
theorem impl_GiveUp_run (k : Nat) (p : (List Int)) : runF (impl_GiveUp_C k) Try.f51 false (fL [.agg 33] (enc_l p)).1 (resK (.tup [.agg 28, .int .i64, .int .i64]) dec_lii) = impl_GiveUp k p := by
  kernel_rfl
theorem impl_GiveUp_ok (k : Nat) : EntOK Try.prog tab mvs (impl_GiveUp_e k) :=
  fn_ok (C := impl_GiveUp_C k) tabOK eqTabOK (impl_GiveUp_es k) rfl follows Try.func51 (by kernel_rfl) (by kernel_rfl) rfl (forall_getD _ 1 (0, Code.skip) (by kernel_rfl) fun i hi => by
      match i, hi with
      | 0, _ => exact impl_GiveUp_lok0 k
      | n + 1, h => omega)
    dec_enc_l dec_enc_lii (impl_GiveUp_run k)

def laws_FnExactGiveUp_C (k : Nat) : Cfg := ⟨tab, mvs, oraOf [laws_toLawn_e k, spec_GiveUp_e k, impl_GiveUp_e k, laws_eqCell_e k], loOf []⟩
theorem laws_FnExactGiveUp_es (k : Nat) : ∀ e ∈ ([laws_toLawn_e k, spec_GiveUp_e k, impl_GiveUp_e k, laws_eqCell_e k] : List Ent), EntOK Try.prog tab mvs e := by
  intro e he
  simp only [List.mem_cons, List.not_mem_nil, or_false] at he
  rcases he with rfl | rfl | rfl | rfl
  · exact laws_toLawn_ok k
  · exact spec_GiveUp_ok k
  · exact impl_GiveUp_ok k
  · exact laws_eqCell_ok k
def laws_FnExactGiveUp_e (k : Nat) : Ent := (13, callOf [.agg 26] dec_l fun (p : (List Int)) R K => (laws_FnExactGiveUp k p).bind fun (b : Bool) => K ((fV (.bool) (enc_b b)).1, none))
theorem laws_FnExactGiveUp_run (k : Nat) (p : (List Int)) : runF (laws_FnExactGiveUp_C k) Try.f13 false (fL [.agg 26] (enc_l p)).1 (resK (.bool) dec_b) = laws_FnExactGiveUp k p := by
  kernel_rfl
theorem laws_FnExactGiveUp_ok (k : Nat) : EntOK Try.prog tab mvs (laws_FnExactGiveUp_e k) :=
  fn_ok (C := laws_FnExactGiveUp_C k) tabOK eqTabOK (laws_FnExactGiveUp_es k) rfl follows Try.func13 (by kernel_rfl) (by kernel_rfl) rfl (forall_getD _ 0 (0, Code.skip) (by kernel_rfl) fun i hi => by
      omega)
    dec_enc_l dec_enc_b (laws_FnExactGiveUp_run k)

def spec_PlantAt_t0 : StTm := ⟨42, [(1, .ptr 1 0 33), (2, .ptr 2 0 28), (5, .ptr 5 0 28), (6, .int .i64), (7, .slw 7 28), (8, .int .i64)], [(1, 33, true, .ints), (2, 28, true, .ints), (5, 28, true, .ints), (7, 28, false, .ints)]⟩
def spec_PlantAt_t0_1 : StTm := ⟨42, [(2, .ptr 2 0 28), (5, .ptr 5 0 28), (6, .int .i64)], [(2, 28, true, .ints), (5, 28, true, .ints)]⟩
def spec_PlantAt_w0 (k : Nat) (R : Type) (K : Ex → St → Option R) (rec : Int × Int × (List Int) × (List Int) × (List Int) × (List Int) → Option R) (p : Int × Int × (List Int) × (List Int) × (List Int) × (List Int)) : Option R := spec_PlantAt_s0 k (fun y1 y2 y3 => K (.exit 0) (fSt spec_PlantAt_t0_1 [.i y1, .l y2, .l y3])) (fun h1 h2 h3 h4 h5 h6 => rec (h1, h2, h3, h4, h5, h6)) p.1 p.2.1 p.2.2.1 p.2.2.2.1 p.2.2.2.2.1 p.2.2.2.2.2
def spec_PlantAt_c0 (k : Nat) : Lcall := lcallOf tab spec_PlantAt_t0 dec_iillll [1, 2, 5, 6, 7, 8] k (spec_PlantAt_w0 k)
def spec_PlantAt_C (k : Nat) : Cfg := ⟨tab, mvs, oraOf [spec_l01Ok_e k, spec_l01Cells_e k, spec_l05With_e k, spec_l05Edge_e k], loOf [(0, spec_PlantAt_c0 k)]⟩
theorem spec_PlantAt_es (k : Nat) : ∀ e ∈ ([spec_l01Ok_e k, spec_l01Cells_e k, spec_l05With_e k, spec_l05Edge_e k] : List Ent), EntOK Try.prog tab mvs e := by
  intro e he
  simp only [List.mem_cons, List.not_mem_nil, or_false] at he
  rcases he with rfl | rfl | rfl | rfl
  · exact spec_l01Ok_ok k
  · exact spec_l01Cells_ok k
  · exact spec_l05With_ok k
  · exact spec_l05Edge_ok k
theorem spec_PlantAt_step0 (k : Nat) (R : Type) (K : Ex → St → Option R) (g : St → Option R) (p : Int × Int × (List Int) × (List Int) × (List Int) × (List Int)) : evCode (spec_PlantAt_C k) (loopP [0] (0, codeOf Try.f52)).2 (loopP [0] (0, codeOf Try.f52)).1 (fSt spec_PlantAt_t0 (enc_iillll p)) (loopK tab [1, 2, 5, 6, 7, 8] [2, 5, 6] [2, 3, 4] g K) = spec_PlantAt_w0 k R K (fun p => g (fSt spec_PlantAt_t0 (enc_iillll p))) p := by
  kernel_rfl
theorem spec_PlantAt_lok0 (k : Nat) : LoopOK Try.prog tab (spec_PlantAt_C k).lo (loopP [0] (0, codeOf Try.f52)).1 (loopP [0] (0, codeOf Try.f52)).2 :=
  loopOK_of (C := spec_PlantAt_C k) tabOK eqTabOK (oraOf_ok (spec_PlantAt_es k)) (oraOf_nat (spec_PlantAt_es k)) follows (forall_getD _ 0 (0, Code.skip) (by kernel_rfl) fun i hi => by
      omega)
    (tm := spec_PlantAt_t0) (dec := dec_iillll) (enc := enc_iillll) (ksIn := [1, 2, 5, 6, 7, 8]) (ksOut := [2, 5, 6]) (ksRet := [2, 3, 4]) (k := k) (step := spec_PlantAt_w0 k) dec_enc_iillll (fun p => by kernel_rfl) (fun s R K => by kernel_rfl) (spec_PlantAt_step0 k)
def spec_PlantAt_e (k : Nat) : Ent := (52, callOf [.agg 33] dec_l fun (p : (List Int)) R K => (spec_PlantAt k p).bind fun (b : (List Int) × Int × Int) => K ((fV (.tup [.agg 28, .int .i64, .int .i64]) (enc_lii b)).1, none))
theorem spec_PlantAt_run (k : Nat) (p : (List Int)) : runF (spec_PlantAt_C k) Try.f52 false (fL [.agg 33] (enc_l p)).1 (resK (.tup [.agg 28, .int .i64, .int .i64]) dec_lii) = spec_PlantAt k p := by
  kernel_rfl
theorem spec_PlantAt_ok (k : Nat) : EntOK Try.prog tab mvs (spec_PlantAt_e k) :=
  fn_ok (C := spec_PlantAt_C k) tabOK eqTabOK (spec_PlantAt_es k) rfl follows Try.func52 (by kernel_rfl) (by kernel_rfl) rfl (forall_getD _ 1 (0, Code.skip) (by kernel_rfl) fun i hi => by
      match i, hi with
      | 0, _ => exact spec_PlantAt_lok0 k
      | n + 1, h => omega)
    dec_enc_l dec_enc_lii (spec_PlantAt_run k)


end Go.Proofs.Ytmpcninebooaiaa.Tt
