/- The code is what the functions in plain Lean say. -/
import Derived.Test.YtkdpdmfkomnalaaTab
import Derived.Test.YtkdpdmfkomnalaaSh
set_option linter.unusedVariables false
set_option linter.unusedSimpArgs false
set_option linter.unusedVariables false
namespace Go.Proofs.Ytkdpdmfkomnalaa.Tt
open Go.Ev Go
set_option maxRecDepth 100000


def mvs : List Nat := [136, 91, 53, 1000053, 99, 1000099, 101, 1000101, 134, 1000134]

def dec_ll (ps : List Pay) : Option ((List Int) × (List Int)) := match ps with
  | [.l x1, .l x2] => some (x1, x2)
  | _ => none
def enc_ll (p : (List Int) × (List Int)) : List Pay := [.l p.1, .l p.2]
theorem dec_enc_ll : ∀ (ps : List Pay) (p : (List Int) × (List Int)), dec_ll ps = some p → ps = enc_ll p := by
  intro ps p h
  unfold dec_ll at h
  split at h
  · injection h with h
    subst h
    rfl
  · cases h

def dec_b (ps : List Pay) : Option (Bool) := match ps with
  | [.b x1] => some x1
  | _ => none
def enc_b (p : Bool) : List Pay := [.b p]
theorem dec_enc_b : ∀ (ps : List Pay) (p : Bool), dec_b ps = some p → ps = enc_b p := by
  intro ps p h
  unfold dec_b at h
  split at h
  · injection h with h
    subst h
    rfl
  · cases h

def laws_a2Long_C (k : Nat) : Cfg := ⟨tab, mvs, oraOf [], loOf []⟩
theorem laws_a2Long_es (k : Nat) : ∀ e ∈ ([] : List Ent), EntOK Try.prog tab mvs e := by
  intro e he
  simp at he
def laws_a2Long_e (k : Nat) : Ent := (14, callOf [.slv 5, .slv 5] dec_ll fun (p : (List Int) × (List Int)) R K => (laws_a2Long k p.1 p.2).bind fun (b : Bool) => K ((fV (.bool) (enc_b b)).1, none))
theorem laws_a2Long_run (k : Nat) (p : (List Int) × (List Int)) : runF (laws_a2Long_C k) Try.f14 false (fL [.slv 5, .slv 5] (enc_ll p)).1 (resK (.bool) dec_b) = laws_a2Long k p.1 p.2 := by
  kernel_rfl
theorem laws_a2Long_ok (k : Nat) : EntOK Try.prog tab mvs (laws_a2Long_e k) :=
  fn_ok (C := laws_a2Long_C k) tabOK eqTabOK (laws_a2Long_es k) rfl follows Try.func14 (by kernel_rfl) (by kernel_rfl) rfl (forall_getD _ 0 (0, Code.skip) (by kernel_rfl) fun i hi => by
      omega)
    dec_enc_ll dec_enc_b (laws_a2Long_run k)

def dec_l (ps : List Pay) : Option ((List Int)) := match ps with
  | [.l x1] => some x1
  | _ => none
def enc_l (p : (List Int)) : List Pay := [.l p]
theorem dec_enc_l : ∀ (ps : List Pay) (p : (List Int)), dec_l ps = some p → ps = enc_l p := by
  intro ps p h
  unfold dec_l at h
  split at h
  · injection h with h
    subst h
    rfl
  · cases h

def dec_lii (ps : List Pay) : Option ((List Int) × Int × Int) := match ps with
  | [.l x1, .i x2, .i x3] => some (x1, x2, x3)
  | _ => none
def enc_lii (p : (List Int) × Int × Int) : List Pay := [.l p.1, .i p.2.1, .i p.2.2]
theorem dec_enc_lii : ∀ (ps : List Pay) (p : (List Int) × Int × Int), dec_lii ps = some p → ps = enc_lii p := by
  intro ps p h
  unfold dec_lii at h
  split at h
  · injection h with h
    subst h
    rfl
  · cases h

def spec_l00From_C (k : Nat) : Cfg := ⟨tab, mvs, oraOf [], loOf []⟩
theorem spec_l00From_es (k : Nat) : ∀ e ∈ ([] : List Ent), EntOK Try.prog tab mvs e := by
  intro e he
  simp at he
def spec_l00From_e (k : Nat) : Ent := (54, callOf [.slv 5] dec_l fun (p : (List Int)) R K => (spec_l00From k p).bind fun (b : (List Int) × Int × Int) => K ((fV (.ownO 160 [.sl 5, .i .i64, .i .u64]) (enc_lii b)).1, none))
theorem spec_l00From_run (k : Nat) (p : (List Int)) : runF (spec_l00From_C k) Try.f54 false (fL [.slv 5] (enc_l p)).1 (resK (.ownO 160 [.sl 5, .i .i64, .i .u64]) dec_lii) = spec_l00From k p := by
  kernel_rfl
theorem spec_l00From_ok (k : Nat) : EntOK Try.prog tab mvs (spec_l00From_e k) :=
  fn_ok (C := spec_l00From_C k) tabOK eqTabOK (spec_l00From_es k) rfl follows Try.func54 (by kernel_rfl) (by kernel_rfl) rfl (forall_getD _ 0 (0, Code.skip) (by kernel_rfl) fun i hi => by
      omega)
    dec_enc_l dec_enc_lii (spec_l00From_run k)

def dec_i (ps : List Pay) : Option (Int) := match ps with
  | [.i x1] => some x1
  | _ => none
def enc_i (p : Int) : List Pay := [.i p]
theorem dec_enc_i : ∀ (ps : List Pay) (p : Int), dec_i ps = some p → ps = enc_i p := by
  intro ps p h
  unfold dec_i at h
  split at h
  · injection h with h
    subst h
    rfl
  · cases h

def spec_l00Src_next_C (k : Nat) : Cfg := ⟨tab, mvs, oraOf [], loOf []⟩
theorem spec_l00Src_next_es (k : Nat) : ∀ e ∈ ([] : List Ent), EntOK Try.prog tab mvs e := by
  intro e he
  simp at he
def spec_l00Src_next_e (k : Nat) : Ent := (134, callOf [.ownO 160 [.sl 5, .i .i64, .i .u64]] dec_lii fun (p : (List Int) × Int × Int) R K => (spec_l00Src_next k p.1 p.2.1 p.2.2).bind fun (b : (Int) × ((List Int) × Int × Int)) => K ((fV (.int .i64) (enc_i b.1)).1, some (fDs [.obj [.sl 5, .i .i64, .i .u64]] (enc_lii b.2))))
theorem spec_l00Src_next_run (k : Nat) (p : (List Int) × Int × Int) : runF (spec_l00Src_next_C k) Try.f134 true (fL [.ownO 160 [.sl 5, .i .i64, .i .u64]] (enc_lii p)).1 (resB (.int .i64) dec_i [.obj [.sl 5, .i .i64, .i .u64]] dec_lii) = spec_l00Src_next k p.1 p.2.1 p.2.2 := by
  kernel_rfl
theorem spec_l00Src_next_ok (k : Nat) : EntOK Try.prog tab mvs (spec_l00Src_next_e k) :=
  fnb_ok (C := spec_l00Src_next_C k) tabOK eqTabOK (spec_l00Src_next_es k) rfl follows Try.func134 (by kernel_rfl) (by kernel_rfl) rfl (forall_getD _ 0 (0, Code.skip) (by kernel_rfl) fun i hi => by
      omega)
    dec_enc_lii dec_enc_i dec_enc_lii (spec_l00Src_next_run k)

def dec_liii (ps : List Pay) : Option ((List Int) × Int × Int × Int) := match ps with
  | [.l x1, .i x2, .i x3, .i x4] => some (x1, x2, x3, x4)
  | _ => none
def enc_liii (p : (List Int) × Int × Int × Int) : List Pay := [.l p.1, .i p.2.1, .i p.2.2.1, .i p.2.2.2]
theorem dec_enc_liii : ∀ (ps : List Pay) (p : (List Int) × Int × Int × Int), dec_liii ps = some p → ps = enc_liii p := by
  intro ps p h
  unfold dec_liii at h
  split at h
  · injection h with h
    subst h
    rfl
  · cases h

def spec_l00Src_pick_C (k : Nat) : Cfg := ⟨tab, mvs, oraOf [spec_l00Src_next_e k], loOf []⟩
theorem spec_l00Src_pick_es (k : Nat) : ∀ e ∈ ([spec_l00Src_next_e k] : List Ent), EntOK Try.prog tab mvs e := by
  intro e he
  simp only [List.mem_cons, List.not_mem_nil, or_false] at he
  rcases he with rfl
  · exact spec_l00Src_next_ok k
def spec_l00Src_pick_e (k : Nat) : Ent := (99, callOf [.ownO 160 [.sl 5, .i .i64, .i .u64], .int .i64] dec_liii fun (p : (List Int) × Int × Int × Int) R K => (spec_l00Src_pick k p.1 p.2.1 p.2.2.1 p.2.2.2).bind fun (b : (Int) × ((List Int) × Int × Int)) => K ((fV (.int .i64) (enc_i b.1)).1, some (fDs [.obj [.sl 5, .i .i64, .i .u64]] (enc_lii b.2))))
theorem spec_l00Src_pick_run (k : Nat) (p : (List Int) × Int × Int × Int) : runF (spec_l00Src_pick_C k) Try.f99 true (fL [.ownO 160 [.sl 5, .i .i64, .i .u64], .int .i64] (enc_liii p)).1 (resB (.int .i64) dec_i [.obj [.sl 5, .i .i64, .i .u64]] dec_lii) = spec_l00Src_pick k p.1 p.2.1 p.2.2.1 p.2.2.2 := by
  kernel_rfl
theorem spec_l00Src_pick_ok (k : Nat) : EntOK Try.prog tab mvs (spec_l00Src_pick_e k) :=
  fnb_ok (C := spec_l00Src_pick_C k) tabOK eqTabOK (spec_l00Src_pick_es k) rfl follows Try.func99 (by kernel_rfl) (by kernel_rfl) rfl (forall_getD _ 0 (0, Code.skip) (by kernel_rfl) fun i hi => by
      omega)
    dec_enc_liii dec_enc_i dec_enc_lii (spec_l00Src_pick_run k)

def dec_liil (ps : List Pay) : Option ((List Int) × Int × Int × (List Int)) := match ps with
  | [.l x1, .i x2, .i x3, .l x4] => some (x1, x2, x3, x4)
  | _ => none
def enc_liil (p : (List Int) × Int × Int × (List Int)) : List Pay := [.l p.1, .i p.2.1, .i p.2.2.1, .l p.2.2.2]
theorem dec_enc_liil : ∀ (ps : List Pay) (p : (List Int) × Int × Int × (List Int)), dec_liil ps = some p → ps = enc_liil p := by
  intro ps p h
  unfold dec_liil at h
  split at h
  · injection h with h
    subst h
    rfl
  · cases h

def dec_lil (ps : List Pay) : Option ((List Int) × Int × (List Int)) := match ps with
  | [.l x1, .i x2, .l x3] => some (x1, x2, x3)
  | _ => none
def enc_lil (p : (List Int) × Int × (List Int)) : List Pay := [.l p.1, .i p.2.1, .l p.2.2]
theorem dec_enc_lil : ∀ (ps : List Pay) (p : (List Int) × Int × (List Int)), dec_lil ps = some p → ps = enc_lil p := by
  intro ps p h
  unfold dec_lil at h
  split at h
  · injection h with h
    subst h
    rfl
  · cases h

def spec_l01All_t0 : StTm := ⟨30, [(0, .pvi (some 36) 0 36), (3, .slw 3 43), (4, .int .i8), (5, .int .i8)], [(3, 43, false, .ints)]⟩
def spec_l01All_t0_1 : StTm := ⟨30, [(0, .pvi (some 36) 0 36), (3, .slw 3 43), (4, .int .i8)], [(3, 43, false, .ints)]⟩
def spec_l01All_w0 (k : Nat) (R : Type) (K : Ex → St → Option R) (rec : (List Int) × Int × Int × (List Int) → Option R) (p : (List Int) × Int × Int × (List Int)) : Option R := spec_l01All_s0 k (fun y1 y2 y3 => K (.exit 2) (fSt spec_l01All_t0_1 [.l y1, .i y2, .l y3])) (fun h1 h2 h3 h4 => rec (h1, h2, h3, h4)) p.1 p.2.1 p.2.2.1 p.2.2.2
def spec_l01All_c0 (k : Nat) : Lcall := lcallOf tab spec_l01All_t0 dec_liil [0, 3, 4, 5] k (spec_l01All_w0 k)
def spec_l01All_t1 : StTm := ⟨30, [(0, .pvi (some 36) 0 36), (3, .slw 3 43), (4, .int .i8)], [(3, 43, false, .ints)]⟩
def spec_l01All_t1_1 : StTm := ⟨30, [(3, .slw 3 43)], [(3, 43, false, .ints)]⟩
def spec_l01All_w1 (k : Nat) (R : Type) (K : Ex → St → Option R) (rec : (List Int) × Int × (List Int) → Option R) (p : (List Int) × Int × (List Int)) : Option R := spec_l01All_s1 k (fun y1 => K (.exit 0) (fSt spec_l01All_t1_1 [.l y1])) (fun h1 h2 h3 => rec (h1, h2, h3)) p.1 p.2.1 p.2.2
def spec_l01All_c1 (k : Nat) : Lcall := lcallOf tab spec_l01All_t1 dec_lil [0, 3, 4] k (spec_l01All_w1 k)
def spec_l01All_C (k : Nat) : Cfg := ⟨tab, mvs, oraOf [], loOf [(2, spec_l01All_c0 k), (0, spec_l01All_c1 k)]⟩
theorem spec_l01All_es (k : Nat) : ∀ e ∈ ([] : List Ent), EntOK Try.prog tab mvs e := by
  intro e he
  simp at he
theorem spec_l01All_step0 (k : Nat) (R : Type) (K : Ex → St → Option R) (g : St → Option R) (p : (List Int) × Int × Int × (List Int)) : evCode (spec_l01All_C k) (loopP [0, 0] (0, codeOf Try.f100)).2 (loopP [0, 0] (0, codeOf Try.f100)).1 (fSt spec_l01All_t0 (enc_liil p)) (loopK tab [0, 3, 4, 5] [0, 3, 4] [2] g K) = spec_l01All_w0 k R K (fun p => g (fSt spec_l01All_t0 (enc_liil p))) p := by
  kernel_rfl
theorem spec_l01All_lok0 (k : Nat) : LoopOK Try.prog tab (spec_l01All_C k).lo (loopP [0, 0] (0, codeOf Try.f100)).1 (loopP [0, 0] (0, codeOf Try.f100)).2 :=
  loopOK_of (C := spec_l01All_C k) tabOK eqTabOK (oraOf_ok (spec_l01All_es k)) (oraOf_nat (spec_l01All_es k)) follows (forall_getD _ 0 (0, Code.skip) (by kernel_rfl) fun i hi => by
      omega)
    (tm := spec_l01All_t0) (dec := dec_liil) (enc := enc_liil) (ksIn := [0, 3, 4, 5]) (ksOut := [0, 3, 4]) (ksRet := [2]) (k := k) (step := spec_l01All_w0 k) dec_enc_liil (fun p => by kernel_rfl) (fun s R K => by kernel_rfl) (spec_l01All_step0 k)
theorem spec_l01All_step1 (k : Nat) (R : Type) (K : Ex → St → Option R) (g : St → Option R) (p : (List Int) × Int × (List Int)) : evCode (spec_l01All_C k) (loopP [0] (0, codeOf Try.f100)).2 (loopP [0] (0, codeOf Try.f100)).1 (fSt spec_l01All_t1 (enc_lil p)) (loopK tab [0, 3, 4] [3] [2] g K) = spec_l01All_w1 k R K (fun p => g (fSt spec_l01All_t1 (enc_lil p))) p := by
  kernel_rfl
theorem spec_l01All_lok1 (k : Nat) : LoopOK Try.prog tab (spec_l01All_C k).lo (loopP [0] (0, codeOf Try.f100)).1 (loopP [0] (0, codeOf Try.f100)).2 :=
  loopOK_of (C := spec_l01All_C k) tabOK eqTabOK (oraOf_ok (spec_l01All_es k)) (oraOf_nat (spec_l01All_es k)) follows (forall_getD _ 1 (0, Code.skip) (by kernel_rfl) fun i hi => by
      match i, hi with
      | 0, _ => exact spec_l01All_lok0 k
      | n + 1, h => omega)
    (tm := spec_l01All_t1) (dec := dec_lil) (enc := enc_lil) (ksIn := [0, 3, 4]) (ksOut := [3]) (ksRet := [2]) (k := k) (step := spec_l01All_w1 k) dec_enc_lil (fun p => by kernel_rfl) (fun s R K => by kernel_rfl) (spec_l01All_step1 k)
def spec_l01All_e (k : Nat) : Ent := (100, callOf [.pvi (some 36) 0 36] dec_l fun (p : (List Int)) R K => (spec_l01All k p).bind fun (b : (List Int)) => K ((fV (.slv 43) (enc_l b)).1, none))
theorem spec_l01All_run (k : Nat) (p : (List Int)) : runF (spec_l01All_C k) Try.f100 false (fL [.pvi (some 36) 0 36] (enc_l p)).1 (resK (.slv 43) dec_l) = spec_l01All k p := by
  kernel_rfl
theorem spec_l01All_ok (k : Nat) : EntOK Try.prog tab mvs (spec_l01All_e k) :=
  fn_ok (C := spec_l01All_C k) tabOK eqTabOK (spec_l01All_es k) rfl follows Try.func100 (by kernel_rfl) (by kernel_rfl) rfl (forall_getD _ 1 (0, Code.skip) (by kernel_rfl) fun i hi => by
      match i, hi with
      | 0, _ => exact spec_l01All_lok1 k
      | n + 1, h => omega)
    dec_enc_l dec_enc_l (spec_l01All_run k)

def spec_l00Src_one_C (k : Nat) : Cfg := ⟨tab, mvs, oraOf [spec_l00Src_pick_e k], loOf []⟩
theorem spec_l00Src_one_es (k : Nat) : ∀ e ∈ ([spec_l00Src_pick_e k] : List Ent), EntOK Try.prog tab mvs e := by
  intro e he
  simp only [List.mem_cons, List.not_mem_nil, or_false] at he
  rcases he with rfl
  · exact spec_l00Src_pick_ok k
def spec_l00Src_one_e (k : Nat) : Ent := (101, callOf [.ownO 160 [.sl 5, .i .i64, .i .u64], .int .i64] dec_liii fun (p : (List Int) × Int × Int × Int) R K => (spec_l00Src_one k p.1 p.2.1 p.2.2.1 p.2.2.2).bind fun (b : (Bool) × ((List Int) × Int × Int)) => K ((fV (.bool) (enc_b b.1)).1, some (fDs [.obj [.sl 5, .i .i64, .i .u64]] (enc_lii b.2))))
theorem spec_l00Src_one_run (k : Nat) (p : (List Int) × Int × Int × Int) : runF (spec_l00Src_one_C k) Try.f101 true (fL [.ownO 160 [.sl 5, .i .i64, .i .u64], .int .i64] (enc_liii p)).1 (resB (.bool) dec_b [.obj [.sl 5, .i .i64, .i .u64]] dec_lii) = spec_l00Src_one k p.1 p.2.1 p.2.2.1 p.2.2.2 := by
  kernel_rfl
theorem spec_l00Src_one_ok (k : Nat) : EntOK Try.prog tab mvs (spec_l00Src_one_e k) :=
  fnb_ok (C := spec_l00Src_one_C k) tabOK eqTabOK (spec_l00Src_one_es k) rfl follows Try.func101 (by kernel_rfl) (by kernel_rfl) rfl (forall_getD _ 0 (0, Code.skip) (by kernel_rfl) fun i hi => by
      omega)
    dec_enc_liii dec_enc_b dec_enc_lii (spec_l00Src_one_run k)

def dec_iiliilll (ps : List Pay) : Option (Int × Int × (List Int) × Int × Int × (List Int) × (List Int) × (List Int)) := match ps with
  | [.i x1, .i x2, .l x3, .i x4, .i x5, .l x6, .l x7, .l x8] => some (x1, x2, x3, x4, x5, x6, x7, x8)
  | _ => none
def enc_iiliilll (p : Int × Int × (List Int) × Int × Int × (List Int) × (List Int) × (List Int)) : List Pay := [.i p.1, .i p.2.1, .l p.2.2.1, .i p.2.2.2.1, .i p.2.2.2.2.1, .l p.2.2.2.2.2.1, .l p.2.2.2.2.2.2.1, .l p.2.2.2.2.2.2.2]
theorem dec_enc_iiliilll : ∀ (ps : List Pay) (p : Int × Int × (List Int) × Int × Int × (List Int) × (List Int) × (List Int)), dec_iiliilll ps = some p → ps = enc_iiliilll p := by
  intro ps p h
  unfold dec_iiliilll at h
  split at h
  · injection h with h
    subst h
    rfl
  · cases h

def spec_l01Drawn_t0 : StTm := ⟨47, [(0, .ptr 47 0 160), (2, .ptr 2 0 36), (3, .ptr 3 0 36), (4, .int .i64), (5, .slw 5 43), (6, .int .i64)], [(47, 160, true, .obj [.sl 5, .i .i64, .i .u64]), (2, 36, true, .ints), (3, 36, true, .ints), (5, 43, false, .ints)]⟩
def spec_l01Drawn_t0_1 : StTm := ⟨47, [(2, .ptr 2 0 36), (3, .ptr 3 0 36)], [(47, 160, true, .obj [.sl 5, .i .i64, .i .u64]), (2, 36, true, .ints), (3, 36, true, .ints)]⟩
def spec_l01Drawn_w0 (k : Nat) (R : Type) (K : Ex → St → Option R) (rec : Int × Int × (List Int) × Int × Int × (List Int) × (List Int) × (List Int) → Option R) (p : Int × Int × (List Int) × Int × Int × (List Int) × (List Int) × (List Int)) : Option R := spec_l01Drawn_s0 k (fun y1 y2 y3 y4 y5 => K (.exit 0) (fSt spec_l01Drawn_t0_1 [.l y1, .i y2, .i y3, .l y4, .l y5])) (fun h1 h2 h3 h4 h5 h6 h7 h8 => rec (h1, h2, h3, h4, h5, h6, h7, h8)) p.1 p.2.1 p.2.2.1 p.2.2.2.1 p.2.2.2.2.1 p.2.2.2.2.2.1 p.2.2.2.2.2.2.1 p.2.2.2.2.2.2.2
def spec_l01Drawn_c0 (k : Nat) : Lcall := lcallOf tab spec_l01Drawn_t0 dec_iiliilll [0, 2, 3, 4, 5, 6] k (spec_l01Drawn_w0 k)
def spec_l01Drawn_C (k : Nat) : Cfg := ⟨tab, mvs, oraOf [spec_l00Src_pick_e k, spec_l01All_e k, spec_l00Src_one_e k], loOf [(0, spec_l01Drawn_c0 k)]⟩
theorem spec_l01Drawn_es (k : Nat) : ∀ e ∈ ([spec_l00Src_pick_e k, spec_l01All_e k, spec_l00Src_one_e k] : List Ent), EntOK Try.prog tab mvs e := by
  intro e he
  simp only [List.mem_cons, List.not_mem_nil, or_false] at he
  rcases he with rfl | rfl | rfl
  · exact spec_l00Src_pick_ok k
  · exact spec_l01All_ok k
  · exact spec_l00Src_one_ok k
theorem spec_l01Drawn_step0 (k : Nat) (R : Type) (K : Ex → St → Option R) (g : St → Option R) (p : Int × Int × (List Int) × Int × Int × (List Int) × (List Int) × (List Int)) : evCode (spec_l01Drawn_C k) (loopP [0] (0, codeOf Try.f53)).2 (loopP [0] (0, codeOf Try.f53)).1 (fSt spec_l01Drawn_t0 (enc_iiliilll p)) (loopK tab [0, 2, 3, 4, 5, 6] [2, 3] [2] g K) = spec_l01Drawn_w0 k R K (fun p => g (fSt spec_l01Drawn_t0 (enc_iiliilll p))) p := by
  kernel_rfl
theorem spec_l01Drawn_lok0 (k : Nat) : LoopOK Try.prog tab (spec_l01Drawn_C k).lo (loopP [0] (0, codeOf Try.f53)).1 (loopP [0] (0, codeOf Try.f53)).2 :=
  loopOK_of (C := spec_l01Drawn_C k) tabOK eqTabOK (oraOf_ok (spec_l01Drawn_es k)) (oraOf_nat (spec_l01Drawn_es k)) follows (forall_getD _ 0 (0, Code.skip) (by kernel_rfl) fun i hi => by
      omega)
    (tm := spec_l01Drawn_t0) (dec := dec_iiliilll) (enc := enc_iiliilll) (ksIn := [0, 2, 3, 4, 5, 6]) (ksOut := [2, 3]) (ksRet := [2]) (k := k) (step := spec_l01Drawn_w0 k) dec_enc_iiliilll (fun p => by kernel_rfl) (fun s R K => by kernel_rfl) (spec_l01Drawn_step0 k)
def spec_l01Drawn_e (k : Nat) : Ent := (53, callOf [.ownO 160 [.sl 5, .i .i64, .i .u64]] dec_lii fun (p : (List Int) × Int × Int) R K => (spec_l01Drawn k p.1 p.2.1 p.2.2).bind fun (b : ((List Int)) × ((List Int) × Int × Int)) => K ((fV (.agg 36) (enc_l b.1)).1, some (fDs [.obj [.sl 5, .i .i64, .i .u64]] (enc_lii b.2))))
theorem spec_l01Drawn_run (k : Nat) (p : (List Int) × Int × Int) : runF (spec_l01Drawn_C k) Try.f53 true (fL [.ownO 160 [.sl 5, .i .i64, .i .u64]] (enc_lii p)).1 (resB (.agg 36) dec_l [.obj [.sl 5, .i .i64, .i .u64]] dec_lii) = spec_l01Drawn k p.1 p.2.1 p.2.2 := by
  kernel_rfl
theorem spec_l01Drawn_ok (k : Nat) : EntOK Try.prog tab mvs (spec_l01Drawn_e k) :=
  fnb_ok (C := spec_l01Drawn_C k) tabOK eqTabOK (spec_l01Drawn_es k) rfl follows Try.func53 (by kernel_rfl) (by kernel_rfl) rfl (forall_getD _ 1 (0, Code.skip) (by kernel_rfl) fun i hi => by
      match i, hi with
      | 0, _ => exact spec_l01Drawn_lok0 k
      | n + 1, h => omega)
    dec_enc_lii dec_enc_l dec_enc_lii (spec_l01Drawn_run k)

def spec_A2Lawn_C (k : Nat) : Cfg := ⟨tab, mvs, oraOf [spec_l00From_e k, spec_l01Drawn_e k], loOf []⟩
theorem spec_A2Lawn_es (k : Nat) : ∀ e ∈ ([spec_l00From_e k, spec_l01Drawn_e k] : List Ent), EntOK Try.prog tab mvs e := by
  intro e he
  simp only [List.mem_cons, List.not_mem_nil, or_false] at he
  rcases he with rfl | rfl
  · exact spec_l00From_ok k
  · exact spec_l01Drawn_ok k
def spec_A2Lawn_e (k : Nat) : Ent := (15, callOf [.slv 5] dec_l fun (p : (List Int)) R K => (spec_A2Lawn k p).bind fun (b : (List Int)) => K ((fV (.agg 36) (enc_l b)).1, none))
theorem spec_A2Lawn_run (k : Nat) (p : (List Int)) : runF (spec_A2Lawn_C k) Try.f15 false (fL [.slv 5] (enc_l p)).1 (resK (.agg 36) dec_l) = spec_A2Lawn k p := by
  kernel_rfl
theorem spec_A2Lawn_ok (k : Nat) : EntOK Try.prog tab mvs (spec_A2Lawn_e k) :=
  fn_ok (C := spec_A2Lawn_C k) tabOK eqTabOK (spec_A2Lawn_es k) rfl follows Try.func15 (by kernel_rfl) (by kernel_rfl) rfl (forall_getD _ 0 (0, Code.skip) (by kernel_rfl) fun i hi => by
      omega)
    dec_enc_l dec_enc_l (spec_A2Lawn_run k)

def laws_a2At_C (k : Nat) : Cfg := ⟨tab, mvs, oraOf [], loOf []⟩
theorem laws_a2At_es (k : Nat) : ∀ e ∈ ([] : List Ent), EntOK Try.prog tab mvs e := by
  intro e he
  simp at he
def laws_a2At_e (k : Nat) : Ent := (16, callOf [.slv 5, .int .i64, .int .i64] dec_lii fun (p : (List Int) × Int × Int) R K => (laws_a2At k p.1 p.2.1 p.2.2).bind fun (b : Int) => K ((fV (.int .i64) (enc_i b)).1, none))
theorem laws_a2At_run (k : Nat) (p : (List Int) × Int × Int) : runF (laws_a2At_C k) Try.f16 false (fL [.slv 5, .int .i64, .int .i64] (enc_lii p)).1 (resK (.int .i64) dec_i) = laws_a2At k p.1 p.2.1 p.2.2 := by
  kernel_rfl
theorem laws_a2At_ok (k : Nat) : EntOK Try.prog tab mvs (laws_a2At_e k) :=
  fn_ok (C := laws_a2At_C k) tabOK eqTabOK (laws_a2At_es k) rfl follows Try.func16 (by kernel_rfl) (by kernel_rfl) rfl (forall_getD _ 0 (0, Code.skip) (by kernel_rfl) fun i hi => by
      omega)
    dec_enc_lii dec_enc_i (laws_a2At_run k)

def dec_iii (ps : List Pay) : Option (Int × Int × Int) := match ps with
  | [.i x1, .i x2, .i x3] => some (x1, x2, x3)
  | _ => none
def enc_iii (p : Int × Int × Int) : List Pay := [.i p.1, .i p.2.1, .i p.2.2]
theorem dec_enc_iii : ∀ (ps : List Pay) (p : Int × Int × Int), dec_iii ps = some p → ps = enc_iii p := by
  intro ps p h
  unfold dec_iii at h
  split at h
  · injection h with h
    subst h
    rfl
  · cases h

def impl_within_C (k : Nat) : Cfg := ⟨tab, mvs, oraOf [], loOf []⟩
theorem impl_within_es (k : Nat) : ∀ e ∈ ([] : List Ent), EntOK Try.prog tab mvs e := by
  intro e he
  simp at he
def impl_within_e (k : Nat) : Ent := (49, callOf [.int .i64, .int .i64, .int .i64] dec_iii fun (p : Int × Int × Int) R K => (impl_within k p.1 p.2.1 p.2.2).bind fun (b : Bool) => K ((fV (.bool) (enc_b b)).1, none))
theorem impl_within_run (k : Nat) (p : Int × Int × Int) : runF (impl_within_C k) Try.f49 false (fL [.int .i64, .int .i64, .int .i64] (enc_iii p)).1 (resK (.bool) dec_b) = impl_within k p.1 p.2.1 p.2.2 := by
  kernel_rfl
theorem impl_within_ok (k : Nat) : EntOK Try.prog tab mvs (impl_within_e k) :=
  fn_ok (C := impl_within_C k) tabOK eqTabOK (impl_within_es k) rfl follows Try.func49 (by kernel_rfl) (by kernel_rfl) rfl (forall_getD _ 0 (0, Code.skip) (by kernel_rfl) fun i hi => by
      omega)
    dec_enc_iii dec_enc_b (impl_within_run k)

def impl_Lawn_has_C (k : Nat) : Cfg := ⟨tab, mvs, oraOf [], loOf []⟩
theorem impl_Lawn_has_es (k : Nat) : ∀ e ∈ ([] : List Ent), EntOK Try.prog tab mvs e := by
  intro e he
  simp at he
def impl_Lawn_has_e (k : Nat) : Ent := (103, callOf [.agg 36, .agg 43] dec_ll fun (p : (List Int) × (List Int)) R K => (impl_Lawn_has k p.1 p.2).bind fun (b : Bool) => K ((fV (.bool) (enc_b b)).1, none))
theorem impl_Lawn_has_run (k : Nat) (p : (List Int) × (List Int)) : runF (impl_Lawn_has_C k) Try.f103 false (fL [.agg 36, .agg 43] (enc_ll p)).1 (resK (.bool) dec_b) = impl_Lawn_has k p.1 p.2 := by
  kernel_rfl
theorem impl_Lawn_has_ok (k : Nat) : EntOK Try.prog tab mvs (impl_Lawn_has_e k) :=
  fn_ok (C := impl_Lawn_has_C k) tabOK eqTabOK (impl_Lawn_has_es k) rfl follows Try.func103 (by kernel_rfl) (by kernel_rfl) rfl (forall_getD _ 0 (0, Code.skip) (by kernel_rfl) fun i hi => by
      omega)
    dec_enc_ll dec_enc_b (impl_Lawn_has_run k)

def dec_iiil (ps : List Pay) : Option (Int × Int × Int × (List Int)) := match ps with
  | [.i x1, .i x2, .i x3, .l x4] => some (x1, x2, x3, x4)
  | _ => none
def enc_iiil (p : Int × Int × Int × (List Int)) : List Pay := [.i p.1, .i p.2.1, .i p.2.2.1, .l p.2.2.2]
theorem dec_enc_iiil : ∀ (ps : List Pay) (p : Int × Int × Int × (List Int)), dec_iiil ps = some p → ps = enc_iiil p := by
  intro ps p h
  unfold dec_iiil at h
  split at h
  · injection h with h
    subst h
    rfl
  · cases h

def dec_il (ps : List Pay) : Option (Int × (List Int)) := match ps with
  | [.i x1, .l x2] => some (x1, x2)
  | _ => none
def enc_il (p : Int × (List Int)) : List Pay := [.i p.1, .l p.2]
theorem dec_enc_il : ∀ (ps : List Pay) (p : Int × (List Int)), dec_il ps = some p → ps = enc_il p := by
  intro ps p h
  unfold dec_il at h
  split at h
  · injection h with h
    subst h
    rfl
  · cases h

def impl_ValidLawn_t0 : StTm := ⟨46, [(1, .ptr 1 0 36), (3, .int .i8), (18, .int .i8), (21, .int .i8)], [(1, 36, true, .ints)]⟩
def impl_ValidLawn_t0_1 : StTm := ⟨46, [(2, .bool)], []⟩
def impl_ValidLawn_t0_2 : StTm := ⟨46, [(1, .ptr 1 0 36), (18, .int .i8)], [(1, 36, true, .ints)]⟩
def impl_ValidLawn_w0 (k : Nat) (R : Type) (K : Ex → St → Option R) (rec : Int × Int × Int × (List Int) → Option R) (p : Int × Int × Int × (List Int)) : Option R := impl_ValidLawn_s0 k (fun y1 => K .ret (fSt impl_ValidLawn_t0_1 [.b y1])) (fun y1 y2 => K (.exit 2) (fSt impl_ValidLawn_t0_2 [.i y1, .l y2])) (fun h1 h2 h3 h4 => rec (h1, h2, h3, h4)) p.1 p.2.1 p.2.2.1 p.2.2.2
def impl_ValidLawn_c0 (k : Nat) : Lcall := lcallOf tab impl_ValidLawn_t0 dec_iiil [1, 3, 18, 21] k (impl_ValidLawn_w0 k)
def impl_ValidLawn_t1 : StTm := ⟨46, [(1, .ptr 1 0 36), (18, .int .i8)], [(1, 36, true, .ints)]⟩
def impl_ValidLawn_t1_1 : StTm := ⟨46, [(2, .bool)], []⟩
def impl_ValidLawn_t1_2 : StTm := ⟨46, [], []⟩
def impl_ValidLawn_w1 (k : Nat) (R : Type) (K : Ex → St → Option R) (rec : Int × (List Int) → Option R) (p : Int × (List Int)) : Option R := impl_ValidLawn_s1 k (fun y1 => K .ret (fSt impl_ValidLawn_t1_1 [.b y1])) (K (.exit 0) (fSt impl_ValidLawn_t1_2 [])) (fun h1 h2 => rec (h1, h2)) p.1 p.2
def impl_ValidLawn_c1 (k : Nat) : Lcall := lcallOf tab impl_ValidLawn_t1 dec_il [1, 18] k (impl_ValidLawn_w1 k)
def impl_ValidLawn_C (k : Nat) : Cfg := ⟨tab, mvs, oraOf [impl_within_e k, impl_Lawn_has_e k], loOf [(2, impl_ValidLawn_c0 k), (0, impl_ValidLawn_c1 k)]⟩
theorem impl_ValidLawn_es (k : Nat) : ∀ e ∈ ([impl_within_e k, impl_Lawn_has_e k] : List Ent), EntOK Try.prog tab mvs e := by
  intro e he
  simp only [List.mem_cons, List.not_mem_nil, or_false] at he
  rcases he with rfl | rfl
  · exact impl_within_ok k
  · exact impl_Lawn_has_ok k
theorem impl_ValidLawn_step0 (k : Nat) (R : Type) (K : Ex → St → Option R) (g : St → Option R) (p : Int × Int × Int × (List Int)) : evCode (impl_ValidLawn_C k) (loopP [0, 0] (0, codeOf Try.f69)).2 (loopP [0, 0] (0, codeOf Try.f69)).1 (fSt impl_ValidLawn_t0 (enc_iiil p)) (loopK tab [1, 3, 18, 21] [1, 18] [2] g K) = impl_ValidLawn_w0 k R K (fun p => g (fSt impl_ValidLawn_t0 (enc_iiil p))) p := by
  kernel_rfl
theorem impl_ValidLawn_lok0 (k : Nat) : LoopOK Try.prog tab (impl_ValidLawn_C k).lo (loopP [0, 0] (0, codeOf Try.f69)).1 (loopP [0, 0] (0, codeOf Try.f69)).2 :=
  loopOK_of (C := impl_ValidLawn_C k) tabOK eqTabOK (oraOf_ok (impl_ValidLawn_es k)) (oraOf_nat (impl_ValidLawn_es k)) follows (forall_getD _ 0 (0, Code.skip) (by kernel_rfl) fun i hi => by
      omega)
    (tm := impl_ValidLawn_t0) (dec := dec_iiil) (enc := enc_iiil) (ksIn := [1, 3, 18, 21]) (ksOut := [1, 18]) (ksRet := [2]) (k := k) (step := impl_ValidLawn_w0 k) dec_enc_iiil (fun p => by kernel_rfl) (fun s R K => by kernel_rfl) (impl_ValidLawn_step0 k)
theorem impl_ValidLawn_step1 (k : Nat) (R : Type) (K : Ex → St → Option R) (g : St → Option R) (p : Int × (List Int)) : evCode (impl_ValidLawn_C k) (loopP [0] (0, codeOf Try.f69)).2 (loopP [0] (0, codeOf Try.f69)).1 (fSt impl_ValidLawn_t1 (enc_il p)) (loopK tab [1, 18] [] [2] g K) = impl_ValidLawn_w1 k R K (fun p => g (fSt impl_ValidLawn_t1 (enc_il p))) p := by
  kernel_rfl
theorem impl_ValidLawn_lok1 (k : Nat) : LoopOK Try.prog tab (impl_ValidLawn_C k).lo (loopP [0] (0, codeOf Try.f69)).1 (loopP [0] (0, codeOf Try.f69)).2 :=
  loopOK_of (C := impl_ValidLawn_C k) tabOK eqTabOK (oraOf_ok (impl_ValidLawn_es k)) (oraOf_nat (impl_ValidLawn_es k)) follows (forall_getD _ 1 (0, Code.skip) (by kernel_rfl) fun i hi => by
      match i, hi with
      | 0, _ => exact impl_ValidLawn_lok0 k
      | n + 1, h => omega)
    (tm := impl_ValidLawn_t1) (dec := dec_il) (enc := enc_il) (ksIn := [1, 18]) (ksOut := []) (ksRet := [2]) (k := k) (step := impl_ValidLawn_w1 k) dec_enc_il (fun p => by kernel_rfl) (fun s R K => by kernel_rfl) (impl_ValidLawn_step1 k)
def impl_ValidLawn_e (k : Nat) : Ent := (69, callOf [.agg 36] dec_l fun (p : (List Int)) R K => (impl_ValidLawn k p).bind fun (b : Bool) => K ((fV (.bool) (enc_b b)).1, none))
theorem impl_ValidLawn_run (k : Nat) (p : (List Int)) : runF (impl_ValidLawn_C k) Try.f69 false (fL [.agg 36] (enc_l p)).1 (resK (.bool) dec_b) = impl_ValidLawn k p := by
  kernel_rfl
theorem impl_ValidLawn_ok (k : Nat) : EntOK Try.prog tab mvs (impl_ValidLawn_e k) :=
  fn_ok (C := impl_ValidLawn_C k) tabOK eqTabOK (impl_ValidLawn_es k) rfl follows Try.func69 (by kernel_rfl) (by kernel_rfl) rfl (forall_getD _ 1 (0, Code.skip) (by kernel_rfl) fun i hi => by
      match i, hi with
      | 0, _ => exact impl_ValidLawn_lok1 k
      | n + 1, h => omega)
    dec_enc_l dec_enc_b (impl_ValidLawn_run k)

def impl_cellsCode_1_C (k : Nat) : Cfg := ⟨tab, mvs, oraOf [impl_Lawn_has_e k], loOf []⟩
theorem impl_cellsCode_1_es (k : Nat) : ∀ e ∈ ([impl_Lawn_has_e k] : List Ent), EntOK Try.prog tab mvs e := by
  intro e he
  simp only [List.mem_cons, List.not_mem_nil, or_false] at he
  rcases he with rfl
  · exact impl_Lawn_has_ok k
def impl_cellsCode_1_e (k : Nat) : Ent := (102, callOf [.agg 43, .pvi (some 36) 0 36] dec_ll fun (p : (List Int) × (List Int)) R K => (impl_cellsCode_1 k p.1 p.2).bind fun (b : Bool) => K ((fV (.bool) (enc_b b)).1, none))
theorem impl_cellsCode_1_run (k : Nat) (p : (List Int) × (List Int)) : runF (impl_cellsCode_1_C k) Try.f102 false (fL [.agg 43, .pvi (some 36) 0 36] (enc_ll p)).1 (resK (.bool) dec_b) = impl_cellsCode_1 k p.1 p.2 := by
  kernel_rfl
theorem impl_cellsCode_1_ok (k : Nat) : EntOK Try.prog tab mvs (impl_cellsCode_1_e k) :=
  fn_ok (C := impl_cellsCode_1_C k) tabOK eqTabOK (impl_cellsCode_1_es k) rfl follows Try.func102 (by kernel_rfl) (by kernel_rfl) rfl (forall_getD _ 0 (0, Code.skip) (by kernel_rfl) fun i hi => by
      omega)
    dec_enc_ll dec_enc_b (impl_cellsCode_1_run k)

def dec_lgii (ps : List Pay) : Option ((List Int) × (List Int → Option Bool) × Int × Int) := match ps with
  | [.l x1, .g x2, .i x3, .i x4] => some (x1, x2, x3, x4)
  | _ => none
def enc_lgii (p : (List Int) × (List Int → Option Bool) × Int × Int) : List Pay := [.l p.1, .g p.2.1, .i p.2.2.1, .i p.2.2.2]
theorem dec_enc_lgii : ∀ (ps : List Pay) (p : (List Int) × (List Int → Option Bool) × Int × Int), dec_lgii ps = some p → ps = enc_lgii p := by
  intro ps p h
  unfold dec_lgii at h
  split at h
  · injection h with h
    subst h
    rfl
  · cases h

def dec_lg (ps : List Pay) : Option ((List Int) × (List Int → Option Bool)) := match ps with
  | [.l x1, .g x2] => some (x1, x2)
  | _ => none
def enc_lg (p : (List Int) × (List Int → Option Bool)) : List Pay := [.l p.1, .g p.2]
theorem dec_enc_lg : ∀ (ps : List Pay) (p : (List Int) × (List Int → Option Bool)), dec_lg ps = some p → ps = enc_lg p := by
  intro ps p h
  unfold dec_lg at h
  split at h
  · injection h with h
    subst h
    rfl
  · cases h

def slices_IndexFunc_impl_Cell_t0 : StTm := ⟨19, [(0, .slv 43), (1, .cloB 43), (7, .int .i64), (8, .int .i64)], []⟩
def slices_IndexFunc_impl_Cell_t0_1 : StTm := ⟨19, [(4, .int .i64)], []⟩
def slices_IndexFunc_impl_Cell_t0_2 : StTm := ⟨19, [], []⟩
def slices_IndexFunc_impl_Cell_w0 (k : Nat) (R : Type) (K : Ex → St → Option R) (rec : (List Int) × (List Int → Option Bool) × Int × Int → Option R) (p : (List Int) × (List Int → Option Bool) × Int × Int) : Option R := slices_IndexFunc_impl_Cell_s0 k (fun y1 => K .ret (fSt slices_IndexFunc_impl_Cell_t0_1 [.i y1])) (K (.exit 0) (fSt slices_IndexFunc_impl_Cell_t0_2 [])) (fun h1 h2 h3 h4 => rec (h1, h2, h3, h4)) p.1 p.2.1 p.2.2.1 p.2.2.2
def slices_IndexFunc_impl_Cell_c0 (k : Nat) : Lcall := lcallOf tab slices_IndexFunc_impl_Cell_t0 dec_lgii [0, 1, 7, 8] k (slices_IndexFunc_impl_Cell_w0 k)
def slices_IndexFunc_impl_Cell_C (k : Nat) : Cfg := ⟨tab, mvs, oraOf [], loOf [(0, slices_IndexFunc_impl_Cell_c0 k)]⟩
theorem slices_IndexFunc_impl_Cell_es (k : Nat) : ∀ e ∈ ([] : List Ent), EntOK Try.prog tab mvs e := by
  intro e he
  simp at he
theorem slices_IndexFunc_impl_Cell_step0 (k : Nat) (R : Type) (K : Ex → St → Option R) (g : St → Option R) (p : (List Int) × (List Int → Option Bool) × Int × Int) : evCode (slices_IndexFunc_impl_Cell_C k) (loopP [0] (0, codeOf Try.f115)).2 (loopP [0] (0, codeOf Try.f115)).1 (fSt slices_IndexFunc_impl_Cell_t0 (enc_lgii p)) (loopK tab [0, 1, 7, 8] [] [4] g K) = slices_IndexFunc_impl_Cell_w0 k R K (fun p => g (fSt slices_IndexFunc_impl_Cell_t0 (enc_lgii p))) p := by
  kernel_rfl
theorem slices_IndexFunc_impl_Cell_lok0 (k : Nat) : LoopOK Try.prog tab (slices_IndexFunc_impl_Cell_C k).lo (loopP [0] (0, codeOf Try.f115)).1 (loopP [0] (0, codeOf Try.f115)).2 :=
  loopOK_of (C := slices_IndexFunc_impl_Cell_C k) tabOK eqTabOK (oraOf_ok (slices_IndexFunc_impl_Cell_es k)) (oraOf_nat (slices_IndexFunc_impl_Cell_es k)) follows (forall_getD _ 0 (0, Code.skip) (by kernel_rfl) fun i hi => by
      omega)
    (tm := slices_IndexFunc_impl_Cell_t0) (dec := dec_lgii) (enc := enc_lgii) (ksIn := [0, 1, 7, 8]) (ksOut := []) (ksRet := [4]) (k := k) (step := slices_IndexFunc_impl_Cell_w0 k) dec_enc_lgii (fun p => by kernel_rfl) (fun s R K => by kernel_rfl) (slices_IndexFunc_impl_Cell_step0 k)
def slices_IndexFunc_impl_Cell_e (k : Nat) : Ent := (115, callOf [.slv 43, .cloB 43] dec_lg fun (p : (List Int) × (List Int → Option Bool)) R K => (slices_IndexFunc_impl_Cell k p.1 p.2).bind fun (b : Int) => K ((fV (.int .i64) (enc_i b)).1, none))
theorem slices_IndexFunc_impl_Cell_run (k : Nat) (p : (List Int) × (List Int → Option Bool)) : runF (slices_IndexFunc_impl_Cell_C k) Try.f115 false (fL [.slv 43, .cloB 43] (enc_lg p)).1 (resK (.int .i64) dec_i) = slices_IndexFunc_impl_Cell k p.1 p.2 := by
  kernel_rfl
theorem slices_IndexFunc_impl_Cell_ok (k : Nat) : EntOK Try.prog tab mvs (slices_IndexFunc_impl_Cell_e k) :=
  fn_ok (C := slices_IndexFunc_impl_Cell_C k) tabOK eqTabOK (slices_IndexFunc_impl_Cell_es k) rfl follows Try.func115 (by kernel_rfl) (by kernel_rfl) rfl (forall_getD _ 1 (0, Code.skip) (by kernel_rfl) fun i hi => by
      match i, hi with
      | 0, _ => exact slices_IndexFunc_impl_Cell_lok0 k
      | n + 1, h => omega)
    dec_enc_lg dec_enc_i (slices_IndexFunc_impl_Cell_run k)

def slices_ContainsFunc_impl_Cell_C (k : Nat) : Cfg := ⟨tab, mvs, oraOf [slices_IndexFunc_impl_Cell_e k], loOf []⟩
theorem slices_ContainsFunc_impl_Cell_es (k : Nat) : ∀ e ∈ ([slices_IndexFunc_impl_Cell_e k] : List Ent), EntOK Try.prog tab mvs e := by
  intro e he
  simp only [List.mem_cons, List.not_mem_nil, or_false] at he
  rcases he with rfl
  · exact slices_IndexFunc_impl_Cell_ok k
def slices_ContainsFunc_impl_Cell_e (k : Nat) : Ent := (74, callOf [.slv 43, .cloB 43] dec_lg fun (p : (List Int) × (List Int → Option Bool)) R K => (slices_ContainsFunc_impl_Cell k p.1 p.2).bind fun (b : Bool) => K ((fV (.bool) (enc_b b)).1, none))
theorem slices_ContainsFunc_impl_Cell_run (k : Nat) (p : (List Int) × (List Int → Option Bool)) : runF (slices_ContainsFunc_impl_Cell_C k) Try.f74 false (fL [.slv 43, .cloB 43] (enc_lg p)).1 (resK (.bool) dec_b) = slices_ContainsFunc_impl_Cell k p.1 p.2 := by
  kernel_rfl
theorem slices_ContainsFunc_impl_Cell_ok (k : Nat) : EntOK Try.prog tab mvs (slices_ContainsFunc_impl_Cell_e k) :=
  fn_ok (C := slices_ContainsFunc_impl_Cell_C k) tabOK eqTabOK (slices_ContainsFunc_impl_Cell_es k) rfl follows Try.func74 (by kernel_rfl) (by kernel_rfl) rfl (forall_getD _ 0 (0, Code.skip) (by kernel_rfl) fun i hi => by
      omega)
    dec_enc_lg dec_enc_b (slices_ContainsFunc_impl_Cell_run k)

def impl_cellsCode_C (k : Nat) : Cfg := ⟨tab, mvs, oraOf [impl_ValidLawn_e k, impl_cellsCode_1_e k, slices_ContainsFunc_impl_Cell_e k], loOf []⟩
theorem impl_cellsCode_es (k : Nat) : ∀ e ∈ ([impl_ValidLawn_e k, impl_cellsCode_1_e k, slices_ContainsFunc_impl_Cell_e k] : List Ent), EntOK Try.prog tab mvs e := by
  intro e he
  simp only [List.mem_cons, List.not_mem_nil, or_false] at he
  rcases he with rfl | rfl | rfl
  · exact impl_ValidLawn_ok k
  · exact impl_cellsCode_1_ok k
  · exact slices_ContainsFunc_impl_Cell_ok k
def impl_cellsCode_e (k : Nat) : Ent := (55, callOf [.agg 36, .slv 43] dec_ll fun (p : (List Int) × (List Int)) R K => (impl_cellsCode k p.1 p.2).bind fun (b : Int) => K ((fV (.int .i64) (enc_i b)).1, none))
theorem impl_cellsCode_run (k : Nat) (p : (List Int) × (List Int)) : runF (impl_cellsCode_C k) Try.f55 false (fL [.agg 36, .slv 43] (enc_ll p)).1 (resK (.int .i64) dec_i) = impl_cellsCode k p.1 p.2 := by
  kernel_rfl
theorem impl_cellsCode_ok (k : Nat) : EntOK Try.prog tab mvs (impl_cellsCode_e k) :=
  fn_ok (C := impl_cellsCode_C k) tabOK eqTabOK (impl_cellsCode_es k) rfl follows Try.func55 (by kernel_rfl) (by kernel_rfl) rfl (forall_getD _ 0 (0, Code.skip) (by kernel_rfl) fun i hi => by
      omega)
    dec_enc_ll dec_enc_i (impl_cellsCode_run k)

def dec_iiiiill (ps : List Pay) : Option (Int × Int × Int × Int × Int × (List Int) × (List Int)) := match ps with
  | [.i x1, .i x2, .i x3, .i x4, .i x5, .l x6, .l x7] => some (x1, x2, x3, x4, x5, x6, x7)
  | _ => none
def enc_iiiiill (p : Int × Int × Int × Int × Int × (List Int) × (List Int)) : List Pay := [.i p.1, .i p.2.1, .i p.2.2.1, .i p.2.2.2.1, .i p.2.2.2.2.1, .l p.2.2.2.2.2.1, .l p.2.2.2.2.2.2]
theorem dec_enc_iiiiill : ∀ (ps : List Pay) (p : Int × Int × Int × Int × Int × (List Int) × (List Int)), dec_iiiiill ps = some p → ps = enc_iiiiill p := by
  intro ps p h
  unfold dec_iiiiill at h
  split at h
  · injection h with h
    subst h
    rfl
  · cases h

def dec_iill (ps : List Pay) : Option (Int × Int × (List Int) × (List Int)) := match ps with
  | [.i x1, .i x2, .l x3, .l x4] => some (x1, x2, x3, x4)
  | _ => none
def enc_iill (p : Int × Int × (List Int) × (List Int)) : List Pay := [.i p.1, .i p.2.1, .l p.2.2.1, .l p.2.2.2]
theorem dec_enc_iill : ∀ (ps : List Pay) (p : Int × Int × (List Int) × (List Int)), dec_iill ps = some p → ps = enc_iill p := by
  intro ps p h
  unfold dec_iill at h
  split at h
  · injection h with h
    subst h
    rfl
  · cases h

def impl_Lawn_all_t0 : StTm := ⟨26, [(1, .ptr 1 0 36), (3, .slw 3 43), (4, .int .i8), (8, .int .i8), (9, .int .i8), (13, .int .i8), (14, .int .i8)], [(1, 36, true, .ints), (3, 43, false, .ints)]⟩
def impl_Lawn_all_t0_1 : StTm := ⟨26, [(1, .ptr 1 0 36), (3, .slw 3 43), (8, .int .i8), (9, .int .i8)], [(1, 36, true, .ints), (3, 43, false, .ints)]⟩
def impl_Lawn_all_w0 (k : Nat) (R : Type) (K : Ex → St → Option R) (rec : Int × Int × Int × Int × Int × (List Int) × (List Int) → Option R) (p : Int × Int × Int × Int × Int × (List Int) × (List Int)) : Option R := impl_Lawn_all_s0 k (fun y1 y2 y3 y4 => K (.exit 2) (fSt impl_Lawn_all_t0_1 [.i y1, .i y2, .l y3, .l y4])) (fun h1 h2 h3 h4 h5 h6 h7 => rec (h1, h2, h3, h4, h5, h6, h7)) p.1 p.2.1 p.2.2.1 p.2.2.2.1 p.2.2.2.2.1 p.2.2.2.2.2.1 p.2.2.2.2.2.2
def impl_Lawn_all_c0 (k : Nat) : Lcall := lcallOf tab impl_Lawn_all_t0 dec_iiiiill [1, 3, 4, 8, 9, 13, 14] k (impl_Lawn_all_w0 k)
def impl_Lawn_all_t1 : StTm := ⟨26, [(1, .ptr 1 0 36), (3, .slw 3 43), (8, .int .i8), (9, .int .i8)], [(1, 36, true, .ints), (3, 43, false, .ints)]⟩
def impl_Lawn_all_t1_1 : StTm := ⟨26, [(3, .slw 3 43)], [(3, 43, false, .ints)]⟩
def impl_Lawn_all_w1 (k : Nat) (R : Type) (K : Ex → St → Option R) (rec : Int × Int × (List Int) × (List Int) → Option R) (p : Int × Int × (List Int) × (List Int)) : Option R := impl_Lawn_all_s1 k (fun y1 => K (.exit 0) (fSt impl_Lawn_all_t1_1 [.l y1])) (fun h1 h2 h3 h4 => rec (h1, h2, h3, h4)) p.1 p.2.1 p.2.2.1 p.2.2.2
def impl_Lawn_all_c1 (k : Nat) : Lcall := lcallOf tab impl_Lawn_all_t1 dec_iill [1, 3, 8, 9] k (impl_Lawn_all_w1 k)
def impl_Lawn_all_C (k : Nat) : Cfg := ⟨tab, mvs, oraOf [], loOf [(2, impl_Lawn_all_c0 k), (0, impl_Lawn_all_c1 k)]⟩
theorem impl_Lawn_all_es (k : Nat) : ∀ e ∈ ([] : List Ent), EntOK Try.prog tab mvs e := by
  intro e he
  simp at he
theorem impl_Lawn_all_step0 (k : Nat) (R : Type) (K : Ex → St → Option R) (g : St → Option R) (p : Int × Int × Int × Int × Int × (List Int) × (List Int)) : evCode (impl_Lawn_all_C k) (loopP [0, 0] (0, codeOf Try.f104)).2 (loopP [0, 0] (0, codeOf Try.f104)).1 (fSt impl_Lawn_all_t0 (enc_iiiiill p)) (loopK tab [1, 3, 4, 8, 9, 13, 14] [1, 3, 8, 9] [2] g K) = impl_Lawn_all_w0 k R K (fun p => g (fSt impl_Lawn_all_t0 (enc_iiiiill p))) p := by
  kernel_rfl
theorem impl_Lawn_all_lok0 (k : Nat) : LoopOK Try.prog tab (impl_Lawn_all_C k).lo (loopP [0, 0] (0, codeOf Try.f104)).1 (loopP [0, 0] (0, codeOf Try.f104)).2 :=
  loopOK_of (C := impl_Lawn_all_C k) tabOK eqTabOK (oraOf_ok (impl_Lawn_all_es k)) (oraOf_nat (impl_Lawn_all_es k)) follows (forall_getD _ 0 (0, Code.skip) (by kernel_rfl) fun i hi => by
      omega)
    (tm := impl_Lawn_all_t0) (dec := dec_iiiiill) (enc := enc_iiiiill) (ksIn := [1, 3, 4, 8, 9, 13, 14]) (ksOut := [1, 3, 8, 9]) (ksRet := [2]) (k := k) (step := impl_Lawn_all_w0 k) dec_enc_iiiiill (fun p => by kernel_rfl) (fun s R K => by kernel_rfl) (impl_Lawn_all_step0 k)
theorem impl_Lawn_all_step1 (k : Nat) (R : Type) (K : Ex → St → Option R) (g : St → Option R) (p : Int × Int × (List Int) × (List Int)) : evCode (impl_Lawn_all_C k) (loopP [0] (0, codeOf Try.f104)).2 (loopP [0] (0, codeOf Try.f104)).1 (fSt impl_Lawn_all_t1 (enc_iill p)) (loopK tab [1, 3, 8, 9] [3] [2] g K) = impl_Lawn_all_w1 k R K (fun p => g (fSt impl_Lawn_all_t1 (enc_iill p))) p := by
  kernel_rfl
theorem impl_Lawn_all_lok1 (k : Nat) : LoopOK Try.prog tab (impl_Lawn_all_C k).lo (loopP [0] (0, codeOf Try.f104)).1 (loopP [0] (0, codeOf Try.f104)).2 :=
  loopOK_of (C := impl_Lawn_all_C k) tabOK eqTabOK (oraOf_ok (impl_Lawn_all_es k)) (oraOf_nat (impl_Lawn_all_es k)) follows (forall_getD _ 1 (0, Code.skip) (by kernel_rfl) fun i hi => by
      match i, hi with
      | 0, _ => exact impl_Lawn_all_lok0 k
      | n + 1, h => omega)
    (tm := impl_Lawn_all_t1) (dec := dec_iill) (enc := enc_iill) (ksIn := [1, 3, 8, 9]) (ksOut := [3]) (ksRet := [2]) (k := k) (step := impl_Lawn_all_w1 k) dec_enc_iill (fun p => by kernel_rfl) (fun s R K => by kernel_rfl) (impl_Lawn_all_step1 k)
def impl_Lawn_all_e (k : Nat) : Ent := (104, callOf [.agg 36] dec_l fun (p : (List Int)) R K => (impl_Lawn_all k p).bind fun (b : (List Int)) => K ((fV (.slv 43) (enc_l b)).1, none))
theorem impl_Lawn_all_run (k : Nat) (p : (List Int)) : runF (impl_Lawn_all_C k) Try.f104 false (fL [.agg 36] (enc_l p)).1 (resK (.slv 43) dec_l) = impl_Lawn_all k p := by
  kernel_rfl
theorem impl_Lawn_all_ok (k : Nat) : EntOK Try.prog tab mvs (impl_Lawn_all_e k) :=
  fn_ok (C := impl_Lawn_all_C k) tabOK eqTabOK (impl_Lawn_all_es k) rfl follows Try.func104 (by kernel_rfl) (by kernel_rfl) rfl (forall_getD _ 1 (0, Code.skip) (by kernel_rfl) fun i hi => by
      match i, hi with
      | 0, _ => exact impl_Lawn_all_lok1 k
      | n + 1, h => omega)
    dec_enc_l dec_enc_l (impl_Lawn_all_run k)

def impl_Lawn_kind_C (k : Nat) : Cfg := ⟨tab, mvs, oraOf [], loOf []⟩
theorem impl_Lawn_kind_es (k : Nat) : ∀ e ∈ ([] : List Ent), EntOK Try.prog tab mvs e := by
  intro e he
  simp at he
def impl_Lawn_kind_e (k : Nat) : Ent := (62, callOf [.agg 36, .agg 43] dec_ll fun (p : (List Int) × (List Int)) R K => (impl_Lawn_kind k p.1 p.2).bind fun (b : Int) => K ((fV (.int .i64) (enc_i b)).1, none))
theorem impl_Lawn_kind_run (k : Nat) (p : (List Int) × (List Int)) : runF (impl_Lawn_kind_C k) Try.f62 false (fL [.agg 36, .agg 43] (enc_ll p)).1 (resK (.int .i64) dec_i) = impl_Lawn_kind k p.1 p.2 := by
  kernel_rfl
theorem impl_Lawn_kind_ok (k : Nat) : EntOK Try.prog tab mvs (impl_Lawn_kind_e k) :=
  fn_ok (C := impl_Lawn_kind_C k) tabOK eqTabOK (impl_Lawn_kind_es k) rfl follows Try.func62 (by kernel_rfl) (by kernel_rfl) rfl (forall_getD _ 0 (0, Code.skip) (by kernel_rfl) fun i hi => by
      omega)
    dec_enc_ll dec_enc_i (impl_Lawn_kind_run k)

def dec_lli (ps : List Pay) : Option ((List Int) × (List Int) × Int) := match ps with
  | [.l x1, .l x2, .i x3] => some (x1, x2, x3)
  | _ => none
def enc_lli (p : (List Int) × (List Int) × Int) : List Pay := [.l p.1, .l p.2.1, .i p.2.2]
theorem dec_enc_lli : ∀ (ps : List Pay) (p : (List Int) × (List Int) × Int), dec_lli ps = some p → ps = enc_lli p := by
  intro ps p h
  unfold dec_lli at h
  split at h
  · injection h with h
    subst h
    rfl
  · cases h

def impl_Lawn_is_C (k : Nat) : Cfg := ⟨tab, mvs, oraOf [impl_Lawn_has_e k, impl_Lawn_kind_e k], loOf []⟩
theorem impl_Lawn_is_es (k : Nat) : ∀ e ∈ ([impl_Lawn_has_e k, impl_Lawn_kind_e k] : List Ent), EntOK Try.prog tab mvs e := by
  intro e he
  simp only [List.mem_cons, List.not_mem_nil, or_false] at he
  rcases he with rfl | rfl
  · exact impl_Lawn_has_ok k
  · exact impl_Lawn_kind_ok k
def impl_Lawn_is_e (k : Nat) : Ent := (110, callOf [.agg 36, .agg 43, .int .i64] dec_lli fun (p : (List Int) × (List Int) × Int) R K => (impl_Lawn_is k p.1 p.2.1 p.2.2).bind fun (b : Bool) => K ((fV (.bool) (enc_b b)).1, none))
theorem impl_Lawn_is_run (k : Nat) (p : (List Int) × (List Int) × Int) : runF (impl_Lawn_is_C k) Try.f110 false (fL [.agg 36, .agg 43, .int .i64] (enc_lli p)).1 (resK (.bool) dec_b) = impl_Lawn_is k p.1 p.2.1 p.2.2 := by
  kernel_rfl
theorem impl_Lawn_is_ok (k : Nat) : EntOK Try.prog tab mvs (impl_Lawn_is_e k) :=
  fn_ok (C := impl_Lawn_is_C k) tabOK eqTabOK (impl_Lawn_is_es k) rfl follows Try.func110 (by kernel_rfl) (by kernel_rfl) rfl (forall_getD _ 0 (0, Code.skip) (by kernel_rfl) fun i hi => by
      omega)
    dec_enc_lli dec_enc_b (impl_Lawn_is_run k)

def impl_Lawn_grass_C (k : Nat) : Cfg := ⟨tab, mvs, oraOf [impl_Lawn_is_e k], loOf []⟩
theorem impl_Lawn_grass_es (k : Nat) : ∀ e ∈ ([impl_Lawn_is_e k] : List Ent), EntOK Try.prog tab mvs e := by
  intro e he
  simp only [List.mem_cons, List.not_mem_nil, or_false] at he
  rcases he with rfl
  · exact impl_Lawn_is_ok k
def impl_Lawn_grass_e (k : Nat) : Ent := (63, callOf [.agg 36, .agg 43] dec_ll fun (p : (List Int) × (List Int)) R K => (impl_Lawn_grass k p.1 p.2).bind fun (b : Bool) => K ((fV (.bool) (enc_b b)).1, none))
theorem impl_Lawn_grass_run (k : Nat) (p : (List Int) × (List Int)) : runF (impl_Lawn_grass_C k) Try.f63 false (fL [.agg 36, .agg 43] (enc_ll p)).1 (resK (.bool) dec_b) = impl_Lawn_grass k p.1 p.2 := by
  kernel_rfl
theorem impl_Lawn_grass_ok (k : Nat) : EntOK Try.prog tab mvs (impl_Lawn_grass_e k) :=
  fn_ok (C := impl_Lawn_grass_C k) tabOK eqTabOK (impl_Lawn_grass_es k) rfl follows Try.func63 (by kernel_rfl) (by kernel_rfl) rfl (forall_getD _ 0 (0, Code.skip) (by kernel_rfl) fun i hi => by
      omega)
    dec_enc_ll dec_enc_b (impl_Lawn_grass_run k)

def dec_iiiiillll (ps : List Pay) : Option (Int × Int × Int × Int × Int × (List Int) × (List Int) × (List Int) × (List Int)) := match ps with
  | [.i x1, .i x2, .i x3, .i x4, .i x5, .l x6, .l x7, .l x8, .l x9] => some (x1, x2, x3, x4, x5, x6, x7, x8, x9)
  | _ => none
def enc_iiiiillll (p : Int × Int × Int × Int × Int × (List Int) × (List Int) × (List Int) × (List Int)) : List Pay := [.i p.1, .i p.2.1, .i p.2.2.1, .i p.2.2.2.1, .i p.2.2.2.2.1, .l p.2.2.2.2.2.1, .l p.2.2.2.2.2.2.1, .l p.2.2.2.2.2.2.2.1, .l p.2.2.2.2.2.2.2.2]
theorem dec_enc_iiiiillll : ∀ (ps : List Pay) (p : Int × Int × Int × Int × Int × (List Int) × (List Int) × (List Int) × (List Int)), dec_iiiiillll ps = some p → ps = enc_iiiiillll p := by
  intro ps p h
  unfold dec_iiiiillll at h
  split at h
  · injection h with h
    subst h
    rfl
  · cases h

def dec_iiiilll (ps : List Pay) : Option (Int × Int × Int × Int × (List Int) × (List Int) × (List Int)) := match ps with
  | [.i x1, .i x2, .i x3, .i x4, .l x5, .l x6, .l x7] => some (x1, x2, x3, x4, x5, x6, x7)
  | _ => none
def enc_iiiilll (p : Int × Int × Int × Int × (List Int) × (List Int) × (List Int)) : List Pay := [.i p.1, .i p.2.1, .i p.2.2.1, .i p.2.2.2.1, .l p.2.2.2.2.1, .l p.2.2.2.2.2.1, .l p.2.2.2.2.2.2]
theorem dec_enc_iiiilll : ∀ (ps : List Pay) (p : Int × Int × Int × Int × (List Int) × (List Int) × (List Int)), dec_iiiilll ps = some p → ps = enc_iiiilll p := by
  intro ps p h
  unfold dec_iiiilll at h
  split at h
  · injection h with h
    subst h
    rfl
  · cases h

def dec_lb (ps : List Pay) : Option ((List Int) × Bool) := match ps with
  | [.l x1, .b x2] => some (x1, x2)
  | _ => none
def enc_lb (p : (List Int) × Bool) : List Pay := [.l p.1, .b p.2]
theorem dec_enc_lb : ∀ (ps : List Pay) (p : (List Int) × Bool), dec_lb ps = some p → ps = enc_lb p := by
  intro ps p h
  unfold dec_lb at h
  split at h
  · injection h with h
    subst h
    rfl
  · cases h

def impl_Lawn_runs_t0 : StTm := ⟨63, [(2, .ptr 2 0 36), (5, .slw 5 45), (6, .int .i8), (7, .int .i8), (9, .ptr 9 0 43), (10, .int .i8), (15, .slw 15 43), (16, .int .i64), (17, .int .i64)], [(2, 36, true, .ints), (5, 45, false, .ints), (9, 43, true, .ints), (15, 43, false, .ints)]⟩
def impl_Lawn_runs_t0_1 : StTm := ⟨63, [(2, .ptr 2 0 36), (5, .slw 5 45), (6, .int .i8), (7, .int .i8), (9, .ptr 9 0 43), (10, .int .i8), (15, .slw 15 43), (16, .int .i64), (17, .int .i64)], [(2, 36, true, .ints), (5, 45, false, .ints), (9, 43, true, .ints), (15, 43, false, .ints)]⟩
def impl_Lawn_runs_w0 (k : Nat) (R : Type) (K : Ex → St → Option R) (rec : Int × Int × Int × Int × Int × (List Int) × (List Int) × (List Int) × (List Int) → Option R) (p : Int × Int × Int × Int × Int × (List Int) × (List Int) × (List Int) × (List Int)) : Option R := impl_Lawn_runs_s0 k (fun y1 y2 y3 y4 y5 y6 y7 y8 y9 => K (.exit 2) (fSt impl_Lawn_runs_t0_1 [.i y1, .i y2, .i y3, .i y4, .i y5, .l y6, .l y7, .l y8, .l y9])) (fun h1 h2 h3 h4 h5 h6 h7 h8 h9 => rec (h1, h2, h3, h4, h5, h6, h7, h8, h9)) p.1 p.2.1 p.2.2.1 p.2.2.2.1 p.2.2.2.2.1 p.2.2.2.2.2.1 p.2.2.2.2.2.2.1 p.2.2.2.2.2.2.2.1 p.2.2.2.2.2.2.2.2
def impl_Lawn_runs_c0 (k : Nat) : Lcall := lcallOf tab impl_Lawn_runs_t0 dec_iiiiillll [2, 5, 6, 7, 9, 10, 15, 16, 17] k (impl_Lawn_runs_w0 k)
def impl_Lawn_runs_t1 : StTm := ⟨63, [(2, .ptr 2 0 36), (5, .slw 5 45), (6, .int .i8), (7, .int .i8), (15, .slw 15 43), (16, .int .i64), (17, .int .i64)], [(2, 36, true, .ints), (5, 45, false, .ints), (15, 43, false, .ints)]⟩
def impl_Lawn_runs_t1_1 : StTm := ⟨63, [(5, .slw 5 45)], [(5, 45, false, .ints)]⟩
def impl_Lawn_runs_w1 (k : Nat) (R : Type) (K : Ex → St → Option R) (rec : Int × Int × Int × Int × (List Int) × (List Int) × (List Int) → Option R) (p : Int × Int × Int × Int × (List Int) × (List Int) × (List Int)) : Option R := impl_Lawn_runs_s1 k (fun y1 => K (.exit 0) (fSt impl_Lawn_runs_t1_1 [.l y1])) (fun h1 h2 h3 h4 h5 h6 h7 => rec (h1, h2, h3, h4, h5, h6, h7)) p.1 p.2.1 p.2.2.1 p.2.2.2.1 p.2.2.2.2.1 p.2.2.2.2.2.1 p.2.2.2.2.2.2
def impl_Lawn_runs_c1 (k : Nat) : Lcall := lcallOf tab impl_Lawn_runs_t1 dec_iiiilll [2, 5, 6, 7, 15, 16, 17] k (impl_Lawn_runs_w1 k)
def impl_Lawn_runs_C (k : Nat) : Cfg := ⟨tab, mvs, oraOf [impl_Lawn_all_e k, impl_Lawn_grass_e k], loOf [(2, impl_Lawn_runs_c0 k), (0, impl_Lawn_runs_c1 k)]⟩
theorem impl_Lawn_runs_es (k : Nat) : ∀ e ∈ ([impl_Lawn_all_e k, impl_Lawn_grass_e k] : List Ent), EntOK Try.prog tab mvs e := by
  intro e he
  simp only [List.mem_cons, List.not_mem_nil, or_false] at he
  rcases he with rfl | rfl
  · exact impl_Lawn_all_ok k
  · exact impl_Lawn_grass_ok k
theorem impl_Lawn_runs_step0 (k : Nat) (R : Type) (K : Ex → St → Option R) (g : St → Option R) (p : Int × Int × Int × Int × Int × (List Int) × (List Int) × (List Int) × (List Int)) : evCode (impl_Lawn_runs_C k) (loopP [0, 0] (0, codeOf Try.f56)).2 (loopP [0, 0] (0, codeOf Try.f56)).1 (fSt impl_Lawn_runs_t0 (enc_iiiiillll p)) (loopK tab [2, 5, 6, 7, 9, 10, 15, 16, 17] [2, 5, 6, 7, 9, 10, 15, 16, 17] [4] g K) = impl_Lawn_runs_w0 k R K (fun p => g (fSt impl_Lawn_runs_t0 (enc_iiiiillll p))) p := by
  kernel_rfl
theorem impl_Lawn_runs_lok0 (k : Nat) : LoopOK Try.prog tab (impl_Lawn_runs_C k).lo (loopP [0, 0] (0, codeOf Try.f56)).1 (loopP [0, 0] (0, codeOf Try.f56)).2 :=
  loopOK_of (C := impl_Lawn_runs_C k) tabOK eqTabOK (oraOf_ok (impl_Lawn_runs_es k)) (oraOf_nat (impl_Lawn_runs_es k)) follows (forall_getD _ 0 (0, Code.skip) (by kernel_rfl) fun i hi => by
      omega)
    (tm := impl_Lawn_runs_t0) (dec := dec_iiiiillll) (enc := enc_iiiiillll) (ksIn := [2, 5, 6, 7, 9, 10, 15, 16, 17]) (ksOut := [2, 5, 6, 7, 9, 10, 15, 16, 17]) (ksRet := [4]) (k := k) (step := impl_Lawn_runs_w0 k) dec_enc_iiiiillll (fun p => by kernel_rfl) (fun s R K => by kernel_rfl) (impl_Lawn_runs_step0 k)
theorem impl_Lawn_runs_step1 (k : Nat) (R : Type) (K : Ex → St → Option R) (g : St → Option R) (p : Int × Int × Int × Int × (List Int) × (List Int) × (List Int)) : evCode (impl_Lawn_runs_C k) (loopP [0] (0, codeOf Try.f56)).2 (loopP [0] (0, codeOf Try.f56)).1 (fSt impl_Lawn_runs_t1 (enc_iiiilll p)) (loopK tab [2, 5, 6, 7, 15, 16, 17] [5] [4] g K) = impl_Lawn_runs_w1 k R K (fun p => g (fSt impl_Lawn_runs_t1 (enc_iiiilll p))) p := by
  kernel_rfl
theorem impl_Lawn_runs_lok1 (k : Nat) : LoopOK Try.prog tab (impl_Lawn_runs_C k).lo (loopP [0] (0, codeOf Try.f56)).1 (loopP [0] (0, codeOf Try.f56)).2 :=
  loopOK_of (C := impl_Lawn_runs_C k) tabOK eqTabOK (oraOf_ok (impl_Lawn_runs_es k)) (oraOf_nat (impl_Lawn_runs_es k)) follows (forall_getD _ 1 (0, Code.skip) (by kernel_rfl) fun i hi => by
      match i, hi with
      | 0, _ => exact impl_Lawn_runs_lok0 k
      | n + 1, h => omega)
    (tm := impl_Lawn_runs_t1) (dec := dec_iiiilll) (enc := enc_iiiilll) (ksIn := [2, 5, 6, 7, 15, 16, 17]) (ksOut := [5]) (ksRet := [4]) (k := k) (step := impl_Lawn_runs_w1 k) dec_enc_iiiilll (fun p => by kernel_rfl) (fun s R K => by kernel_rfl) (impl_Lawn_runs_step1 k)
def impl_Lawn_runs_e (k : Nat) : Ent := (56, callOf [.agg 36, .bool] dec_lb fun (p : (List Int) × Bool) R K => (impl_Lawn_runs k p.1 p.2).bind fun (b : (List Int)) => K ((fV (.slv 45) (enc_l b)).1, none))
theorem impl_Lawn_runs_run (k : Nat) (p : (List Int) × Bool) : runF (impl_Lawn_runs_C k) Try.f56 false (fL [.agg 36, .bool] (enc_lb p)).1 (resK (.slv 45) dec_l) = impl_Lawn_runs k p.1 p.2 := by
  kernel_rfl
theorem impl_Lawn_runs_ok (k : Nat) : EntOK Try.prog tab mvs (impl_Lawn_runs_e k) :=
  fn_ok (C := impl_Lawn_runs_C k) tabOK eqTabOK (impl_Lawn_runs_es k) rfl follows Try.func56 (by kernel_rfl) (by kernel_rfl) rfl (forall_getD _ 1 (0, Code.skip) (by kernel_rfl) fun i hi => by
      match i, hi with
      | 0, _ => exact impl_Lawn_runs_lok1 k
      | n + 1, h => omega)
    dec_enc_lb dec_enc_l (impl_Lawn_runs_run k)

def dec_li (ps : List Pay) : Option ((List Int) × Int) := match ps with
  | [.l x1, .i x2] => some (x1, x2)
  | _ => none
def enc_li (p : (List Int) × Int) : List Pay := [.l p.1, .i p.2]
theorem dec_enc_li : ∀ (ps : List Pay) (p : (List Int) × Int), dec_li ps = some p → ps = enc_li p := by
  intro ps p h
  unfold dec_li at h
  split at h
  · injection h with h
    subst h
    rfl
  · cases h

def impl_RunsOf_C (k : Nat) : Cfg := ⟨tab, mvs, oraOf [impl_cellsCode_e k, impl_Lawn_runs_e k], loOf []⟩
theorem impl_RunsOf_es (k : Nat) : ∀ e ∈ ([impl_cellsCode_e k, impl_Lawn_runs_e k] : List Ent), EntOK Try.prog tab mvs e := by
  intro e he
  simp only [List.mem_cons, List.not_mem_nil, or_false] at he
  rcases he with rfl | rfl
  · exact impl_cellsCode_ok k
  · exact impl_Lawn_runs_ok k
def impl_RunsOf_e (k : Nat) : Ent := (17, callOf [.agg 36, .bool] dec_lb fun (p : (List Int) × Bool) R K => (impl_RunsOf k p.1 p.2).bind fun (b : (List Int) × Int) => K ((fV (.tup [.slv 45, .int .i64]) (enc_li b)).1, none))
theorem impl_RunsOf_run (k : Nat) (p : (List Int) × Bool) : runF (impl_RunsOf_C k) Try.f17 false (fL [.agg 36, .bool] (enc_lb p)).1 (resK (.tup [.slv 45, .int .i64]) dec_li) = impl_RunsOf k p.1 p.2 := by
  kernel_rfl
theorem impl_RunsOf_ok (k : Nat) : EntOK Try.prog tab mvs (impl_RunsOf_e k) :=
  fn_ok (C := impl_RunsOf_C k) tabOK eqTabOK (impl_RunsOf_es k) rfl follows Try.func17 (by kernel_rfl) (by kernel_rfl) rfl (forall_getD _ 0 (0, Code.skip) (by kernel_rfl) fun i hi => by
      omega)
    dec_enc_lb dec_enc_li (impl_RunsOf_run k)

def spec_l00In_C (k : Nat) : Cfg := ⟨tab, mvs, oraOf [], loOf []⟩
theorem spec_l00In_es (k : Nat) : ∀ e ∈ ([] : List Ent), EntOK Try.prog tab mvs e := by
  intro e he
  simp at he
def spec_l00In_e (k : Nat) : Ent := (94, callOf [.int .i64, .int .i64, .int .i64] dec_iii fun (p : Int × Int × Int) R K => (spec_l00In k p.1 p.2.1 p.2.2).bind fun (b : Bool) => K ((fV (.bool) (enc_b b)).1, none))
theorem spec_l00In_run (k : Nat) (p : Int × Int × Int) : runF (spec_l00In_C k) Try.f94 false (fL [.int .i64, .int .i64, .int .i64] (enc_iii p)).1 (resK (.bool) dec_b) = spec_l00In k p.1 p.2.1 p.2.2 := by
  kernel_rfl
theorem spec_l00In_ok (k : Nat) : EntOK Try.prog tab mvs (spec_l00In_e k) :=
  fn_ok (C := spec_l00In_C k) tabOK eqTabOK (spec_l00In_es k) rfl follows Try.func94 (by kernel_rfl) (by kernel_rfl) rfl (forall_getD _ 0 (0, Code.skip) (by kernel_rfl) fun i hi => by
      omega)
    dec_enc_iii dec_enc_b (spec_l00In_run k)

def spec_l01Side_C (k : Nat) : Cfg := ⟨tab, mvs, oraOf [spec_l00In_e k], loOf []⟩
theorem spec_l01Side_es (k : Nat) : ∀ e ∈ ([spec_l00In_e k] : List Ent), EntOK Try.prog tab mvs e := by
  intro e he
  simp only [List.mem_cons, List.not_mem_nil, or_false] at he
  rcases he with rfl
  · exact spec_l00In_ok k
def spec_l01Side_e (k : Nat) : Ent := (105, callOf [.int .i64] dec_i fun (p : Int) R K => (spec_l01Side k p).bind fun (b : Bool) => K ((fV (.bool) (enc_b b)).1, none))
theorem spec_l01Side_run (k : Nat) (p : Int) : runF (spec_l01Side_C k) Try.f105 false (fL [.int .i64] (enc_i p)).1 (resK (.bool) dec_b) = spec_l01Side k p := by
  kernel_rfl
theorem spec_l01Side_ok (k : Nat) : EntOK Try.prog tab mvs (spec_l01Side_e k) :=
  fn_ok (C := spec_l01Side_C k) tabOK eqTabOK (spec_l01Side_es k) rfl follows Try.func105 (by kernel_rfl) (by kernel_rfl) rfl (forall_getD _ 0 (0, Code.skip) (by kernel_rfl) fun i hi => by
      omega)
    dec_enc_i dec_enc_b (spec_l01Side_run k)

def spec_l01Kind_C (k : Nat) : Cfg := ⟨tab, mvs, oraOf [spec_l00In_e k], loOf []⟩
theorem spec_l01Kind_es (k : Nat) : ∀ e ∈ ([spec_l00In_e k] : List Ent), EntOK Try.prog tab mvs e := by
  intro e he
  simp only [List.mem_cons, List.not_mem_nil, or_false] at he
  rcases he with rfl
  · exact spec_l00In_ok k
def spec_l01Kind_e (k : Nat) : Ent := (60, callOf [.int .i64] dec_i fun (p : Int) R K => (spec_l01Kind k p).bind fun (b : Bool) => K ((fV (.bool) (enc_b b)).1, none))
theorem spec_l01Kind_run (k : Nat) (p : Int) : runF (spec_l01Kind_C k) Try.f60 false (fL [.int .i64] (enc_i p)).1 (resK (.bool) dec_b) = spec_l01Kind k p := by
  kernel_rfl
theorem spec_l01Kind_ok (k : Nat) : EntOK Try.prog tab mvs (spec_l01Kind_e k) :=
  fn_ok (C := spec_l01Kind_C k) tabOK eqTabOK (spec_l01Kind_es k) rfl follows Try.func60 (by kernel_rfl) (by kernel_rfl) rfl (forall_getD _ 0 (0, Code.skip) (by kernel_rfl) fun i hi => by
      omega)
    dec_enc_i dec_enc_b (spec_l01Kind_run k)

def spec_l01Is_C (k : Nat) : Cfg := ⟨tab, mvs, oraOf [spec_l00In_e k], loOf []⟩
theorem spec_l01Is_es (k : Nat) : ∀ e ∈ ([spec_l00In_e k] : List Ent), EntOK Try.prog tab mvs e := by
  intro e he
  simp only [List.mem_cons, List.not_mem_nil, or_false] at he
  rcases he with rfl
  · exact spec_l00In_ok k
def spec_l01Is_e (k : Nat) : Ent := (106, callOf [.pvi (some 36) 0 36, .agg 43] dec_ll fun (p : (List Int) × (List Int)) R K => (spec_l01Is k p.1 p.2).bind fun (b : Bool) => K ((fV (.bool) (enc_b b)).1, none))
theorem spec_l01Is_run (k : Nat) (p : (List Int) × (List Int)) : runF (spec_l01Is_C k) Try.f106 false (fL [.pvi (some 36) 0 36, .agg 43] (enc_ll p)).1 (resK (.bool) dec_b) = spec_l01Is k p.1 p.2 := by
  kernel_rfl
theorem spec_l01Is_ok (k : Nat) : EntOK Try.prog tab mvs (spec_l01Is_e k) :=
  fn_ok (C := spec_l01Is_C k) tabOK eqTabOK (spec_l01Is_es k) rfl follows Try.func106 (by kernel_rfl) (by kernel_rfl) rfl (forall_getD _ 0 (0, Code.skip) (by kernel_rfl) fun i hi => by
      omega)
    dec_enc_ll dec_enc_b (spec_l01Is_run k)

def spec_l01Ok_t0 : StTm := ⟨54, [(0, .pvi (some 36) 0 36), (3, .int .i8), (4, .int .i8)], []⟩
def spec_l01Ok_t0_1 : StTm := ⟨54, [(2, .bool)], []⟩
def spec_l01Ok_t0_2 : StTm := ⟨54, [(0, .pvi (some 36) 0 36), (3, .int .i8)], []⟩
def spec_l01Ok_w0 (k : Nat) (R : Type) (K : Ex → St → Option R) (rec : (List Int) × Int × Int → Option R) (p : (List Int) × Int × Int) : Option R := spec_l01Ok_s0 k (fun y1 => K .ret (fSt spec_l01Ok_t0_1 [.b y1])) (fun y1 y2 => K (.exit 2) (fSt spec_l01Ok_t0_2 [.l y1, .i y2])) (fun h1 h2 h3 => rec (h1, h2, h3)) p.1 p.2.1 p.2.2
def spec_l01Ok_c0 (k : Nat) : Lcall := lcallOf tab spec_l01Ok_t0 dec_lii [0, 3, 4] k (spec_l01Ok_w0 k)
def spec_l01Ok_t1 : StTm := ⟨54, [(0, .pvi (some 36) 0 36), (3, .int .i8)], []⟩
def spec_l01Ok_t1_1 : StTm := ⟨54, [(2, .bool)], []⟩
def spec_l01Ok_t1_2 : StTm := ⟨54, [], []⟩
def spec_l01Ok_w1 (k : Nat) (R : Type) (K : Ex → St → Option R) (rec : (List Int) × Int → Option R) (p : (List Int) × Int) : Option R := spec_l01Ok_s1 k (fun y1 => K .ret (fSt spec_l01Ok_t1_1 [.b y1])) (K (.exit 0) (fSt spec_l01Ok_t1_2 [])) (fun h1 h2 => rec (h1, h2)) p.1 p.2
def spec_l01Ok_c1 (k : Nat) : Lcall := lcallOf tab spec_l01Ok_t1 dec_li [0, 3] k (spec_l01Ok_w1 k)
def spec_l01Ok_C (k : Nat) : Cfg := ⟨tab, mvs, oraOf [spec_l01Side_e k, spec_l01Kind_e k, spec_l01Is_e k], loOf [(2, spec_l01Ok_c0 k), (0, spec_l01Ok_c1 k)]⟩
theorem spec_l01Ok_es (k : Nat) : ∀ e ∈ ([spec_l01Side_e k, spec_l01Kind_e k, spec_l01Is_e k] : List Ent), EntOK Try.prog tab mvs e := by
  intro e he
  simp only [List.mem_cons, List.not_mem_nil, or_false] at he
  rcases he with rfl | rfl | rfl
  · exact spec_l01Side_ok k
  · exact spec_l01Kind_ok k
  · exact spec_l01Is_ok k
theorem spec_l01Ok_step0 (k : Nat) (R : Type) (K : Ex → St → Option R) (g : St → Option R) (p : (List Int) × Int × Int) : evCode (spec_l01Ok_C k) (loopP [0, 0] (0, codeOf Try.f57)).2 (loopP [0, 0] (0, codeOf Try.f57)).1 (fSt spec_l01Ok_t0 (enc_lii p)) (loopK tab [0, 3, 4] [0, 3] [2] g K) = spec_l01Ok_w0 k R K (fun p => g (fSt spec_l01Ok_t0 (enc_lii p))) p := by
  kernel_rfl
theorem spec_l01Ok_lok0 (k : Nat) : LoopOK Try.prog tab (spec_l01Ok_C k).lo (loopP [0, 0] (0, codeOf Try.f57)).1 (loopP [0, 0] (0, codeOf Try.f57)).2 :=
  loopOK_of (C := spec_l01Ok_C k) tabOK eqTabOK (oraOf_ok (spec_l01Ok_es k)) (oraOf_nat (spec_l01Ok_es k)) follows (forall_getD _ 0 (0, Code.skip) (by kernel_rfl) fun i hi => by
      omega)
    (tm := spec_l01Ok_t0) (dec := dec_lii) (enc := enc_lii) (ksIn := [0, 3, 4]) (ksOut := [0, 3]) (ksRet := [2]) (k := k) (step := spec_l01Ok_w0 k) dec_enc_lii (fun p => by kernel_rfl) (fun s R K => by kernel_rfl) (spec_l01Ok_step0 k)
theorem spec_l01Ok_step1 (k : Nat) (R : Type) (K : Ex → St → Option R) (g : St → Option R) (p : (List Int) × Int) : evCode (spec_l01Ok_C k) (loopP [0] (0, codeOf Try.f57)).2 (loopP [0] (0, codeOf Try.f57)).1 (fSt spec_l01Ok_t1 (enc_li p)) (loopK tab [0, 3] [] [2] g K) = spec_l01Ok_w1 k R K (fun p => g (fSt spec_l01Ok_t1 (enc_li p))) p := by
  kernel_rfl
theorem spec_l01Ok_lok1 (k : Nat) : LoopOK Try.prog tab (spec_l01Ok_C k).lo (loopP [0] (0, codeOf Try.f57)).1 (loopP [0] (0, codeOf Try.f57)).2 :=
  loopOK_of (C := spec_l01Ok_C k) tabOK eqTabOK (oraOf_ok (spec_l01Ok_es k)) (oraOf_nat (spec_l01Ok_es k)) follows (forall_getD _ 1 (0, Code.skip) (by kernel_rfl) fun i hi => by
      match i, hi with
      | 0, _ => exact spec_l01Ok_lok0 k
      | n + 1, h => omega)
    (tm := spec_l01Ok_t1) (dec := dec_li) (enc := enc_li) (ksIn := [0, 3]) (ksOut := []) (ksRet := [2]) (k := k) (step := spec_l01Ok_w1 k) dec_enc_li (fun p => by kernel_rfl) (fun s R K => by kernel_rfl) (spec_l01Ok_step1 k)
def spec_l01Ok_e (k : Nat) : Ent := (57, callOf [.pvi (some 36) 0 36] dec_l fun (p : (List Int)) R K => (spec_l01Ok k p).bind fun (b : Bool) => K ((fV (.bool) (enc_b b)).1, none))
theorem spec_l01Ok_run (k : Nat) (p : (List Int)) : runF (spec_l01Ok_C k) Try.f57 false (fL [.pvi (some 36) 0 36] (enc_l p)).1 (resK (.bool) dec_b) = spec_l01Ok k p := by
  kernel_rfl
theorem spec_l01Ok_ok (k : Nat) : EntOK Try.prog tab mvs (spec_l01Ok_e k) :=
  fn_ok (C := spec_l01Ok_C k) tabOK eqTabOK (spec_l01Ok_es k) rfl follows Try.func57 (by kernel_rfl) (by kernel_rfl) rfl (forall_getD _ 1 (0, Code.skip) (by kernel_rfl) fun i hi => by
      match i, hi with
      | 0, _ => exact spec_l01Ok_lok1 k
      | n + 1, h => omega)
    dec_enc_l dec_enc_b (spec_l01Ok_run k)

def spec_l01At_C (k : Nat) : Cfg := ⟨tab, mvs, oraOf [], loOf []⟩
theorem spec_l01At_es (k : Nat) : ∀ e ∈ ([] : List Ent), EntOK Try.prog tab mvs e := by
  intro e he
  simp at he
def spec_l01At_e (k : Nat) : Ent := (109, callOf [.pvi (some 36) 0 36, .agg 43] dec_ll fun (p : (List Int) × (List Int)) R K => (spec_l01At k p.1 p.2).bind fun (b : Int) => K ((fV (.int .i64) (enc_i b)).1, none))
theorem spec_l01At_run (k : Nat) (p : (List Int) × (List Int)) : runF (spec_l01At_C k) Try.f109 false (fL [.pvi (some 36) 0 36, .agg 43] (enc_ll p)).1 (resK (.int .i64) dec_i) = spec_l01At k p.1 p.2 := by
  kernel_rfl
theorem spec_l01At_ok (k : Nat) : EntOK Try.prog tab mvs (spec_l01At_e k) :=
  fn_ok (C := spec_l01At_C k) tabOK eqTabOK (spec_l01At_es k) rfl follows Try.func109 (by kernel_rfl) (by kernel_rfl) rfl (forall_getD _ 0 (0, Code.skip) (by kernel_rfl) fun i hi => by
      omega)
    dec_enc_ll dec_enc_i (spec_l01At_run k)

def dec_liill (ps : List Pay) : Option ((List Int) × Int × Int × (List Int) × (List Int)) := match ps with
  | [.l x1, .i x2, .i x3, .l x4, .l x5] => some (x1, x2, x3, x4, x5)
  | _ => none
def enc_liill (p : (List Int) × Int × Int × (List Int) × (List Int)) : List Pay := [.l p.1, .i p.2.1, .i p.2.2.1, .l p.2.2.2.1, .l p.2.2.2.2]
theorem dec_enc_liill : ∀ (ps : List Pay) (p : (List Int) × Int × Int × (List Int) × (List Int)), dec_liill ps = some p → ps = enc_liill p := by
  intro ps p h
  unfold dec_liill at h
  split at h
  · injection h with h
    subst h
    rfl
  · cases h

def spec_l01Cells_t0 : StTm := ⟨33, [(0, .pvi (some 36) 0 36), (1, .int .i64), (5, .slw 5 43), (6, .slw 6 43), (7, .int .i64)], [(5, 43, false, .ints), (6, 43, false, .ints)]⟩
def spec_l01Cells_t0_1 : StTm := ⟨33, [(5, .slw 5 43)], [(5, 43, false, .ints)]⟩
def spec_l01Cells_w0 (k : Nat) (R : Type) (K : Ex → St → Option R) (rec : (List Int) × Int × Int × (List Int) × (List Int) → Option R) (p : (List Int) × Int × Int × (List Int) × (List Int)) : Option R := spec_l01Cells_s0 k (fun y1 => K (.exit 0) (fSt spec_l01Cells_t0_1 [.l y1])) (fun h1 h2 h3 h4 h5 => rec (h1, h2, h3, h4, h5)) p.1 p.2.1 p.2.2.1 p.2.2.2.1 p.2.2.2.2
def spec_l01Cells_c0 (k : Nat) : Lcall := lcallOf tab spec_l01Cells_t0 dec_liill [0, 1, 5, 6, 7] k (spec_l01Cells_w0 k)
def spec_l01Cells_C (k : Nat) : Cfg := ⟨tab, mvs, oraOf [spec_l01All_e k, spec_l01At_e k], loOf [(0, spec_l01Cells_c0 k)]⟩
theorem spec_l01Cells_es (k : Nat) : ∀ e ∈ ([spec_l01All_e k, spec_l01At_e k] : List Ent), EntOK Try.prog tab mvs e := by
  intro e he
  simp only [List.mem_cons, List.not_mem_nil, or_false] at he
  rcases he with rfl | rfl
  · exact spec_l01All_ok k
  · exact spec_l01At_ok k
theorem spec_l01Cells_step0 (k : Nat) (R : Type) (K : Ex → St → Option R) (g : St → Option R) (p : (List Int) × Int × Int × (List Int) × (List Int)) : evCode (spec_l01Cells_C k) (loopP [0] (0, codeOf Try.f61)).2 (loopP [0] (0, codeOf Try.f61)).1 (fSt spec_l01Cells_t0 (enc_liill p)) (loopK tab [0, 1, 5, 6, 7] [5] [4] g K) = spec_l01Cells_w0 k R K (fun p => g (fSt spec_l01Cells_t0 (enc_liill p))) p := by
  kernel_rfl
theorem spec_l01Cells_lok0 (k : Nat) : LoopOK Try.prog tab (spec_l01Cells_C k).lo (loopP [0] (0, codeOf Try.f61)).1 (loopP [0] (0, codeOf Try.f61)).2 :=
  loopOK_of (C := spec_l01Cells_C k) tabOK eqTabOK (oraOf_ok (spec_l01Cells_es k)) (oraOf_nat (spec_l01Cells_es k)) follows (forall_getD _ 0 (0, Code.skip) (by kernel_rfl) fun i hi => by
      omega)
    (tm := spec_l01Cells_t0) (dec := dec_liill) (enc := enc_liill) (ksIn := [0, 1, 5, 6, 7]) (ksOut := [5]) (ksRet := [4]) (k := k) (step := spec_l01Cells_w0 k) dec_enc_liill (fun p => by kernel_rfl) (fun s R K => by kernel_rfl) (spec_l01Cells_step0 k)
def spec_l01Cells_e (k : Nat) : Ent := (61, callOf [.pvi (some 36) 0 36, .int .i64] dec_li fun (p : (List Int) × Int) R K => (spec_l01Cells k p.1 p.2).bind fun (b : (List Int)) => K ((fV (.slv 43) (enc_l b)).1, none))
theorem spec_l01Cells_run (k : Nat) (p : (List Int) × Int) : runF (spec_l01Cells_C k) Try.f61 false (fL [.pvi (some 36) 0 36, .int .i64] (enc_li p)).1 (resK (.slv 43) dec_l) = spec_l01Cells k p.1 p.2 := by
  kernel_rfl
theorem spec_l01Cells_ok (k : Nat) : EntOK Try.prog tab mvs (spec_l01Cells_e k) :=
  fn_ok (C := spec_l01Cells_C k) tabOK eqTabOK (spec_l01Cells_es k) rfl follows Try.func61 (by kernel_rfl) (by kernel_rfl) rfl (forall_getD _ 1 (0, Code.skip) (by kernel_rfl) fun i hi => by
      match i, hi with
      | 0, _ => exact spec_l01Cells_lok0 k
      | n + 1, h => omega)
    dec_enc_li dec_enc_l (spec_l01Cells_run k)

def dec_lbi (ps : List Pay) : Option ((List Int) × Bool × Int) := match ps with
  | [.l x1, .b x2, .i x3] => some (x1, x2, x3)
  | _ => none
def enc_lbi (p : (List Int) × Bool × Int) : List Pay := [.l p.1, .b p.2.1, .i p.2.2]
theorem dec_enc_lbi : ∀ (ps : List Pay) (p : (List Int) × Bool × Int), dec_lbi ps = some p → ps = enc_lbi p := by
  intro ps p h
  unfold dec_lbi at h
  split at h
  · injection h with h
    subst h
    rfl
  · cases h

def spec_l01Back_C (k : Nat) : Cfg := ⟨tab, mvs, oraOf [], loOf []⟩
theorem spec_l01Back_es (k : Nat) : ∀ e ∈ ([] : List Ent), EntOK Try.prog tab mvs e := by
  intro e he
  simp at he
def spec_l01Back_e (k : Nat) : Ent := (108, callOf [.agg 43, .bool, .int .i8] dec_lbi fun (p : (List Int) × Bool × Int) R K => (spec_l01Back k p.1 p.2.1 p.2.2).bind fun (b : (List Int)) => K ((fV (.agg 43) (enc_l b)).1, none))
theorem spec_l01Back_run (k : Nat) (p : (List Int) × Bool × Int) : runF (spec_l01Back_C k) Try.f108 false (fL [.agg 43, .bool, .int .i8] (enc_lbi p)).1 (resK (.agg 43) dec_l) = spec_l01Back k p.1 p.2.1 p.2.2 := by
  kernel_rfl
theorem spec_l01Back_ok (k : Nat) : EntOK Try.prog tab mvs (spec_l01Back_e k) :=
  fn_ok (C := spec_l01Back_C k) tabOK eqTabOK (spec_l01Back_es k) rfl follows Try.func108 (by kernel_rfl) (by kernel_rfl) rfl (forall_getD _ 0 (0, Code.skip) (by kernel_rfl) fun i hi => by
      omega)
    dec_enc_lbi dec_enc_l (spec_l01Back_run k)

def spec_l01Grass_C (k : Nat) : Cfg := ⟨tab, mvs, oraOf [spec_l01Is_e k, spec_l01At_e k], loOf []⟩
theorem spec_l01Grass_es (k : Nat) : ∀ e ∈ ([spec_l01Is_e k, spec_l01At_e k] : List Ent), EntOK Try.prog tab mvs e := by
  intro e he
  simp only [List.mem_cons, List.not_mem_nil, or_false] at he
  rcases he with rfl | rfl
  · exact spec_l01Is_ok k
  · exact spec_l01At_ok k
def spec_l01Grass_e (k : Nat) : Ent := (107, callOf [.pvi (some 36) 0 36, .agg 43] dec_ll fun (p : (List Int) × (List Int)) R K => (spec_l01Grass k p.1 p.2).bind fun (b : Bool) => K ((fV (.bool) (enc_b b)).1, none))
theorem spec_l01Grass_run (k : Nat) (p : (List Int) × (List Int)) : runF (spec_l01Grass_C k) Try.f107 false (fL [.pvi (some 36) 0 36, .agg 43] (enc_ll p)).1 (resK (.bool) dec_b) = spec_l01Grass k p.1 p.2 := by
  kernel_rfl
theorem spec_l01Grass_ok (k : Nat) : EntOK Try.prog tab mvs (spec_l01Grass_e k) :=
  fn_ok (C := spec_l01Grass_C k) tabOK eqTabOK (spec_l01Grass_es k) rfl follows Try.func107 (by kernel_rfl) (by kernel_rfl) rfl (forall_getD _ 0 (0, Code.skip) (by kernel_rfl) fun i hi => by
      omega)
    dec_enc_ll dec_enc_b (spec_l01Grass_run k)

def dec_lbilll (ps : List Pay) : Option ((List Int) × Bool × Int × (List Int) × (List Int) × (List Int)) := match ps with
  | [.l x1, .b x2, .i x3, .l x4, .l x5, .l x6] => some (x1, x2, x3, x4, x5, x6)
  | _ => none
def enc_lbilll (p : (List Int) × Bool × Int × (List Int) × (List Int) × (List Int)) : List Pay := [.l p.1, .b p.2.1, .i p.2.2.1, .l p.2.2.2.1, .l p.2.2.2.2.1, .l p.2.2.2.2.2]
theorem dec_enc_lbilll : ∀ (ps : List Pay) (p : (List Int) × Bool × Int × (List Int) × (List Int) × (List Int)), dec_lbilll ps = some p → ps = enc_lbilll p := by
  intro ps p h
  unfold dec_lbilll at h
  split at h
  · injection h with h
    subst h
    rfl
  · cases h

def dec_lbill (ps : List Pay) : Option ((List Int) × Bool × Int × (List Int) × (List Int)) := match ps with
  | [.l x1, .b x2, .i x3, .l x4, .l x5] => some (x1, x2, x3, x4, x5)
  | _ => none
def enc_lbill (p : (List Int) × Bool × Int × (List Int) × (List Int)) : List Pay := [.l p.1, .b p.2.1, .i p.2.2.1, .l p.2.2.2.1, .l p.2.2.2.2]
theorem dec_enc_lbill : ∀ (ps : List Pay) (p : (List Int) × Bool × Int × (List Int) × (List Int)), dec_lbill ps = some p → ps = enc_lbill p := by
  intro ps p h
  unfold dec_lbill at h
  split at h
  · injection h with h
    subst h
    rfl
  · cases h

def spec_l01Runs_t0 : StTm := ⟨51, [(0, .pvi (some 36) 0 36), (1, .bool), (5, .slw 5 45), (6, .slw 6 43), (7, .int .i64), (8, .ptr 8 0 45)], [(5, 45, false, .ints), (6, 43, false, .ints), (8, 45, true, .ints)]⟩
def spec_l01Runs_t0_1 : StTm := ⟨51, [(0, .pvi (some 36) 0 36), (1, .bool), (5, .slw 5 45), (6, .slw 6 43), (7, .int .i64), (8, .ptr 8 0 45)], [(5, 45, false, .ints), (6, 43, false, .ints), (8, 45, true, .ints)]⟩
def spec_l01Runs_w0 (k : Nat) (R : Type) (K : Ex → St → Option R) (rec : (List Int) × Bool × Int × (List Int) × (List Int) × (List Int) → Option R) (p : (List Int) × Bool × Int × (List Int) × (List Int) × (List Int)) : Option R := spec_l01Runs_s0 k (fun y1 y2 y3 y4 y5 y6 => K (.exit 2) (fSt spec_l01Runs_t0_1 [.l y1, .b y2, .i y3, .l y4, .l y5, .l y6])) (fun h1 h2 h3 h4 h5 h6 => rec (h1, h2, h3, h4, h5, h6)) p.1 p.2.1 p.2.2.1 p.2.2.2.1 p.2.2.2.2.1 p.2.2.2.2.2
def spec_l01Runs_c0 (k : Nat) : Lcall := lcallOf tab spec_l01Runs_t0 dec_lbilll [0, 1, 5, 6, 7, 8] k (spec_l01Runs_w0 k)
def spec_l01Runs_t1 : StTm := ⟨51, [(0, .pvi (some 36) 0 36), (1, .bool), (5, .slw 5 45), (6, .slw 6 43), (7, .int .i64)], [(5, 45, false, .ints), (6, 43, false, .ints)]⟩
def spec_l01Runs_t1_1 : StTm := ⟨51, [(5, .slw 5 45)], [(5, 45, false, .ints)]⟩
def spec_l01Runs_w1 (k : Nat) (R : Type) (K : Ex → St → Option R) (rec : (List Int) × Bool × Int × (List Int) × (List Int) → Option R) (p : (List Int) × Bool × Int × (List Int) × (List Int)) : Option R := spec_l01Runs_s1 k (fun y1 => K (.exit 0) (fSt spec_l01Runs_t1_1 [.l y1])) (fun h1 h2 h3 h4 h5 => rec (h1, h2, h3, h4, h5)) p.1 p.2.1 p.2.2.1 p.2.2.2.1 p.2.2.2.2
def spec_l01Runs_c1 (k : Nat) : Lcall := lcallOf tab spec_l01Runs_t1 dec_lbill [0, 1, 5, 6, 7] k (spec_l01Runs_w1 k)
def spec_l01Runs_C (k : Nat) : Cfg := ⟨tab, mvs, oraOf [spec_l01Cells_e k, spec_l01Back_e k, spec_l01Grass_e k], loOf [(2, spec_l01Runs_c0 k), (0, spec_l01Runs_c1 k)]⟩
theorem spec_l01Runs_es (k : Nat) : ∀ e ∈ ([spec_l01Cells_e k, spec_l01Back_e k, spec_l01Grass_e k] : List Ent), EntOK Try.prog tab mvs e := by
  intro e he
  simp only [List.mem_cons, List.not_mem_nil, or_false] at he
  rcases he with rfl | rfl | rfl
  · exact spec_l01Cells_ok k
  · exact spec_l01Back_ok k
  · exact spec_l01Grass_ok k
theorem spec_l01Runs_step0 (k : Nat) (R : Type) (K : Ex → St → Option R) (g : St → Option R) (p : (List Int) × Bool × Int × (List Int) × (List Int) × (List Int)) : evCode (spec_l01Runs_C k) (loopP [0, 0] (0, codeOf Try.f58)).2 (loopP [0, 0] (0, codeOf Try.f58)).1 (fSt spec_l01Runs_t0 (enc_lbilll p)) (loopK tab [0, 1, 5, 6, 7, 8] [0, 1, 5, 6, 7, 8] [4] g K) = spec_l01Runs_w0 k R K (fun p => g (fSt spec_l01Runs_t0 (enc_lbilll p))) p := by
  kernel_rfl
theorem spec_l01Runs_lok0 (k : Nat) : LoopOK Try.prog tab (spec_l01Runs_C k).lo (loopP [0, 0] (0, codeOf Try.f58)).1 (loopP [0, 0] (0, codeOf Try.f58)).2 :=
  loopOK_of (C := spec_l01Runs_C k) tabOK eqTabOK (oraOf_ok (spec_l01Runs_es k)) (oraOf_nat (spec_l01Runs_es k)) follows (forall_getD _ 0 (0, Code.skip) (by kernel_rfl) fun i hi => by
      omega)
    (tm := spec_l01Runs_t0) (dec := dec_lbilll) (enc := enc_lbilll) (ksIn := [0, 1, 5, 6, 7, 8]) (ksOut := [0, 1, 5, 6, 7, 8]) (ksRet := [4]) (k := k) (step := spec_l01Runs_w0 k) dec_enc_lbilll (fun p => by kernel_rfl) (fun s R K => by kernel_rfl) (spec_l01Runs_step0 k)
theorem spec_l01Runs_step1 (k : Nat) (R : Type) (K : Ex → St → Option R) (g : St → Option R) (p : (List Int) × Bool × Int × (List Int) × (List Int)) : evCode (spec_l01Runs_C k) (loopP [0] (0, codeOf Try.f58)).2 (loopP [0] (0, codeOf Try.f58)).1 (fSt spec_l01Runs_t1 (enc_lbill p)) (loopK tab [0, 1, 5, 6, 7] [5] [4] g K) = spec_l01Runs_w1 k R K (fun p => g (fSt spec_l01Runs_t1 (enc_lbill p))) p := by
  kernel_rfl
theorem spec_l01Runs_lok1 (k : Nat) : LoopOK Try.prog tab (spec_l01Runs_C k).lo (loopP [0] (0, codeOf Try.f58)).1 (loopP [0] (0, codeOf Try.f58)).2 :=
  loopOK_of (C := spec_l01Runs_C k) tabOK eqTabOK (oraOf_ok (spec_l01Runs_es k)) (oraOf_nat (spec_l01Runs_es k)) follows (forall_getD _ 1 (0, Code.skip) (by kernel_rfl) fun i hi => by
      match i, hi with
      | 0, _ => exact spec_l01Runs_lok0 k
      | n + 1, h => omega)
    (tm := spec_l01Runs_t1) (dec := dec_lbill) (enc := enc_lbill) (ksIn := [0, 1, 5, 6, 7]) (ksOut := [5]) (ksRet := [4]) (k := k) (step := spec_l01Runs_w1 k) dec_enc_lbill (fun p => by kernel_rfl) (fun s R K => by kernel_rfl) (spec_l01Runs_step1 k)
def spec_l01Runs_e (k : Nat) : Ent := (58, callOf [.pvi (some 36) 0 36, .bool] dec_lb fun (p : (List Int) × Bool) R K => (spec_l01Runs k p.1 p.2).bind fun (b : (List Int)) => K ((fV (.slv 45) (enc_l b)).1, none))
theorem spec_l01Runs_run (k : Nat) (p : (List Int) × Bool) : runF (spec_l01Runs_C k) Try.f58 false (fL [.pvi (some 36) 0 36, .bool] (enc_lb p)).1 (resK (.slv 45) dec_l) = spec_l01Runs k p.1 p.2 := by
  kernel_rfl
theorem spec_l01Runs_ok (k : Nat) : EntOK Try.prog tab mvs (spec_l01Runs_e k) :=
  fn_ok (C := spec_l01Runs_C k) tabOK eqTabOK (spec_l01Runs_es k) rfl follows Try.func58 (by kernel_rfl) (by kernel_rfl) rfl (forall_getD _ 1 (0, Code.skip) (by kernel_rfl) fun i hi => by
      match i, hi with
      | 0, _ => exact spec_l01Runs_lok1 k
      | n + 1, h => omega)
    dec_enc_lb dec_enc_l (spec_l01Runs_run k)

def spec_RunsOf_C (k : Nat) : Cfg := ⟨tab, mvs, oraOf [spec_l01Ok_e k, spec_l01Runs_e k], loOf []⟩
theorem spec_RunsOf_es (k : Nat) : ∀ e ∈ ([spec_l01Ok_e k, spec_l01Runs_e k] : List Ent), EntOK Try.prog tab mvs e := by
  intro e he
  simp only [List.mem_cons, List.not_mem_nil, or_false] at he
  rcases he with rfl | rfl
  · exact spec_l01Ok_ok k
  · exact spec_l01Runs_ok k
def spec_RunsOf_e (k : Nat) : Ent := (18, callOf [.agg 36, .bool] dec_lb fun (p : (List Int) × Bool) R K => (spec_RunsOf k p.1 p.2).bind fun (b : (List Int) × Int) => K ((fV (.tup [.slv 45, .int .i64]) (enc_li b)).1, none))
theorem spec_RunsOf_run (k : Nat) (p : (List Int) × Bool) : runF (spec_RunsOf_C k) Try.f18 false (fL [.agg 36, .bool] (enc_lb p)).1 (resK (.tup [.slv 45, .int .i64]) dec_li) = spec_RunsOf k p.1 p.2 := by
  kernel_rfl
theorem spec_RunsOf_ok (k : Nat) : EntOK Try.prog tab mvs (spec_RunsOf_e k) :=
  fn_ok (C := spec_RunsOf_C k) tabOK eqTabOK (spec_RunsOf_es k) rfl follows Try.func18 (by kernel_rfl) (by kernel_rfl) rfl (forall_getD _ 0 (0, Code.skip) (by kernel_rfl) fun i hi => by
      omega)
    dec_enc_lb dec_enc_li (spec_RunsOf_run k)

def dec_iilll (ps : List Pay) : Option (Int × Int × (List Int) × (List Int) × (List Int)) := match ps with
  | [.i x1, .i x2, .l x3, .l x4, .l x5] => some (x1, x2, x3, x4, x5)
  | _ => none
def enc_iilll (p : Int × Int × (List Int) × (List Int) × (List Int)) : List Pay := [.i p.1, .i p.2.1, .l p.2.2.1, .l p.2.2.2.1, .l p.2.2.2.2]
theorem dec_enc_iilll : ∀ (ps : List Pay) (p : Int × Int × (List Int) × (List Int) × (List Int)), dec_iilll ps = some p → ps = enc_iilll p := by
  intro ps p h
  unfold dec_iilll at h
  split at h
  · injection h with h
    subst h
    rfl
  · cases h

def impl_LongestRun_t0 : StTm := ⟨37, [(4, .ptr 4 0 45), (7, .ptr 7 0 45), (19, .slw 19 45), (20, .int .i64), (21, .int .i64)], [(4, 45, true, .ints), (7, 45, true, .ints), (19, 45, false, .ints)]⟩
def impl_LongestRun_t0_1 : StTm := ⟨37, [(4, .ptr 4 0 45), (7, .ptr 7 0 45)], [(4, 45, true, .ints), (7, 45, true, .ints)]⟩
def impl_LongestRun_w0 (k : Nat) (R : Type) (K : Ex → St → Option R) (rec : Int × Int × (List Int) × (List Int) × (List Int) → Option R) (p : Int × Int × (List Int) × (List Int) × (List Int)) : Option R := impl_LongestRun_s0 k (fun y1 y2 => K (.exit 0) (fSt impl_LongestRun_t0_1 [.l y1, .l y2])) (fun h1 h2 h3 h4 h5 => rec (h1, h2, h3, h4, h5)) p.1 p.2.1 p.2.2.1 p.2.2.2.1 p.2.2.2.2
def impl_LongestRun_c0 (k : Nat) : Lcall := lcallOf tab impl_LongestRun_t0 dec_iilll [4, 7, 19, 20, 21] k (impl_LongestRun_w0 k)
def impl_LongestRun_C (k : Nat) : Cfg := ⟨tab, mvs, oraOf [impl_cellsCode_e k, impl_Lawn_runs_e k], loOf [(0, impl_LongestRun_c0 k)]⟩
theorem impl_LongestRun_es (k : Nat) : ∀ e ∈ ([impl_cellsCode_e k, impl_Lawn_runs_e k] : List Ent), EntOK Try.prog tab mvs e := by
  intro e he
  simp only [List.mem_cons, List.not_mem_nil, or_false] at he
  rcases he with rfl | rfl
  · exact impl_cellsCode_ok k
  · exact impl_Lawn_runs_ok k
theorem impl_LongestRun_step0 (k : Nat) (R : Type) (K : Ex → St → Option R) (g : St → Option R) (p : Int × Int × (List Int) × (List Int) × (List Int)) : evCode (impl_LongestRun_C k) (loopP [0] (0, codeOf Try.f19)).2 (loopP [0] (0, codeOf Try.f19)).1 (fSt impl_LongestRun_t0 (enc_iilll p)) (loopK tab [4, 7, 19, 20, 21] [4, 7] [4, 5] g K) = impl_LongestRun_w0 k R K (fun p => g (fSt impl_LongestRun_t0 (enc_iilll p))) p := by
  kernel_rfl
theorem impl_LongestRun_lok0 (k : Nat) : LoopOK Try.prog tab (impl_LongestRun_C k).lo (loopP [0] (0, codeOf Try.f19)).1 (loopP [0] (0, codeOf Try.f19)).2 :=
  loopOK_of (C := impl_LongestRun_C k) tabOK eqTabOK (oraOf_ok (impl_LongestRun_es k)) (oraOf_nat (impl_LongestRun_es k)) follows (forall_getD _ 0 (0, Code.skip) (by kernel_rfl) fun i hi => by
      omega)
    (tm := impl_LongestRun_t0) (dec := dec_iilll) (enc := enc_iilll) (ksIn := [4, 7, 19, 20, 21]) (ksOut := [4, 7]) (ksRet := [4, 5]) (k := k) (step := impl_LongestRun_w0 k) dec_enc_iilll (fun p => by kernel_rfl) (fun s R K => by kernel_rfl) (impl_LongestRun_step0 k)
def impl_LongestRun_e (k : Nat) : Ent := (19, callOf [.agg 36, .bool] dec_lb fun (p : (List Int) × Bool) R K => (impl_LongestRun k p.1 p.2).bind fun (b : (List Int) × Int) => K ((fV (.tup [.agg 45, .int .i64]) (enc_li b)).1, none))
theorem impl_LongestRun_run (k : Nat) (p : (List Int) × Bool) : runF (impl_LongestRun_C k) Try.f19 false (fL [.agg 36, .bool] (enc_lb p)).1 (resK (.tup [.agg 45, .int .i64]) dec_li) = impl_LongestRun k p.1 p.2 := by
  kernel_rfl
theorem impl_LongestRun_ok (k : Nat) : EntOK Try.prog tab mvs (impl_LongestRun_e k) :=
  fn_ok (C := impl_LongestRun_C k) tabOK eqTabOK (impl_LongestRun_es k) rfl follows Try.func19 (by kernel_rfl) (by kernel_rfl) rfl (forall_getD _ 1 (0, Code.skip) (by kernel_rfl) fun i hi => by
      match i, hi with
      | 0, _ => exact impl_LongestRun_lok0 k
      | n + 1, h => omega)
    dec_enc_lb dec_enc_li (impl_LongestRun_run k)

def dec_illl (ps : List Pay) : Option (Int × (List Int) × (List Int) × (List Int)) := match ps with
  | [.i x1, .l x2, .l x3, .l x4] => some (x1, x2, x3, x4)
  | _ => none
def enc_illl (p : Int × (List Int) × (List Int) × (List Int)) : List Pay := [.i p.1, .l p.2.1, .l p.2.2.1, .l p.2.2.2]
theorem dec_enc_illl : ∀ (ps : List Pay) (p : Int × (List Int) × (List Int) × (List Int)), dec_illl ps = some p → ps = enc_illl p := by
  intro ps p h
  unfold dec_illl at h
  split at h
  · injection h with h
    subst h
    rfl
  · cases h

def spec_LongestRun_t0 : StTm := ⟨38, [(4, .ptr 4 0 45), (6, .ptr 6 0 45), (7, .slw 7 45), (8, .int .i64)], [(4, 45, true, .ints), (6, 45, true, .ints), (7, 45, false, .ints)]⟩
def spec_LongestRun_t0_1 : StTm := ⟨38, [(4, .ptr 4 0 45), (6, .ptr 6 0 45)], [(4, 45, true, .ints), (6, 45, true, .ints)]⟩
def spec_LongestRun_w0 (k : Nat) (R : Type) (K : Ex → St → Option R) (rec : Int × (List Int) × (List Int) × (List Int) → Option R) (p : Int × (List Int) × (List Int) × (List Int)) : Option R := spec_LongestRun_s0 k (fun y1 y2 => K (.exit 0) (fSt spec_LongestRun_t0_1 [.l y1, .l y2])) (fun h1 h2 h3 h4 => rec (h1, h2, h3, h4)) p.1 p.2.1 p.2.2.1 p.2.2.2
def spec_LongestRun_c0 (k : Nat) : Lcall := lcallOf tab spec_LongestRun_t0 dec_illl [4, 6, 7, 8] k (spec_LongestRun_w0 k)
def spec_LongestRun_C (k : Nat) : Cfg := ⟨tab, mvs, oraOf [spec_l01Ok_e k, spec_l01Runs_e k], loOf [(0, spec_LongestRun_c0 k)]⟩
theorem spec_LongestRun_es (k : Nat) : ∀ e ∈ ([spec_l01Ok_e k, spec_l01Runs_e k] : List Ent), EntOK Try.prog tab mvs e := by
  intro e he
  simp only [List.mem_cons, List.not_mem_nil, or_false] at he
  rcases he with rfl | rfl
  · exact spec_l01Ok_ok k
  · exact spec_l01Runs_ok k
theorem spec_LongestRun_step0 (k : Nat) (R : Type) (K : Ex → St → Option R) (g : St → Option R) (p : Int × (List Int) × (List Int) × (List Int)) : evCode (spec_LongestRun_C k) (loopP [0] (0, codeOf Try.f20)).2 (loopP [0] (0, codeOf Try.f20)).1 (fSt spec_LongestRun_t0 (enc_illl p)) (loopK tab [4, 6, 7, 8] [4, 6] [4, 5] g K) = spec_LongestRun_w0 k R K (fun p => g (fSt spec_LongestRun_t0 (enc_illl p))) p := by
  kernel_rfl
theorem spec_LongestRun_lok0 (k : Nat) : LoopOK Try.prog tab (spec_LongestRun_C k).lo (loopP [0] (0, codeOf Try.f20)).1 (loopP [0] (0, codeOf Try.f20)).2 :=
  loopOK_of (C := spec_LongestRun_C k) tabOK eqTabOK (oraOf_ok (spec_LongestRun_es k)) (oraOf_nat (spec_LongestRun_es k)) follows (forall_getD _ 0 (0, Code.skip) (by kernel_rfl) fun i hi => by
      omega)
    (tm := spec_LongestRun_t0) (dec := dec_illl) (enc := enc_illl) (ksIn := [4, 6, 7, 8]) (ksOut := [4, 6]) (ksRet := [4, 5]) (k := k) (step := spec_LongestRun_w0 k) dec_enc_illl (fun p => by kernel_rfl) (fun s R K => by kernel_rfl) (spec_LongestRun_step0 k)
def spec_LongestRun_e (k : Nat) : Ent := (20, callOf [.agg 36, .bool] dec_lb fun (p : (List Int) × Bool) R K => (spec_LongestRun k p.1 p.2).bind fun (b : (List Int) × Int) => K ((fV (.tup [.agg 45, .int .i64]) (enc_li b)).1, none))
theorem spec_LongestRun_run (k : Nat) (p : (List Int) × Bool) : runF (spec_LongestRun_C k) Try.f20 false (fL [.agg 36, .bool] (enc_lb p)).1 (resK (.tup [.agg 45, .int .i64]) dec_li) = spec_LongestRun k p.1 p.2 := by
  kernel_rfl
theorem spec_LongestRun_ok (k : Nat) : EntOK Try.prog tab mvs (spec_LongestRun_e k) :=
  fn_ok (C := spec_LongestRun_C k) tabOK eqTabOK (spec_LongestRun_es k) rfl follows Try.func20 (by kernel_rfl) (by kernel_rfl) rfl (forall_getD _ 1 (0, Code.skip) (by kernel_rfl) fun i hi => by
      match i, hi with
      | 0, _ => exact spec_LongestRun_lok0 k
      | n + 1, h => omega)
    dec_enc_lb dec_enc_li (spec_LongestRun_run k)

def dec_bii (ps : List Pay) : Option (Bool × Int × Int) := match ps with
  | [.b x1, .i x2, .i x3] => some (x1, x2, x3)
  | _ => none
def enc_bii (p : Bool × Int × Int) : List Pay := [.b p.1, .i p.2.1, .i p.2.2]
theorem dec_enc_bii : ∀ (ps : List Pay) (p : Bool × Int × Int), dec_bii ps = some p → ps = enc_bii p := by
  intro ps p h
  unfold dec_bii at h
  split at h
  · injection h with h
    subst h
    rfl
  · cases h

def impl_BestStripes_C (k : Nat) : Cfg := ⟨tab, mvs, oraOf [impl_cellsCode_e k, impl_Lawn_runs_e k], loOf []⟩
theorem impl_BestStripes_es (k : Nat) : ∀ e ∈ ([impl_cellsCode_e k, impl_Lawn_runs_e k] : List Ent), EntOK Try.prog tab mvs e := by
  intro e he
  simp only [List.mem_cons, List.not_mem_nil, or_false] at he
  rcases he with rfl | rfl
  · exact impl_cellsCode_ok k
  · exact impl_Lawn_runs_ok k
def impl_BestStripes_e (k : Nat) : Ent := (21, callOf [.agg 36] dec_l fun (p : (List Int)) R K => (impl_BestStripes k p).bind fun (b : Bool × Int × Int) => K ((fV (.tup [.bool, .int .i64, .int .i64]) (enc_bii b)).1, none))
theorem impl_BestStripes_run (k : Nat) (p : (List Int)) : runF (impl_BestStripes_C k) Try.f21 false (fL [.agg 36] (enc_l p)).1 (resK (.tup [.bool, .int .i64, .int .i64]) dec_bii) = impl_BestStripes k p := by
  kernel_rfl
theorem impl_BestStripes_ok (k : Nat) : EntOK Try.prog tab mvs (impl_BestStripes_e k) :=
  fn_ok (C := impl_BestStripes_C k) tabOK eqTabOK (impl_BestStripes_es k) rfl follows Try.func21 (by kernel_rfl) (by kernel_rfl) rfl (forall_getD _ 0 (0, Code.skip) (by kernel_rfl) fun i hi => by
      omega)
    dec_enc_l dec_enc_bii (impl_BestStripes_run k)

def dec_ii (ps : List Pay) : Option (Int × Int) := match ps with
  | [.i x1, .i x2] => some (x1, x2)
  | _ => none
def enc_ii (p : Int × Int) : List Pay := [.i p.1, .i p.2]
theorem dec_enc_ii : ∀ (ps : List Pay) (p : Int × Int), dec_ii ps = some p → ps = enc_ii p := by
  intro ps p h
  unfold dec_ii at h
  split at h
  · injection h with h
    subst h
    rfl
  · cases h

def spec_l00Min_C (k : Nat) : Cfg := ⟨tab, mvs, oraOf [], loOf []⟩
theorem spec_l00Min_es (k : Nat) : ∀ e ∈ ([] : List Ent), EntOK Try.prog tab mvs e := by
  intro e he
  simp at he
def spec_l00Min_e (k : Nat) : Ent := (46, callOf [.int .i64, .int .i64] dec_ii fun (p : Int × Int) R K => (spec_l00Min k p.1 p.2).bind fun (b : Int) => K ((fV (.int .i64) (enc_i b)).1, none))
theorem spec_l00Min_run (k : Nat) (p : Int × Int) : runF (spec_l00Min_C k) Try.f46 false (fL [.int .i64, .int .i64] (enc_ii p)).1 (resK (.int .i64) dec_i) = spec_l00Min k p.1 p.2 := by
  kernel_rfl
theorem spec_l00Min_ok (k : Nat) : EntOK Try.prog tab mvs (spec_l00Min_e k) :=
  fn_ok (C := spec_l00Min_C k) tabOK eqTabOK (spec_l00Min_es k) rfl follows Try.func46 (by kernel_rfl) (by kernel_rfl) rfl (forall_getD _ 0 (0, Code.skip) (by kernel_rfl) fun i hi => by
      omega)
    dec_enc_ii dec_enc_i (spec_l00Min_run k)

def spec_BestStripes_C (k : Nat) : Cfg := ⟨tab, mvs, oraOf [spec_l01Ok_e k, spec_l01Runs_e k, spec_l00Min_e k], loOf []⟩
theorem spec_BestStripes_es (k : Nat) : ∀ e ∈ ([spec_l01Ok_e k, spec_l01Runs_e k, spec_l00Min_e k] : List Ent), EntOK Try.prog tab mvs e := by
  intro e he
  simp only [List.mem_cons, List.not_mem_nil, or_false] at he
  rcases he with rfl | rfl | rfl
  · exact spec_l01Ok_ok k
  · exact spec_l01Runs_ok k
  · exact spec_l00Min_ok k
def spec_BestStripes_e (k : Nat) : Ent := (22, callOf [.agg 36] dec_l fun (p : (List Int)) R K => (spec_BestStripes k p).bind fun (b : Bool × Int × Int) => K ((fV (.tup [.bool, .int .i64, .int .i64]) (enc_bii b)).1, none))
theorem spec_BestStripes_run (k : Nat) (p : (List Int)) : runF (spec_BestStripes_C k) Try.f22 false (fL [.agg 36] (enc_l p)).1 (resK (.tup [.bool, .int .i64, .int .i64]) dec_bii) = spec_BestStripes k p := by
  kernel_rfl
theorem spec_BestStripes_ok (k : Nat) : EntOK Try.prog tab mvs (spec_BestStripes_e k) :=
  fn_ok (C := spec_BestStripes_C k) tabOK eqTabOK (spec_BestStripes_es k) rfl follows Try.func22 (by kernel_rfl) (by kernel_rfl) rfl (forall_getD _ 0 (0, Code.skip) (by kernel_rfl) fun i hi => by
      omega)
    dec_enc_l dec_enc_bii (spec_BestStripes_run k)

def spec_l01Told_C (k : Nat) : Cfg := ⟨tab, mvs, oraOf [spec_l01Ok_e k], loOf []⟩
theorem spec_l01Told_es (k : Nat) : ∀ e ∈ ([spec_l01Ok_e k] : List Ent), EntOK Try.prog tab mvs e := by
  intro e he
  simp only [List.mem_cons, List.not_mem_nil, or_false] at he
  rcases he with rfl
  · exact spec_l01Ok_ok k
def spec_l01Told_e (k : Nat) : Ent := (59, callOf [.pvi (some 36) 0 36, .bool] dec_lb fun (p : (List Int) × Bool) R K => (spec_l01Told k p.1 p.2).bind fun (b : Int) => K ((fV (.int .i64) (enc_i b)).1, none))
theorem spec_l01Told_run (k : Nat) (p : (List Int) × Bool) : runF (spec_l01Told_C k) Try.f59 false (fL [.pvi (some 36) 0 36, .bool] (enc_lb p)).1 (resK (.int .i64) dec_i) = spec_l01Told k p.1 p.2 := by
  kernel_rfl
theorem spec_l01Told_ok (k : Nat) : EntOK Try.prog tab mvs (spec_l01Told_e k) :=
  fn_ok (C := spec_l01Told_C k) tabOK eqTabOK (spec_l01Told_es k) rfl follows Try.func59 (by kernel_rfl) (by kernel_rfl) rfl (forall_getD _ 0 (0, Code.skip) (by kernel_rfl) fun i hi => by
      omega)
    dec_enc_lb dec_enc_i (spec_l01Told_run k)

def spec_CellsOf_C (k : Nat) : Cfg := ⟨tab, mvs, oraOf [spec_l01Kind_e k, spec_l01Told_e k, spec_l01Cells_e k], loOf []⟩
theorem spec_CellsOf_es (k : Nat) : ∀ e ∈ ([spec_l01Kind_e k, spec_l01Told_e k, spec_l01Cells_e k] : List Ent), EntOK Try.prog tab mvs e := by
  intro e he
  simp only [List.mem_cons, List.not_mem_nil, or_false] at he
  rcases he with rfl | rfl | rfl
  · exact spec_l01Kind_ok k
  · exact spec_l01Told_ok k
  · exact spec_l01Cells_ok k
def spec_CellsOf_e (k : Nat) : Ent := (23, callOf [.agg 36, .int .i64] dec_li fun (p : (List Int) × Int) R K => (spec_CellsOf k p.1 p.2).bind fun (b : (List Int) × Int) => K ((fV (.tup [.slv 43, .int .i64]) (enc_li b)).1, none))
theorem spec_CellsOf_run (k : Nat) (p : (List Int) × Int) : runF (spec_CellsOf_C k) Try.f23 false (fL [.agg 36, .int .i64] (enc_li p)).1 (resK (.tup [.slv 43, .int .i64]) dec_li) = spec_CellsOf k p.1 p.2 := by
  kernel_rfl
theorem spec_CellsOf_ok (k : Nat) : EntOK Try.prog tab mvs (spec_CellsOf_e k) :=
  fn_ok (C := spec_CellsOf_C k) tabOK eqTabOK (spec_CellsOf_es k) rfl follows Try.func23 (by kernel_rfl) (by kernel_rfl) rfl (forall_getD _ 0 (0, Code.skip) (by kernel_rfl) fun i hi => by
      omega)
    dec_enc_li dec_enc_li (spec_CellsOf_run k)

def spec_SameRuns_t0 : StTm := ⟨26, [(0, .slv 45), (1, .slv 45), (5, .int .i64)], []⟩
def spec_SameRuns_t0_1 : StTm := ⟨26, [(4, .bool)], []⟩
def spec_SameRuns_t0_2 : StTm := ⟨26, [], []⟩
def spec_SameRuns_w0 (k : Nat) (R : Type) (K : Ex → St → Option R) (rec : (List Int) × (List Int) × Int → Option R) (p : (List Int) × (List Int) × Int) : Option R := spec_SameRuns_s0 k (fun y1 => K .ret (fSt spec_SameRuns_t0_1 [.b y1])) (K (.exit 0) (fSt spec_SameRuns_t0_2 [])) (fun h1 h2 h3 => rec (h1, h2, h3)) p.1 p.2.1 p.2.2
def spec_SameRuns_c0 (k : Nat) : Lcall := lcallOf tab spec_SameRuns_t0 dec_lli [0, 1, 5] k (spec_SameRuns_w0 k)
def spec_SameRuns_C (k : Nat) : Cfg := ⟨tab, mvs, oraOf [], loOf [(0, spec_SameRuns_c0 k)]⟩
theorem spec_SameRuns_es (k : Nat) : ∀ e ∈ ([] : List Ent), EntOK Try.prog tab mvs e := by
  intro e he
  simp at he
theorem spec_SameRuns_step0 (k : Nat) (R : Type) (K : Ex → St → Option R) (g : St → Option R) (p : (List Int) × (List Int) × Int) : evCode (spec_SameRuns_C k) (loopP [0] (0, codeOf Try.f24)).2 (loopP [0] (0, codeOf Try.f24)).1 (fSt spec_SameRuns_t0 (enc_lli p)) (loopK tab [0, 1, 5] [] [4] g K) = spec_SameRuns_w0 k R K (fun p => g (fSt spec_SameRuns_t0 (enc_lli p))) p := by
  kernel_rfl
theorem spec_SameRuns_lok0 (k : Nat) : LoopOK Try.prog tab (spec_SameRuns_C k).lo (loopP [0] (0, codeOf Try.f24)).1 (loopP [0] (0, codeOf Try.f24)).2 :=
  loopOK_of (C := spec_SameRuns_C k) tabOK eqTabOK (oraOf_ok (spec_SameRuns_es k)) (oraOf_nat (spec_SameRuns_es k)) follows (forall_getD _ 0 (0, Code.skip) (by kernel_rfl) fun i hi => by
      omega)
    (tm := spec_SameRuns_t0) (dec := dec_lli) (enc := enc_lli) (ksIn := [0, 1, 5]) (ksOut := []) (ksRet := [4]) (k := k) (step := spec_SameRuns_w0 k) dec_enc_lli (fun p => by kernel_rfl) (fun s R K => by kernel_rfl) (spec_SameRuns_step0 k)
def spec_SameRuns_e (k : Nat) : Ent := (24, callOf [.slv 45, .slv 45] dec_ll fun (p : (List Int) × (List Int)) R K => (spec_SameRuns k p.1 p.2).bind fun (b : Bool) => K ((fV (.bool) (enc_b b)).1, none))
theorem spec_SameRuns_run (k : Nat) (p : (List Int) × (List Int)) : runF (spec_SameRuns_C k) Try.f24 false (fL [.slv 45, .slv 45] (enc_ll p)).1 (resK (.bool) dec_b) = spec_SameRuns k p.1 p.2 := by
  kernel_rfl
theorem spec_SameRuns_ok (k : Nat) : EntOK Try.prog tab mvs (spec_SameRuns_e k) :=
  fn_ok (C := spec_SameRuns_C k) tabOK eqTabOK (spec_SameRuns_es k) rfl follows Try.func24 (by kernel_rfl) (by kernel_rfl) rfl (forall_getD _ 1 (0, Code.skip) (by kernel_rfl) fun i hi => by
      match i, hi with
      | 0, _ => exact spec_SameRuns_lok0 k
      | n + 1, h => omega)
    dec_enc_ll dec_enc_b (spec_SameRuns_run k)

def impl_KindAt_C (k : Nat) : Cfg := ⟨tab, mvs, oraOf [impl_cellsCode_e k, impl_Lawn_kind_e k], loOf []⟩
theorem impl_KindAt_es (k : Nat) : ∀ e ∈ ([impl_cellsCode_e k, impl_Lawn_kind_e k] : List Ent), EntOK Try.prog tab mvs e := by
  intro e he
  simp only [List.mem_cons, List.not_mem_nil, or_false] at he
  rcases he with rfl | rfl
  · exact impl_cellsCode_ok k
  · exact impl_Lawn_kind_ok k
def impl_KindAt_e (k : Nat) : Ent := (25, callOf [.agg 36, .agg 43] dec_ll fun (p : (List Int) × (List Int)) R K => (impl_KindAt k p.1 p.2).bind fun (b : Int × Int) => K ((fV (.tup [.int .i64, .int .i64]) (enc_ii b)).1, none))
theorem impl_KindAt_run (k : Nat) (p : (List Int) × (List Int)) : runF (impl_KindAt_C k) Try.f25 false (fL [.agg 36, .agg 43] (enc_ll p)).1 (resK (.tup [.int .i64, .int .i64]) dec_ii) = impl_KindAt k p.1 p.2 := by
  kernel_rfl
theorem impl_KindAt_ok (k : Nat) : EntOK Try.prog tab mvs (impl_KindAt_e k) :=
  fn_ok (C := impl_KindAt_C k) tabOK eqTabOK (impl_KindAt_es k) rfl follows Try.func25 (by kernel_rfl) (by kernel_rfl) rfl (forall_getD _ 0 (0, Code.skip) (by kernel_rfl) fun i hi => by
      omega)
    dec_enc_ll dec_enc_ii (impl_KindAt_run k)

def dec_lll (ps : List Pay) : Option ((List Int) × (List Int) × (List Int)) := match ps with
  | [.l x1, .l x2, .l x3] => some (x1, x2, x3)
  | _ => none
def enc_lll (p : (List Int) × (List Int) × (List Int)) : List Pay := [.l p.1, .l p.2.1, .l p.2.2]
theorem dec_enc_lll : ∀ (ps : List Pay) (p : (List Int) × (List Int) × (List Int)), dec_lll ps = some p → ps = enc_lll p := by
  intro ps p h
  unfold dec_lll at h
  split at h
  · injection h with h
    subst h
    rfl
  · cases h

def impl_StripeOf_1_C (k : Nat) : Cfg := ⟨tab, mvs, oraOf [], loOf []⟩
theorem impl_StripeOf_1_es (k : Nat) : ∀ e ∈ ([] : List Ent), EntOK Try.prog tab mvs e := by
  intro e he
  simp at he
def impl_StripeOf_1_e (k : Nat) : Ent := (65, callOf [.agg 45, .pvi (some 4) 0 4, .pvi (some 43) 0 43] dec_lll fun (p : (List Int) × (List Int) × (List Int)) R K => (impl_StripeOf_1 k p.1 p.2.1 p.2.2).bind fun (b : Bool) => K ((fV (.bool) (enc_b b)).1, none))
theorem impl_StripeOf_1_run (k : Nat) (p : (List Int) × (List Int) × (List Int)) : runF (impl_StripeOf_1_C k) Try.f65 false (fL [.agg 45, .pvi (some 4) 0 4, .pvi (some 43) 0 43] (enc_lll p)).1 (resK (.bool) dec_b) = impl_StripeOf_1 k p.1 p.2.1 p.2.2 := by
  kernel_rfl
theorem impl_StripeOf_1_ok (k : Nat) : EntOK Try.prog tab mvs (impl_StripeOf_1_e k) :=
  fn_ok (C := impl_StripeOf_1_C k) tabOK eqTabOK (impl_StripeOf_1_es k) rfl follows Try.func65 (by kernel_rfl) (by kernel_rfl) rfl (forall_getD _ 0 (0, Code.skip) (by kernel_rfl) fun i hi => by
      omega)
    dec_enc_lll dec_enc_b (impl_StripeOf_1_run k)

def slices_IndexFunc_impl_Run_t0 : StTm := ⟨19, [(0, .slv 45), (1, .cloB 45), (7, .int .i64), (8, .int .i64)], []⟩
def slices_IndexFunc_impl_Run_t0_1 : StTm := ⟨19, [(4, .int .i64)], []⟩
def slices_IndexFunc_impl_Run_t0_2 : StTm := ⟨19, [], []⟩
def slices_IndexFunc_impl_Run_w0 (k : Nat) (R : Type) (K : Ex → St → Option R) (rec : (List Int) × (List Int → Option Bool) × Int × Int → Option R) (p : (List Int) × (List Int → Option Bool) × Int × Int) : Option R := slices_IndexFunc_impl_Run_s0 k (fun y1 => K .ret (fSt slices_IndexFunc_impl_Run_t0_1 [.i y1])) (K (.exit 0) (fSt slices_IndexFunc_impl_Run_t0_2 [])) (fun h1 h2 h3 h4 => rec (h1, h2, h3, h4)) p.1 p.2.1 p.2.2.1 p.2.2.2
def slices_IndexFunc_impl_Run_c0 (k : Nat) : Lcall := lcallOf tab slices_IndexFunc_impl_Run_t0 dec_lgii [0, 1, 7, 8] k (slices_IndexFunc_impl_Run_w0 k)
def slices_IndexFunc_impl_Run_C (k : Nat) : Cfg := ⟨tab, mvs, oraOf [], loOf [(0, slices_IndexFunc_impl_Run_c0 k)]⟩
theorem slices_IndexFunc_impl_Run_es (k : Nat) : ∀ e ∈ ([] : List Ent), EntOK Try.prog tab mvs e := by
  intro e he
  simp at he
theorem slices_IndexFunc_impl_Run_step0 (k : Nat) (R : Type) (K : Ex → St → Option R) (g : St → Option R) (p : (List Int) × (List Int → Option Bool) × Int × Int) : evCode (slices_IndexFunc_impl_Run_C k) (loopP [0] (0, codeOf Try.f64)).2 (loopP [0] (0, codeOf Try.f64)).1 (fSt slices_IndexFunc_impl_Run_t0 (enc_lgii p)) (loopK tab [0, 1, 7, 8] [] [4] g K) = slices_IndexFunc_impl_Run_w0 k R K (fun p => g (fSt slices_IndexFunc_impl_Run_t0 (enc_lgii p))) p := by
  kernel_rfl
theorem slices_IndexFunc_impl_Run_lok0 (k : Nat) : LoopOK Try.prog tab (slices_IndexFunc_impl_Run_C k).lo (loopP [0] (0, codeOf Try.f64)).1 (loopP [0] (0, codeOf Try.f64)).2 :=
  loopOK_of (C := slices_IndexFunc_impl_Run_C k) tabOK eqTabOK (oraOf_ok (slices_IndexFunc_impl_Run_es k)) (oraOf_nat (slices_IndexFunc_impl_Run_es k)) follows (forall_getD _ 0 (0, Code.skip) (by kernel_rfl) fun i hi => by
      omega)
    (tm := slices_IndexFunc_impl_Run_t0) (dec := dec_lgii) (enc := enc_lgii) (ksIn := [0, 1, 7, 8]) (ksOut := []) (ksRet := [4]) (k := k) (step := slices_IndexFunc_impl_Run_w0 k) dec_enc_lgii (fun p => by kernel_rfl) (fun s R K => by kernel_rfl) (slices_IndexFunc_impl_Run_step0 k)
def slices_IndexFunc_impl_Run_e (k : Nat) : Ent := (64, callOf [.slv 45, .cloB 45] dec_lg fun (p : (List Int) × (List Int → Option Bool)) R K => (slices_IndexFunc_impl_Run k p.1 p.2).bind fun (b : Int) => K ((fV (.int .i64) (enc_i b)).1, none))
theorem slices_IndexFunc_impl_Run_run (k : Nat) (p : (List Int) × (List Int → Option Bool)) : runF (slices_IndexFunc_impl_Run_C k) Try.f64 false (fL [.slv 45, .cloB 45] (enc_lg p)).1 (resK (.int .i64) dec_i) = slices_IndexFunc_impl_Run k p.1 p.2 := by
  kernel_rfl
theorem slices_IndexFunc_impl_Run_ok (k : Nat) : EntOK Try.prog tab mvs (slices_IndexFunc_impl_Run_e k) :=
  fn_ok (C := slices_IndexFunc_impl_Run_C k) tabOK eqTabOK (slices_IndexFunc_impl_Run_es k) rfl follows Try.func64 (by kernel_rfl) (by kernel_rfl) rfl (forall_getD _ 1 (0, Code.skip) (by kernel_rfl) fun i hi => by
      match i, hi with
      | 0, _ => exact slices_IndexFunc_impl_Run_lok0 k
      | n + 1, h => omega)
    dec_enc_lg dec_enc_i (slices_IndexFunc_impl_Run_run k)

def dec_llb (ps : List Pay) : Option ((List Int) × (List Int) × Bool) := match ps with
  | [.l x1, .l x2, .b x3] => some (x1, x2, x3)
  | _ => none
def enc_llb (p : (List Int) × (List Int) × Bool) : List Pay := [.l p.1, .l p.2.1, .b p.2.2]
theorem dec_enc_llb : ∀ (ps : List Pay) (p : (List Int) × (List Int) × Bool), dec_llb ps = some p → ps = enc_llb p := by
  intro ps p h
  unfold dec_llb at h
  split at h
  · injection h with h
    subst h
    rfl
  · cases h

def impl_StripeOf_C (k : Nat) : Cfg := ⟨tab, mvs, oraOf [impl_cellsCode_e k, impl_Lawn_grass_e k, impl_Lawn_runs_e k, impl_StripeOf_1_e k, slices_IndexFunc_impl_Run_e k], loOf []⟩
theorem impl_StripeOf_es (k : Nat) : ∀ e ∈ ([impl_cellsCode_e k, impl_Lawn_grass_e k, impl_Lawn_runs_e k, impl_StripeOf_1_e k, slices_IndexFunc_impl_Run_e k] : List Ent), EntOK Try.prog tab mvs e := by
  intro e he
  simp only [List.mem_cons, List.not_mem_nil, or_false] at he
  rcases he with rfl | rfl | rfl | rfl | rfl
  · exact impl_cellsCode_ok k
  · exact impl_Lawn_grass_ok k
  · exact impl_Lawn_runs_ok k
  · exact impl_StripeOf_1_ok k
  · exact slices_IndexFunc_impl_Run_ok k
def impl_StripeOf_e (k : Nat) : Ent := (26, callOf [.agg 36, .agg 43, .bool] dec_llb fun (p : (List Int) × (List Int) × Bool) R K => (impl_StripeOf k p.1 p.2.1 p.2.2).bind fun (b : Int × Int) => K ((fV (.tup [.int .i64, .int .i64]) (enc_ii b)).1, none))
theorem impl_StripeOf_run (k : Nat) (p : (List Int) × (List Int) × Bool) : runF (impl_StripeOf_C k) Try.f26 false (fL [.agg 36, .agg 43, .bool] (enc_llb p)).1 (resK (.tup [.int .i64, .int .i64]) dec_ii) = impl_StripeOf k p.1 p.2.1 p.2.2 := by
  kernel_rfl
theorem impl_StripeOf_ok (k : Nat) : EntOK Try.prog tab mvs (impl_StripeOf_e k) :=
  fn_ok (C := impl_StripeOf_C k) tabOK eqTabOK (impl_StripeOf_es k) rfl follows Try.func26 (by kernel_rfl) (by kernel_rfl) rfl (forall_getD _ 0 (0, Code.skip) (by kernel_rfl) fun i hi => by
      omega)
    dec_enc_llb dec_enc_ii (impl_StripeOf_run k)

def dec_biiilllll (ps : List Pay) : Option (Bool × Int × Int × Int × (List Int) × (List Int) × (List Int) × (List Int) × (List Int)) := match ps with
  | [.b x1, .i x2, .i x3, .i x4, .l x5, .l x6, .l x7, .l x8, .l x9] => some (x1, x2, x3, x4, x5, x6, x7, x8, x9)
  | _ => none
def enc_biiilllll (p : Bool × Int × Int × Int × (List Int) × (List Int) × (List Int) × (List Int) × (List Int)) : List Pay := [.b p.1, .i p.2.1, .i p.2.2.1, .i p.2.2.2.1, .l p.2.2.2.2.1, .l p.2.2.2.2.2.1, .l p.2.2.2.2.2.2.1, .l p.2.2.2.2.2.2.2.1, .l p.2.2.2.2.2.2.2.2]
theorem dec_enc_biiilllll : ∀ (ps : List Pay) (p : Bool × Int × Int × Int × (List Int) × (List Int) × (List Int) × (List Int) × (List Int)), dec_biiilllll ps = some p → ps = enc_biiilllll p := by
  intro ps p h
  unfold dec_biiilllll at h
  split at h
  · injection h with h
    subst h
    rfl
  · cases h

def dec_biilllll (ps : List Pay) : Option (Bool × Int × Int × (List Int) × (List Int) × (List Int) × (List Int) × (List Int)) := match ps with
  | [.b x1, .i x2, .i x3, .l x4, .l x5, .l x6, .l x7, .l x8] => some (x1, x2, x3, x4, x5, x6, x7, x8)
  | _ => none
def enc_biilllll (p : Bool × Int × Int × (List Int) × (List Int) × (List Int) × (List Int) × (List Int)) : List Pay := [.b p.1, .i p.2.1, .i p.2.2.1, .l p.2.2.2.1, .l p.2.2.2.2.1, .l p.2.2.2.2.2.1, .l p.2.2.2.2.2.2.1, .l p.2.2.2.2.2.2.2]
theorem dec_enc_biilllll : ∀ (ps : List Pay) (p : Bool × Int × Int × (List Int) × (List Int) × (List Int) × (List Int) × (List Int)), dec_biilllll ps = some p → ps = enc_biilllll p := by
  intro ps p h
  unfold dec_biilllll at h
  split at h
  · injection h with h
    subst h
    rfl
  · cases h

def laws_FnRuns_t0 : StTm := ⟨342, [(5, .ptr 5 0 36), (6, .bool), (9, .slw 9 45), (13, .ptr 13 0 45), (23, .slw 23 43), (27, .int .i64), (28, .ptr 28 0 55), (29, .int .i64), (30, .int .i8)], [(5, 36, true, .ints), (9, 45, false, .ints), (13, 45, true, .ints), (23, 43, false, .ints), (28, 55, true, .ints)]⟩
def laws_FnRuns_t0_1 : StTm := ⟨342, [(4, .bool)], []⟩
def laws_FnRuns_t0_2 : StTm := ⟨342, [(5, .ptr 5 0 36), (6, .bool), (9, .slw 9 45), (13, .ptr 13 0 45), (23, .slw 23 43), (27, .int .i64), (28, .ptr 28 0 55), (29, .int .i64)], [(5, 36, true, .ints), (9, 45, false, .ints), (13, 45, true, .ints), (23, 43, false, .ints), (28, 55, true, .ints)]⟩
def laws_FnRuns_w0 (k : Nat) (R : Type) (K : Ex → St → Option R) (rec : Bool × Int × Int × Int × (List Int) × (List Int) × (List Int) × (List Int) × (List Int) → Option R) (p : Bool × Int × Int × Int × (List Int) × (List Int) × (List Int) × (List Int) × (List Int)) : Option R := laws_FnRuns_s0 k (fun y1 => K .ret (fSt laws_FnRuns_t0_1 [.b y1])) (fun y1 y2 y3 y4 y5 y6 y7 y8 => K (.exit 2) (fSt laws_FnRuns_t0_2 [.b y1, .i y2, .i y3, .l y4, .l y5, .l y6, .l y7, .l y8])) (fun h1 h2 h3 h4 h5 h6 h7 h8 h9 => rec (h1, h2, h3, h4, h5, h6, h7, h8, h9)) p.1 p.2.1 p.2.2.1 p.2.2.2.1 p.2.2.2.2.1 p.2.2.2.2.2.1 p.2.2.2.2.2.2.1 p.2.2.2.2.2.2.2.1 p.2.2.2.2.2.2.2.2
def laws_FnRuns_c0 (k : Nat) : Lcall := lcallOf tab laws_FnRuns_t0 dec_biiilllll [5, 6, 9, 13, 23, 27, 28, 29, 30] k (laws_FnRuns_w0 k)
def laws_FnRuns_t1 : StTm := ⟨342, [(5, .ptr 5 0 36), (6, .bool), (9, .slw 9 45), (13, .ptr 13 0 45), (23, .slw 23 43), (27, .int .i64), (28, .ptr 28 0 55), (29, .int .i64)], [(5, 36, true, .ints), (9, 45, false, .ints), (13, 45, true, .ints), (23, 43, false, .ints), (28, 55, true, .ints)]⟩
def laws_FnRuns_t1_1 : StTm := ⟨342, [(4, .bool)], []⟩
def laws_FnRuns_t1_2 : StTm := ⟨342, [(23, .slw 23 43), (27, .int .i64)], [(23, 43, false, .ints)]⟩
def laws_FnRuns_w1 (k : Nat) (R : Type) (K : Ex → St → Option R) (rec : Bool × Int × Int × (List Int) × (List Int) × (List Int) × (List Int) × (List Int) → Option R) (p : Bool × Int × Int × (List Int) × (List Int) × (List Int) × (List Int) × (List Int)) : Option R := laws_FnRuns_s1 k (fun y1 => K .ret (fSt laws_FnRuns_t1_1 [.b y1])) (fun y1 y2 => K (.exit 0) (fSt laws_FnRuns_t1_2 [.i y1, .l y2])) (fun h1 h2 h3 h4 h5 h6 h7 h8 => rec (h1, h2, h3, h4, h5, h6, h7, h8)) p.1 p.2.1 p.2.2.1 p.2.2.2.1 p.2.2.2.2.1 p.2.2.2.2.2.1 p.2.2.2.2.2.2.1 p.2.2.2.2.2.2.2
def laws_FnRuns_c1 (k : Nat) : Lcall := lcallOf tab laws_FnRuns_t1 dec_biilllll [5, 6, 9, 13, 23, 27, 28, 29] k (laws_FnRuns_w1 k)
def laws_FnRuns_C (k : Nat) : Cfg := ⟨tab, mvs, oraOf [laws_a2Long_e k, spec_A2Lawn_e k, laws_a2At_e k, impl_RunsOf_e k, spec_RunsOf_e k, impl_LongestRun_e k, spec_LongestRun_e k, impl_BestStripes_e k, spec_BestStripes_e k, spec_CellsOf_e k, spec_SameRuns_e k, impl_KindAt_e k, impl_StripeOf_e k], loOf [(2, laws_FnRuns_c0 k), (0, laws_FnRuns_c1 k)]⟩
theorem laws_FnRuns_es (k : Nat) : ∀ e ∈ ([laws_a2Long_e k, spec_A2Lawn_e k, laws_a2At_e k, impl_RunsOf_e k, spec_RunsOf_e k, impl_LongestRun_e k, spec_LongestRun_e k, impl_BestStripes_e k, spec_BestStripes_e k, spec_CellsOf_e k, spec_SameRuns_e k, impl_KindAt_e k, impl_StripeOf_e k] : List Ent), EntOK Try.prog tab mvs e := by
  intro e he
  simp only [List.mem_cons, List.not_mem_nil, or_false] at he
  rcases he with rfl | rfl | rfl | rfl | rfl | rfl | rfl | rfl | rfl | rfl | rfl | rfl | rfl
  · exact laws_a2Long_ok k
  · exact spec_A2Lawn_ok k
  · exact laws_a2At_ok k
  · exact impl_RunsOf_ok k
  · exact spec_RunsOf_ok k
  · exact impl_LongestRun_ok k
  · exact spec_LongestRun_ok k
  · exact impl_BestStripes_ok k
  · exact spec_BestStripes_ok k
  · exact spec_CellsOf_ok k
  · exact spec_SameRuns_ok k
  · exact impl_KindAt_ok k
  · exact impl_StripeOf_ok k
theorem laws_FnRuns_step0 (k : Nat) (R : Type) (K : Ex → St → Option R) (g : St → Option R) (p : Bool × Int × Int × Int × (List Int) × (List Int) × (List Int) × (List Int) × (List Int)) : evCode (laws_FnRuns_C k) (loopP [0, 0] (0, codeOf Try.f4)).2 (loopP [0, 0] (0, codeOf Try.f4)).1 (fSt laws_FnRuns_t0 (enc_biiilllll p)) (loopK tab [5, 6, 9, 13, 23, 27, 28, 29, 30] [5, 6, 9, 13, 23, 27, 28, 29] [4] g K) = laws_FnRuns_w0 k R K (fun p => g (fSt laws_FnRuns_t0 (enc_biiilllll p))) p := by
  kernel_rfl
theorem laws_FnRuns_lok0 (k : Nat) : LoopOK Try.prog tab (laws_FnRuns_C k).lo (loopP [0, 0] (0, codeOf Try.f4)).1 (loopP [0, 0] (0, codeOf Try.f4)).2 :=
  loopOK_of (C := laws_FnRuns_C k) tabOK eqTabOK (oraOf_ok (laws_FnRuns_es k)) (oraOf_nat (laws_FnRuns_es k)) follows (forall_getD _ 0 (0, Code.skip) (by kernel_rfl) fun i hi => by
      omega)
    (tm := laws_FnRuns_t0) (dec := dec_biiilllll) (enc := enc_biiilllll) (ksIn := [5, 6, 9, 13, 23, 27, 28, 29, 30]) (ksOut := [5, 6, 9, 13, 23, 27, 28, 29]) (ksRet := [4]) (k := k) (step := laws_FnRuns_w0 k) dec_enc_biiilllll (fun p => by kernel_rfl) (fun s R K => by kernel_rfl) (laws_FnRuns_step0 k)
theorem laws_FnRuns_step1 (k : Nat) (R : Type) (K : Ex → St → Option R) (g : St → Option R) (p : Bool × Int × Int × (List Int) × (List Int) × (List Int) × (List Int) × (List Int)) : evCode (laws_FnRuns_C k) (loopP [0] (0, codeOf Try.f4)).2 (loopP [0] (0, codeOf Try.f4)).1 (fSt laws_FnRuns_t1 (enc_biilllll p)) (loopK tab [5, 6, 9, 13, 23, 27, 28, 29] [23, 27] [4] g K) = laws_FnRuns_w1 k R K (fun p => g (fSt laws_FnRuns_t1 (enc_biilllll p))) p := by
  kernel_rfl
theorem laws_FnRuns_lok1 (k : Nat) : LoopOK Try.prog tab (laws_FnRuns_C k).lo (loopP [0] (0, codeOf Try.f4)).1 (loopP [0] (0, codeOf Try.f4)).2 :=
  loopOK_of (C := laws_FnRuns_C k) tabOK eqTabOK (oraOf_ok (laws_FnRuns_es k)) (oraOf_nat (laws_FnRuns_es k)) follows (forall_getD _ 1 (0, Code.skip) (by kernel_rfl) fun i hi => by
      match i, hi with
      | 0, _ => exact laws_FnRuns_lok0 k
      | n + 1, h => omega)
    (tm := laws_FnRuns_t1) (dec := dec_biilllll) (enc := enc_biilllll) (ksIn := [5, 6, 9, 13, 23, 27, 28, 29]) (ksOut := [23, 27]) (ksRet := [4]) (k := k) (step := laws_FnRuns_w1 k) dec_enc_biilllll (fun p => by kernel_rfl) (fun s R K => by kernel_rfl) (laws_FnRuns_step1 k)
def laws_FnRuns_e (k : Nat) : Ent := (4, callOf [.slv 5, .slv 5] dec_ll fun (p : (List Int) × (List Int)) R K => (laws_FnRuns k p.1 p.2).bind fun (b : Bool) => K ((fV (.bool) (enc_b b)).1, none))
theorem laws_FnRuns_run (k : Nat) (p : (List Int) × (List Int)) : runF (laws_FnRuns_C k) Try.f4 false (fL [.slv 5, .slv 5] (enc_ll p)).1 (resK (.bool) dec_b) = laws_FnRuns k p.1 p.2 := by
  kernel_rfl
theorem laws_FnRuns_ok (k : Nat) : EntOK Try.prog tab mvs (laws_FnRuns_e k) :=
  fn_ok (C := laws_FnRuns_C k) tabOK eqTabOK (laws_FnRuns_es k) rfl follows Try.func4 (by kernel_rfl) (by kernel_rfl) rfl (forall_getD _ 1 (0, Code.skip) (by kernel_rfl) fun i hi => by
      match i, hi with
      | 0, _ => exact laws_FnRuns_lok1 k
      | n + 1, h => omega)
    dec_enc_ll dec_enc_b (laws_FnRuns_run k)




end Go.Proofs.Ytkdpdmfkomnalaa.Tt
