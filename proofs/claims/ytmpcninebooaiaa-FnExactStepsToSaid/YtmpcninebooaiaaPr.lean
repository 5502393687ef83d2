/- The code is what the functions in plain Lean say. -/
import Derived.Test.YtmpcninebooaiaaPra
import Derived.Test.YtmpcninebooaiaaTab
import Derived.Test.YtmpcninebooaiaaSh
import Derived.Test.YtmpcninebooaiaaExt
import Derived.Test.YtmpcninebooaiaaE6
set_option linter.unusedVariables false
set_option linter.unusedSimpArgs false
set_option linter.unusedVariables false
namespace Go.Proofs.Ytmpcninebooaiaa.Tt
open Go.Ev Go
set_option maxRecDepth 100000

def impl_PlantAt_t0 : StTm := ⟨39, [(1, .ptr 1 0 33), (2, .ptr 2 0 28), (5, .ptr 5 0 28), (6, .int .i64), (18, .slw 18 28), (19, .int .i64), (20, .int .i64)], [(1, 33, true, .ints), (2, 28, true, .ints), (5, 28, true, .ints), (18, 28, false, .ints)]⟩
def impl_PlantAt_t0_1 : StTm := ⟨39, [(2, .ptr 2 0 28), (5, .ptr 5 0 28), (6, .int .i64)], [(2, 28, true, .ints), (5, 28, true, .ints)]⟩
def impl_PlantAt_w0 (k : Nat) (R : Type) (K : Ex → St → Option R) (rec : Int × Int × Int × (List Int) × (List Int) × (List Int) × (List Int) → Option R) (p : Int × Int × Int × (List Int) × (List Int) × (List Int) × (List Int)) : Option R := impl_PlantAt_s0 k (fun y1 y2 y3 => K (.exit 0) (fSt impl_PlantAt_t0_1 [.i y1, .l y2, .l y3])) (fun h1 h2 h3 h4 h5 h6 h7 => rec (h1, h2, h3, h4, h5, h6, h7)) p.1 p.2.1 p.2.2.1 p.2.2.2.1 p.2.2.2.2.1 p.2.2.2.2.2.1 p.2.2.2.2.2.2
def impl_PlantAt_c0 (k : Nat) : Lcall := lcallOf tab impl_PlantAt_t0 dec_iiillll [1, 2, 5, 6, 18, 19, 20] k (impl_PlantAt_w0 k)
def impl_PlantAt_C (k : Nat) : Cfg := ⟨tab, mvs, oraOf [impl_ValidLawn_e k, impl_Lawn_grass_e k, impl_Lawn_those_e k, impl_Lawn_turned_e k, impl_Lawn_edge_e k], loOf [(0, impl_PlantAt_c0 k)]⟩
theorem impl_PlantAt_es (k : Nat) : ∀ e ∈ ([impl_ValidLawn_e k, impl_Lawn_grass_e k, impl_Lawn_those_e k, impl_Lawn_turned_e k, impl_Lawn_edge_e k] : List Ent), EntOK Try.prog tab mvs e := by
  intro e he
  simp only [List.mem_cons, List.not_mem_nil, or_false] at he
  rcases he with rfl | rfl | rfl | rfl | rfl
  · exact impl_ValidLawn_ok k
  · exact impl_Lawn_grass_ok k
  · exact impl_Lawn_those_ok k
  · exact impl_Lawn_turned_ok k
  · exact impl_Lawn_edge_ok k
theorem impl_PlantAt_step0 (k : Nat) (R : Type) (K : Ex → St → Option R) (g : St → Option R) (p : Int × Int × Int × (List Int) × (List Int) × (List Int) × (List Int)) : evCode (impl_PlantAt_C k) (loopP [0] (0, codeOf Try.f53)).2 (loopP [0] (0, codeOf Try.f53)).1 (fSt impl_PlantAt_t0 (enc_iiillll p)) (loopK tab [1, 2, 5, 6, 18, 19, 20] [2, 5, 6] [2, 3, 4] g K) = impl_PlantAt_w0 k R K (fun p => g (fSt impl_PlantAt_t0 (enc_iiillll p))) p := by
  kernel_rfl
theorem impl_PlantAt_lok0 (k : Nat) : LoopOK Try.prog tab (impl_PlantAt_C k).lo (loopP [0] (0, codeOf Try.f53)).1 (loopP [0] (0, codeOf Try.f53)).2 :=
  loopOK_of (C := impl_PlantAt_C k) tabOK eqTabOK (oraOf_ok (impl_PlantAt_es k)) (oraOf_nat (impl_PlantAt_es k)) follows (forall_getD _ 0 (0, Code.skip) (by kernel_rfl) fun i hi => by
      omega)
    (tm := impl_PlantAt_t0) (dec := dec_iiillll) (enc := enc_iiillll) (ksIn := [1, 2, 5, 6, 18, 19, 20]) (ksOut := [2, 5, 6]) (ksRet := [2, 3, 4]) (k := k) (step := impl_PlantAt_w0 k) dec_enc_iiillll (fun p => by kernel_rfl) (fun s R K => by kernel_rfl) (impl_PlantAt_step0 k)
def impl_PlantAt_e (k : Nat) : Ent := (53, callOf [.agg 33] dec_l fun (p : (List Int)) R K => (impl_PlantAt k p).bind fun (b : (List Int) × Int × Int) => K ((fV (.tup [.agg 28, .int .i64, .int .i64]) (enc_lii b)).1, none))
theorem impl_PlantAt_run (k : Nat) (p : (List Int)) : runF (impl_PlantAt_C k) Try.f53 false (fL [.agg 33] (enc_l p)).1 (resK (.tup [.agg 28, .int .i64, .int .i64]) dec_lii) = impl_PlantAt k p := by
  kernel_rfl
theorem impl_PlantAt_ok (k : Nat) : EntOK Try.prog tab mvs (impl_PlantAt_e k) :=
  fn_ok (C := impl_PlantAt_C k) tabOK eqTabOK (impl_PlantAt_es k) rfl follows Try.func53 (by kernel_rfl) (by kernel_rfl) rfl (forall_getD _ 1 (0, Code.skip) (by kernel_rfl) fun i hi => by
      match i, hi with
      | 0, _ => exact impl_PlantAt_lok0 k
      | n + 1, h => omega)
    dec_enc_l dec_enc_lii (impl_PlantAt_run k)

def laws_FnExactPlantAt_C (k : Nat) : Cfg := ⟨tab, mvs, oraOf [laws_toLawn_e k, spec_PlantAt_e k, impl_PlantAt_e k, laws_eqCell_e k], loOf []⟩
theorem laws_FnExactPlantAt_es (k : Nat) : ∀ e ∈ ([laws_toLawn_e k, spec_PlantAt_e k, impl_PlantAt_e k, laws_eqCell_e k] : List Ent), EntOK Try.prog tab mvs e := by
  intro e he
  simp only [List.mem_cons, List.not_mem_nil, or_false] at he
  rcases he with rfl | rfl | rfl | rfl
  · exact laws_toLawn_ok k
  · exact spec_PlantAt_ok k
  · exact impl_PlantAt_ok k
  · exact laws_eqCell_ok k
def laws_FnExactPlantAt_e (k : Nat) : Ent := (14, callOf [.agg 26] dec_l fun (p : (List Int)) R K => (laws_FnExactPlantAt k p).bind fun (b : Bool) => K ((fV (.bool) (enc_b b)).1, none))
theorem laws_FnExactPlantAt_run (k : Nat) (p : (List Int)) : runF (laws_FnExactPlantAt_C k) Try.f14 false (fL [.agg 26] (enc_l p)).1 (resK (.bool) dec_b) = laws_FnExactPlantAt k p := by
  kernel_rfl
theorem laws_FnExactPlantAt_ok (k : Nat) : EntOK Try.prog tab mvs (laws_FnExactPlantAt_e k) :=
  fn_ok (C := laws_FnExactPlantAt_C k) tabOK eqTabOK (laws_FnExactPlantAt_es k) rfl follows Try.func14 (by kernel_rfl) (by kernel_rfl) rfl (forall_getD _ 0 (0, Code.skip) (by kernel_rfl) fun i hi => by
      omega)
    dec_enc_l dec_enc_b (laws_FnExactPlantAt_run k)

def laws_toCell_C (k : Nat) : Cfg := ⟨tab, mvs, oraOf [], loOf []⟩
theorem laws_toCell_es (k : Nat) : ∀ e ∈ ([] : List Ent), EntOK Try.prog tab mvs e := by
  intro e he
  simp at he
def laws_toCell_e (k : Nat) : Ent := (33, callOf [.agg 52] dec_l fun (p : (List Int)) R K => (laws_toCell k p).bind fun (b : (List Int)) => K ((fV (.agg 28) (enc_l b)).1, none))
theorem laws_toCell_run (k : Nat) (p : (List Int)) : runF (laws_toCell_C k) Try.f33 false (fL [.agg 52] (enc_l p)).1 (resK (.agg 28) dec_l) = laws_toCell k p := by
  kernel_rfl
theorem laws_toCell_ok (k : Nat) : EntOK Try.prog tab mvs (laws_toCell_e k) :=
  fn_ok (C := laws_toCell_C k) tabOK eqTabOK (laws_toCell_es k) rfl follows Try.func33 (by kernel_rfl) (by kernel_rfl) rfl (forall_getD _ 0 (0, Code.skip) (by kernel_rfl) fun i hi => by
      omega)
    dec_enc_l dec_enc_l (laws_toCell_run k)

def spec_l01Told_C (k : Nat) : Cfg := ⟨tab, mvs, oraOf [spec_l01Ok_e k], loOf []⟩
theorem spec_l01Told_es (k : Nat) : ∀ e ∈ ([spec_l01Ok_e k] : List Ent), EntOK Try.prog tab mvs e := by
  intro e he
  simp only [List.mem_cons, List.not_mem_nil, or_false] at he
  rcases he with rfl
  · exact spec_l01Ok_ok k
def spec_l01Told_e (k : Nat) : Ent := (88, callOf [.pvi (some 33) 0 33, .bool] dec_lb fun (p : (List Int) × Bool) R K => (spec_l01Told k p.1 p.2).bind fun (b : Int) => K ((fV (.int .i64) (enc_i b)).1, none))
theorem spec_l01Told_run (k : Nat) (p : (List Int) × Bool) : runF (spec_l01Told_C k) Try.f88 false (fL [.pvi (some 33) 0 33, .bool] (enc_lb p)).1 (resK (.int .i64) dec_i) = spec_l01Told k p.1 p.2 := by
  kernel_rfl
theorem spec_l01Told_ok (k : Nat) : EntOK Try.prog tab mvs (spec_l01Told_e k) :=
  fn_ok (C := spec_l01Told_C k) tabOK eqTabOK (spec_l01Told_es k) rfl follows Try.func88 (by kernel_rfl) (by kernel_rfl) rfl (forall_getD _ 0 (0, Code.skip) (by kernel_rfl) fun i hi => by
      omega)
    dec_enc_lb dec_enc_i (spec_l01Told_run k)

def spec_l02Letter_t0 : StTm := ⟨13, [(0, .int .u8), (3, .int .i64)], []⟩
def spec_l02Letter_t0_1 : StTm := ⟨13, [(2, .int .i64)], []⟩
def spec_l02Letter_t0_2 : StTm := ⟨13, [], []⟩
def spec_l02Letter_w0 (k : Nat) (R : Type) (K : Ex → St → Option R) (rec : Int × Int → Option R) (p : Int × Int) : Option R := spec_l02Letter_s0 k (fun y1 => K .ret (fSt spec_l02Letter_t0_1 [.i y1])) (K (.exit 0) (fSt spec_l02Letter_t0_2 [])) (fun h1 h2 => rec (h1, h2)) p.1 p.2
def spec_l02Letter_c0 (k : Nat) : Lcall := lcallOf tab spec_l02Letter_t0 dec_ii [0, 3] k (spec_l02Letter_w0 k)
def spec_l02Letter_C (k : Nat) : Cfg := ⟨tab, mvs, oraOf [], loOf [(0, spec_l02Letter_c0 k)]⟩
theorem spec_l02Letter_es (k : Nat) : ∀ e ∈ ([] : List Ent), EntOK Try.prog tab mvs e := by
  intro e he
  simp at he
theorem spec_l02Letter_step0 (k : Nat) (R : Type) (K : Ex → St → Option R) (g : St → Option R) (p : Int × Int) : evCode (spec_l02Letter_C k) (loopP [0] (0, codeOf Try.f123)).2 (loopP [0] (0, codeOf Try.f123)).1 (fSt spec_l02Letter_t0 (enc_ii p)) (loopK tab [0, 3] [] [2] g K) = spec_l02Letter_w0 k R K (fun p => g (fSt spec_l02Letter_t0 (enc_ii p))) p := by
  kernel_rfl
theorem spec_l02Letter_lok0 (k : Nat) : LoopOK Try.prog tab (spec_l02Letter_C k).lo (loopP [0] (0, codeOf Try.f123)).1 (loopP [0] (0, codeOf Try.f123)).2 :=
  loopOK_of (C := spec_l02Letter_C k) tabOK eqTabOK (oraOf_ok (spec_l02Letter_es k)) (oraOf_nat (spec_l02Letter_es k)) follows (forall_getD _ 0 (0, Code.skip) (by kernel_rfl) fun i hi => by
      omega)
    (tm := spec_l02Letter_t0) (dec := dec_ii) (enc := enc_ii) (ksIn := [0, 3]) (ksOut := []) (ksRet := [2]) (k := k) (step := spec_l02Letter_w0 k) dec_enc_ii (fun p => by kernel_rfl) (fun s R K => by kernel_rfl) (spec_l02Letter_step0 k)
def spec_l02Letter_e (k : Nat) : Ent := (123, callOf [.int .u8] dec_i fun (p : Int) R K => (spec_l02Letter k p).bind fun (b : Int) => K ((fV (.int .i64) (enc_i b)).1, none))
theorem spec_l02Letter_run (k : Nat) (p : Int) : runF (spec_l02Letter_C k) Try.f123 false (fL [.int .u8] (enc_i p)).1 (resK (.int .i64) dec_i) = spec_l02Letter k p := by
  kernel_rfl
theorem spec_l02Letter_ok (k : Nat) : EntOK Try.prog tab mvs (spec_l02Letter_e k) :=
  fn_ok (C := spec_l02Letter_C k) tabOK eqTabOK (spec_l02Letter_es k) rfl follows Try.func123 (by kernel_rfl) (by kernel_rfl) rfl (forall_getD _ 1 (0, Code.skip) (by kernel_rfl) fun i hi => by
      match i, hi with
      | 0, _ => exact spec_l02Letter_lok0 k
      | n + 1, h => omega)
    dec_enc_i dec_enc_i (spec_l02Letter_run k)

def dec_si (ps : List Pay) : Option (ByteArray × Int) := match ps with
  | [.s x1, .i x2] => some (x1, x2)
  | _ => none
def enc_si (p : ByteArray × Int) : List Pay := [.s p.1, .i p.2]
theorem dec_enc_si : ∀ (ps : List Pay) (p : ByteArray × Int), dec_si ps = some p → ps = enc_si p := by
  intro ps p h
  unfold dec_si at h
  split at h
  · injection h with h
    subst h
    rfl
  · cases h

def dec_s (ps : List Pay) : Option (ByteArray) := match ps with
  | [.s x1] => some x1
  | _ => none
def enc_s (p : ByteArray) : List Pay := [.s p]
theorem dec_enc_s : ∀ (ps : List Pay) (p : ByteArray), dec_s ps = some p → ps = enc_s p := by
  intro ps p h
  unfold dec_s at h
  split at h
  · injection h with h
    subst h
    rfl
  · cases h

def spec_l02Way_t0 : StTm := ⟨18, [(0, .str), (3, .int .i64)], []⟩
def spec_l02Way_t0_1 : StTm := ⟨18, [(2, .int .i64)], []⟩
def spec_l02Way_t0_2 : StTm := ⟨18, [], []⟩
def spec_l02Way_w0 (k : Nat) (R : Type) (K : Ex → St → Option R) (rec : ByteArray × Int → Option R) (p : ByteArray × Int) : Option R := spec_l02Way_s0 k (fun y1 => K .ret (fSt spec_l02Way_t0_1 [.i y1])) (K (.exit 0) (fSt spec_l02Way_t0_2 [])) (fun h1 h2 => rec (h1, h2)) p.1 p.2
def spec_l02Way_c0 (k : Nat) : Lcall := lcallOf tab spec_l02Way_t0 dec_si [0, 3] k (spec_l02Way_w0 k)
def spec_l02Way_C (k : Nat) : Cfg := ⟨tab, mvs, oraOf [spec_l02Letter_e k], loOf [(0, spec_l02Way_c0 k)]⟩
theorem spec_l02Way_es (k : Nat) : ∀ e ∈ ([spec_l02Letter_e k] : List Ent), EntOK Try.prog tab mvs e := by
  intro e he
  simp only [List.mem_cons, List.not_mem_nil, or_false] at he
  rcases he with rfl
  · exact spec_l02Letter_ok k
theorem spec_l02Way_step0 (k : Nat) (R : Type) (K : Ex → St → Option R) (g : St → Option R) (p : ByteArray × Int) : evCode (spec_l02Way_C k) (loopP [0] (0, codeOf Try.f120)).2 (loopP [0] (0, codeOf Try.f120)).1 (fSt spec_l02Way_t0 (enc_si p)) (loopK tab [0, 3] [] [2] g K) = spec_l02Way_w0 k R K (fun p => g (fSt spec_l02Way_t0 (enc_si p))) p := by
  kernel_rfl
theorem spec_l02Way_lok0 (k : Nat) : LoopOK Try.prog tab (spec_l02Way_C k).lo (loopP [0] (0, codeOf Try.f120)).1 (loopP [0] (0, codeOf Try.f120)).2 :=
  loopOK_of (C := spec_l02Way_C k) tabOK eqTabOK (oraOf_ok (spec_l02Way_es k)) (oraOf_nat (spec_l02Way_es k)) follows (forall_getD _ 0 (0, Code.skip) (by kernel_rfl) fun i hi => by
      omega)
    (tm := spec_l02Way_t0) (dec := dec_si) (enc := enc_si) (ksIn := [0, 3]) (ksOut := []) (ksRet := [2]) (k := k) (step := spec_l02Way_w0 k) dec_enc_si (fun p => by kernel_rfl) (fun s R K => by kernel_rfl) (spec_l02Way_step0 k)
def spec_l02Way_e (k : Nat) : Ent := (120, callOf [.str] dec_s fun (p : ByteArray) R K => (spec_l02Way k p).bind fun (b : Int) => K ((fV (.int .i64) (enc_i b)).1, none))
theorem spec_l02Way_run (k : Nat) (p : ByteArray) : runF (spec_l02Way_C k) Try.f120 false (fL [.str] (enc_s p)).1 (resK (.int .i64) dec_i) = spec_l02Way k p := by
  kernel_rfl
theorem spec_l02Way_ok (k : Nat) : EntOK Try.prog tab mvs (spec_l02Way_e k) :=
  fn_ok (C := spec_l02Way_C k) tabOK eqTabOK (spec_l02Way_es k) rfl follows Try.func120 (by kernel_rfl) (by kernel_rfl) rfl (forall_getD _ 1 (0, Code.skip) (by kernel_rfl) fun i hi => by
      match i, hi with
      | 0, _ => exact spec_l02Way_lok0 k
      | n + 1, h => omega)
    dec_enc_s dec_enc_i (spec_l02Way_run k)

def dec_lls (ps : List Pay) : Option ((List Int) × (List Int) × ByteArray) := match ps with
  | [.l x1, .l x2, .s x3] => some (x1, x2, x3)
  | _ => none
def enc_lls (p : (List Int) × (List Int) × ByteArray) : List Pay := [.l p.1, .l p.2.1, .s p.2.2]
theorem dec_enc_lls : ∀ (ps : List Pay) (p : (List Int) × (List Int) × ByteArray), dec_lls ps = some p → ps = enc_lls p := by
  intro ps p h
  unfold dec_lls at h
  split at h
  · injection h with h
    subst h
    rfl
  · cases h

def spec_l02Told_C (k : Nat) : Cfg := ⟨tab, mvs, oraOf [spec_l01Is_e k, spec_l01Told_e k, spec_l02Way_e k], loOf []⟩
theorem spec_l02Told_es (k : Nat) : ∀ e ∈ ([spec_l01Is_e k, spec_l01Told_e k, spec_l02Way_e k] : List Ent), EntOK Try.prog tab mvs e := by
  intro e he
  simp only [List.mem_cons, List.not_mem_nil, or_false] at he
  rcases he with rfl | rfl | rfl
  · exact spec_l01Is_ok k
  · exact spec_l01Told_ok k
  · exact spec_l02Way_ok k
def spec_l02Told_e (k : Nat) : Ent := (77, callOf [.pvi (some 33) 0 33, .agg 28, .str] dec_lls fun (p : (List Int) × (List Int) × ByteArray) R K => (spec_l02Told k p.1 p.2.1 p.2.2).bind fun (b : Int) => K ((fV (.int .i64) (enc_i b)).1, none))
theorem spec_l02Told_run (k : Nat) (p : (List Int) × (List Int) × ByteArray) : runF (spec_l02Told_C k) Try.f77 false (fL [.pvi (some 33) 0 33, .agg 28, .str] (enc_lls p)).1 (resK (.int .i64) dec_i) = spec_l02Told k p.1 p.2.1 p.2.2 := by
  kernel_rfl
theorem spec_l02Told_ok (k : Nat) : EntOK Try.prog tab mvs (spec_l02Told_e k) :=
  fn_ok (C := spec_l02Told_C k) tabOK eqTabOK (spec_l02Told_es k) rfl follows Try.func77 (by kernel_rfl) (by kernel_rfl) rfl (forall_getD _ 0 (0, Code.skip) (by kernel_rfl) fun i hi => by
      omega)
    dec_enc_lls dec_enc_i (spec_l02Told_run k)

def spec_l01Open_C (k : Nat) : Cfg := ⟨tab, mvs, oraOf [spec_l01At_e k], loOf []⟩
theorem spec_l01Open_es (k : Nat) : ∀ e ∈ ([spec_l01At_e k] : List Ent), EntOK Try.prog tab mvs e := by
  intro e he
  simp only [List.mem_cons, List.not_mem_nil, or_false] at he
  rcases he with rfl
  · exact spec_l01At_ok k
def spec_l01Open_e (k : Nat) : Ent := (90, callOf [.pvi (some 33) 0 33, .agg 28] dec_ll fun (p : (List Int) × (List Int)) R K => (spec_l01Open k p.1 p.2).bind fun (b : Bool) => K ((fV (.bool) (enc_b b)).1, none))
theorem spec_l01Open_run (k : Nat) (p : (List Int) × (List Int)) : runF (spec_l01Open_C k) Try.f90 false (fL [.pvi (some 33) 0 33, .agg 28] (enc_ll p)).1 (resK (.bool) dec_b) = spec_l01Open k p.1 p.2 := by
  kernel_rfl
theorem spec_l01Open_ok (k : Nat) : EntOK Try.prog tab mvs (spec_l01Open_e k) :=
  fn_ok (C := spec_l01Open_C k) tabOK eqTabOK (spec_l01Open_es k) rfl follows Try.func90 (by kernel_rfl) (by kernel_rfl) rfl (forall_getD _ 0 (0, Code.skip) (by kernel_rfl) fun i hi => by
      omega)
    dec_enc_ll dec_enc_b (spec_l01Open_run k)

def spec_l02Free_C (k : Nat) : Cfg := ⟨tab, mvs, oraOf [spec_l01Is_e k, spec_l01Open_e k], loOf []⟩
theorem spec_l02Free_es (k : Nat) : ∀ e ∈ ([spec_l01Is_e k, spec_l01Open_e k] : List Ent), EntOK Try.prog tab mvs e := by
  intro e he
  simp only [List.mem_cons, List.not_mem_nil, or_false] at he
  rcases he with rfl | rfl
  · exact spec_l01Is_ok k
  · exact spec_l01Open_ok k
def spec_l02Free_e (k : Nat) : Ent := (121, callOf [.pvi (some 33) 0 33, .agg 28] dec_ll fun (p : (List Int) × (List Int)) R K => (spec_l02Free k p.1 p.2).bind fun (b : Bool) => K ((fV (.bool) (enc_b b)).1, none))
theorem spec_l02Free_run (k : Nat) (p : (List Int) × (List Int)) : runF (spec_l02Free_C k) Try.f121 false (fL [.pvi (some 33) 0 33, .agg 28] (enc_ll p)).1 (resK (.bool) dec_b) = spec_l02Free k p.1 p.2 := by
  kernel_rfl
theorem spec_l02Free_ok (k : Nat) : EntOK Try.prog tab mvs (spec_l02Free_e k) :=
  fn_ok (C := spec_l02Free_C k) tabOK eqTabOK (spec_l02Free_es k) rfl follows Try.func121 (by kernel_rfl) (by kernel_rfl) rfl (forall_getD _ 0 (0, Code.skip) (by kernel_rfl) fun i hi => by
      omega)
    dec_enc_ll dec_enc_b (spec_l02Free_run k)

def spec_l02Next_C (k : Nat) : Cfg := ⟨tab, mvs, oraOf [], loOf []⟩
theorem spec_l02Next_es (k : Nat) : ∀ e ∈ ([] : List Ent), EntOK Try.prog tab mvs e := by
  intro e he
  simp at he
def spec_l02Next_e (k : Nat) : Ent := (122, callOf [.agg 28, .int .i64] dec_li fun (p : (List Int) × Int) R K => (spec_l02Next k p.1 p.2).bind fun (b : (List Int)) => K ((fV (.agg 28) (enc_l b)).1, none))
theorem spec_l02Next_run (k : Nat) (p : (List Int) × Int) : runF (spec_l02Next_C k) Try.f122 false (fL [.agg 28, .int .i64] (enc_li p)).1 (resK (.agg 28) dec_l) = spec_l02Next k p.1 p.2 := by
  kernel_rfl
theorem spec_l02Next_ok (k : Nat) : EntOK Try.prog tab mvs (spec_l02Next_e k) :=
  fn_ok (C := spec_l02Next_C k) tabOK eqTabOK (spec_l02Next_es k) rfl follows Try.func122 (by kernel_rfl) (by kernel_rfl) rfl (forall_getD _ 0 (0, Code.skip) (by kernel_rfl) fun i hi => by
      omega)
    dec_enc_li dec_enc_l (spec_l02Next_run k)

def dec_lsill (ps : List Pay) : Option ((List Int) × ByteArray × Int × (List Int) × (List Int)) := match ps with
  | [.l x1, .s x2, .i x3, .l x4, .l x5] => some (x1, x2, x3, x4, x5)
  | _ => none
def enc_lsill (p : (List Int) × ByteArray × Int × (List Int) × (List Int)) : List Pay := [.l p.1, .s p.2.1, .i p.2.2.1, .l p.2.2.2.1, .l p.2.2.2.2]
theorem dec_enc_lsill : ∀ (ps : List Pay) (p : (List Int) × ByteArray × Int × (List Int) × (List Int)), dec_lsill ps = some p → ps = enc_lsill p := by
  intro ps p h
  unfold dec_lsill at h
  split at h
  · injection h with h
    subst h
    rfl
  · cases h

def spec_l02Come_t0 : StTm := ⟨39, [(0, .pvi (some 33) 0 33), (2, .str), (4, .ptr 4 0 28), (8, .slw 8 28), (9, .int .i64)], [(4, 28, true, .ints), (8, 28, false, .ints)]⟩
def spec_l02Come_t0_1 : StTm := ⟨39, [(6, .slw 6 28), (7, .bool)], [(6, 28, false, .ints)]⟩
def spec_l02Come_t0_2 : StTm := ⟨39, [(8, .slw 8 28)], [(8, 28, false, .ints)]⟩
def spec_l02Come_w0 (k : Nat) (R : Type) (K : Ex → St → Option R) (rec : (List Int) × ByteArray × Int × (List Int) × (List Int) → Option R) (p : (List Int) × ByteArray × Int × (List Int) × (List Int)) : Option R := spec_l02Come_s0 k (fun y1 y2 => K .ret (fSt spec_l02Come_t0_1 [.b y1, .l y2])) (fun y1 => K (.exit 0) (fSt spec_l02Come_t0_2 [.l y1])) (fun h1 h2 h3 h4 h5 => rec (h1, h2, h3, h4, h5)) p.1 p.2.1 p.2.2.1 p.2.2.2.1 p.2.2.2.2
def spec_l02Come_c0 (k : Nat) : Lcall := lcallOf tab spec_l02Come_t0 dec_lsill [0, 2, 4, 8, 9] k (spec_l02Come_w0 k)
def spec_l02Come_C (k : Nat) : Cfg := ⟨tab, mvs, oraOf [spec_l02Free_e k, spec_l02Letter_e k, spec_l02Next_e k], loOf [(0, spec_l02Come_c0 k)]⟩
theorem spec_l02Come_es (k : Nat) : ∀ e ∈ ([spec_l02Free_e k, spec_l02Letter_e k, spec_l02Next_e k] : List Ent), EntOK Try.prog tab mvs e := by
  intro e he
  simp only [List.mem_cons, List.not_mem_nil, or_false] at he
  rcases he with rfl | rfl | rfl
  · exact spec_l02Free_ok k
  · exact spec_l02Letter_ok k
  · exact spec_l02Next_ok k
theorem spec_l02Come_step0 (k : Nat) (R : Type) (K : Ex → St → Option R) (g : St → Option R) (p : (List Int) × ByteArray × Int × (List Int) × (List Int)) : evCode (spec_l02Come_C k) (loopP [0] (0, codeOf Try.f78)).2 (loopP [0] (0, codeOf Try.f78)).1 (fSt spec_l02Come_t0 (enc_lsill p)) (loopK tab [0, 2, 4, 8, 9] [8] [6, 7] g K) = spec_l02Come_w0 k R K (fun p => g (fSt spec_l02Come_t0 (enc_lsill p))) p := by
  kernel_rfl
theorem spec_l02Come_lok0 (k : Nat) : LoopOK Try.prog tab (spec_l02Come_C k).lo (loopP [0] (0, codeOf Try.f78)).1 (loopP [0] (0, codeOf Try.f78)).2 :=
  loopOK_of (C := spec_l02Come_C k) tabOK eqTabOK (oraOf_ok (spec_l02Come_es k)) (oraOf_nat (spec_l02Come_es k)) follows (forall_getD _ 0 (0, Code.skip) (by kernel_rfl) fun i hi => by
      omega)
    (tm := spec_l02Come_t0) (dec := dec_lsill) (enc := enc_lsill) (ksIn := [0, 2, 4, 8, 9]) (ksOut := [8]) (ksRet := [6, 7]) (k := k) (step := spec_l02Come_w0 k) dec_enc_lsill (fun p => by kernel_rfl) (fun s R K => by kernel_rfl) (spec_l02Come_step0 k)
def spec_l02Come_e (k : Nat) : Ent := (78, callOf [.pvi (some 33) 0 33, .agg 28, .str] dec_lls fun (p : (List Int) × (List Int) × ByteArray) R K => (spec_l02Come k p.1 p.2.1 p.2.2).bind fun (b : (List Int) × Bool) => K ((fV (.tup [.slv 28, .bool]) (enc_lb b)).1, none))
theorem spec_l02Come_run (k : Nat) (p : (List Int) × (List Int) × ByteArray) : runF (spec_l02Come_C k) Try.f78 false (fL [.pvi (some 33) 0 33, .agg 28, .str] (enc_lls p)).1 (resK (.tup [.slv 28, .bool]) dec_lb) = spec_l02Come k p.1 p.2.1 p.2.2 := by
  kernel_rfl
theorem spec_l02Come_ok (k : Nat) : EntOK Try.prog tab mvs (spec_l02Come_e k) :=
  fn_ok (C := spec_l02Come_C k) tabOK eqTabOK (spec_l02Come_es k) rfl follows Try.func78 (by kernel_rfl) (by kernel_rfl) rfl (forall_getD _ 1 (0, Code.skip) (by kernel_rfl) fun i hi => by
      match i, hi with
      | 0, _ => exact spec_l02Come_lok0 k
      | n + 1, h => omega)
    dec_enc_lls dec_enc_lb (spec_l02Come_run k)

def dec_bi (ps : List Pay) : Option (Bool × Int) := match ps with
  | [.b x1, .i x2] => some (x1, x2)
  | _ => none
def enc_bi (p : Bool × Int) : List Pay := [.b p.1, .i p.2]
theorem dec_enc_bi : ∀ (ps : List Pay) (p : Bool × Int), dec_bi ps = some p → ps = enc_bi p := by
  intro ps p h
  unfold dec_bi at h
  split at h
  · injection h with h
    subst h
    rfl
  · cases h

def spec_CheckWay_C (k : Nat) : Cfg := ⟨tab, mvs, oraOf [spec_l02Told_e k, spec_l02Come_e k], loOf []⟩
theorem spec_CheckWay_es (k : Nat) : ∀ e ∈ ([spec_l02Told_e k, spec_l02Come_e k] : List Ent), EntOK Try.prog tab mvs e := by
  intro e he
  simp only [List.mem_cons, List.not_mem_nil, or_false] at he
  rcases he with rfl | rfl
  · exact spec_l02Told_ok k
  · exact spec_l02Come_ok k
def spec_CheckWay_e (k : Nat) : Ent := (32, callOf [.agg 33, .agg 28, .str] dec_lls fun (p : (List Int) × (List Int) × ByteArray) R K => (spec_CheckWay k p.1 p.2.1 p.2.2).bind fun (b : Bool × Int) => K ((fV (.tup [.bool, .int .i64]) (enc_bi b)).1, none))
theorem spec_CheckWay_run (k : Nat) (p : (List Int) × (List Int) × ByteArray) : runF (spec_CheckWay_C k) Try.f32 false (fL [.agg 33, .agg 28, .str] (enc_lls p)).1 (resK (.tup [.bool, .int .i64]) dec_bi) = spec_CheckWay k p.1 p.2.1 p.2.2 := by
  kernel_rfl
theorem spec_CheckWay_ok (k : Nat) : EntOK Try.prog tab mvs (spec_CheckWay_e k) :=
  fn_ok (C := spec_CheckWay_C k) tabOK eqTabOK (spec_CheckWay_es k) rfl follows Try.func32 (by kernel_rfl) (by kernel_rfl) rfl (forall_getD _ 0 (0, Code.skip) (by kernel_rfl) fun i hi => by
      omega)
    dec_enc_lls dec_enc_bi (spec_CheckWay_run k)

def strings_IndexByte_e (k : Nat) : Ent := (135, callOf [.str, .int .u8] dec_si fun (p : ByteArray × Int) R K => (strings_IndexByte k p.1 p.2).bind fun (b : Int) => K ((fV (.int .i64) (enc_i b)).1, none))
theorem strings_IndexByte_ok (k : Nat) : EntOK Try.prog tab mvs (strings_IndexByte_e k) :=
  strByte_ok rfl Try.func135 (by kernel_rfl) (by kernel_rfl) _ ext_IndexByte dec_enc_si (fun _ => rfl) (fun _ => rfl) (F := strings_IndexByte k) (fun _ _ => rfl)

def dec_sii (ps : List Pay) : Option (ByteArray × Int × Int) := match ps with
  | [.s x1, .i x2, .i x3] => some (x1, x2, x3)
  | _ => none
def enc_sii (p : ByteArray × Int × Int) : List Pay := [.s p.1, .i p.2.1, .i p.2.2]
theorem dec_enc_sii : ∀ (ps : List Pay) (p : ByteArray × Int × Int), dec_sii ps = some p → ps = enc_sii p := by
  intro ps p h
  unfold dec_sii at h
  split at h
  · injection h with h
    subst h
    rfl
  · cases h

def impl_wayCode_t0 : StTm := ⟨18, [(0, .str), (8, .int .i64), (9, .int .i64)], []⟩
def impl_wayCode_t0_1 : StTm := ⟨18, [(2, .int .i64)], []⟩
def impl_wayCode_t0_2 : StTm := ⟨18, [], []⟩
def impl_wayCode_w0 (k : Nat) (R : Type) (K : Ex → St → Option R) (rec : ByteArray × Int × Int → Option R) (p : ByteArray × Int × Int) : Option R := impl_wayCode_s0 k (fun y1 => K .ret (fSt impl_wayCode_t0_1 [.i y1])) (K (.exit 0) (fSt impl_wayCode_t0_2 [])) (fun h1 h2 h3 => rec (h1, h2, h3)) p.1 p.2.1 p.2.2
def impl_wayCode_c0 (k : Nat) : Lcall := lcallOf tab impl_wayCode_t0 dec_sii [0, 8, 9] k (impl_wayCode_w0 k)
def impl_wayCode_C (k : Nat) : Cfg := ⟨tab, mvs, oraOf [strings_IndexByte_e k], loOf [(0, impl_wayCode_c0 k)]⟩
theorem impl_wayCode_es (k : Nat) : ∀ e ∈ ([strings_IndexByte_e k] : List Ent), EntOK Try.prog tab mvs e := by
  intro e he
  simp only [List.mem_cons, List.not_mem_nil, or_false] at he
  rcases he with rfl
  · exact strings_IndexByte_ok k
theorem impl_wayCode_step0 (k : Nat) (R : Type) (K : Ex → St → Option R) (g : St → Option R) (p : ByteArray × Int × Int) : evCode (impl_wayCode_C k) (loopP [0] (0, codeOf Try.f124)).2 (loopP [0] (0, codeOf Try.f124)).1 (fSt impl_wayCode_t0 (enc_sii p)) (loopK tab [0, 8, 9] [] [2] g K) = impl_wayCode_w0 k R K (fun p => g (fSt impl_wayCode_t0 (enc_sii p))) p := by
  kernel_rfl
theorem impl_wayCode_lok0 (k : Nat) : LoopOK Try.prog tab (impl_wayCode_C k).lo (loopP [0] (0, codeOf Try.f124)).1 (loopP [0] (0, codeOf Try.f124)).2 :=
  loopOK_of (C := impl_wayCode_C k) tabOK eqTabOK (oraOf_ok (impl_wayCode_es k)) (oraOf_nat (impl_wayCode_es k)) follows (forall_getD _ 0 (0, Code.skip) (by kernel_rfl) fun i hi => by
      omega)
    (tm := impl_wayCode_t0) (dec := dec_sii) (enc := enc_sii) (ksIn := [0, 8, 9]) (ksOut := []) (ksRet := [2]) (k := k) (step := impl_wayCode_w0 k) dec_enc_sii (fun p => by kernel_rfl) (fun s R K => by kernel_rfl) (impl_wayCode_step0 k)
def impl_wayCode_e (k : Nat) : Ent := (124, callOf [.str] dec_s fun (p : ByteArray) R K => (impl_wayCode k p).bind fun (b : Int) => K ((fV (.int .i64) (enc_i b)).1, none))
theorem impl_wayCode_run (k : Nat) (p : ByteArray) : runF (impl_wayCode_C k) Try.f124 false (fL [.str] (enc_s p)).1 (resK (.int .i64) dec_i) = impl_wayCode k p := by
  kernel_rfl
theorem impl_wayCode_ok (k : Nat) : EntOK Try.prog tab mvs (impl_wayCode_e k) :=
  fn_ok (C := impl_wayCode_C k) tabOK eqTabOK (impl_wayCode_es k) rfl follows Try.func124 (by kernel_rfl) (by kernel_rfl) rfl (forall_getD _ 1 (0, Code.skip) (by kernel_rfl) fun i hi => by
      match i, hi with
      | 0, _ => exact impl_wayCode_lok0 k
      | n + 1, h => omega)
    dec_enc_s dec_enc_i (impl_wayCode_run k)

def impl_go1_C (k : Nat) : Cfg := ⟨tab, mvs, oraOf [impl_beside_e k, strings_IndexByte_e k], loOf []⟩
theorem impl_go1_es (k : Nat) : ∀ e ∈ ([impl_beside_e k, strings_IndexByte_e k] : List Ent), EntOK Try.prog tab mvs e := by
  intro e he
  simp only [List.mem_cons, List.not_mem_nil, or_false] at he
  rcases he with rfl | rfl
  · exact impl_beside_ok k
  · exact strings_IndexByte_ok k
def impl_go1_e (k : Nat) : Ent := (136, callOf [.agg 28, .int .u8] dec_li fun (p : (List Int) × Int) R K => (impl_go1 k p.1 p.2).bind fun (b : (List Int)) => K ((fV (.agg 28) (enc_l b)).1, none))
theorem impl_go1_run (k : Nat) (p : (List Int) × Int) : runF (impl_go1_C k) Try.f136 false (fL [.agg 28, .int .u8] (enc_li p)).1 (resK (.agg 28) dec_l) = impl_go1 k p.1 p.2 := by
  kernel_rfl
theorem impl_go1_ok (k : Nat) : EntOK Try.prog tab mvs (impl_go1_e k) :=
  fn_ok (C := impl_go1_C k) tabOK eqTabOK (impl_go1_es k) rfl follows Try.func136 (by kernel_rfl) (by kernel_rfl) rfl (forall_getD _ 0 (0, Code.skip) (by kernel_rfl) fun i hi => by
      omega)
    dec_enc_li dec_enc_l (impl_go1_run k)

def impl_Lawn_open_C (k : Nat) : Cfg := ⟨tab, mvs, oraOf [impl_Lawn_is_e k], loOf []⟩
theorem impl_Lawn_open_es (k : Nat) : ∀ e ∈ ([impl_Lawn_is_e k] : List Ent), EntOK Try.prog tab mvs e := by
  intro e he
  simp only [List.mem_cons, List.not_mem_nil, or_false] at he
  rcases he with rfl
  · exact impl_Lawn_is_ok k
def impl_Lawn_open_e (k : Nat) : Ent := (94, callOf [.agg 33, .agg 28] dec_ll fun (p : (List Int) × (List Int)) R K => (impl_Lawn_open k p.1 p.2).bind fun (b : Bool) => K ((fV (.bool) (enc_b b)).1, none))
theorem impl_Lawn_open_run (k : Nat) (p : (List Int) × (List Int)) : runF (impl_Lawn_open_C k) Try.f94 false (fL [.agg 33, .agg 28] (enc_ll p)).1 (resK (.bool) dec_b) = impl_Lawn_open k p.1 p.2 := by
  kernel_rfl
theorem impl_Lawn_open_ok (k : Nat) : EntOK Try.prog tab mvs (impl_Lawn_open_e k) :=
  fn_ok (C := impl_Lawn_open_C k) tabOK eqTabOK (impl_Lawn_open_es k) rfl follows Try.func94 (by kernel_rfl) (by kernel_rfl) rfl (forall_getD _ 0 (0, Code.skip) (by kernel_rfl) fun i hi => by
      omega)
    dec_enc_ll dec_enc_b (impl_Lawn_open_run k)

def dec_siilll (ps : List Pay) : Option (ByteArray × Int × Int × (List Int) × (List Int) × (List Int)) := match ps with
  | [.s x1, .i x2, .i x3, .l x4, .l x5, .l x6] => some (x1, x2, x3, x4, x5, x6)
  | _ => none
def enc_siilll (p : ByteArray × Int × Int × (List Int) × (List Int) × (List Int)) : List Pay := [.s p.1, .i p.2.1, .i p.2.2.1, .l p.2.2.2.1, .l p.2.2.2.2.1, .l p.2.2.2.2.2]
theorem dec_enc_siilll : ∀ (ps : List Pay) (p : ByteArray × Int × Int × (List Int) × (List Int) × (List Int)), dec_siilll ps = some p → ps = enc_siilll p := by
  intro ps p h
  unfold dec_siilll at h
  split at h
  · injection h with h
    subst h
    rfl
  · cases h

def impl_Lawn_cellsBy_t0 : StTm := ⟨42, [(2, .str), (3, .ptr 3 0 33), (4, .ptr 4 0 28), (8, .slw 8 28), (13, .int .i64), (14, .int .i64)], [(3, 33, true, .ints), (4, 28, true, .ints), (8, 28, false, .ints)]⟩
def impl_Lawn_cellsBy_t0_1 : StTm := ⟨42, [(6, .slw 6 28), (7, .bool)], [(6, 28, false, .ints)]⟩
def impl_Lawn_cellsBy_t0_2 : StTm := ⟨42, [(3, .ptr 3 0 33), (4, .ptr 4 0 28), (8, .slw 8 28)], [(3, 33, true, .ints), (4, 28, true, .ints), (8, 28, false, .ints)]⟩
def impl_Lawn_cellsBy_w0 (k : Nat) (R : Type) (K : Ex → St → Option R) (rec : ByteArray × Int × Int × (List Int) × (List Int) × (List Int) → Option R) (p : ByteArray × Int × Int × (List Int) × (List Int) × (List Int)) : Option R := impl_Lawn_cellsBy_s0 k (fun y1 y2 => K .ret (fSt impl_Lawn_cellsBy_t0_1 [.b y1, .l y2])) (fun y1 y2 y3 => K (.exit 0) (fSt impl_Lawn_cellsBy_t0_2 [.l y1, .l y2, .l y3])) (fun h1 h2 h3 h4 h5 h6 => rec (h1, h2, h3, h4, h5, h6)) p.1 p.2.1 p.2.2.1 p.2.2.2.1 p.2.2.2.2.1 p.2.2.2.2.2
def impl_Lawn_cellsBy_c0 (k : Nat) : Lcall := lcallOf tab impl_Lawn_cellsBy_t0 dec_siilll [2, 3, 4, 8, 13, 14] k (impl_Lawn_cellsBy_w0 k)
def impl_Lawn_cellsBy_C (k : Nat) : Cfg := ⟨tab, mvs, oraOf [impl_go1_e k, impl_Lawn_open_e k], loOf [(0, impl_Lawn_cellsBy_c0 k)]⟩
theorem impl_Lawn_cellsBy_es (k : Nat) : ∀ e ∈ ([impl_go1_e k, impl_Lawn_open_e k] : List Ent), EntOK Try.prog tab mvs e := by
  intro e he
  simp only [List.mem_cons, List.not_mem_nil, or_false] at he
  rcases he with rfl | rfl
  · exact impl_go1_ok k
  · exact impl_Lawn_open_ok k
theorem impl_Lawn_cellsBy_step0 (k : Nat) (R : Type) (K : Ex → St → Option R) (g : St → Option R) (p : ByteArray × Int × Int × (List Int) × (List Int) × (List Int)) : evCode (impl_Lawn_cellsBy_C k) (loopP [0] (0, codeOf Try.f125)).2 (loopP [0] (0, codeOf Try.f125)).1 (fSt impl_Lawn_cellsBy_t0 (enc_siilll p)) (loopK tab [2, 3, 4, 8, 13, 14] [3, 4, 8] [6, 7] g K) = impl_Lawn_cellsBy_w0 k R K (fun p => g (fSt impl_Lawn_cellsBy_t0 (enc_siilll p))) p := by
  kernel_rfl
theorem impl_Lawn_cellsBy_lok0 (k : Nat) : LoopOK Try.prog tab (impl_Lawn_cellsBy_C k).lo (loopP [0] (0, codeOf Try.f125)).1 (loopP [0] (0, codeOf Try.f125)).2 :=
  loopOK_of (C := impl_Lawn_cellsBy_C k) tabOK eqTabOK (oraOf_ok (impl_Lawn_cellsBy_es k)) (oraOf_nat (impl_Lawn_cellsBy_es k)) follows (forall_getD _ 0 (0, Code.skip) (by kernel_rfl) fun i hi => by
      omega)
    (tm := impl_Lawn_cellsBy_t0) (dec := dec_siilll) (enc := enc_siilll) (ksIn := [2, 3, 4, 8, 13, 14]) (ksOut := [3, 4, 8]) (ksRet := [6, 7]) (k := k) (step := impl_Lawn_cellsBy_w0 k) dec_enc_siilll (fun p => by kernel_rfl) (fun s R K => by kernel_rfl) (impl_Lawn_cellsBy_step0 k)
def impl_Lawn_cellsBy_e (k : Nat) : Ent := (125, callOf [.agg 33, .agg 28, .str] dec_lls fun (p : (List Int) × (List Int) × ByteArray) R K => (impl_Lawn_cellsBy k p.1 p.2.1 p.2.2).bind fun (b : (List Int) × Bool) => K ((fV (.tup [.slv 28, .bool]) (enc_lb b)).1, none))
theorem impl_Lawn_cellsBy_run (k : Nat) (p : (List Int) × (List Int) × ByteArray) : runF (impl_Lawn_cellsBy_C k) Try.f125 false (fL [.agg 33, .agg 28, .str] (enc_lls p)).1 (resK (.tup [.slv 28, .bool]) dec_lb) = impl_Lawn_cellsBy k p.1 p.2.1 p.2.2 := by
  kernel_rfl
theorem impl_Lawn_cellsBy_ok (k : Nat) : EntOK Try.prog tab mvs (impl_Lawn_cellsBy_e k) :=
  fn_ok (C := impl_Lawn_cellsBy_C k) tabOK eqTabOK (impl_Lawn_cellsBy_es k) rfl follows Try.func125 (by kernel_rfl) (by kernel_rfl) rfl (forall_getD _ 1 (0, Code.skip) (by kernel_rfl) fun i hi => by
      match i, hi with
      | 0, _ => exact impl_Lawn_cellsBy_lok0 k
      | n + 1, h => omega)
    dec_enc_lls dec_enc_lb (impl_Lawn_cellsBy_run k)

def impl_walked_C (k : Nat) : Cfg := ⟨tab, mvs, oraOf [impl_cellsCode_e k, impl_wayCode_e k, impl_Lawn_cellsBy_e k], loOf []⟩
theorem impl_walked_es (k : Nat) : ∀ e ∈ ([impl_cellsCode_e k, impl_wayCode_e k, impl_Lawn_cellsBy_e k] : List Ent), EntOK Try.prog tab mvs e := by
  intro e he
  simp only [List.mem_cons, List.not_mem_nil, or_false] at he
  rcases he with rfl | rfl | rfl
  · exact impl_cellsCode_ok k
  · exact impl_wayCode_ok k
  · exact impl_Lawn_cellsBy_ok k
def impl_walked_e (k : Nat) : Ent := (79, callOf [.agg 33, .agg 28, .str] dec_lls fun (p : (List Int) × (List Int) × ByteArray) R K => (impl_walked k p.1 p.2.1 p.2.2).bind fun (b : (List Int) × Int) => K ((fV (.tup [.slv 28, .int .i64]) (enc_li b)).1, none))
theorem impl_walked_run (k : Nat) (p : (List Int) × (List Int) × ByteArray) : runF (impl_walked_C k) Try.f79 false (fL [.agg 33, .agg 28, .str] (enc_lls p)).1 (resK (.tup [.slv 28, .int .i64]) dec_li) = impl_walked k p.1 p.2.1 p.2.2 := by
  kernel_rfl
theorem impl_walked_ok (k : Nat) : EntOK Try.prog tab mvs (impl_walked_e k) :=
  fn_ok (C := impl_walked_C k) tabOK eqTabOK (impl_walked_es k) rfl follows Try.func79 (by kernel_rfl) (by kernel_rfl) rfl (forall_getD _ 0 (0, Code.skip) (by kernel_rfl) fun i hi => by
      omega)
    dec_enc_lls dec_enc_li (impl_walked_run k)

def impl_CheckWay_C (k : Nat) : Cfg := ⟨tab, mvs, oraOf [impl_walked_e k], loOf []⟩
theorem impl_CheckWay_es (k : Nat) : ∀ e ∈ ([impl_walked_e k] : List Ent), EntOK Try.prog tab mvs e := by
  intro e he
  simp only [List.mem_cons, List.not_mem_nil, or_false] at he
  rcases he with rfl
  · exact impl_walked_ok k
def impl_CheckWay_e (k : Nat) : Ent := (34, callOf [.agg 33, .agg 28, .str] dec_lls fun (p : (List Int) × (List Int) × ByteArray) R K => (impl_CheckWay k p.1 p.2.1 p.2.2).bind fun (b : Bool × Int) => K ((fV (.tup [.bool, .int .i64]) (enc_bi b)).1, none))
theorem impl_CheckWay_run (k : Nat) (p : (List Int) × (List Int) × ByteArray) : runF (impl_CheckWay_C k) Try.f34 false (fL [.agg 33, .agg 28, .str] (enc_lls p)).1 (resK (.tup [.bool, .int .i64]) dec_bi) = impl_CheckWay k p.1 p.2.1 p.2.2 := by
  kernel_rfl
theorem impl_CheckWay_ok (k : Nat) : EntOK Try.prog tab mvs (impl_CheckWay_e k) :=
  fn_ok (C := impl_CheckWay_C k) tabOK eqTabOK (impl_CheckWay_es k) rfl follows Try.func34 (by kernel_rfl) (by kernel_rfl) rfl (forall_getD _ 0 (0, Code.skip) (by kernel_rfl) fun i hi => by
      omega)
    dec_enc_lls dec_enc_bi (impl_CheckWay_run k)

def laws_FnExactCheckWay_C (k : Nat) : Cfg := ⟨tab, mvs, oraOf [laws_toLawn_e k, laws_toCell_e k, spec_CheckWay_e k, impl_CheckWay_e k], loOf []⟩
theorem laws_FnExactCheckWay_es (k : Nat) : ∀ e ∈ ([laws_toLawn_e k, laws_toCell_e k, spec_CheckWay_e k, impl_CheckWay_e k] : List Ent), EntOK Try.prog tab mvs e := by
  intro e he
  simp only [List.mem_cons, List.not_mem_nil, or_false] at he
  rcases he with rfl | rfl | rfl | rfl
  · exact laws_toLawn_ok k
  · exact laws_toCell_ok k
  · exact spec_CheckWay_ok k
  · exact impl_CheckWay_ok k
def laws_FnExactCheckWay_e (k : Nat) : Ent := (8, callOf [.agg 26, .agg 52, .str] dec_lls fun (p : (List Int) × (List Int) × ByteArray) R K => (laws_FnExactCheckWay k p.1 p.2.1 p.2.2).bind fun (b : Bool) => K ((fV (.bool) (enc_b b)).1, none))
theorem laws_FnExactCheckWay_run (k : Nat) (p : (List Int) × (List Int) × ByteArray) : runF (laws_FnExactCheckWay_C k) Try.f8 false (fL [.agg 26, .agg 52, .str] (enc_lls p)).1 (resK (.bool) dec_b) = laws_FnExactCheckWay k p.1 p.2.1 p.2.2 := by
  kernel_rfl
theorem laws_FnExactCheckWay_ok (k : Nat) : EntOK Try.prog tab mvs (laws_FnExactCheckWay_e k) :=
  fn_ok (C := laws_FnExactCheckWay_C k) tabOK eqTabOK (laws_FnExactCheckWay_es k) rfl follows Try.func8 (by kernel_rfl) (by kernel_rfl) rfl (forall_getD _ 0 (0, Code.skip) (by kernel_rfl) fun i hi => by
      omega)
    dec_enc_lls dec_enc_b (laws_FnExactCheckWay_run k)

def dec_lill (ps : List Pay) : Option ((List Int) × Int × (List Int) × (List Int)) := match ps with
  | [.l x1, .i x2, .l x3, .l x4] => some (x1, x2, x3, x4)
  | _ => none
def enc_lill (p : (List Int) × Int × (List Int) × (List Int)) : List Pay := [.l p.1, .i p.2.1, .l p.2.2.1, .l p.2.2.2]
theorem dec_enc_lill : ∀ (ps : List Pay) (p : (List Int) × Int × (List Int) × (List Int)), dec_lill ps = some p → ps = enc_lill p := by
  intro ps p h
  unfold dec_lill at h
  split at h
  · injection h with h
    subst h
    rfl
  · cases h

def spec_l01Beside_t0 : StTm := ⟨54, [(0, .pvi (some 33) 0 33), (5, .slw 5 28), (6, .slw 6 28), (7, .int .i64)], [(5, 28, false, .ints), (6, 28, false, .ints)]⟩
def spec_l01Beside_t0_1 : StTm := ⟨54, [(6, .slw 6 28)], [(6, 28, false, .ints)]⟩
def spec_l01Beside_w0 (k : Nat) (R : Type) (K : Ex → St → Option R) (rec : (List Int) × Int × (List Int) × (List Int) → Option R) (p : (List Int) × Int × (List Int) × (List Int)) : Option R := spec_l01Beside_s0 k (fun y1 => K (.exit 0) (fSt spec_l01Beside_t0_1 [.l y1])) (fun h1 h2 h3 h4 => rec (h1, h2, h3, h4)) p.1 p.2.1 p.2.2.1 p.2.2.2
def spec_l01Beside_c0 (k : Nat) : Lcall := lcallOf tab spec_l01Beside_t0 dec_lill [0, 5, 6, 7] k (spec_l01Beside_w0 k)
def spec_l01Beside_C (k : Nat) : Cfg := ⟨tab, mvs, oraOf [spec_l01Is_e k], loOf [(0, spec_l01Beside_c0 k)]⟩
theorem spec_l01Beside_es (k : Nat) : ∀ e ∈ ([spec_l01Is_e k] : List Ent), EntOK Try.prog tab mvs e := by
  intro e he
  simp only [List.mem_cons, List.not_mem_nil, or_false] at he
  rcases he with rfl
  · exact spec_l01Is_ok k
theorem spec_l01Beside_step0 (k : Nat) (R : Type) (K : Ex → St → Option R) (g : St → Option R) (p : (List Int) × Int × (List Int) × (List Int)) : evCode (spec_l01Beside_C k) (loopP [0] (0, codeOf Try.f130)).2 (loopP [0] (0, codeOf Try.f130)).1 (fSt spec_l01Beside_t0 (enc_lill p)) (loopK tab [0, 5, 6, 7] [6] [4] g K) = spec_l01Beside_w0 k R K (fun p => g (fSt spec_l01Beside_t0 (enc_lill p))) p := by
  kernel_rfl
theorem spec_l01Beside_lok0 (k : Nat) : LoopOK Try.prog tab (spec_l01Beside_C k).lo (loopP [0] (0, codeOf Try.f130)).1 (loopP [0] (0, codeOf Try.f130)).2 :=
  loopOK_of (C := spec_l01Beside_C k) tabOK eqTabOK (oraOf_ok (spec_l01Beside_es k)) (oraOf_nat (spec_l01Beside_es k)) follows (forall_getD _ 0 (0, Code.skip) (by kernel_rfl) fun i hi => by
      omega)
    (tm := spec_l01Beside_t0) (dec := dec_lill) (enc := enc_lill) (ksIn := [0, 5, 6, 7]) (ksOut := [6]) (ksRet := [4]) (k := k) (step := spec_l01Beside_w0 k) dec_enc_lill (fun p => by kernel_rfl) (fun s R K => by kernel_rfl) (spec_l01Beside_step0 k)
def spec_l01Beside_e (k : Nat) : Ent := (130, callOf [.pvi (some 33) 0 33, .agg 28] dec_ll fun (p : (List Int) × (List Int)) R K => (spec_l01Beside k p.1 p.2).bind fun (b : (List Int)) => K ((fV (.slv 28) (enc_l b)).1, none))
theorem spec_l01Beside_run (k : Nat) (p : (List Int) × (List Int)) : runF (spec_l01Beside_C k) Try.f130 false (fL [.pvi (some 33) 0 33, .agg 28] (enc_ll p)).1 (resK (.slv 28) dec_l) = spec_l01Beside k p.1 p.2 := by
  kernel_rfl
theorem spec_l01Beside_ok (k : Nat) : EntOK Try.prog tab mvs (spec_l01Beside_e k) :=
  fn_ok (C := spec_l01Beside_C k) tabOK eqTabOK (spec_l01Beside_es k) rfl follows Try.func130 (by kernel_rfl) (by kernel_rfl) rfl (forall_getD _ 1 (0, Code.skip) (by kernel_rfl) fun i hi => by
      match i, hi with
      | 0, _ => exact spec_l01Beside_lok0 k
      | n + 1, h => omega)
    dec_enc_ll dec_enc_l (spec_l01Beside_run k)

def dec_lbiilll (ps : List Pay) : Option ((List Int) × Bool × Int × Int × (List Int) × (List Int) × (List Int)) := match ps with
  | [.l x1, .b x2, .i x3, .i x4, .l x5, .l x6, .l x7] => some (x1, x2, x3, x4, x5, x6, x7)
  | _ => none
def enc_lbiilll (p : (List Int) × Bool × Int × Int × (List Int) × (List Int) × (List Int)) : List Pay := [.l p.1, .b p.2.1, .i p.2.2.1, .i p.2.2.2.1, .l p.2.2.2.2.1, .l p.2.2.2.2.2.1, .l p.2.2.2.2.2.2]
theorem dec_enc_lbiilll : ∀ (ps : List Pay) (p : (List Int) × Bool × Int × Int × (List Int) × (List Int) × (List Int)), dec_lbiilll ps = some p → ps = enc_lbiilll p := by
  intro ps p h
  unfold dec_lbiilll at h
  split at h
  · injection h with h
    subst h
    rfl
  · cases h

def dec_lbiillll (ps : List Pay) : Option ((List Int) × Bool × Int × Int × (List Int) × (List Int) × (List Int) × (List Int)) := match ps with
  | [.l x1, .b x2, .i x3, .i x4, .l x5, .l x6, .l x7, .l x8] => some (x1, x2, x3, x4, x5, x6, x7, x8)
  | _ => none
def enc_lbiillll (p : (List Int) × Bool × Int × Int × (List Int) × (List Int) × (List Int) × (List Int)) : List Pay := [.l p.1, .b p.2.1, .i p.2.2.1, .i p.2.2.2.1, .l p.2.2.2.2.1, .l p.2.2.2.2.2.1, .l p.2.2.2.2.2.2.1, .l p.2.2.2.2.2.2.2]
theorem dec_enc_lbiillll : ∀ (ps : List Pay) (p : (List Int) × Bool × Int × Int × (List Int) × (List Int) × (List Int) × (List Int)), dec_lbiillll ps = some p → ps = enc_lbiillll p := by
  intro ps p h
  unfold dec_lbiillll at h
  split at h
  · injection h with h
    subst h
    rfl
  · cases h

def dec_llb (ps : List Pay) : Option ((List Int) × (List Int) × Bool) := match ps with
  | [.l x1, .l x2, .b x3] => some (x1, x2, x3)
  | _ => none
def enc_llb (p : (List Int) × (List Int) × Bool) : List Pay := [.l p.1, .l p.2.1, .b p.2.2]
theorem dec_enc_llb : ∀ (ps : List Pay) (p : (List Int) × (List Int) × Bool), dec_llb ps = some p → ps = enc_llb p := by
  intro ps p h
  unfold dec_llb at h
  split at h
  · injection h with h
    subst h
    rfl
  · cases h

def spec_l01Reach_t0 : StTm := ⟨122, [(0, .pvi (some 33) 0 33), (2, .bool), (4, .ptr 4 0 28), (6, .ptr 6 0 123), (7, .ptr 7 0 123), (8, .int .i64), (9, .int .i64)], [(4, 28, true, .ints), (6, 123, true, .ints), (7, 123, true, .ints)]⟩
def spec_l01Reach_t0_1 : StTm := ⟨122, [(0, .pvi (some 33) 0 33), (2, .bool), (4, .ptr 4 0 28), (6, .ptr 6 0 123), (7, .ptr 7 0 123), (8, .int .i64)], [(4, 28, true, .ints), (6, 123, true, .ints), (7, 123, true, .ints)]⟩
def spec_l01Reach_w0 (k : Nat) (R : Type) (K : Ex → St → Option R) (rec : (List Int) × Bool × Int × Int × (List Int) × (List Int) × (List Int) → Option R) (p : (List Int) × Bool × Int × Int × (List Int) × (List Int) × (List Int)) : Option R := spec_l01Reach_s0 k (fun y1 y2 y3 y4 y5 y6 => K (.exit 2) (fSt spec_l01Reach_t0_1 [.l y1, .b y2, .i y3, .l y4, .l y5, .l y6])) (fun h1 h2 h3 h4 h5 h6 h7 => rec (h1, h2, h3, h4, h5, h6, h7)) p.1 p.2.1 p.2.2.1 p.2.2.2.1 p.2.2.2.2.1 p.2.2.2.2.2.1 p.2.2.2.2.2.2
def spec_l01Reach_c0 (k : Nat) : Lcall := lcallOf tab spec_l01Reach_t0 dec_lbiilll [0, 2, 4, 6, 7, 8, 9] k (spec_l01Reach_w0 k)
def spec_l01Reach_t1 : StTm := ⟨122, [(0, .pvi (some 33) 0 33), (2, .bool), (4, .ptr 4 0 28), (6, .ptr 6 0 123), (7, .ptr 7 0 123), (8, .int .i64)], [(4, 28, true, .ints), (6, 123, true, .ints), (7, 123, true, .ints)]⟩
def spec_l01Reach_t1_1 : StTm := ⟨122, [(0, .pvi (some 33) 0 33), (2, .bool), (4, .ptr 4 0 28), (6, .ptr 6 0 123), (7, .ptr 7 0 123)], [(4, 28, true, .ints), (6, 123, true, .ints), (7, 123, true, .ints)]⟩
def spec_l01Reach_w1 (k : Nat) (R : Type) (K : Ex → St → Option R) (rec : (List Int) × Bool × Int × (List Int) × (List Int) × (List Int) → Option R) (p : (List Int) × Bool × Int × (List Int) × (List Int) × (List Int)) : Option R := spec_l01Reach_s1 k (fun y1 y2 y3 y4 y5 => K (.exit 0) (fSt spec_l01Reach_t1_1 [.l y1, .b y2, .l y3, .l y4, .l y5])) (fun h1 h2 h3 h4 h5 h6 => rec (h1, h2, h3, h4, h5, h6)) p.1 p.2.1 p.2.2.1 p.2.2.2.1 p.2.2.2.2.1 p.2.2.2.2.2
def spec_l01Reach_c1 (k : Nat) : Lcall := lcallOf tab spec_l01Reach_t1 dec_lbilll [0, 2, 4, 6, 7, 8] k (spec_l01Reach_w1 k)
def spec_l01Reach_t2 : StTm := ⟨122, [(0, .pvi (some 33) 0 33), (2, .bool), (6, .ptr 6 0 123), (7, .ptr 7 0 123), (10, .slw 10 28), (11, .int .i64), (12, .slw 12 28), (13, .int .i64)], [(6, 123, true, .ints), (7, 123, true, .ints), (10, 28, false, .ints), (12, 28, false, .ints)]⟩
def spec_l01Reach_t2_1 : StTm := ⟨122, [(0, .pvi (some 33) 0 33), (2, .bool), (6, .ptr 6 0 123), (7, .ptr 7 0 123), (10, .slw 10 28), (11, .int .i64)], [(6, 123, true, .ints), (7, 123, true, .ints), (10, 28, false, .ints)]⟩
def spec_l01Reach_w2 (k : Nat) (R : Type) (K : Ex → St → Option R) (rec : (List Int) × Bool × Int × Int × (List Int) × (List Int) × (List Int) × (List Int) → Option R) (p : (List Int) × Bool × Int × Int × (List Int) × (List Int) × (List Int) × (List Int)) : Option R := spec_l01Reach_s2 k (fun y1 y2 y3 y4 y5 y6 => K (.exit 6) (fSt spec_l01Reach_t2_1 [.l y1, .b y2, .i y3, .l y4, .l y5, .l y6])) (fun h1 h2 h3 h4 h5 h6 h7 h8 => rec (h1, h2, h3, h4, h5, h6, h7, h8)) p.1 p.2.1 p.2.2.1 p.2.2.2.1 p.2.2.2.2.1 p.2.2.2.2.2.1 p.2.2.2.2.2.2.1 p.2.2.2.2.2.2.2
def spec_l01Reach_c2 (k : Nat) : Lcall := lcallOf tab spec_l01Reach_t2 dec_lbiillll [0, 2, 6, 7, 10, 11, 12, 13] k (spec_l01Reach_w2 k)
def spec_l01Reach_t3 : StTm := ⟨122, [(0, .pvi (some 33) 0 33), (2, .bool), (6, .ptr 6 0 123), (7, .ptr 7 0 123), (10, .slw 10 28), (11, .int .i64)], [(6, 123, true, .ints), (7, 123, true, .ints), (10, 28, false, .ints)]⟩
def spec_l01Reach_t3_1 : StTm := ⟨122, [(6, .ptr 6 0 123), (7, .ptr 7 0 123)], [(6, 123, true, .ints), (7, 123, true, .ints)]⟩
def spec_l01Reach_w3 (k : Nat) (R : Type) (K : Ex → St → Option R) (rec : (List Int) × Bool × Int × (List Int) × (List Int) × (List Int) → Option R) (p : (List Int) × Bool × Int × (List Int) × (List Int) × (List Int)) : Option R := spec_l01Reach_s3 k (fun y1 y2 => K (.exit 4) (fSt spec_l01Reach_t3_1 [.l y1, .l y2])) (fun h1 h2 h3 h4 h5 h6 => rec (h1, h2, h3, h4, h5, h6)) p.1 p.2.1 p.2.2.1 p.2.2.2.1 p.2.2.2.2.1 p.2.2.2.2.2
def spec_l01Reach_c3 (k : Nat) : Lcall := lcallOf tab spec_l01Reach_t3 dec_lbilll [0, 2, 6, 7, 10, 11] k (spec_l01Reach_w3 k)
def spec_l01Reach_C (k : Nat) : Cfg := ⟨tab, mvs, oraOf [spec_l01Beside_e k, spec_l01Open_e k, spec_l01At_e k], loOf [(2, spec_l01Reach_c0 k), (0, spec_l01Reach_c1 k), (6, spec_l01Reach_c2 k), (4, spec_l01Reach_c3 k)]⟩
theorem spec_l01Reach_es (k : Nat) : ∀ e ∈ ([spec_l01Beside_e k, spec_l01Open_e k, spec_l01At_e k] : List Ent), EntOK Try.prog tab mvs e := by
  intro e he
  simp only [List.mem_cons, List.not_mem_nil, or_false] at he
  rcases he with rfl | rfl | rfl
  · exact spec_l01Beside_ok k
  · exact spec_l01Open_ok k
  · exact spec_l01At_ok k
theorem spec_l01Reach_step0 (k : Nat) (R : Type) (K : Ex → St → Option R) (g : St → Option R) (p : (List Int) × Bool × Int × Int × (List Int) × (List Int) × (List Int)) : evCode (spec_l01Reach_C k) (loopP [0, 0] (0, codeOf Try.f91)).2 (loopP [0, 0] (0, codeOf Try.f91)).1 (fSt spec_l01Reach_t0 (enc_lbiilll p)) (loopK tab [0, 2, 4, 6, 7, 8, 9] [0, 2, 4, 6, 7, 8] [6] g K) = spec_l01Reach_w0 k R K (fun p => g (fSt spec_l01Reach_t0 (enc_lbiilll p))) p := by
  kernel_rfl
theorem spec_l01Reach_lok0 (k : Nat) : LoopOK Try.prog tab (spec_l01Reach_C k).lo (loopP [0, 0] (0, codeOf Try.f91)).1 (loopP [0, 0] (0, codeOf Try.f91)).2 :=
  loopOK_of (C := spec_l01Reach_C k) tabOK eqTabOK (oraOf_ok (spec_l01Reach_es k)) (oraOf_nat (spec_l01Reach_es k)) follows (forall_getD _ 0 (0, Code.skip) (by kernel_rfl) fun i hi => by
      omega)
    (tm := spec_l01Reach_t0) (dec := dec_lbiilll) (enc := enc_lbiilll) (ksIn := [0, 2, 4, 6, 7, 8, 9]) (ksOut := [0, 2, 4, 6, 7, 8]) (ksRet := [6]) (k := k) (step := spec_l01Reach_w0 k) dec_enc_lbiilll (fun p => by kernel_rfl) (fun s R K => by kernel_rfl) (spec_l01Reach_step0 k)
theorem spec_l01Reach_step1 (k : Nat) (R : Type) (K : Ex → St → Option R) (g : St → Option R) (p : (List Int) × Bool × Int × (List Int) × (List Int) × (List Int)) : evCode (spec_l01Reach_C k) (loopP [0] (0, codeOf Try.f91)).2 (loopP [0] (0, codeOf Try.f91)).1 (fSt spec_l01Reach_t1 (enc_lbilll p)) (loopK tab [0, 2, 4, 6, 7, 8] [0, 2, 4, 6, 7] [6] g K) = spec_l01Reach_w1 k R K (fun p => g (fSt spec_l01Reach_t1 (enc_lbilll p))) p := by
  kernel_rfl
theorem spec_l01Reach_lok1 (k : Nat) : LoopOK Try.prog tab (spec_l01Reach_C k).lo (loopP [0] (0, codeOf Try.f91)).1 (loopP [0] (0, codeOf Try.f91)).2 :=
  loopOK_of (C := spec_l01Reach_C k) tabOK eqTabOK (oraOf_ok (spec_l01Reach_es k)) (oraOf_nat (spec_l01Reach_es k)) follows (forall_getD _ 1 (0, Code.skip) (by kernel_rfl) fun i hi => by
      match i, hi with
      | 0, _ => exact spec_l01Reach_lok0 k
      | n + 1, h => omega)
    (tm := spec_l01Reach_t1) (dec := dec_lbilll) (enc := enc_lbilll) (ksIn := [0, 2, 4, 6, 7, 8]) (ksOut := [0, 2, 4, 6, 7]) (ksRet := [6]) (k := k) (step := spec_l01Reach_w1 k) dec_enc_lbilll (fun p => by kernel_rfl) (fun s R K => by kernel_rfl) (spec_l01Reach_step1 k)
theorem spec_l01Reach_step2 (k : Nat) (R : Type) (K : Ex → St → Option R) (g : St → Option R) (p : (List Int) × Bool × Int × Int × (List Int) × (List Int) × (List Int) × (List Int)) : evCode (spec_l01Reach_C k) (loopP [1, 0] (0, codeOf Try.f91)).2 (loopP [1, 0] (0, codeOf Try.f91)).1 (fSt spec_l01Reach_t2 (enc_lbiillll p)) (loopK tab [0, 2, 6, 7, 10, 11, 12, 13] [0, 2, 6, 7, 10, 11] [6] g K) = spec_l01Reach_w2 k R K (fun p => g (fSt spec_l01Reach_t2 (enc_lbiillll p))) p := by
  kernel_rfl
theorem spec_l01Reach_lok2 (k : Nat) : LoopOK Try.prog tab (spec_l01Reach_C k).lo (loopP [1, 0] (0, codeOf Try.f91)).1 (loopP [1, 0] (0, codeOf Try.f91)).2 :=
  loopOK_of (C := spec_l01Reach_C k) tabOK eqTabOK (oraOf_ok (spec_l01Reach_es k)) (oraOf_nat (spec_l01Reach_es k)) follows (forall_getD _ 0 (0, Code.skip) (by kernel_rfl) fun i hi => by
      omega)
    (tm := spec_l01Reach_t2) (dec := dec_lbiillll) (enc := enc_lbiillll) (ksIn := [0, 2, 6, 7, 10, 11, 12, 13]) (ksOut := [0, 2, 6, 7, 10, 11]) (ksRet := [6]) (k := k) (step := spec_l01Reach_w2 k) dec_enc_lbiillll (fun p => by kernel_rfl) (fun s R K => by kernel_rfl) (spec_l01Reach_step2 k)
theorem spec_l01Reach_step3 (k : Nat) (R : Type) (K : Ex → St → Option R) (g : St → Option R) (p : (List Int) × Bool × Int × (List Int) × (List Int) × (List Int)) : evCode (spec_l01Reach_C k) (loopP [1] (0, codeOf Try.f91)).2 (loopP [1] (0, codeOf Try.f91)).1 (fSt spec_l01Reach_t3 (enc_lbilll p)) (loopK tab [0, 2, 6, 7, 10, 11] [6, 7] [6] g K) = spec_l01Reach_w3 k R K (fun p => g (fSt spec_l01Reach_t3 (enc_lbilll p))) p := by
  kernel_rfl
theorem spec_l01Reach_lok3 (k : Nat) : LoopOK Try.prog tab (spec_l01Reach_C k).lo (loopP [1] (0, codeOf Try.f91)).1 (loopP [1] (0, codeOf Try.f91)).2 :=
  loopOK_of (C := spec_l01Reach_C k) tabOK eqTabOK (oraOf_ok (spec_l01Reach_es k)) (oraOf_nat (spec_l01Reach_es k)) follows (forall_getD _ 1 (0, Code.skip) (by kernel_rfl) fun i hi => by
      match i, hi with
      | 0, _ => exact spec_l01Reach_lok2 k
      | n + 1, h => omega)
    (tm := spec_l01Reach_t3) (dec := dec_lbilll) (enc := enc_lbilll) (ksIn := [0, 2, 6, 7, 10, 11]) (ksOut := [6, 7]) (ksRet := [6]) (k := k) (step := spec_l01Reach_w3 k) dec_enc_lbilll (fun p => by kernel_rfl) (fun s R K => by kernel_rfl) (spec_l01Reach_step3 k)
def spec_l01Reach_e (k : Nat) : Ent := (91, callOf [.pvi (some 33) 0 33, .agg 28, .bool] dec_llb fun (p : (List Int) × (List Int) × Bool) R K => (spec_l01Reach k p.1 p.2.1 p.2.2).bind fun (b : (List Int)) => K ((fV (.agg 123) (enc_l b)).1, none))
theorem spec_l01Reach_run (k : Nat) (p : (List Int) × (List Int) × Bool) : runF (spec_l01Reach_C k) Try.f91 false (fL [.pvi (some 33) 0 33, .agg 28, .bool] (enc_llb p)).1 (resK (.agg 123) dec_l) = spec_l01Reach k p.1 p.2.1 p.2.2 := by
  kernel_rfl
theorem spec_l01Reach_ok (k : Nat) : EntOK Try.prog tab mvs (spec_l01Reach_e k) :=
  fn_ok (C := spec_l01Reach_C k) tabOK eqTabOK (spec_l01Reach_es k) rfl follows Try.func91 (by kernel_rfl) (by kernel_rfl) rfl (forall_getD _ 2 (0, Code.skip) (by kernel_rfl) fun i hi => by
      match i, hi with
      | 0, _ => exact spec_l01Reach_lok1 k
      | 1, _ => exact spec_l01Reach_lok3 k
      | n + 2, h => omega)
    dec_enc_llb dec_enc_l (spec_l01Reach_run k)

def spec_StepsTo_C (k : Nat) : Cfg := ⟨tab, mvs, oraOf [spec_l01Is_e k, spec_l01Told_e k, spec_l01Open_e k, spec_l01Reach_e k], loOf []⟩
theorem spec_StepsTo_es (k : Nat) : ∀ e ∈ ([spec_l01Is_e k, spec_l01Told_e k, spec_l01Open_e k, spec_l01Reach_e k] : List Ent), EntOK Try.prog tab mvs e := by
  intro e he
  simp only [List.mem_cons, List.not_mem_nil, or_false] at he
  rcases he with rfl | rfl | rfl | rfl
  · exact spec_l01Is_ok k
  · exact spec_l01Told_ok k
  · exact spec_l01Open_ok k
  · exact spec_l01Reach_ok k
def spec_StepsTo_e (k : Nat) : Ent := (48, callOf [.agg 33, .agg 28, .agg 28] dec_lll fun (p : (List Int) × (List Int) × (List Int)) R K => (spec_StepsTo k p.1 p.2.1 p.2.2).bind fun (b : Int × Int) => K ((fV (.tup [.int .i64, .int .i64]) (enc_ii b)).1, none))
theorem spec_StepsTo_run (k : Nat) (p : (List Int) × (List Int) × (List Int)) : runF (spec_StepsTo_C k) Try.f48 false (fL [.agg 33, .agg 28, .agg 28] (enc_lll p)).1 (resK (.tup [.int .i64, .int .i64]) dec_ii) = spec_StepsTo k p.1 p.2.1 p.2.2 := by
  kernel_rfl
theorem spec_StepsTo_ok (k : Nat) : EntOK Try.prog tab mvs (spec_StepsTo_e k) :=
  fn_ok (C := spec_StepsTo_C k) tabOK eqTabOK (spec_StepsTo_es k) rfl follows Try.func48 (by kernel_rfl) (by kernel_rfl) rfl (forall_getD _ 0 (0, Code.skip) (by kernel_rfl) fun i hi => by
      omega)
    dec_enc_lll dec_enc_ii (spec_StepsTo_run k)

def impl_openCode_1_C (k : Nat) : Cfg := ⟨tab, mvs, oraOf [impl_Lawn_open_e k], loOf []⟩
theorem impl_openCode_1_es (k : Nat) : ∀ e ∈ ([impl_Lawn_open_e k] : List Ent), EntOK Try.prog tab mvs e := by
  intro e he
  simp only [List.mem_cons, List.not_mem_nil, or_false] at he
  rcases he with rfl
  · exact impl_Lawn_open_ok k
def impl_openCode_1_e (k : Nat) : Ent := (131, callOf [.agg 28, .pvi (some 33) 0 33] dec_ll fun (p : (List Int) × (List Int)) R K => (impl_openCode_1 k p.1 p.2).bind fun (b : Bool) => K ((fV (.bool) (enc_b b)).1, none))
theorem impl_openCode_1_run (k : Nat) (p : (List Int) × (List Int)) : runF (impl_openCode_1_C k) Try.f131 false (fL [.agg 28, .pvi (some 33) 0 33] (enc_ll p)).1 (resK (.bool) dec_b) = impl_openCode_1 k p.1 p.2 := by
  kernel_rfl
theorem impl_openCode_1_ok (k : Nat) : EntOK Try.prog tab mvs (impl_openCode_1_e k) :=
  fn_ok (C := impl_openCode_1_C k) tabOK eqTabOK (impl_openCode_1_es k) rfl follows Try.func131 (by kernel_rfl) (by kernel_rfl) rfl (forall_getD _ 0 (0, Code.skip) (by kernel_rfl) fun i hi => by
      omega)
    dec_enc_ll dec_enc_b (impl_openCode_1_run k)

def impl_openCode_C (k : Nat) : Cfg := ⟨tab, mvs, oraOf [impl_cellsCode_e k, impl_openCode_1_e k, slices_ContainsFunc_impl_Cell_e k], loOf []⟩
theorem impl_openCode_es (k : Nat) : ∀ e ∈ ([impl_cellsCode_e k, impl_openCode_1_e k, slices_ContainsFunc_impl_Cell_e k] : List Ent), EntOK Try.prog tab mvs e := by
  intro e he
  simp only [List.mem_cons, List.not_mem_nil, or_false] at he
  rcases he with rfl | rfl | rfl
  · exact impl_cellsCode_ok k
  · exact impl_openCode_1_ok k
  · exact slices_ContainsFunc_impl_Cell_ok k
def impl_openCode_e (k : Nat) : Ent := (92, callOf [.agg 33, .slv 28] dec_ll fun (p : (List Int) × (List Int)) R K => (impl_openCode k p.1 p.2).bind fun (b : Int) => K ((fV (.int .i64) (enc_i b)).1, none))
theorem impl_openCode_run (k : Nat) (p : (List Int) × (List Int)) : runF (impl_openCode_C k) Try.f92 false (fL [.agg 33, .slv 28] (enc_ll p)).1 (resK (.int .i64) dec_i) = impl_openCode k p.1 p.2 := by
  kernel_rfl
theorem impl_openCode_ok (k : Nat) : EntOK Try.prog tab mvs (impl_openCode_e k) :=
  fn_ok (C := impl_openCode_C k) tabOK eqTabOK (impl_openCode_es k) rfl follows Try.func92 (by kernel_rfl) (by kernel_rfl) rfl (forall_getD _ 0 (0, Code.skip) (by kernel_rfl) fun i hi => by
      omega)
    dec_enc_ll dec_enc_i (impl_openCode_run k)

def math_bits_Mul64_C (k : Nat) : Cfg := ⟨tab, mvs, oraOf [], loOf []⟩
theorem math_bits_Mul64_es (k : Nat) : ∀ e ∈ ([] : List Ent), EntOK Try.prog tab mvs e := by
  intro e he
  simp at he
def math_bits_Mul64_e (k : Nat) : Ent := (140, callOf [.int .u64, .int .u64] dec_ii fun (p : Int × Int) R K => (math_bits_Mul64 k p.1 p.2).bind fun (b : Int × Int) => K ((fV (.tup [.int .u64, .int .u64]) (enc_ii b)).1, none))
theorem math_bits_Mul64_run (k : Nat) (p : Int × Int) : runF (math_bits_Mul64_C k) Try.f140 false (fL [.int .u64, .int .u64] (enc_ii p)).1 (resK (.tup [.int .u64, .int .u64]) dec_ii) = math_bits_Mul64 k p.1 p.2 := by
  kernel_rfl
theorem math_bits_Mul64_ok (k : Nat) : EntOK Try.prog tab mvs (math_bits_Mul64_e k) :=
  fn_ok (C := math_bits_Mul64_C k) tabOK eqTabOK (math_bits_Mul64_es k) rfl follows Try.func140 (by kernel_rfl) (by kernel_rfl) rfl (forall_getD _ 0 (0, Code.skip) (by kernel_rfl) fun i hi => by
      omega)
    dec_enc_ii dec_enc_ii (math_bits_Mul64_run k)

def math_bits_Mul_C (k : Nat) : Cfg := ⟨tab, mvs, oraOf [math_bits_Mul64_e k], loOf []⟩
theorem math_bits_Mul_es (k : Nat) : ∀ e ∈ ([math_bits_Mul64_e k] : List Ent), EntOK Try.prog tab mvs e := by
  intro e he
  simp only [List.mem_cons, List.not_mem_nil, or_false] at he
  rcases he with rfl
  · exact math_bits_Mul64_ok k
def math_bits_Mul_e (k : Nat) : Ent := (137, callOf [.int .u64, .int .u64] dec_ii fun (p : Int × Int) R K => (math_bits_Mul k p.1 p.2).bind fun (b : Int × Int) => K ((fV (.tup [.int .u64, .int .u64]) (enc_ii b)).1, none))
theorem math_bits_Mul_run (k : Nat) (p : Int × Int) : runF (math_bits_Mul_C k) Try.f137 false (fL [.int .u64, .int .u64] (enc_ii p)).1 (resK (.tup [.int .u64, .int .u64]) dec_ii) = math_bits_Mul k p.1 p.2 := by
  kernel_rfl
theorem math_bits_Mul_ok (k : Nat) : EntOK Try.prog tab mvs (math_bits_Mul_e k) :=
  fn_ok (C := math_bits_Mul_C k) tabOK eqTabOK (math_bits_Mul_es k) rfl follows Try.func137 (by kernel_rfl) (by kernel_rfl) rfl (forall_getD _ 0 (0, Code.skip) (by kernel_rfl) fun i hi => by
      omega)
    dec_enc_ii dec_enc_ii (math_bits_Mul_run k)

def slices_Repeat_int64_t0 : StTm := ⟨48, [(7, .slw 7 2), (8, .int .i64)], [(7, 2, false, .ints)]⟩
def slices_Repeat_int64_t0_1 : StTm := ⟨48, [(7, .slw 7 2)], [(7, 2, false, .ints)]⟩
def slices_Repeat_int64_w0 (k : Nat) (R : Type) (K : Ex → St → Option R) (rec : Int × (List Int) → Option R) (p : Int × (List Int)) : Option R := slices_Repeat_int64_s0 k (fun y1 => K (.exit 0) (fSt slices_Repeat_int64_t0_1 [.l y1])) (fun h1 h2 => rec (h1, h2)) p.1 p.2
def slices_Repeat_int64_c0 (k : Nat) : Lcall := lcallOf tab slices_Repeat_int64_t0 dec_il [7, 8] k (slices_Repeat_int64_w0 k)
def slices_Repeat_int64_C (k : Nat) : Cfg := ⟨tab, mvs, oraOf [math_bits_Mul_e k], loOf [(0, slices_Repeat_int64_c0 k)]⟩
theorem slices_Repeat_int64_es (k : Nat) : ∀ e ∈ ([math_bits_Mul_e k] : List Ent), EntOK Try.prog tab mvs e := by
  intro e he
  simp only [List.mem_cons, List.not_mem_nil, or_false] at he
  rcases he with rfl
  · exact math_bits_Mul_ok k
theorem slices_Repeat_int64_step0 (k : Nat) (R : Type) (K : Ex → St → Option R) (g : St → Option R) (p : Int × (List Int)) : evCode (slices_Repeat_int64_C k) (loopP [0] (0, codeOf Try.f132)).2 (loopP [0] (0, codeOf Try.f132)).1 (fSt slices_Repeat_int64_t0 (enc_il p)) (loopK tab [7, 8] [7] [4] g K) = slices_Repeat_int64_w0 k R K (fun p => g (fSt slices_Repeat_int64_t0 (enc_il p))) p := by
  kernel_rfl
theorem slices_Repeat_int64_lok0 (k : Nat) : LoopOK Try.prog tab (slices_Repeat_int64_C k).lo (loopP [0] (0, codeOf Try.f132)).1 (loopP [0] (0, codeOf Try.f132)).2 :=
  loopOK_of (C := slices_Repeat_int64_C k) tabOK eqTabOK (oraOf_ok (slices_Repeat_int64_es k)) (oraOf_nat (slices_Repeat_int64_es k)) follows (forall_getD _ 0 (0, Code.skip) (by kernel_rfl) fun i hi => by
      omega)
    (tm := slices_Repeat_int64_t0) (dec := dec_il) (enc := enc_il) (ksIn := [7, 8]) (ksOut := [7]) (ksRet := [4]) (k := k) (step := slices_Repeat_int64_w0 k) dec_enc_il (fun p => by kernel_rfl) (fun s R K => by kernel_rfl) (slices_Repeat_int64_step0 k)
def slices_Repeat_int64_e (k : Nat) : Ent := (132, callOf [.slv 2, .int .i64] dec_li fun (p : (List Int) × Int) R K => (slices_Repeat_int64 k p.1 p.2).bind fun (b : (List Int)) => K ((fV (.slv 2) (enc_l b)).1, none))
theorem slices_Repeat_int64_run (k : Nat) (p : (List Int) × Int) : runF (slices_Repeat_int64_C k) Try.f132 false (fL [.slv 2, .int .i64] (enc_li p)).1 (resK (.slv 2) dec_l) = slices_Repeat_int64 k p.1 p.2 := by
  kernel_rfl
theorem slices_Repeat_int64_ok (k : Nat) : EntOK Try.prog tab mvs (slices_Repeat_int64_e k) :=
  fn_ok (C := slices_Repeat_int64_C k) tabOK eqTabOK (slices_Repeat_int64_es k) rfl follows Try.func132 (by kernel_rfl) (by kernel_rfl) rfl (forall_getD _ 1 (0, Code.skip) (by kernel_rfl) fun i hi => by
      match i, hi with
      | 0, _ => exact slices_Repeat_int64_lok0 k
      | n + 1, h => omega)
    dec_enc_li dec_enc_l (slices_Repeat_int64_run k)

def impl_Lawn_index_C (k : Nat) : Cfg := ⟨tab, mvs, oraOf [], loOf []⟩
theorem impl_Lawn_index_es (k : Nat) : ∀ e ∈ ([] : List Ent), EntOK Try.prog tab mvs e := by
  intro e he
  simp at he
def impl_Lawn_index_e (k : Nat) : Ent := (95, callOf [.agg 33, .agg 28] dec_ll fun (p : (List Int) × (List Int)) R K => (impl_Lawn_index k p.1 p.2).bind fun (b : Int) => K ((fV (.int .i64) (enc_i b)).1, none))
theorem impl_Lawn_index_run (k : Nat) (p : (List Int) × (List Int)) : runF (impl_Lawn_index_C k) Try.f95 false (fL [.agg 33, .agg 28] (enc_ll p)).1 (resK (.int .i64) dec_i) = impl_Lawn_index k p.1 p.2 := by
  kernel_rfl
theorem impl_Lawn_index_ok (k : Nat) : EntOK Try.prog tab mvs (impl_Lawn_index_e k) :=
  fn_ok (C := impl_Lawn_index_C k) tabOK eqTabOK (impl_Lawn_index_es k) rfl follows Try.func95 (by kernel_rfl) (by kernel_rfl) rfl (forall_getD _ 0 (0, Code.skip) (by kernel_rfl) fun i hi => by
      omega)
    dec_enc_ll dec_enc_i (impl_Lawn_index_run k)

def dec_giillll (ps : List Pay) : Option ((List Int → Option Bool) × Int × Int × (List Int) × (List Int) × (List Int) × (List Int)) := match ps with
  | [.g x1, .i x2, .i x3, .l x4, .l x5, .l x6, .l x7] => some (x1, x2, x3, x4, x5, x6, x7)
  | _ => none
def enc_giillll (p : (List Int → Option Bool) × Int × Int × (List Int) × (List Int) × (List Int) × (List Int)) : List Pay := [.g p.1, .i p.2.1, .i p.2.2.1, .l p.2.2.2.1, .l p.2.2.2.2.1, .l p.2.2.2.2.2.1, .l p.2.2.2.2.2.2]
theorem dec_enc_giillll : ∀ (ps : List Pay) (p : (List Int → Option Bool) × Int × Int × (List Int) × (List Int) × (List Int) × (List Int)), dec_giillll ps = some p → ps = enc_giillll p := by
  intro ps p h
  unfold dec_giillll at h
  split at h
  · injection h with h
    subst h
    rfl
  · cases h

def dec_glll (ps : List Pay) : Option ((List Int → Option Bool) × (List Int) × (List Int) × (List Int)) := match ps with
  | [.g x1, .l x2, .l x3, .l x4] => some (x1, x2, x3, x4)
  | _ => none
def enc_glll (p : (List Int → Option Bool) × (List Int) × (List Int) × (List Int)) : List Pay := [.g p.1, .l p.2.1, .l p.2.2.1, .l p.2.2.2]
theorem dec_enc_glll : ∀ (ps : List Pay) (p : (List Int → Option Bool) × (List Int) × (List Int) × (List Int)), dec_glll ps = some p → ps = enc_glll p := by
  intro ps p h
  unfold dec_glll at h
  split at h
  · injection h with h
    subst h
    rfl
  · cases h

def dec_llg (ps : List Pay) : Option ((List Int) × (List Int) × (List Int → Option Bool)) := match ps with
  | [.l x1, .l x2, .g x3] => some (x1, x2, x3)
  | _ => none
def enc_llg (p : (List Int) × (List Int) × (List Int → Option Bool)) : List Pay := [.l p.1, .l p.2.1, .g p.2.2]
theorem dec_enc_llg : ∀ (ps : List Pay) (p : (List Int) × (List Int) × (List Int → Option Bool)), dec_llg ps = some p → ps = enc_llg p := by
  intro ps p h
  unfold dec_llg at h
  split at h
  · injection h with h
    subst h
    rfl
  · cases h

def impl_Lawn_steps_t0 : StTm := ⟨78, [(2, .cloB 28), (3, .ptr 3 0 33), (7, .slw 7 2), (8, .slw 8 28), (35, .slw 35 28), (36, .int .i64), (37, .int .i64)], [(3, 33, true, .ints), (7, 2, false, .ints), (8, 28, false, .ints), (35, 28, false, .ints)]⟩
def impl_Lawn_steps_t0_1 : StTm := ⟨78, [(2, .cloB 28), (3, .ptr 3 0 33), (7, .slw 7 2), (8, .slw 8 28)], [(3, 33, true, .ints), (7, 2, false, .ints), (8, 28, false, .ints)]⟩
def impl_Lawn_steps_w0 (k : Nat) (R : Type) (K : Ex → St → Option R) (rec : (List Int → Option Bool) × Int × Int × (List Int) × (List Int) × (List Int) × (List Int) → Option R) (p : (List Int → Option Bool) × Int × Int × (List Int) × (List Int) × (List Int) × (List Int)) : Option R := impl_Lawn_steps_s0 k (fun y1 y2 y3 y4 => K (.exit 2) (fSt impl_Lawn_steps_t0_1 [.g y1, .l y2, .l y3, .l y4])) (fun h1 h2 h3 h4 h5 h6 h7 => rec (h1, h2, h3, h4, h5, h6, h7)) p.1 p.2.1 p.2.2.1 p.2.2.2.1 p.2.2.2.2.1 p.2.2.2.2.2.1 p.2.2.2.2.2.2
def impl_Lawn_steps_c0 (k : Nat) : Lcall := lcallOf tab impl_Lawn_steps_t0 dec_giillll [2, 3, 7, 8, 35, 36, 37] k (impl_Lawn_steps_w0 k)
def impl_Lawn_steps_t1 : StTm := ⟨78, [(2, .cloB 28), (3, .ptr 3 0 33), (7, .slw 7 2), (8, .slw 8 28)], [(3, 33, true, .ints), (7, 2, false, .ints), (8, 28, false, .ints)]⟩
def impl_Lawn_steps_t1_1 : StTm := ⟨78, [(7, .slw 7 2)], [(7, 2, false, .ints)]⟩
def impl_Lawn_steps_w1 (k : Nat) (R : Type) (K : Ex → St → Option R) (rec : (List Int → Option Bool) × (List Int) × (List Int) × (List Int) → Option R) (p : (List Int → Option Bool) × (List Int) × (List Int) × (List Int)) : Option R := impl_Lawn_steps_s1 k (fun y1 => K (.exit 0) (fSt impl_Lawn_steps_t1_1 [.l y1])) (fun h1 h2 h3 h4 => rec (h1, h2, h3, h4)) p.1 p.2.1 p.2.2.1 p.2.2.2
def impl_Lawn_steps_c1 (k : Nat) : Lcall := lcallOf tab impl_Lawn_steps_t1 dec_glll [2, 3, 7, 8] k (impl_Lawn_steps_w1 k)
def impl_Lawn_steps_C (k : Nat) : Cfg := ⟨tab, mvs, oraOf [slices_Repeat_int64_e k, impl_Lawn_index_e k, impl_beside_e k, impl_Lawn_has_e k], loOf [(2, impl_Lawn_steps_c0 k), (0, impl_Lawn_steps_c1 k)]⟩
theorem impl_Lawn_steps_es (k : Nat) : ∀ e ∈ ([slices_Repeat_int64_e k, impl_Lawn_index_e k, impl_beside_e k, impl_Lawn_has_e k] : List Ent), EntOK Try.prog tab mvs e := by
  intro e he
  simp only [List.mem_cons, List.not_mem_nil, or_false] at he
  rcases he with rfl | rfl | rfl | rfl
  · exact slices_Repeat_int64_ok k
  · exact impl_Lawn_index_ok k
  · exact impl_beside_ok k
  · exact impl_Lawn_has_ok k
theorem impl_Lawn_steps_step0 (k : Nat) (R : Type) (K : Ex → St → Option R) (g : St → Option R) (p : (List Int → Option Bool) × Int × Int × (List Int) × (List Int) × (List Int) × (List Int)) : evCode (impl_Lawn_steps_C k) (loopP [0, 0] (0, codeOf Try.f93)).2 (loopP [0, 0] (0, codeOf Try.f93)).1 (fSt impl_Lawn_steps_t0 (enc_giillll p)) (loopK tab [2, 3, 7, 8, 35, 36, 37] [2, 3, 7, 8] [6] g K) = impl_Lawn_steps_w0 k R K (fun p => g (fSt impl_Lawn_steps_t0 (enc_giillll p))) p := by
  kernel_rfl
theorem impl_Lawn_steps_lok0 (k : Nat) : LoopOK Try.prog tab (impl_Lawn_steps_C k).lo (loopP [0, 0] (0, codeOf Try.f93)).1 (loopP [0, 0] (0, codeOf Try.f93)).2 :=
  loopOK_of (C := impl_Lawn_steps_C k) tabOK eqTabOK (oraOf_ok (impl_Lawn_steps_es k)) (oraOf_nat (impl_Lawn_steps_es k)) follows (forall_getD _ 0 (0, Code.skip) (by kernel_rfl) fun i hi => by
      omega)
    (tm := impl_Lawn_steps_t0) (dec := dec_giillll) (enc := enc_giillll) (ksIn := [2, 3, 7, 8, 35, 36, 37]) (ksOut := [2, 3, 7, 8]) (ksRet := [6]) (k := k) (step := impl_Lawn_steps_w0 k) dec_enc_giillll (fun p => by kernel_rfl) (fun s R K => by kernel_rfl) (impl_Lawn_steps_step0 k)
theorem impl_Lawn_steps_step1 (k : Nat) (R : Type) (K : Ex → St → Option R) (g : St → Option R) (p : (List Int → Option Bool) × (List Int) × (List Int) × (List Int)) : evCode (impl_Lawn_steps_C k) (loopP [0] (0, codeOf Try.f93)).2 (loopP [0] (0, codeOf Try.f93)).1 (fSt impl_Lawn_steps_t1 (enc_glll p)) (loopK tab [2, 3, 7, 8] [7] [6] g K) = impl_Lawn_steps_w1 k R K (fun p => g (fSt impl_Lawn_steps_t1 (enc_glll p))) p := by
  kernel_rfl
theorem impl_Lawn_steps_lok1 (k : Nat) : LoopOK Try.prog tab (impl_Lawn_steps_C k).lo (loopP [0] (0, codeOf Try.f93)).1 (loopP [0] (0, codeOf Try.f93)).2 :=
  loopOK_of (C := impl_Lawn_steps_C k) tabOK eqTabOK (oraOf_ok (impl_Lawn_steps_es k)) (oraOf_nat (impl_Lawn_steps_es k)) follows (forall_getD _ 1 (0, Code.skip) (by kernel_rfl) fun i hi => by
      match i, hi with
      | 0, _ => exact impl_Lawn_steps_lok0 k
      | n + 1, h => omega)
    (tm := impl_Lawn_steps_t1) (dec := dec_glll) (enc := enc_glll) (ksIn := [2, 3, 7, 8]) (ksOut := [7]) (ksRet := [6]) (k := k) (step := impl_Lawn_steps_w1 k) dec_enc_glll (fun p => by kernel_rfl) (fun s R K => by kernel_rfl) (impl_Lawn_steps_step1 k)
def impl_Lawn_steps_e (k : Nat) : Ent := (93, callOf [.agg 33, .agg 28, .cloB 28] dec_llg fun (p : (List Int) × (List Int) × (List Int → Option Bool)) R K => (impl_Lawn_steps k p.1 p.2.1 p.2.2).bind fun (b : (List Int)) => K ((fV (.slv 2) (enc_l b)).1, none))
theorem impl_Lawn_steps_run (k : Nat) (p : (List Int) × (List Int) × (List Int → Option Bool)) : runF (impl_Lawn_steps_C k) Try.f93 false (fL [.agg 33, .agg 28, .cloB 28] (enc_llg p)).1 (resK (.slv 2) dec_l) = impl_Lawn_steps k p.1 p.2.1 p.2.2 := by
  kernel_rfl
theorem impl_Lawn_steps_ok (k : Nat) : EntOK Try.prog tab mvs (impl_Lawn_steps_e k) :=
  fn_ok (C := impl_Lawn_steps_C k) tabOK eqTabOK (impl_Lawn_steps_es k) rfl follows Try.func93 (by kernel_rfl) (by kernel_rfl) rfl (forall_getD _ 1 (0, Code.skip) (by kernel_rfl) fun i hi => by
      match i, hi with
      | 0, _ => exact impl_Lawn_steps_lok1 k
      | n + 1, h => omega)
    dec_enc_llg dec_enc_l (impl_Lawn_steps_run k)

def impl_StepsTo_C (k : Nat) : Cfg := ⟨tab, mvs, oraOf [impl_openCode_e k, impl_Lawn_open_e k, impl_Lawn_steps_e k, impl_Lawn_index_e k], loOf []⟩
theorem impl_StepsTo_es (k : Nat) : ∀ e ∈ ([impl_openCode_e k, impl_Lawn_open_e k, impl_Lawn_steps_e k, impl_Lawn_index_e k] : List Ent), EntOK Try.prog tab mvs e := by
  intro e he
  simp only [List.mem_cons, List.not_mem_nil, or_false] at he
  rcases he with rfl | rfl | rfl | rfl
  · exact impl_openCode_ok k
  · exact impl_Lawn_open_ok k
  · exact impl_Lawn_steps_ok k
  · exact impl_Lawn_index_ok k
def impl_StepsTo_e (k : Nat) : Ent := (49, callOf [.agg 33, .agg 28, .agg 28] dec_lll fun (p : (List Int) × (List Int) × (List Int)) R K => (impl_StepsTo k p.1 p.2.1 p.2.2).bind fun (b : Int × Int) => K ((fV (.tup [.int .i64, .int .i64]) (enc_ii b)).1, none))
theorem impl_StepsTo_run (k : Nat) (p : (List Int) × (List Int) × (List Int)) : runF (impl_StepsTo_C k) Try.f49 false (fL [.agg 33, .agg 28, .agg 28] (enc_lll p)).1 (resK (.tup [.int .i64, .int .i64]) dec_ii) = impl_StepsTo k p.1 p.2.1 p.2.2 := by
  kernel_rfl
theorem impl_StepsTo_ok (k : Nat) : EntOK Try.prog tab mvs (impl_StepsTo_e k) :=
  fn_ok (C := impl_StepsTo_C k) tabOK eqTabOK (impl_StepsTo_es k) rfl follows Try.func49 (by kernel_rfl) (by kernel_rfl) rfl (forall_getD _ 0 (0, Code.skip) (by kernel_rfl) fun i hi => by
      omega)
    dec_enc_lll dec_enc_ii (impl_StepsTo_run k)

def laws_FnExactStepsTo_C (k : Nat) : Cfg := ⟨tab, mvs, oraOf [laws_toLawn_e k, laws_toCell_e k, spec_StepsTo_e k, impl_StepsTo_e k], loOf []⟩
theorem laws_FnExactStepsTo_es (k : Nat) : ∀ e ∈ ([laws_toLawn_e k, laws_toCell_e k, spec_StepsTo_e k, impl_StepsTo_e k] : List Ent), EntOK Try.prog tab mvs e := by
  intro e he
  simp only [List.mem_cons, List.not_mem_nil, or_false] at he
  rcases he with rfl | rfl | rfl | rfl
  · exact laws_toLawn_ok k
  · exact laws_toCell_ok k
  · exact spec_StepsTo_ok k
  · exact impl_StepsTo_ok k
def laws_FnExactStepsTo_e (k : Nat) : Ent := (12, callOf [.agg 26, .agg 52, .agg 52] dec_lll fun (p : (List Int) × (List Int) × (List Int)) R K => (laws_FnExactStepsTo k p.1 p.2.1 p.2.2).bind fun (b : Bool) => K ((fV (.bool) (enc_b b)).1, none))
theorem laws_FnExactStepsTo_run (k : Nat) (p : (List Int) × (List Int) × (List Int)) : runF (laws_FnExactStepsTo_C k) Try.f12 false (fL [.agg 26, .agg 52, .agg 52] (enc_lll p)).1 (resK (.bool) dec_b) = laws_FnExactStepsTo k p.1 p.2.1 p.2.2 := by
  kernel_rfl
theorem laws_FnExactStepsTo_ok (k : Nat) : EntOK Try.prog tab mvs (laws_FnExactStepsTo_e k) :=
  fn_ok (C := laws_FnExactStepsTo_C k) tabOK eqTabOK (laws_FnExactStepsTo_es k) rfl follows Try.func12 (by kernel_rfl) (by kernel_rfl) rfl (forall_getD _ 0 (0, Code.skip) (by kernel_rfl) fun i hi => by
      omega)
    dec_enc_lll dec_enc_b (laws_FnExactStepsTo_run k)




end Go.Proofs.Ytmpcninebooaiaa.Tt
