/- The code is what the functions in plain Lean say. -/
import Derived.Test.YtkblhnedillknaaPra
import Derived.Test.YtkblhnedillknaaTab
import Derived.Test.YtkblhnedillknaaSh
import Derived.Test.YtkblhnedillknaaExt
import Derived.Test.YtkblhnedillknaaE6
set_option linter.unusedVariables false
set_option linter.unusedSimpArgs false
set_option linter.unusedVariables false
namespace Go.Proofs.Ytkblhnedillknaa.Tt
open Go.Ev Go
set_option maxRecDepth 100000

def spec_l02Told_C (k : Nat) : Cfg := ⟨tab, mvs, oraOf [spec_l01Is_e k, spec_l01Told_e k, spec_l02Way_e k], loOf []⟩
theorem spec_l02Told_es (k : Nat) : ∀ e ∈ ([spec_l01Is_e k, spec_l01Told_e k, spec_l02Way_e k] : List Ent), EntOK Try.prog tab mvs e := by
  intro e he
  simp only [List.mem_cons, List.not_mem_nil, or_false] at he
  rcases he with rfl | rfl | rfl
  · exact spec_l01Is_ok k
  · exact spec_l01Told_ok k
  · exact spec_l02Way_ok k
def spec_l02Told_e (k : Nat) : Ent := (122, callOf [.pvi (some 32) 0 32, .agg 29, .str] dec_lls fun (p : (List Int) × (List Int) × ByteArray) R K => (spec_l02Told k p.1 p.2.1 p.2.2).bind fun (b : Int) => K ((fV (.int .i64) (enc_i b)).1, none))
theorem spec_l02Told_run (k : Nat) (p : (List Int) × (List Int) × ByteArray) : runF (spec_l02Told_C k) Try.f122 false (fL [.pvi (some 32) 0 32, .agg 29, .str] (enc_lls p)).1 (resK (.int .i64) dec_i) = spec_l02Told k p.1 p.2.1 p.2.2 := by
  kernel_rfl
theorem spec_l02Told_ok (k : Nat) : EntOK Try.prog tab mvs (spec_l02Told_e k) :=
  fn_ok (C := spec_l02Told_C k) tabOK eqTabOK (spec_l02Told_es k) rfl follows Try.func122 (by kernel_rfl) (by kernel_rfl) rfl (forall_getD _ 0 (0, Code.skip) (by kernel_rfl) fun i hi => by
      omega)
    dec_enc_lls dec_enc_i (spec_l02Told_run k)

def spec_l02Free_C (k : Nat) : Cfg := ⟨tab, mvs, oraOf [spec_l01Is_e k, spec_l01Open_e k], loOf []⟩
theorem spec_l02Free_es (k : Nat) : ∀ e ∈ ([spec_l01Is_e k, spec_l01Open_e k] : List Ent), EntOK Try.prog tab mvs e := by
  intro e he
  simp only [List.mem_cons, List.not_mem_nil, or_false] at he
  rcases he with rfl | rfl
  · exact spec_l01Is_ok k
  · exact spec_l01Open_ok k
def spec_l02Free_e (k : Nat) : Ent := (106, callOf [.pvi (some 32) 0 32, .agg 29] dec_ll fun (p : (List Int) × (List Int)) R K => (spec_l02Free k p.1 p.2).bind fun (b : Bool) => K ((fV (.bool) (enc_b b)).1, none))
theorem spec_l02Free_run (k : Nat) (p : (List Int) × (List Int)) : runF (spec_l02Free_C k) Try.f106 false (fL [.pvi (some 32) 0 32, .agg 29] (enc_ll p)).1 (resK (.bool) dec_b) = spec_l02Free k p.1 p.2 := by
  kernel_rfl
theorem spec_l02Free_ok (k : Nat) : EntOK Try.prog tab mvs (spec_l02Free_e k) :=
  fn_ok (C := spec_l02Free_C k) tabOK eqTabOK (spec_l02Free_es k) rfl follows Try.func106 (by kernel_rfl) (by kernel_rfl) rfl (forall_getD _ 0 (0, Code.skip) (by kernel_rfl) fun i hi => by
      omega)
    dec_enc_ll dec_enc_b (spec_l02Free_run k)

def spec_l02Next_C (k : Nat) : Cfg := ⟨tab, mvs, oraOf [], loOf []⟩
theorem spec_l02Next_es (k : Nat) : ∀ e ∈ ([] : List Ent), EntOK Try.prog tab mvs e := by
  intro e he
  simp at he
def spec_l02Next_e (k : Nat) : Ent := (105, callOf [.agg 29, .int .i64] dec_li fun (p : (List Int) × Int) R K => (spec_l02Next k p.1 p.2).bind fun (b : (List Int)) => K ((fV (.agg 29) (enc_l b)).1, none))
theorem spec_l02Next_run (k : Nat) (p : (List Int) × Int) : runF (spec_l02Next_C k) Try.f105 false (fL [.agg 29, .int .i64] (enc_li p)).1 (resK (.agg 29) dec_l) = spec_l02Next k p.1 p.2 := by
  kernel_rfl
theorem spec_l02Next_ok (k : Nat) : EntOK Try.prog tab mvs (spec_l02Next_e k) :=
  fn_ok (C := spec_l02Next_C k) tabOK eqTabOK (spec_l02Next_es k) rfl follows Try.func105 (by kernel_rfl) (by kernel_rfl) rfl (forall_getD _ 0 (0, Code.skip) (by kernel_rfl) fun i hi => by
      omega)
    dec_enc_li dec_enc_l (spec_l02Next_run k)

def dec_lsill (ps : List Pay) : Option ((List Int) × ByteArray × Int × (List Int) × (List Int)) := match ps with
  | [.l x1, .s x2, .i x3, .l x4, .l x5] => some (x1, x2, x3, x4, x5)
  | _ => none
def enc_lsill (p : (List Int) × ByteArray × Int × (List Int) × (List Int)) : List Pay := [.l p.1, .s p.2.1, .i p.2.2.1, .l p.2.2.2.1, .l p.2.2.2.2]
theorem dec_enc_lsill : ∀ (ps : List Pay) (p : (List Int) × ByteArray × Int × (List Int) × (List Int)), dec_lsill ps = some p → ps = enc_lsill p := by
  intro ps p h
  unfold dec_lsill at h
  split at h
  · injection h with h
    subst h
    rfl
  · cases h

def spec_l02Come_t0 : StTm := ⟨39, [(0, .pvi (some 32) 0 32), (2, .str), (4, .ptr 4 0 29), (8, .slw 8 29), (9, .int .i64)], [(4, 29, true, .ints), (8, 29, false, .ints)]⟩
def spec_l02Come_t0_1 : StTm := ⟨39, [(6, .slw 6 29), (7, .bool)], [(6, 29, false, .ints)]⟩
def spec_l02Come_t0_2 : StTm := ⟨39, [(8, .slw 8 29)], [(8, 29, false, .ints)]⟩
def spec_l02Come_w0 (k : Nat) (R : Type) (K : Ex → St → Option R) (rec : (List Int) × ByteArray × Int × (List Int) × (List Int) → Option R) (p : (List Int) × ByteArray × Int × (List Int) × (List Int)) : Option R := spec_l02Come_s0 k (fun y1 y2 => K .ret (fSt spec_l02Come_t0_1 [.b y1, .l y2])) (fun y1 => K (.exit 0) (fSt spec_l02Come_t0_2 [.l y1])) (fun h1 h2 h3 h4 h5 => rec (h1, h2, h3, h4, h5)) p.1 p.2.1 p.2.2.1 p.2.2.2.1 p.2.2.2.2
def spec_l02Come_c0 (k : Nat) : Lcall := lcallOf tab spec_l02Come_t0 dec_lsill [0, 2, 4, 8, 9] k (spec_l02Come_w0 k)
def spec_l02Come_C (k : Nat) : Cfg := ⟨tab, mvs, oraOf [spec_l02Free_e k, spec_l02Letter_e k, spec_l02Next_e k], loOf [(0, spec_l02Come_c0 k)]⟩
theorem spec_l02Come_es (k : Nat) : ∀ e ∈ ([spec_l02Free_e k, spec_l02Letter_e k, spec_l02Next_e k] : List Ent), EntOK Try.prog tab mvs e := by
  intro e he
  simp only [List.mem_cons, List.not_mem_nil, or_false] at he
  rcases he with rfl | rfl | rfl
  · exact spec_l02Free_ok k
  · exact spec_l02Letter_ok k
  · exact spec_l02Next_ok k
theorem spec_l02Come_step0 (k : Nat) (R : Type) (K : Ex → St → Option R) (g : St → Option R) (p : (List Int) × ByteArray × Int × (List Int) × (List Int)) : evCode (spec_l02Come_C k) (loopP [0] (0, codeOf Try.f123)).2 (loopP [0] (0, codeOf Try.f123)).1 (fSt spec_l02Come_t0 (enc_lsill p)) (loopK tab [0, 2, 4, 8, 9] [8] [6, 7] g K) = spec_l02Come_w0 k R K (fun p => g (fSt spec_l02Come_t0 (enc_lsill p))) p := by
  kernel_rfl
theorem spec_l02Come_lok0 (k : Nat) : LoopOK Try.prog tab (spec_l02Come_C k).lo (loopP [0] (0, codeOf Try.f123)).1 (loopP [0] (0, codeOf Try.f123)).2 :=
  loopOK_of (C := spec_l02Come_C k) tabOK eqTabOK (oraOf_ok (spec_l02Come_es k)) (oraOf_nat (spec_l02Come_es k)) follows (forall_getD _ 0 (0, Code.skip) (by kernel_rfl) fun i hi => by
      omega)
    (tm := spec_l02Come_t0) (dec := dec_lsill) (enc := enc_lsill) (ksIn := [0, 2, 4, 8, 9]) (ksOut := [8]) (ksRet := [6, 7]) (k := k) (step := spec_l02Come_w0 k) dec_enc_lsill (fun p => by kernel_rfl) (fun s R K => by kernel_rfl) (spec_l02Come_step0 k)
def spec_l02Come_e (k : Nat) : Ent := (123, callOf [.pvi (some 32) 0 32, .agg 29, .str] dec_lls fun (p : (List Int) × (List Int) × ByteArray) R K => (spec_l02Come k p.1 p.2.1 p.2.2).bind fun (b : (List Int) × Bool) => K ((fV (.tup [.slv 29, .bool]) (enc_lb b)).1, none))
theorem spec_l02Come_run (k : Nat) (p : (List Int) × (List Int) × ByteArray) : runF (spec_l02Come_C k) Try.f123 false (fL [.pvi (some 32) 0 32, .agg 29, .str] (enc_lls p)).1 (resK (.tup [.slv 29, .bool]) dec_lb) = spec_l02Come k p.1 p.2.1 p.2.2 := by
  kernel_rfl
theorem spec_l02Come_ok (k : Nat) : EntOK Try.prog tab mvs (spec_l02Come_e k) :=
  fn_ok (C := spec_l02Come_C k) tabOK eqTabOK (spec_l02Come_es k) rfl follows Try.func123 (by kernel_rfl) (by kernel_rfl) rfl (forall_getD _ 1 (0, Code.skip) (by kernel_rfl) fun i hi => by
      match i, hi with
      | 0, _ => exact spec_l02Come_lok0 k
      | n + 1, h => omega)
    dec_enc_lls dec_enc_lb (spec_l02Come_run k)

def spec_l02Gone_C (k : Nat) : Cfg := ⟨tab, mvs, oraOf [spec_l02Told_e k, spec_l02Come_e k], loOf []⟩
theorem spec_l02Gone_es (k : Nat) : ∀ e ∈ ([spec_l02Told_e k, spec_l02Come_e k] : List Ent), EntOK Try.prog tab mvs e := by
  intro e he
  simp only [List.mem_cons, List.not_mem_nil, or_false] at he
  rcases he with rfl | rfl
  · exact spec_l02Told_ok k
  · exact spec_l02Come_ok k
def spec_l02Gone_e (k : Nat) : Ent := (59, callOf [.pvi (some 32) 0 32, .agg 29, .str] dec_lls fun (p : (List Int) × (List Int) × ByteArray) R K => (spec_l02Gone k p.1 p.2.1 p.2.2).bind fun (b : (List Int) × Int) => K ((fV (.tup [.slv 29, .int .i64]) (enc_li b)).1, none))
theorem spec_l02Gone_run (k : Nat) (p : (List Int) × (List Int) × ByteArray) : runF (spec_l02Gone_C k) Try.f59 false (fL [.pvi (some 32) 0 32, .agg 29, .str] (enc_lls p)).1 (resK (.tup [.slv 29, .int .i64]) dec_li) = spec_l02Gone k p.1 p.2.1 p.2.2 := by
  kernel_rfl
theorem spec_l02Gone_ok (k : Nat) : EntOK Try.prog tab mvs (spec_l02Gone_e k) :=
  fn_ok (C := spec_l02Gone_C k) tabOK eqTabOK (spec_l02Gone_es k) rfl follows Try.func59 (by kernel_rfl) (by kernel_rfl) rfl (forall_getD _ 0 (0, Code.skip) (by kernel_rfl) fun i hi => by
      omega)
    dec_enc_lls dec_enc_li (spec_l02Gone_run k)

def spec_EndOf_C (k : Nat) : Cfg := ⟨tab, mvs, oraOf [spec_l02Gone_e k], loOf []⟩
theorem spec_EndOf_es (k : Nat) : ∀ e ∈ ([spec_l02Gone_e k] : List Ent), EntOK Try.prog tab mvs e := by
  intro e he
  simp only [List.mem_cons, List.not_mem_nil, or_false] at he
  rcases he with rfl
  · exact spec_l02Gone_ok k
def spec_EndOf_e (k : Nat) : Ent := (15, callOf [.agg 32, .agg 29, .str] dec_lls fun (p : (List Int) × (List Int) × ByteArray) R K => (spec_EndOf k p.1 p.2.1 p.2.2).bind fun (b : (List Int) × Int) => K ((fV (.tup [.agg 29, .int .i64]) (enc_li b)).1, none))
theorem spec_EndOf_run (k : Nat) (p : (List Int) × (List Int) × ByteArray) : runF (spec_EndOf_C k) Try.f15 false (fL [.agg 32, .agg 29, .str] (enc_lls p)).1 (resK (.tup [.agg 29, .int .i64]) dec_li) = spec_EndOf k p.1 p.2.1 p.2.2 := by
  kernel_rfl
theorem spec_EndOf_ok (k : Nat) : EntOK Try.prog tab mvs (spec_EndOf_e k) :=
  fn_ok (C := spec_EndOf_C k) tabOK eqTabOK (spec_EndOf_es k) rfl follows Try.func15 (by kernel_rfl) (by kernel_rfl) rfl (forall_getD _ 0 (0, Code.skip) (by kernel_rfl) fun i hi => by
      omega)
    dec_enc_lls dec_enc_li (spec_EndOf_run k)

def strings_IndexByte_e (k : Nat) : Ent := (163, callOf [.str, .int .u8] dec_si fun (p : ByteArray × Int) R K => (strings_IndexByte k p.1 p.2).bind fun (b : Int) => K ((fV (.int .i64) (enc_i b)).1, none))
theorem strings_IndexByte_ok (k : Nat) : EntOK Try.prog tab mvs (strings_IndexByte_e k) :=
  strByte_ok rfl Try.func163 (by kernel_rfl) (by kernel_rfl) _ ext_IndexByte dec_enc_si (fun _ => rfl) (fun _ => rfl) (F := strings_IndexByte k) (fun _ _ => rfl)

def dec_sii (ps : List Pay) : Option (ByteArray × Int × Int) := match ps with
  | [.s x1, .i x2, .i x3] => some (x1, x2, x3)
  | _ => none
def enc_sii (p : ByteArray × Int × Int) : List Pay := [.s p.1, .i p.2.1, .i p.2.2]
theorem dec_enc_sii : ∀ (ps : List Pay) (p : ByteArray × Int × Int), dec_sii ps = some p → ps = enc_sii p := by
  intro ps p h
  unfold dec_sii at h
  split at h
  · injection h with h
    subst h
    rfl
  · cases h

def impl_wayCode_t0 : StTm := ⟨18, [(0, .str), (8, .int .i64), (9, .int .i64)], []⟩
def impl_wayCode_t0_1 : StTm := ⟨18, [(2, .int .i64)], []⟩
def impl_wayCode_t0_2 : StTm := ⟨18, [], []⟩
def impl_wayCode_w0 (k : Nat) (R : Type) (K : Ex → St → Option R) (rec : ByteArray × Int × Int → Option R) (p : ByteArray × Int × Int) : Option R := impl_wayCode_s0 k (fun y1 => K .ret (fSt impl_wayCode_t0_1 [.i y1])) (K (.exit 0) (fSt impl_wayCode_t0_2 [])) (fun h1 h2 h3 => rec (h1, h2, h3)) p.1 p.2.1 p.2.2
def impl_wayCode_c0 (k : Nat) : Lcall := lcallOf tab impl_wayCode_t0 dec_sii [0, 8, 9] k (impl_wayCode_w0 k)
def impl_wayCode_C (k : Nat) : Cfg := ⟨tab, mvs, oraOf [strings_IndexByte_e k], loOf [(0, impl_wayCode_c0 k)]⟩
theorem impl_wayCode_es (k : Nat) : ∀ e ∈ ([strings_IndexByte_e k] : List Ent), EntOK Try.prog tab mvs e := by
  intro e he
  simp only [List.mem_cons, List.not_mem_nil, or_false] at he
  rcases he with rfl
  · exact strings_IndexByte_ok k
theorem impl_wayCode_step0 (k : Nat) (R : Type) (K : Ex → St → Option R) (g : St → Option R) (p : ByteArray × Int × Int) : evCode (impl_wayCode_C k) (loopP [0] (0, codeOf Try.f126)).2 (loopP [0] (0, codeOf Try.f126)).1 (fSt impl_wayCode_t0 (enc_sii p)) (loopK tab [0, 8, 9] [] [2] g K) = impl_wayCode_w0 k R K (fun p => g (fSt impl_wayCode_t0 (enc_sii p))) p := by
  kernel_rfl
theorem impl_wayCode_lok0 (k : Nat) : LoopOK Try.prog tab (impl_wayCode_C k).lo (loopP [0] (0, codeOf Try.f126)).1 (loopP [0] (0, codeOf Try.f126)).2 :=
  loopOK_of (C := impl_wayCode_C k) tabOK eqTabOK (oraOf_ok (impl_wayCode_es k)) (oraOf_nat (impl_wayCode_es k)) follows (forall_getD _ 0 (0, Code.skip) (by kernel_rfl) fun i hi => by
      omega)
    (tm := impl_wayCode_t0) (dec := dec_sii) (enc := enc_sii) (ksIn := [0, 8, 9]) (ksOut := []) (ksRet := [2]) (k := k) (step := impl_wayCode_w0 k) dec_enc_sii (fun p => by kernel_rfl) (fun s R K => by kernel_rfl) (impl_wayCode_step0 k)
def impl_wayCode_e (k : Nat) : Ent := (126, callOf [.str] dec_s fun (p : ByteArray) R K => (impl_wayCode k p).bind fun (b : Int) => K ((fV (.int .i64) (enc_i b)).1, none))
theorem impl_wayCode_run (k : Nat) (p : ByteArray) : runF (impl_wayCode_C k) Try.f126 false (fL [.str] (enc_s p)).1 (resK (.int .i64) dec_i) = impl_wayCode k p := by
  kernel_rfl
theorem impl_wayCode_ok (k : Nat) : EntOK Try.prog tab mvs (impl_wayCode_e k) :=
  fn_ok (C := impl_wayCode_C k) tabOK eqTabOK (impl_wayCode_es k) rfl follows Try.func126 (by kernel_rfl) (by kernel_rfl) rfl (forall_getD _ 1 (0, Code.skip) (by kernel_rfl) fun i hi => by
      match i, hi with
      | 0, _ => exact impl_wayCode_lok0 k
      | n + 1, h => omega)
    dec_enc_s dec_enc_i (impl_wayCode_run k)

def impl_go1_C (k : Nat) : Cfg := ⟨tab, mvs, oraOf [impl_beside_e k, strings_IndexByte_e k], loOf []⟩
theorem impl_go1_es (k : Nat) : ∀ e ∈ ([impl_beside_e k, strings_IndexByte_e k] : List Ent), EntOK Try.prog tab mvs e := by
  intro e he
  simp only [List.mem_cons, List.not_mem_nil, or_false] at he
  rcases he with rfl | rfl
  · exact impl_beside_ok k
  · exact strings_IndexByte_ok k
def impl_go1_e (k : Nat) : Ent := (164, callOf [.agg 29, .int .u8] dec_li fun (p : (List Int) × Int) R K => (impl_go1 k p.1 p.2).bind fun (b : (List Int)) => K ((fV (.agg 29) (enc_l b)).1, none))
theorem impl_go1_run (k : Nat) (p : (List Int) × Int) : runF (impl_go1_C k) Try.f164 false (fL [.agg 29, .int .u8] (enc_li p)).1 (resK (.agg 29) dec_l) = impl_go1 k p.1 p.2 := by
  kernel_rfl
theorem impl_go1_ok (k : Nat) : EntOK Try.prog tab mvs (impl_go1_e k) :=
  fn_ok (C := impl_go1_C k) tabOK eqTabOK (impl_go1_es k) rfl follows Try.func164 (by kernel_rfl) (by kernel_rfl) rfl (forall_getD _ 0 (0, Code.skip) (by kernel_rfl) fun i hi => by
      omega)
    dec_enc_li dec_enc_l (impl_go1_run k)

def dec_siilll (ps : List Pay) : Option (ByteArray × Int × Int × (List Int) × (List Int) × (List Int)) := match ps with
  | [.s x1, .i x2, .i x3, .l x4, .l x5, .l x6] => some (x1, x2, x3, x4, x5, x6)
  | _ => none
def enc_siilll (p : ByteArray × Int × Int × (List Int) × (List Int) × (List Int)) : List Pay := [.s p.1, .i p.2.1, .i p.2.2.1, .l p.2.2.2.1, .l p.2.2.2.2.1, .l p.2.2.2.2.2]
theorem dec_enc_siilll : ∀ (ps : List Pay) (p : ByteArray × Int × Int × (List Int) × (List Int) × (List Int)), dec_siilll ps = some p → ps = enc_siilll p := by
  intro ps p h
  unfold dec_siilll at h
  split at h
  · injection h with h
    subst h
    rfl
  · cases h

def impl_Lawn_cellsBy_t0 : StTm := ⟨42, [(2, .str), (3, .ptr 3 0 32), (4, .ptr 4 0 29), (8, .slw 8 29), (13, .int .i64), (14, .int .i64)], [(3, 32, true, .ints), (4, 29, true, .ints), (8, 29, false, .ints)]⟩
def impl_Lawn_cellsBy_t0_1 : StTm := ⟨42, [(6, .slw 6 29), (7, .bool)], [(6, 29, false, .ints)]⟩
def impl_Lawn_cellsBy_t0_2 : StTm := ⟨42, [(3, .ptr 3 0 32), (4, .ptr 4 0 29), (8, .slw 8 29)], [(3, 32, true, .ints), (4, 29, true, .ints), (8, 29, false, .ints)]⟩
def impl_Lawn_cellsBy_w0 (k : Nat) (R : Type) (K : Ex → St → Option R) (rec : ByteArray × Int × Int × (List Int) × (List Int) × (List Int) → Option R) (p : ByteArray × Int × Int × (List Int) × (List Int) × (List Int)) : Option R := impl_Lawn_cellsBy_s0 k (fun y1 y2 => K .ret (fSt impl_Lawn_cellsBy_t0_1 [.b y1, .l y2])) (fun y1 y2 y3 => K (.exit 0) (fSt impl_Lawn_cellsBy_t0_2 [.l y1, .l y2, .l y3])) (fun h1 h2 h3 h4 h5 h6 => rec (h1, h2, h3, h4, h5, h6)) p.1 p.2.1 p.2.2.1 p.2.2.2.1 p.2.2.2.2.1 p.2.2.2.2.2
def impl_Lawn_cellsBy_c0 (k : Nat) : Lcall := lcallOf tab impl_Lawn_cellsBy_t0 dec_siilll [2, 3, 4, 8, 13, 14] k (impl_Lawn_cellsBy_w0 k)
def impl_Lawn_cellsBy_C (k : Nat) : Cfg := ⟨tab, mvs, oraOf [impl_go1_e k, impl_Lawn_open_e k], loOf [(0, impl_Lawn_cellsBy_c0 k)]⟩
theorem impl_Lawn_cellsBy_es (k : Nat) : ∀ e ∈ ([impl_go1_e k, impl_Lawn_open_e k] : List Ent), EntOK Try.prog tab mvs e := by
  intro e he
  simp only [List.mem_cons, List.not_mem_nil, or_false] at he
  rcases he with rfl | rfl
  · exact impl_go1_ok k
  · exact impl_Lawn_open_ok k
theorem impl_Lawn_cellsBy_step0 (k : Nat) (R : Type) (K : Ex → St → Option R) (g : St → Option R) (p : ByteArray × Int × Int × (List Int) × (List Int) × (List Int)) : evCode (impl_Lawn_cellsBy_C k) (loopP [0] (0, codeOf Try.f127)).2 (loopP [0] (0, codeOf Try.f127)).1 (fSt impl_Lawn_cellsBy_t0 (enc_siilll p)) (loopK tab [2, 3, 4, 8, 13, 14] [3, 4, 8] [6, 7] g K) = impl_Lawn_cellsBy_w0 k R K (fun p => g (fSt impl_Lawn_cellsBy_t0 (enc_siilll p))) p := by
  kernel_rfl
theorem impl_Lawn_cellsBy_lok0 (k : Nat) : LoopOK Try.prog tab (impl_Lawn_cellsBy_C k).lo (loopP [0] (0, codeOf Try.f127)).1 (loopP [0] (0, codeOf Try.f127)).2 :=
  loopOK_of (C := impl_Lawn_cellsBy_C k) tabOK eqTabOK (oraOf_ok (impl_Lawn_cellsBy_es k)) (oraOf_nat (impl_Lawn_cellsBy_es k)) follows (forall_getD _ 0 (0, Code.skip) (by kernel_rfl) fun i hi => by
      omega)
    (tm := impl_Lawn_cellsBy_t0) (dec := dec_siilll) (enc := enc_siilll) (ksIn := [2, 3, 4, 8, 13, 14]) (ksOut := [3, 4, 8]) (ksRet := [6, 7]) (k := k) (step := impl_Lawn_cellsBy_w0 k) dec_enc_siilll (fun p => by kernel_rfl) (fun s R K => by kernel_rfl) (impl_Lawn_cellsBy_step0 k)
def impl_Lawn_cellsBy_e (k : Nat) : Ent := (127, callOf [.agg 32, .agg 29, .str] dec_lls fun (p : (List Int) × (List Int) × ByteArray) R K => (impl_Lawn_cellsBy k p.1 p.2.1 p.2.2).bind fun (b : (List Int) × Bool) => K ((fV (.tup [.slv 29, .bool]) (enc_lb b)).1, none))
theorem impl_Lawn_cellsBy_run (k : Nat) (p : (List Int) × (List Int) × ByteArray) : runF (impl_Lawn_cellsBy_C k) Try.f127 false (fL [.agg 32, .agg 29, .str] (enc_lls p)).1 (resK (.tup [.slv 29, .bool]) dec_lb) = impl_Lawn_cellsBy k p.1 p.2.1 p.2.2 := by
  kernel_rfl
theorem impl_Lawn_cellsBy_ok (k : Nat) : EntOK Try.prog tab mvs (impl_Lawn_cellsBy_e k) :=
  fn_ok (C := impl_Lawn_cellsBy_C k) tabOK eqTabOK (impl_Lawn_cellsBy_es k) rfl follows Try.func127 (by kernel_rfl) (by kernel_rfl) rfl (forall_getD _ 1 (0, Code.skip) (by kernel_rfl) fun i hi => by
      match i, hi with
      | 0, _ => exact impl_Lawn_cellsBy_lok0 k
      | n + 1, h => omega)
    dec_enc_lls dec_enc_lb (impl_Lawn_cellsBy_run k)

def impl_walked_C (k : Nat) : Cfg := ⟨tab, mvs, oraOf [impl_cellsCode_e k, impl_wayCode_e k, impl_Lawn_cellsBy_e k], loOf []⟩
theorem impl_walked_es (k : Nat) : ∀ e ∈ ([impl_cellsCode_e k, impl_wayCode_e k, impl_Lawn_cellsBy_e k] : List Ent), EntOK Try.prog tab mvs e := by
  intro e he
  simp only [List.mem_cons, List.not_mem_nil, or_false] at he
  rcases he with rfl | rfl | rfl
  · exact impl_cellsCode_ok k
  · exact impl_wayCode_ok k
  · exact impl_Lawn_cellsBy_ok k
def impl_walked_e (k : Nat) : Ent := (61, callOf [.agg 32, .agg 29, .str] dec_lls fun (p : (List Int) × (List Int) × ByteArray) R K => (impl_walked k p.1 p.2.1 p.2.2).bind fun (b : (List Int) × Int) => K ((fV (.tup [.slv 29, .int .i64]) (enc_li b)).1, none))
theorem impl_walked_run (k : Nat) (p : (List Int) × (List Int) × ByteArray) : runF (impl_walked_C k) Try.f61 false (fL [.agg 32, .agg 29, .str] (enc_lls p)).1 (resK (.tup [.slv 29, .int .i64]) dec_li) = impl_walked k p.1 p.2.1 p.2.2 := by
  kernel_rfl
theorem impl_walked_ok (k : Nat) : EntOK Try.prog tab mvs (impl_walked_e k) :=
  fn_ok (C := impl_walked_C k) tabOK eqTabOK (impl_walked_es k) rfl follows Try.func61 (by kernel_rfl) (by kernel_rfl) rfl (forall_getD _ 0 (0, Code.skip) (by kernel_rfl) fun i hi => by
      omega)
    dec_enc_lls dec_enc_li (impl_walked_run k)

def impl_EndOf_C (k : Nat) : Cfg := ⟨tab, mvs, oraOf [impl_walked_e k], loOf []⟩
theorem impl_EndOf_es (k : Nat) : ∀ e ∈ ([impl_walked_e k] : List Ent), EntOK Try.prog tab mvs e := by
  intro e he
  simp only [List.mem_cons, List.not_mem_nil, or_false] at he
  rcases he with rfl
  · exact impl_walked_ok k
def impl_EndOf_e (k : Nat) : Ent := (18, callOf [.agg 32, .agg 29, .str] dec_lls fun (p : (List Int) × (List Int) × ByteArray) R K => (impl_EndOf k p.1 p.2.1 p.2.2).bind fun (b : (List Int) × Int) => K ((fV (.tup [.agg 29, .int .i64]) (enc_li b)).1, none))
theorem impl_EndOf_run (k : Nat) (p : (List Int) × (List Int) × ByteArray) : runF (impl_EndOf_C k) Try.f18 false (fL [.agg 32, .agg 29, .str] (enc_lls p)).1 (resK (.tup [.agg 29, .int .i64]) dec_li) = impl_EndOf k p.1 p.2.1 p.2.2 := by
  kernel_rfl
theorem impl_EndOf_ok (k : Nat) : EntOK Try.prog tab mvs (impl_EndOf_e k) :=
  fn_ok (C := impl_EndOf_C k) tabOK eqTabOK (impl_EndOf_es k) rfl follows Try.func18 (by kernel_rfl) (by kernel_rfl) rfl (forall_getD _ 0 (0, Code.skip) (by kernel_rfl) fun i hi => by
      omega)
    dec_enc_lls dec_enc_li (impl_EndOf_run k)

def laws_FnExactEndOf_C (k : Nat) : Cfg := ⟨tab, mvs, oraOf [laws_toLawn_e k, laws_toCell_e k, spec_EndOf_e k, impl_EndOf_e k, laws_eqCell_e k], loOf []⟩
theorem laws_FnExactEndOf_es (k : Nat) : ∀ e ∈ ([laws_toLawn_e k, laws_toCell_e k, spec_EndOf_e k, impl_EndOf_e k, laws_eqCell_e k] : List Ent), EntOK Try.prog tab mvs e := by
  intro e he
  simp only [List.mem_cons, List.not_mem_nil, or_false] at he
  rcases he with rfl | rfl | rfl | rfl | rfl
  · exact laws_toLawn_ok k
  · exact laws_toCell_ok k
  · exact spec_EndOf_ok k
  · exact impl_EndOf_ok k
  · exact laws_eqCell_ok k
def laws_FnExactEndOf_e (k : Nat) : Ent := (3, callOf [.agg 26, .agg 28, .str] dec_lls fun (p : (List Int) × (List Int) × ByteArray) R K => (laws_FnExactEndOf k p.1 p.2.1 p.2.2).bind fun (b : Bool) => K ((fV (.bool) (enc_b b)).1, none))
theorem laws_FnExactEndOf_run (k : Nat) (p : (List Int) × (List Int) × ByteArray) : runF (laws_FnExactEndOf_C k) Try.f3 false (fL [.agg 26, .agg 28, .str] (enc_lls p)).1 (resK (.bool) dec_b) = laws_FnExactEndOf k p.1 p.2.1 p.2.2 := by
  kernel_rfl
theorem laws_FnExactEndOf_ok (k : Nat) : EntOK Try.prog tab mvs (laws_FnExactEndOf_e k) :=
  fn_ok (C := laws_FnExactEndOf_C k) tabOK eqTabOK (laws_FnExactEndOf_es k) rfl follows Try.func3 (by kernel_rfl) (by kernel_rfl) rfl (forall_getD _ 0 (0, Code.skip) (by kernel_rfl) fun i hi => by
      omega)
    dec_enc_lls dec_enc_b (laws_FnExactEndOf_run k)

def dec_lill (ps : List Pay) : Option ((List Int) × Int × (List Int) × (List Int)) := match ps with
  | [.l x1, .i x2, .l x3, .l x4] => some (x1, x2, x3, x4)
  | _ => none
def enc_lill (p : (List Int) × Int × (List Int) × (List Int)) : List Pay := [.l p.1, .i p.2.1, .l p.2.2.1, .l p.2.2.2]
theorem dec_enc_lill : ∀ (ps : List Pay) (p : (List Int) × Int × (List Int) × (List Int)), dec_lill ps = some p → ps = enc_lill p := by
  intro ps p h
  unfold dec_lill at h
  split at h
  · injection h with h
    subst h
    rfl
  · cases h

def spec_l01Beside_t0 : StTm := ⟨54, [(0, .pvi (some 32) 0 32), (5, .slw 5 29), (6, .slw 6 29), (7, .int .i64)], [(5, 29, false, .ints), (6, 29, false, .ints)]⟩
def spec_l01Beside_t0_1 : StTm := ⟨54, [(6, .slw 6 29)], [(6, 29, false, .ints)]⟩
def spec_l01Beside_w0 (k : Nat) (R : Type) (K : Ex → St → Option R) (rec : (List Int) × Int × (List Int) × (List Int) → Option R) (p : (List Int) × Int × (List Int) × (List Int)) : Option R := spec_l01Beside_s0 k (fun y1 => K (.exit 0) (fSt spec_l01Beside_t0_1 [.l y1])) (fun h1 h2 h3 h4 => rec (h1, h2, h3, h4)) p.1 p.2.1 p.2.2.1 p.2.2.2
def spec_l01Beside_c0 (k : Nat) : Lcall := lcallOf tab spec_l01Beside_t0 dec_lill [0, 5, 6, 7] k (spec_l01Beside_w0 k)
def spec_l01Beside_C (k : Nat) : Cfg := ⟨tab, mvs, oraOf [spec_l01Is_e k], loOf [(0, spec_l01Beside_c0 k)]⟩
theorem spec_l01Beside_es (k : Nat) : ∀ e ∈ ([spec_l01Is_e k] : List Ent), EntOK Try.prog tab mvs e := by
  intro e he
  simp only [List.mem_cons, List.not_mem_nil, or_false] at he
  rcases he with rfl
  · exact spec_l01Is_ok k
theorem spec_l01Beside_step0 (k : Nat) (R : Type) (K : Ex → St → Option R) (g : St → Option R) (p : (List Int) × Int × (List Int) × (List Int)) : evCode (spec_l01Beside_C k) (loopP [0] (0, codeOf Try.f144)).2 (loopP [0] (0, codeOf Try.f144)).1 (fSt spec_l01Beside_t0 (enc_lill p)) (loopK tab [0, 5, 6, 7] [6] [4] g K) = spec_l01Beside_w0 k R K (fun p => g (fSt spec_l01Beside_t0 (enc_lill p))) p := by
  kernel_rfl
theorem spec_l01Beside_lok0 (k : Nat) : LoopOK Try.prog tab (spec_l01Beside_C k).lo (loopP [0] (0, codeOf Try.f144)).1 (loopP [0] (0, codeOf Try.f144)).2 :=
  loopOK_of (C := spec_l01Beside_C k) tabOK eqTabOK (oraOf_ok (spec_l01Beside_es k)) (oraOf_nat (spec_l01Beside_es k)) follows (forall_getD _ 0 (0, Code.skip) (by kernel_rfl) fun i hi => by
      omega)
    (tm := spec_l01Beside_t0) (dec := dec_lill) (enc := enc_lill) (ksIn := [0, 5, 6, 7]) (ksOut := [6]) (ksRet := [4]) (k := k) (step := spec_l01Beside_w0 k) dec_enc_lill (fun p => by kernel_rfl) (fun s R K => by kernel_rfl) (spec_l01Beside_step0 k)
def spec_l01Beside_e (k : Nat) : Ent := (144, callOf [.pvi (some 32) 0 32, .agg 29] dec_ll fun (p : (List Int) × (List Int)) R K => (spec_l01Beside k p.1 p.2).bind fun (b : (List Int)) => K ((fV (.slv 29) (enc_l b)).1, none))
theorem spec_l01Beside_run (k : Nat) (p : (List Int) × (List Int)) : runF (spec_l01Beside_C k) Try.f144 false (fL [.pvi (some 32) 0 32, .agg 29] (enc_ll p)).1 (resK (.slv 29) dec_l) = spec_l01Beside k p.1 p.2 := by
  kernel_rfl
theorem spec_l01Beside_ok (k : Nat) : EntOK Try.prog tab mvs (spec_l01Beside_e k) :=
  fn_ok (C := spec_l01Beside_C k) tabOK eqTabOK (spec_l01Beside_es k) rfl follows Try.func144 (by kernel_rfl) (by kernel_rfl) rfl (forall_getD _ 1 (0, Code.skip) (by kernel_rfl) fun i hi => by
      match i, hi with
      | 0, _ => exact spec_l01Beside_lok0 k
      | n + 1, h => omega)
    dec_enc_ll dec_enc_l (spec_l01Beside_run k)

def dec_lbiilll (ps : List Pay) : Option ((List Int) × Bool × Int × Int × (List Int) × (List Int) × (List Int)) := match ps with
  | [.l x1, .b x2, .i x3, .i x4, .l x5, .l x6, .l x7] => some (x1, x2, x3, x4, x5, x6, x7)
  | _ => none
def enc_lbiilll (p : (List Int) × Bool × Int × Int × (List Int) × (List Int) × (List Int)) : List Pay := [.l p.1, .b p.2.1, .i p.2.2.1, .i p.2.2.2.1, .l p.2.2.2.2.1, .l p.2.2.2.2.2.1, .l p.2.2.2.2.2.2]
theorem dec_enc_lbiilll : ∀ (ps : List Pay) (p : (List Int) × Bool × Int × Int × (List Int) × (List Int) × (List Int)), dec_lbiilll ps = some p → ps = enc_lbiilll p := by
  intro ps p h
  unfold dec_lbiilll at h
  split at h
  · injection h with h
    subst h
    rfl
  · cases h

def dec_lbilll (ps : List Pay) : Option ((List Int) × Bool × Int × (List Int) × (List Int) × (List Int)) := match ps with
  | [.l x1, .b x2, .i x3, .l x4, .l x5, .l x6] => some (x1, x2, x3, x4, x5, x6)
  | _ => none
def enc_lbilll (p : (List Int) × Bool × Int × (List Int) × (List Int) × (List Int)) : List Pay := [.l p.1, .b p.2.1, .i p.2.2.1, .l p.2.2.2.1, .l p.2.2.2.2.1, .l p.2.2.2.2.2]
theorem dec_enc_lbilll : ∀ (ps : List Pay) (p : (List Int) × Bool × Int × (List Int) × (List Int) × (List Int)), dec_lbilll ps = some p → ps = enc_lbilll p := by
  intro ps p h
  unfold dec_lbilll at h
  split at h
  · injection h with h
    subst h
    rfl
  · cases h

def dec_lbiillll (ps : List Pay) : Option ((List Int) × Bool × Int × Int × (List Int) × (List Int) × (List Int) × (List Int)) := match ps with
  | [.l x1, .b x2, .i x3, .i x4, .l x5, .l x6, .l x7, .l x8] => some (x1, x2, x3, x4, x5, x6, x7, x8)
  | _ => none
def enc_lbiillll (p : (List Int) × Bool × Int × Int × (List Int) × (List Int) × (List Int) × (List Int)) : List Pay := [.l p.1, .b p.2.1, .i p.2.2.1, .i p.2.2.2.1, .l p.2.2.2.2.1, .l p.2.2.2.2.2.1, .l p.2.2.2.2.2.2.1, .l p.2.2.2.2.2.2.2]
theorem dec_enc_lbiillll : ∀ (ps : List Pay) (p : (List Int) × Bool × Int × Int × (List Int) × (List Int) × (List Int) × (List Int)), dec_lbiillll ps = some p → ps = enc_lbiillll p := by
  intro ps p h
  unfold dec_lbiillll at h
  split at h
  · injection h with h
    subst h
    rfl
  · cases h

def spec_l01Reach_t0 : StTm := ⟨122, [(0, .pvi (some 32) 0 32), (2, .bool), (4, .ptr 4 0 29), (6, .ptr 6 0 123), (7, .ptr 7 0 123), (8, .int .i64), (9, .int .i64)], [(4, 29, true, .ints), (6, 123, true, .ints), (7, 123, true, .ints)]⟩
def spec_l01Reach_t0_1 : StTm := ⟨122, [(0, .pvi (some 32) 0 32), (2, .bool), (4, .ptr 4 0 29), (6, .ptr 6 0 123), (7, .ptr 7 0 123), (8, .int .i64)], [(4, 29, true, .ints), (6, 123, true, .ints), (7, 123, true, .ints)]⟩
def spec_l01Reach_w0 (k : Nat) (R : Type) (K : Ex → St → Option R) (rec : (List Int) × Bool × Int × Int × (List Int) × (List Int) × (List Int) → Option R) (p : (List Int) × Bool × Int × Int × (List Int) × (List Int) × (List Int)) : Option R := spec_l01Reach_s0 k (fun y1 y2 y3 y4 y5 y6 => K (.exit 2) (fSt spec_l01Reach_t0_1 [.l y1, .b y2, .i y3, .l y4, .l y5, .l y6])) (fun h1 h2 h3 h4 h5 h6 h7 => rec (h1, h2, h3, h4, h5, h6, h7)) p.1 p.2.1 p.2.2.1 p.2.2.2.1 p.2.2.2.2.1 p.2.2.2.2.2.1 p.2.2.2.2.2.2
def spec_l01Reach_c0 (k : Nat) : Lcall := lcallOf tab spec_l01Reach_t0 dec_lbiilll [0, 2, 4, 6, 7, 8, 9] k (spec_l01Reach_w0 k)
def spec_l01Reach_t1 : StTm := ⟨122, [(0, .pvi (some 32) 0 32), (2, .bool), (4, .ptr 4 0 29), (6, .ptr 6 0 123), (7, .ptr 7 0 123), (8, .int .i64)], [(4, 29, true, .ints), (6, 123, true, .ints), (7, 123, true, .ints)]⟩
def spec_l01Reach_t1_1 : StTm := ⟨122, [(0, .pvi (some 32) 0 32), (2, .bool), (4, .ptr 4 0 29), (6, .ptr 6 0 123), (7, .ptr 7 0 123)], [(4, 29, true, .ints), (6, 123, true, .ints), (7, 123, true, .ints)]⟩
def spec_l01Reach_w1 (k : Nat) (R : Type) (K : Ex → St → Option R) (rec : (List Int) × Bool × Int × (List Int) × (List Int) × (List Int) → Option R) (p : (List Int) × Bool × Int × (List Int) × (List Int) × (List Int)) : Option R := spec_l01Reach_s1 k (fun y1 y2 y3 y4 y5 => K (.exit 0) (fSt spec_l01Reach_t1_1 [.l y1, .b y2, .l y3, .l y4, .l y5])) (fun h1 h2 h3 h4 h5 h6 => rec (h1, h2, h3, h4, h5, h6)) p.1 p.2.1 p.2.2.1 p.2.2.2.1 p.2.2.2.2.1 p.2.2.2.2.2
def spec_l01Reach_c1 (k : Nat) : Lcall := lcallOf tab spec_l01Reach_t1 dec_lbilll [0, 2, 4, 6, 7, 8] k (spec_l01Reach_w1 k)
def spec_l01Reach_t2 : StTm := ⟨122, [(0, .pvi (some 32) 0 32), (2, .bool), (6, .ptr 6 0 123), (7, .ptr 7 0 123), (10, .slw 10 29), (11, .int .i64), (12, .slw 12 29), (13, .int .i64)], [(6, 123, true, .ints), (7, 123, true, .ints), (10, 29, false, .ints), (12, 29, false, .ints)]⟩
def spec_l01Reach_t2_1 : StTm := ⟨122, [(0, .pvi (some 32) 0 32), (2, .bool), (6, .ptr 6 0 123), (7, .ptr 7 0 123), (10, .slw 10 29), (11, .int .i64)], [(6, 123, true, .ints), (7, 123, true, .ints), (10, 29, false, .ints)]⟩
def spec_l01Reach_w2 (k : Nat) (R : Type) (K : Ex → St → Option R) (rec : (List Int) × Bool × Int × Int × (List Int) × (List Int) × (List Int) × (List Int) → Option R) (p : (List Int) × Bool × Int × Int × (List Int) × (List Int) × (List Int) × (List Int)) : Option R := spec_l01Reach_s2 k (fun y1 y2 y3 y4 y5 y6 => K (.exit 6) (fSt spec_l01Reach_t2_1 [.l y1, .b y2, .i y3, .l y4, .l y5, .l y6])) (fun h1 h2 h3 h4 h5 h6 h7 h8 => rec (h1, h2, h3, h4, h5, h6, h7, h8)) p.1 p.2.1 p.2.2.1 p.2.2.2.1 p.2.2.2.2.1 p.2.2.2.2.2.1 p.2.2.2.2.2.2.1 p.2.2.2.2.2.2.2
def spec_l01Reach_c2 (k : Nat) : Lcall := lcallOf tab spec_l01Reach_t2 dec_lbiillll [0, 2, 6, 7, 10, 11, 12, 13] k (spec_l01Reach_w2 k)
def spec_l01Reach_t3 : StTm := ⟨122, [(0, .pvi (some 32) 0 32), (2, .bool), (6, .ptr 6 0 123), (7, .ptr 7 0 123), (10, .slw 10 29), (11, .int .i64)], [(6, 123, true, .ints), (7, 123, true, .ints), (10, 29, false, .ints)]⟩
def spec_l01Reach_t3_1 : StTm := ⟨122, [(6, .ptr 6 0 123), (7, .ptr 7 0 123)], [(6, 123, true, .ints), (7, 123, true, .ints)]⟩
def spec_l01Reach_w3 (k : Nat) (R : Type) (K : Ex → St → Option R) (rec : (List Int) × Bool × Int × (List Int) × (List Int) × (List Int) → Option R) (p : (List Int) × Bool × Int × (List Int) × (List Int) × (List Int)) : Option R := spec_l01Reach_s3 k (fun y1 y2 => K (.exit 4) (fSt spec_l01Reach_t3_1 [.l y1, .l y2])) (fun h1 h2 h3 h4 h5 h6 => rec (h1, h2, h3, h4, h5, h6)) p.1 p.2.1 p.2.2.1 p.2.2.2.1 p.2.2.2.2.1 p.2.2.2.2.2
def spec_l01Reach_c3 (k : Nat) : Lcall := lcallOf tab spec_l01Reach_t3 dec_lbilll [0, 2, 6, 7, 10, 11] k (spec_l01Reach_w3 k)
def spec_l01Reach_C (k : Nat) : Cfg := ⟨tab, mvs, oraOf [spec_l01Beside_e k, spec_l01Open_e k, spec_l01At_e k], loOf [(2, spec_l01Reach_c0 k), (0, spec_l01Reach_c1 k), (6, spec_l01Reach_c2 k), (4, spec_l01Reach_c3 k)]⟩
theorem spec_l01Reach_es (k : Nat) : ∀ e ∈ ([spec_l01Beside_e k, spec_l01Open_e k, spec_l01At_e k] : List Ent), EntOK Try.prog tab mvs e := by
  intro e he
  simp only [List.mem_cons, List.not_mem_nil, or_false] at he
  rcases he with rfl | rfl | rfl
  · exact spec_l01Beside_ok k
  · exact spec_l01Open_ok k
  · exact spec_l01At_ok k
theorem spec_l01Reach_step0 (k : Nat) (R : Type) (K : Ex → St → Option R) (g : St → Option R) (p : (List Int) × Bool × Int × Int × (List Int) × (List Int) × (List Int)) : evCode (spec_l01Reach_C k) (loopP [0, 0] (0, codeOf Try.f94)).2 (loopP [0, 0] (0, codeOf Try.f94)).1 (fSt spec_l01Reach_t0 (enc_lbiilll p)) (loopK tab [0, 2, 4, 6, 7, 8, 9] [0, 2, 4, 6, 7, 8] [6] g K) = spec_l01Reach_w0 k R K (fun p => g (fSt spec_l01Reach_t0 (enc_lbiilll p))) p := by
  kernel_rfl
theorem spec_l01Reach_lok0 (k : Nat) : LoopOK Try.prog tab (spec_l01Reach_C k).lo (loopP [0, 0] (0, codeOf Try.f94)).1 (loopP [0, 0] (0, codeOf Try.f94)).2 :=
  loopOK_of (C := spec_l01Reach_C k) tabOK eqTabOK (oraOf_ok (spec_l01Reach_es k)) (oraOf_nat (spec_l01Reach_es k)) follows (forall_getD _ 0 (0, Code.skip) (by kernel_rfl) fun i hi => by
      omega)
    (tm := spec_l01Reach_t0) (dec := dec_lbiilll) (enc := enc_lbiilll) (ksIn := [0, 2, 4, 6, 7, 8, 9]) (ksOut := [0, 2, 4, 6, 7, 8]) (ksRet := [6]) (k := k) (step := spec_l01Reach_w0 k) dec_enc_lbiilll (fun p => by kernel_rfl) (fun s R K => by kernel_rfl) (spec_l01Reach_step0 k)
theorem spec_l01Reach_step1 (k : Nat) (R : Type) (K : Ex → St → Option R) (g : St → Option R) (p : (List Int) × Bool × Int × (List Int) × (List Int) × (List Int)) : evCode (spec_l01Reach_C k) (loopP [0] (0, codeOf Try.f94)).2 (loopP [0] (0, codeOf Try.f94)).1 (fSt spec_l01Reach_t1 (enc_lbilll p)) (loopK tab [0, 2, 4, 6, 7, 8] [0, 2, 4, 6, 7] [6] g K) = spec_l01Reach_w1 k R K (fun p => g (fSt spec_l01Reach_t1 (enc_lbilll p))) p := by
  kernel_rfl
theorem spec_l01Reach_lok1 (k : Nat) : LoopOK Try.prog tab (spec_l01Reach_C k).lo (loopP [0] (0, codeOf Try.f94)).1 (loopP [0] (0, codeOf Try.f94)).2 :=
  loopOK_of (C := spec_l01Reach_C k) tabOK eqTabOK (oraOf_ok (spec_l01Reach_es k)) (oraOf_nat (spec_l01Reach_es k)) follows (forall_getD _ 1 (0, Code.skip) (by kernel_rfl) fun i hi => by
      match i, hi with
      | 0, _ => exact spec_l01Reach_lok0 k
      | n + 1, h => omega)
    (tm := spec_l01Reach_t1) (dec := dec_lbilll) (enc := enc_lbilll) (ksIn := [0, 2, 4, 6, 7, 8]) (ksOut := [0, 2, 4, 6, 7]) (ksRet := [6]) (k := k) (step := spec_l01Reach_w1 k) dec_enc_lbilll (fun p => by kernel_rfl) (fun s R K => by kernel_rfl) (spec_l01Reach_step1 k)
theorem spec_l01Reach_step2 (k : Nat) (R : Type) (K : Ex → St → Option R) (g : St → Option R) (p : (List Int) × Bool × Int × Int × (List Int) × (List Int) × (List Int) × (List Int)) : evCode (spec_l01Reach_C k) (loopP [1, 0] (0, codeOf Try.f94)).2 (loopP [1, 0] (0, codeOf Try.f94)).1 (fSt spec_l01Reach_t2 (enc_lbiillll p)) (loopK tab [0, 2, 6, 7, 10, 11, 12, 13] [0, 2, 6, 7, 10, 11] [6] g K) = spec_l01Reach_w2 k R K (fun p => g (fSt spec_l01Reach_t2 (enc_lbiillll p))) p := by
  kernel_rfl
theorem spec_l01Reach_lok2 (k : Nat) : LoopOK Try.prog tab (spec_l01Reach_C k).lo (loopP [1, 0] (0, codeOf Try.f94)).1 (loopP [1, 0] (0, codeOf Try.f94)).2 :=
  loopOK_of (C := spec_l01Reach_C k) tabOK eqTabOK (oraOf_ok (spec_l01Reach_es k)) (oraOf_nat (spec_l01Reach_es k)) follows (forall_getD _ 0 (0, Code.skip) (by kernel_rfl) fun i hi => by
      omega)
    (tm := spec_l01Reach_t2) (dec := dec_lbiillll) (enc := enc_lbiillll) (ksIn := [0, 2, 6, 7, 10, 11, 12, 13]) (ksOut := [0, 2, 6, 7, 10, 11]) (ksRet := [6]) (k := k) (step := spec_l01Reach_w2 k) dec_enc_lbiillll (fun p => by kernel_rfl) (fun s R K => by kernel_rfl) (spec_l01Reach_step2 k)
theorem spec_l01Reach_step3 (k : Nat) (R : Type) (K : Ex → St → Option R) (g : St → Option R) (p : (List Int) × Bool × Int × (List Int) × (List Int) × (List Int)) : evCode (spec_l01Reach_C k) (loopP [1] (0, codeOf Try.f94)).2 (loopP [1] (0, codeOf Try.f94)).1 (fSt spec_l01Reach_t3 (enc_lbilll p)) (loopK tab [0, 2, 6, 7, 10, 11] [6, 7] [6] g K) = spec_l01Reach_w3 k R K (fun p => g (fSt spec_l01Reach_t3 (enc_lbilll p))) p := by
  kernel_rfl
theorem spec_l01Reach_lok3 (k : Nat) : LoopOK Try.prog tab (spec_l01Reach_C k).lo (loopP [1] (0, codeOf Try.f94)).1 (loopP [1] (0, codeOf Try.f94)).2 :=
  loopOK_of (C := spec_l01Reach_C k) tabOK eqTabOK (oraOf_ok (spec_l01Reach_es k)) (oraOf_nat (spec_l01Reach_es k)) follows (forall_getD _ 1 (0, Code.skip) (by kernel_rfl) fun i hi => by
      match i, hi with
      | 0, _ => exact spec_l01Reach_lok2 k
      | n + 1, h => omega)
    (tm := spec_l01Reach_t3) (dec := dec_lbilll) (enc := enc_lbilll) (ksIn := [0, 2, 6, 7, 10, 11]) (ksOut := [6, 7]) (ksRet := [6]) (k := k) (step := spec_l01Reach_w3 k) dec_enc_lbilll (fun p => by kernel_rfl) (fun s R K => by kernel_rfl) (spec_l01Reach_step3 k)
def spec_l01Reach_e (k : Nat) : Ent := (94, callOf [.pvi (some 32) 0 32, .agg 29, .bool] dec_llb fun (p : (List Int) × (List Int) × Bool) R K => (spec_l01Reach k p.1 p.2.1 p.2.2).bind fun (b : (List Int)) => K ((fV (.agg 123) (enc_l b)).1, none))
theorem spec_l01Reach_run (k : Nat) (p : (List Int) × (List Int) × Bool) : runF (spec_l01Reach_C k) Try.f94 false (fL [.pvi (some 32) 0 32, .agg 29, .bool] (enc_llb p)).1 (resK (.agg 123) dec_l) = spec_l01Reach k p.1 p.2.1 p.2.2 := by
  kernel_rfl
theorem spec_l01Reach_ok (k : Nat) : EntOK Try.prog tab mvs (spec_l01Reach_e k) :=
  fn_ok (C := spec_l01Reach_C k) tabOK eqTabOK (spec_l01Reach_es k) rfl follows Try.func94 (by kernel_rfl) (by kernel_rfl) rfl (forall_getD _ 2 (0, Code.skip) (by kernel_rfl) fun i hi => by
      match i, hi with
      | 0, _ => exact spec_l01Reach_lok1 k
      | 1, _ => exact spec_l01Reach_lok3 k
      | n + 2, h => omega)
    dec_enc_llb dec_enc_l (spec_l01Reach_run k)

def spec_StepsFrom_t0 : StTm := ⟨49, [(7, .ptr 7 0 123), (8, .slw 8 2), (9, .slw 9 29), (10, .int .i64)], [(7, 123, true, .ints), (8, 2, false, .ints), (9, 29, false, .ints)]⟩
def spec_StepsFrom_t0_1 : StTm := ⟨49, [(8, .slw 8 2)], [(8, 2, false, .ints)]⟩
def spec_StepsFrom_w0 (k : Nat) (R : Type) (K : Ex → St → Option R) (rec : Int × (List Int) × (List Int) × (List Int) → Option R) (p : Int × (List Int) × (List Int) × (List Int)) : Option R := spec_StepsFrom_s0 k (fun y1 => K (.exit 0) (fSt spec_StepsFrom_t0_1 [.l y1])) (fun h1 h2 h3 h4 => rec (h1, h2, h3, h4)) p.1 p.2.1 p.2.2.1 p.2.2.2
def spec_StepsFrom_c0 (k : Nat) : Lcall := lcallOf tab spec_StepsFrom_t0 dec_illl [7, 8, 9, 10] k (spec_StepsFrom_w0 k)
def spec_StepsFrom_C (k : Nat) : Cfg := ⟨tab, mvs, oraOf [spec_l01Is_e k, spec_l01Told_e k, spec_l01Open_e k, spec_l01Reach_e k, spec_l01All_e k], loOf [(0, spec_StepsFrom_c0 k)]⟩
theorem spec_StepsFrom_es (k : Nat) : ∀ e ∈ ([spec_l01Is_e k, spec_l01Told_e k, spec_l01Open_e k, spec_l01Reach_e k, spec_l01All_e k] : List Ent), EntOK Try.prog tab mvs e := by
  intro e he
  simp only [List.mem_cons, List.not_mem_nil, or_false] at he
  rcases he with rfl | rfl | rfl | rfl | rfl
  · exact spec_l01Is_ok k
  · exact spec_l01Told_ok k
  · exact spec_l01Open_ok k
  · exact spec_l01Reach_ok k
  · exact spec_l01All_ok k
theorem spec_StepsFrom_step0 (k : Nat) (R : Type) (K : Ex → St → Option R) (g : St → Option R) (p : Int × (List Int) × (List Int) × (List Int)) : evCode (spec_StepsFrom_C k) (loopP [0] (0, codeOf Try.f33)).2 (loopP [0] (0, codeOf Try.f33)).1 (fSt spec_StepsFrom_t0 (enc_illl p)) (loopK tab [7, 8, 9, 10] [8] [4, 5] g K) = spec_StepsFrom_w0 k R K (fun p => g (fSt spec_StepsFrom_t0 (enc_illl p))) p := by
  kernel_rfl
theorem spec_StepsFrom_lok0 (k : Nat) : LoopOK Try.prog tab (spec_StepsFrom_C k).lo (loopP [0] (0, codeOf Try.f33)).1 (loopP [0] (0, codeOf Try.f33)).2 :=
  loopOK_of (C := spec_StepsFrom_C k) tabOK eqTabOK (oraOf_ok (spec_StepsFrom_es k)) (oraOf_nat (spec_StepsFrom_es k)) follows (forall_getD _ 0 (0, Code.skip) (by kernel_rfl) fun i hi => by
      omega)
    (tm := spec_StepsFrom_t0) (dec := dec_illl) (enc := enc_illl) (ksIn := [7, 8, 9, 10]) (ksOut := [8]) (ksRet := [4, 5]) (k := k) (step := spec_StepsFrom_w0 k) dec_enc_illl (fun p => by kernel_rfl) (fun s R K => by kernel_rfl) (spec_StepsFrom_step0 k)
def spec_StepsFrom_e (k : Nat) : Ent := (33, callOf [.agg 32, .agg 29] dec_ll fun (p : (List Int) × (List Int)) R K => (spec_StepsFrom k p.1 p.2).bind fun (b : (List Int) × Int) => K ((fV (.tup [.slv 2, .int .i64]) (enc_li b)).1, none))
theorem spec_StepsFrom_run (k : Nat) (p : (List Int) × (List Int)) : runF (spec_StepsFrom_C k) Try.f33 false (fL [.agg 32, .agg 29] (enc_ll p)).1 (resK (.tup [.slv 2, .int .i64]) dec_li) = spec_StepsFrom k p.1 p.2 := by
  kernel_rfl
theorem spec_StepsFrom_ok (k : Nat) : EntOK Try.prog tab mvs (spec_StepsFrom_e k) :=
  fn_ok (C := spec_StepsFrom_C k) tabOK eqTabOK (spec_StepsFrom_es k) rfl follows Try.func33 (by kernel_rfl) (by kernel_rfl) rfl (forall_getD _ 1 (0, Code.skip) (by kernel_rfl) fun i hi => by
      match i, hi with
      | 0, _ => exact spec_StepsFrom_lok0 k
      | n + 1, h => omega)
    dec_enc_ll dec_enc_li (spec_StepsFrom_run k)

def impl_openCode_1_C (k : Nat) : Cfg := ⟨tab, mvs, oraOf [impl_Lawn_open_e k], loOf []⟩
theorem impl_openCode_1_es (k : Nat) : ∀ e ∈ ([impl_Lawn_open_e k] : List Ent), EntOK Try.prog tab mvs e := by
  intro e he
  simp only [List.mem_cons, List.not_mem_nil, or_false] at he
  rcases he with rfl
  · exact impl_Lawn_open_ok k
def impl_openCode_1_e (k : Nat) : Ent := (145, callOf [.agg 29, .pvi (some 32) 0 32] dec_ll fun (p : (List Int) × (List Int)) R K => (impl_openCode_1 k p.1 p.2).bind fun (b : Bool) => K ((fV (.bool) (enc_b b)).1, none))
theorem impl_openCode_1_run (k : Nat) (p : (List Int) × (List Int)) : runF (impl_openCode_1_C k) Try.f145 false (fL [.agg 29, .pvi (some 32) 0 32] (enc_ll p)).1 (resK (.bool) dec_b) = impl_openCode_1 k p.1 p.2 := by
  kernel_rfl
theorem impl_openCode_1_ok (k : Nat) : EntOK Try.prog tab mvs (impl_openCode_1_e k) :=
  fn_ok (C := impl_openCode_1_C k) tabOK eqTabOK (impl_openCode_1_es k) rfl follows Try.func145 (by kernel_rfl) (by kernel_rfl) rfl (forall_getD _ 0 (0, Code.skip) (by kernel_rfl) fun i hi => by
      omega)
    dec_enc_ll dec_enc_b (impl_openCode_1_run k)

def impl_openCode_C (k : Nat) : Cfg := ⟨tab, mvs, oraOf [impl_cellsCode_e k, impl_openCode_1_e k, slices_ContainsFunc_impl_Cell_e k], loOf []⟩
theorem impl_openCode_es (k : Nat) : ∀ e ∈ ([impl_cellsCode_e k, impl_openCode_1_e k, slices_ContainsFunc_impl_Cell_e k] : List Ent), EntOK Try.prog tab mvs e := by
  intro e he
  simp only [List.mem_cons, List.not_mem_nil, or_false] at he
  rcases he with rfl | rfl | rfl
  · exact impl_cellsCode_ok k
  · exact impl_openCode_1_ok k
  · exact slices_ContainsFunc_impl_Cell_ok k
def impl_openCode_e (k : Nat) : Ent := (96, callOf [.agg 32, .slv 29] dec_ll fun (p : (List Int) × (List Int)) R K => (impl_openCode k p.1 p.2).bind fun (b : Int) => K ((fV (.int .i64) (enc_i b)).1, none))
theorem impl_openCode_run (k : Nat) (p : (List Int) × (List Int)) : runF (impl_openCode_C k) Try.f96 false (fL [.agg 32, .slv 29] (enc_ll p)).1 (resK (.int .i64) dec_i) = impl_openCode k p.1 p.2 := by
  kernel_rfl
theorem impl_openCode_ok (k : Nat) : EntOK Try.prog tab mvs (impl_openCode_e k) :=
  fn_ok (C := impl_openCode_C k) tabOK eqTabOK (impl_openCode_es k) rfl follows Try.func96 (by kernel_rfl) (by kernel_rfl) rfl (forall_getD _ 0 (0, Code.skip) (by kernel_rfl) fun i hi => by
      omega)
    dec_enc_ll dec_enc_i (impl_openCode_run k)

def math_bits_Mul64_C (k : Nat) : Cfg := ⟨tab, mvs, oraOf [], loOf []⟩
theorem math_bits_Mul64_es (k : Nat) : ∀ e ∈ ([] : List Ent), EntOK Try.prog tab mvs e := by
  intro e he
  simp at he
def math_bits_Mul64_e (k : Nat) : Ent := (177, callOf [.int .u64, .int .u64] dec_ii fun (p : Int × Int) R K => (math_bits_Mul64 k p.1 p.2).bind fun (b : Int × Int) => K ((fV (.tup [.int .u64, .int .u64]) (enc_ii b)).1, none))
theorem math_bits_Mul64_run (k : Nat) (p : Int × Int) : runF (math_bits_Mul64_C k) Try.f177 false (fL [.int .u64, .int .u64] (enc_ii p)).1 (resK (.tup [.int .u64, .int .u64]) dec_ii) = math_bits_Mul64 k p.1 p.2 := by
  kernel_rfl
theorem math_bits_Mul64_ok (k : Nat) : EntOK Try.prog tab mvs (math_bits_Mul64_e k) :=
  fn_ok (C := math_bits_Mul64_C k) tabOK eqTabOK (math_bits_Mul64_es k) rfl follows Try.func177 (by kernel_rfl) (by kernel_rfl) rfl (forall_getD _ 0 (0, Code.skip) (by kernel_rfl) fun i hi => by
      omega)
    dec_enc_ii dec_enc_ii (math_bits_Mul64_run k)

def math_bits_Mul_C (k : Nat) : Cfg := ⟨tab, mvs, oraOf [math_bits_Mul64_e k], loOf []⟩
theorem math_bits_Mul_es (k : Nat) : ∀ e ∈ ([math_bits_Mul64_e k] : List Ent), EntOK Try.prog tab mvs e := by
  intro e he
  simp only [List.mem_cons, List.not_mem_nil, or_false] at he
  rcases he with rfl
  · exact math_bits_Mul64_ok k
def math_bits_Mul_e (k : Nat) : Ent := (168, callOf [.int .u64, .int .u64] dec_ii fun (p : Int × Int) R K => (math_bits_Mul k p.1 p.2).bind fun (b : Int × Int) => K ((fV (.tup [.int .u64, .int .u64]) (enc_ii b)).1, none))
theorem math_bits_Mul_run (k : Nat) (p : Int × Int) : runF (math_bits_Mul_C k) Try.f168 false (fL [.int .u64, .int .u64] (enc_ii p)).1 (resK (.tup [.int .u64, .int .u64]) dec_ii) = math_bits_Mul k p.1 p.2 := by
  kernel_rfl
theorem math_bits_Mul_ok (k : Nat) : EntOK Try.prog tab mvs (math_bits_Mul_e k) :=
  fn_ok (C := math_bits_Mul_C k) tabOK eqTabOK (math_bits_Mul_es k) rfl follows Try.func168 (by kernel_rfl) (by kernel_rfl) rfl (forall_getD _ 0 (0, Code.skip) (by kernel_rfl) fun i hi => by
      omega)
    dec_enc_ii dec_enc_ii (math_bits_Mul_run k)

def slices_Repeat_int64_t0 : StTm := ⟨48, [(7, .slw 7 2), (8, .int .i64)], [(7, 2, false, .ints)]⟩
def slices_Repeat_int64_t0_1 : StTm := ⟨48, [(7, .slw 7 2)], [(7, 2, false, .ints)]⟩
def slices_Repeat_int64_w0 (k : Nat) (R : Type) (K : Ex → St → Option R) (rec : Int × (List Int) → Option R) (p : Int × (List Int)) : Option R := slices_Repeat_int64_s0 k (fun y1 => K (.exit 0) (fSt slices_Repeat_int64_t0_1 [.l y1])) (fun h1 h2 => rec (h1, h2)) p.1 p.2
def slices_Repeat_int64_c0 (k : Nat) : Lcall := lcallOf tab slices_Repeat_int64_t0 dec_il [7, 8] k (slices_Repeat_int64_w0 k)
def slices_Repeat_int64_C (k : Nat) : Cfg := ⟨tab, mvs, oraOf [math_bits_Mul_e k], loOf [(0, slices_Repeat_int64_c0 k)]⟩
theorem slices_Repeat_int64_es (k : Nat) : ∀ e ∈ ([math_bits_Mul_e k] : List Ent), EntOK Try.prog tab mvs e := by
  intro e he
  simp only [List.mem_cons, List.not_mem_nil, or_false] at he
  rcases he with rfl
  · exact math_bits_Mul_ok k
theorem slices_Repeat_int64_step0 (k : Nat) (R : Type) (K : Ex → St → Option R) (g : St → Option R) (p : Int × (List Int)) : evCode (slices_Repeat_int64_C k) (loopP [0] (0, codeOf Try.f146)).2 (loopP [0] (0, codeOf Try.f146)).1 (fSt slices_Repeat_int64_t0 (enc_il p)) (loopK tab [7, 8] [7] [4] g K) = slices_Repeat_int64_w0 k R K (fun p => g (fSt slices_Repeat_int64_t0 (enc_il p))) p := by
  kernel_rfl
theorem slices_Repeat_int64_lok0 (k : Nat) : LoopOK Try.prog tab (slices_Repeat_int64_C k).lo (loopP [0] (0, codeOf Try.f146)).1 (loopP [0] (0, codeOf Try.f146)).2 :=
  loopOK_of (C := slices_Repeat_int64_C k) tabOK eqTabOK (oraOf_ok (slices_Repeat_int64_es k)) (oraOf_nat (slices_Repeat_int64_es k)) follows (forall_getD _ 0 (0, Code.skip) (by kernel_rfl) fun i hi => by
      omega)
    (tm := slices_Repeat_int64_t0) (dec := dec_il) (enc := enc_il) (ksIn := [7, 8]) (ksOut := [7]) (ksRet := [4]) (k := k) (step := slices_Repeat_int64_w0 k) dec_enc_il (fun p => by kernel_rfl) (fun s R K => by kernel_rfl) (slices_Repeat_int64_step0 k)
def slices_Repeat_int64_e (k : Nat) : Ent := (146, callOf [.slv 2, .int .i64] dec_li fun (p : (List Int) × Int) R K => (slices_Repeat_int64 k p.1 p.2).bind fun (b : (List Int)) => K ((fV (.slv 2) (enc_l b)).1, none))
theorem slices_Repeat_int64_run (k : Nat) (p : (List Int) × Int) : runF (slices_Repeat_int64_C k) Try.f146 false (fL [.slv 2, .int .i64] (enc_li p)).1 (resK (.slv 2) dec_l) = slices_Repeat_int64 k p.1 p.2 := by
  kernel_rfl
theorem slices_Repeat_int64_ok (k : Nat) : EntOK Try.prog tab mvs (slices_Repeat_int64_e k) :=
  fn_ok (C := slices_Repeat_int64_C k) tabOK eqTabOK (slices_Repeat_int64_es k) rfl follows Try.func146 (by kernel_rfl) (by kernel_rfl) rfl (forall_getD _ 1 (0, Code.skip) (by kernel_rfl) fun i hi => by
      match i, hi with
      | 0, _ => exact slices_Repeat_int64_lok0 k
      | n + 1, h => omega)
    dec_enc_li dec_enc_l (slices_Repeat_int64_run k)

def impl_Lawn_index_C (k : Nat) : Cfg := ⟨tab, mvs, oraOf [], loOf []⟩
theorem impl_Lawn_index_es (k : Nat) : ∀ e ∈ ([] : List Ent), EntOK Try.prog tab mvs e := by
  intro e he
  simp at he
def impl_Lawn_index_e (k : Nat) : Ent := (147, callOf [.agg 32, .agg 29] dec_ll fun (p : (List Int) × (List Int)) R K => (impl_Lawn_index k p.1 p.2).bind fun (b : Int) => K ((fV (.int .i64) (enc_i b)).1, none))
theorem impl_Lawn_index_run (k : Nat) (p : (List Int) × (List Int)) : runF (impl_Lawn_index_C k) Try.f147 false (fL [.agg 32, .agg 29] (enc_ll p)).1 (resK (.int .i64) dec_i) = impl_Lawn_index k p.1 p.2 := by
  kernel_rfl
theorem impl_Lawn_index_ok (k : Nat) : EntOK Try.prog tab mvs (impl_Lawn_index_e k) :=
  fn_ok (C := impl_Lawn_index_C k) tabOK eqTabOK (impl_Lawn_index_es k) rfl follows Try.func147 (by kernel_rfl) (by kernel_rfl) rfl (forall_getD _ 0 (0, Code.skip) (by kernel_rfl) fun i hi => by
      omega)
    dec_enc_ll dec_enc_i (impl_Lawn_index_run k)

def dec_giillll (ps : List Pay) : Option ((List Int → Option Bool) × Int × Int × (List Int) × (List Int) × (List Int) × (List Int)) := match ps with
  | [.g x1, .i x2, .i x3, .l x4, .l x5, .l x6, .l x7] => some (x1, x2, x3, x4, x5, x6, x7)
  | _ => none
def enc_giillll (p : (List Int → Option Bool) × Int × Int × (List Int) × (List Int) × (List Int) × (List Int)) : List Pay := [.g p.1, .i p.2.1, .i p.2.2.1, .l p.2.2.2.1, .l p.2.2.2.2.1, .l p.2.2.2.2.2.1, .l p.2.2.2.2.2.2]
theorem dec_enc_giillll : ∀ (ps : List Pay) (p : (List Int → Option Bool) × Int × Int × (List Int) × (List Int) × (List Int) × (List Int)), dec_giillll ps = some p → ps = enc_giillll p := by
  intro ps p h
  unfold dec_giillll at h
  split at h
  · injection h with h
    subst h
    rfl
  · cases h

def dec_glll (ps : List Pay) : Option ((List Int → Option Bool) × (List Int) × (List Int) × (List Int)) := match ps with
  | [.g x1, .l x2, .l x3, .l x4] => some (x1, x2, x3, x4)
  | _ => none
def enc_glll (p : (List Int → Option Bool) × (List Int) × (List Int) × (List Int)) : List Pay := [.g p.1, .l p.2.1, .l p.2.2.1, .l p.2.2.2]
theorem dec_enc_glll : ∀ (ps : List Pay) (p : (List Int → Option Bool) × (List Int) × (List Int) × (List Int)), dec_glll ps = some p → ps = enc_glll p := by
  intro ps p h
  unfold dec_glll at h
  split at h
  · injection h with h
    subst h
    rfl
  · cases h

def dec_llg (ps : List Pay) : Option ((List Int) × (List Int) × (List Int → Option Bool)) := match ps with
  | [.l x1, .l x2, .g x3] => some (x1, x2, x3)
  | _ => none
def enc_llg (p : (List Int) × (List Int) × (List Int → Option Bool)) : List Pay := [.l p.1, .l p.2.1, .g p.2.2]
theorem dec_enc_llg : ∀ (ps : List Pay) (p : (List Int) × (List Int) × (List Int → Option Bool)), dec_llg ps = some p → ps = enc_llg p := by
  intro ps p h
  unfold dec_llg at h
  split at h
  · injection h with h
    subst h
    rfl
  · cases h

def impl_Lawn_steps_t0 : StTm := ⟨78, [(2, .cloB 29), (3, .ptr 3 0 32), (7, .slw 7 2), (8, .slw 8 29), (35, .slw 35 29), (36, .int .i64), (37, .int .i64)], [(3, 32, true, .ints), (7, 2, false, .ints), (8, 29, false, .ints), (35, 29, false, .ints)]⟩
def impl_Lawn_steps_t0_1 : StTm := ⟨78, [(2, .cloB 29), (3, .ptr 3 0 32), (7, .slw 7 2), (8, .slw 8 29)], [(3, 32, true, .ints), (7, 2, false, .ints), (8, 29, false, .ints)]⟩
def impl_Lawn_steps_w0 (k : Nat) (R : Type) (K : Ex → St → Option R) (rec : (List Int → Option Bool) × Int × Int × (List Int) × (List Int) × (List Int) × (List Int) → Option R) (p : (List Int → Option Bool) × Int × Int × (List Int) × (List Int) × (List Int) × (List Int)) : Option R := impl_Lawn_steps_s0 k (fun y1 y2 y3 y4 => K (.exit 2) (fSt impl_Lawn_steps_t0_1 [.g y1, .l y2, .l y3, .l y4])) (fun h1 h2 h3 h4 h5 h6 h7 => rec (h1, h2, h3, h4, h5, h6, h7)) p.1 p.2.1 p.2.2.1 p.2.2.2.1 p.2.2.2.2.1 p.2.2.2.2.2.1 p.2.2.2.2.2.2
def impl_Lawn_steps_c0 (k : Nat) : Lcall := lcallOf tab impl_Lawn_steps_t0 dec_giillll [2, 3, 7, 8, 35, 36, 37] k (impl_Lawn_steps_w0 k)
def impl_Lawn_steps_t1 : StTm := ⟨78, [(2, .cloB 29), (3, .ptr 3 0 32), (7, .slw 7 2), (8, .slw 8 29)], [(3, 32, true, .ints), (7, 2, false, .ints), (8, 29, false, .ints)]⟩
def impl_Lawn_steps_t1_1 : StTm := ⟨78, [(7, .slw 7 2)], [(7, 2, false, .ints)]⟩
def impl_Lawn_steps_w1 (k : Nat) (R : Type) (K : Ex → St → Option R) (rec : (List Int → Option Bool) × (List Int) × (List Int) × (List Int) → Option R) (p : (List Int → Option Bool) × (List Int) × (List Int) × (List Int)) : Option R := impl_Lawn_steps_s1 k (fun y1 => K (.exit 0) (fSt impl_Lawn_steps_t1_1 [.l y1])) (fun h1 h2 h3 h4 => rec (h1, h2, h3, h4)) p.1 p.2.1 p.2.2.1 p.2.2.2
def impl_Lawn_steps_c1 (k : Nat) : Lcall := lcallOf tab impl_Lawn_steps_t1 dec_glll [2, 3, 7, 8] k (impl_Lawn_steps_w1 k)
def impl_Lawn_steps_C (k : Nat) : Cfg := ⟨tab, mvs, oraOf [slices_Repeat_int64_e k, impl_Lawn_index_e k, impl_beside_e k, impl_Lawn_has_e k], loOf [(2, impl_Lawn_steps_c0 k), (0, impl_Lawn_steps_c1 k)]⟩
theorem impl_Lawn_steps_es (k : Nat) : ∀ e ∈ ([slices_Repeat_int64_e k, impl_Lawn_index_e k, impl_beside_e k, impl_Lawn_has_e k] : List Ent), EntOK Try.prog tab mvs e := by
  intro e he
  simp only [List.mem_cons, List.not_mem_nil, or_false] at he
  rcases he with rfl | rfl | rfl | rfl
  · exact slices_Repeat_int64_ok k
  · exact impl_Lawn_index_ok k
  · exact impl_beside_ok k
  · exact impl_Lawn_has_ok k
theorem impl_Lawn_steps_step0 (k : Nat) (R : Type) (K : Ex → St → Option R) (g : St → Option R) (p : (List Int → Option Bool) × Int × Int × (List Int) × (List Int) × (List Int) × (List Int)) : evCode (impl_Lawn_steps_C k) (loopP [0, 0] (0, codeOf Try.f97)).2 (loopP [0, 0] (0, codeOf Try.f97)).1 (fSt impl_Lawn_steps_t0 (enc_giillll p)) (loopK tab [2, 3, 7, 8, 35, 36, 37] [2, 3, 7, 8] [6] g K) = impl_Lawn_steps_w0 k R K (fun p => g (fSt impl_Lawn_steps_t0 (enc_giillll p))) p := by
  kernel_rfl
theorem impl_Lawn_steps_lok0 (k : Nat) : LoopOK Try.prog tab (impl_Lawn_steps_C k).lo (loopP [0, 0] (0, codeOf Try.f97)).1 (loopP [0, 0] (0, codeOf Try.f97)).2 :=
  loopOK_of (C := impl_Lawn_steps_C k) tabOK eqTabOK (oraOf_ok (impl_Lawn_steps_es k)) (oraOf_nat (impl_Lawn_steps_es k)) follows (forall_getD _ 0 (0, Code.skip) (by kernel_rfl) fun i hi => by
      omega)
    (tm := impl_Lawn_steps_t0) (dec := dec_giillll) (enc := enc_giillll) (ksIn := [2, 3, 7, 8, 35, 36, 37]) (ksOut := [2, 3, 7, 8]) (ksRet := [6]) (k := k) (step := impl_Lawn_steps_w0 k) dec_enc_giillll (fun p => by kernel_rfl) (fun s R K => by kernel_rfl) (impl_Lawn_steps_step0 k)
theorem impl_Lawn_steps_step1 (k : Nat) (R : Type) (K : Ex → St → Option R) (g : St → Option R) (p : (List Int → Option Bool) × (List Int) × (List Int) × (List Int)) : evCode (impl_Lawn_steps_C k) (loopP [0] (0, codeOf Try.f97)).2 (loopP [0] (0, codeOf Try.f97)).1 (fSt impl_Lawn_steps_t1 (enc_glll p)) (loopK tab [2, 3, 7, 8] [7] [6] g K) = impl_Lawn_steps_w1 k R K (fun p => g (fSt impl_Lawn_steps_t1 (enc_glll p))) p := by
  kernel_rfl
theorem impl_Lawn_steps_lok1 (k : Nat) : LoopOK Try.prog tab (impl_Lawn_steps_C k).lo (loopP [0] (0, codeOf Try.f97)).1 (loopP [0] (0, codeOf Try.f97)).2 :=
  loopOK_of (C := impl_Lawn_steps_C k) tabOK eqTabOK (oraOf_ok (impl_Lawn_steps_es k)) (oraOf_nat (impl_Lawn_steps_es k)) follows (forall_getD _ 1 (0, Code.skip) (by kernel_rfl) fun i hi => by
      match i, hi with
      | 0, _ => exact impl_Lawn_steps_lok0 k
      | n + 1, h => omega)
    (tm := impl_Lawn_steps_t1) (dec := dec_glll) (enc := enc_glll) (ksIn := [2, 3, 7, 8]) (ksOut := [7]) (ksRet := [6]) (k := k) (step := impl_Lawn_steps_w1 k) dec_enc_glll (fun p => by kernel_rfl) (fun s R K => by kernel_rfl) (impl_Lawn_steps_step1 k)
def impl_Lawn_steps_e (k : Nat) : Ent := (97, callOf [.agg 32, .agg 29, .cloB 29] dec_llg fun (p : (List Int) × (List Int) × (List Int → Option Bool)) R K => (impl_Lawn_steps k p.1 p.2.1 p.2.2).bind fun (b : (List Int)) => K ((fV (.slv 2) (enc_l b)).1, none))
theorem impl_Lawn_steps_run (k : Nat) (p : (List Int) × (List Int) × (List Int → Option Bool)) : runF (impl_Lawn_steps_C k) Try.f97 false (fL [.agg 32, .agg 29, .cloB 29] (enc_llg p)).1 (resK (.slv 2) dec_l) = impl_Lawn_steps k p.1 p.2.1 p.2.2 := by
  kernel_rfl
theorem impl_Lawn_steps_ok (k : Nat) : EntOK Try.prog tab mvs (impl_Lawn_steps_e k) :=
  fn_ok (C := impl_Lawn_steps_C k) tabOK eqTabOK (impl_Lawn_steps_es k) rfl follows Try.func97 (by kernel_rfl) (by kernel_rfl) rfl (forall_getD _ 1 (0, Code.skip) (by kernel_rfl) fun i hi => by
      match i, hi with
      | 0, _ => exact impl_Lawn_steps_lok1 k
      | n + 1, h => omega)
    dec_enc_llg dec_enc_l (impl_Lawn_steps_run k)

def impl_StepsFrom_C (k : Nat) : Cfg := ⟨tab, mvs, oraOf [impl_openCode_e k, impl_Lawn_open_e k, impl_Lawn_steps_e k], loOf []⟩
theorem impl_StepsFrom_es (k : Nat) : ∀ e ∈ ([impl_openCode_e k, impl_Lawn_open_e k, impl_Lawn_steps_e k] : List Ent), EntOK Try.prog tab mvs e := by
  intro e he
  simp only [List.mem_cons, List.not_mem_nil, or_false] at he
  rcases he with rfl | rfl | rfl
  · exact impl_openCode_ok k
  · exact impl_Lawn_open_ok k
  · exact impl_Lawn_steps_ok k
def impl_StepsFrom_e (k : Nat) : Ent := (34, callOf [.agg 32, .agg 29] dec_ll fun (p : (List Int) × (List Int)) R K => (impl_StepsFrom k p.1 p.2).bind fun (b : (List Int) × Int) => K ((fV (.tup [.slv 2, .int .i64]) (enc_li b)).1, none))
theorem impl_StepsFrom_run (k : Nat) (p : (List Int) × (List Int)) : runF (impl_StepsFrom_C k) Try.f34 false (fL [.agg 32, .agg 29] (enc_ll p)).1 (resK (.tup [.slv 2, .int .i64]) dec_li) = impl_StepsFrom k p.1 p.2 := by
  kernel_rfl
theorem impl_StepsFrom_ok (k : Nat) : EntOK Try.prog tab mvs (impl_StepsFrom_e k) :=
  fn_ok (C := impl_StepsFrom_C k) tabOK eqTabOK (impl_StepsFrom_es k) rfl follows Try.func34 (by kernel_rfl) (by kernel_rfl) rfl (forall_getD _ 0 (0, Code.skip) (by kernel_rfl) fun i hi => by
      omega)
    dec_enc_ll dec_enc_li (impl_StepsFrom_run k)

def laws_eqInt64S_t0 : StTm := ⟨26, [(0, .slv 2), (1, .slv 2), (5, .int .i64)], []⟩
def laws_eqInt64S_t0_1 : StTm := ⟨26, [(4, .bool)], []⟩
def laws_eqInt64S_t0_2 : StTm := ⟨26, [], []⟩
def laws_eqInt64S_w0 (k : Nat) (R : Type) (K : Ex → St → Option R) (rec : (List Int) × (List Int) × Int → Option R) (p : (List Int) × (List Int) × Int) : Option R := laws_eqInt64S_s0 k (fun y1 => K .ret (fSt laws_eqInt64S_t0_1 [.b y1])) (K (.exit 0) (fSt laws_eqInt64S_t0_2 [])) (fun h1 h2 h3 => rec (h1, h2, h3)) p.1 p.2.1 p.2.2
def laws_eqInt64S_c0 (k : Nat) : Lcall := lcallOf tab laws_eqInt64S_t0 dec_lli [0, 1, 5] k (laws_eqInt64S_w0 k)
def laws_eqInt64S_C (k : Nat) : Cfg := ⟨tab, mvs, oraOf [], loOf [(0, laws_eqInt64S_c0 k)]⟩
theorem laws_eqInt64S_es (k : Nat) : ∀ e ∈ ([] : List Ent), EntOK Try.prog tab mvs e := by
  intro e he
  simp at he
theorem laws_eqInt64S_step0 (k : Nat) (R : Type) (K : Ex → St → Option R) (g : St → Option R) (p : (List Int) × (List Int) × Int) : evCode (laws_eqInt64S_C k) (loopP [0] (0, codeOf Try.f35)).2 (loopP [0] (0, codeOf Try.f35)).1 (fSt laws_eqInt64S_t0 (enc_lli p)) (loopK tab [0, 1, 5] [] [4] g K) = laws_eqInt64S_w0 k R K (fun p => g (fSt laws_eqInt64S_t0 (enc_lli p))) p := by
  kernel_rfl
theorem laws_eqInt64S_lok0 (k : Nat) : LoopOK Try.prog tab (laws_eqInt64S_C k).lo (loopP [0] (0, codeOf Try.f35)).1 (loopP [0] (0, codeOf Try.f35)).2 :=
  loopOK_of (C := laws_eqInt64S_C k) tabOK eqTabOK (oraOf_ok (laws_eqInt64S_es k)) (oraOf_nat (laws_eqInt64S_es k)) follows (forall_getD _ 0 (0, Code.skip) (by kernel_rfl) fun i hi => by
      omega)
    (tm := laws_eqInt64S_t0) (dec := dec_lli) (enc := enc_lli) (ksIn := [0, 1, 5]) (ksOut := []) (ksRet := [4]) (k := k) (step := laws_eqInt64S_w0 k) dec_enc_lli (fun p => by kernel_rfl) (fun s R K => by kernel_rfl) (laws_eqInt64S_step0 k)
def laws_eqInt64S_e (k : Nat) : Ent := (35, callOf [.slv 2, .slv 2] dec_ll fun (p : (List Int) × (List Int)) R K => (laws_eqInt64S k p.1 p.2).bind fun (b : Bool) => K ((fV (.bool) (enc_b b)).1, none))
theorem laws_eqInt64S_run (k : Nat) (p : (List Int) × (List Int)) : runF (laws_eqInt64S_C k) Try.f35 false (fL [.slv 2, .slv 2] (enc_ll p)).1 (resK (.bool) dec_b) = laws_eqInt64S k p.1 p.2 := by
  kernel_rfl
theorem laws_eqInt64S_ok (k : Nat) : EntOK Try.prog tab mvs (laws_eqInt64S_e k) :=
  fn_ok (C := laws_eqInt64S_C k) tabOK eqTabOK (laws_eqInt64S_es k) rfl follows Try.func35 (by kernel_rfl) (by kernel_rfl) rfl (forall_getD _ 1 (0, Code.skip) (by kernel_rfl) fun i hi => by
      match i, hi with
      | 0, _ => exact laws_eqInt64S_lok0 k
      | n + 1, h => omega)
    dec_enc_ll dec_enc_b (laws_eqInt64S_run k)

def laws_markInt64S_t0 : StTm := ⟨19, [(0, .slw 19 2), (1, .int .i64), (5, .int .i64)], [(19, 2, false, .ints)]⟩
def laws_markInt64S_t0_1 : StTm := ⟨19, [(1, .int .i64)], [(19, 2, false, .ints)]⟩
def laws_markInt64S_w0 (k : Nat) (R : Type) (K : Ex → St → Option R) (rec : Int × Int × (List Int) → Option R) (p : Int × Int × (List Int)) : Option R := laws_markInt64S_s0 k (fun y1 y2 => K (.exit 0) (fSt laws_markInt64S_t0_1 [.i y1, .l y2])) (fun h1 h2 h3 => rec (h1, h2, h3)) p.1 p.2.1 p.2.2
def laws_markInt64S_c0 (k : Nat) : Lcall := lcallOf tab laws_markInt64S_t0 dec_iil [0, 1, 5] k (laws_markInt64S_w0 k)
def laws_markInt64S_C (k : Nat) : Cfg := ⟨tab, mvs, oraOf [], loOf [(0, laws_markInt64S_c0 k)]⟩
theorem laws_markInt64S_es (k : Nat) : ∀ e ∈ ([] : List Ent), EntOK Try.prog tab mvs e := by
  intro e he
  simp at he
theorem laws_markInt64S_step0 (k : Nat) (R : Type) (K : Ex → St → Option R) (g : St → Option R) (p : Int × Int × (List Int)) : evCode (laws_markInt64S_C k) (loopP [0] (0, codeOf Try.f36)).2 (loopP [0] (0, codeOf Try.f36)).1 (fSt laws_markInt64S_t0 (enc_iil p)) (loopK tab [0, 1, 5] [1] [4] g K) = laws_markInt64S_w0 k R K (fun p => g (fSt laws_markInt64S_t0 (enc_iil p))) p := by
  kernel_rfl
theorem laws_markInt64S_lok0 (k : Nat) : LoopOK Try.prog tab (laws_markInt64S_C k).lo (loopP [0] (0, codeOf Try.f36)).1 (loopP [0] (0, codeOf Try.f36)).2 :=
  loopOK_of (C := laws_markInt64S_C k) tabOK eqTabOK (oraOf_ok (laws_markInt64S_es k)) (oraOf_nat (laws_markInt64S_es k)) follows (forall_getD _ 0 (0, Code.skip) (by kernel_rfl) fun i hi => by
      omega)
    (tm := laws_markInt64S_t0) (dec := dec_iil) (enc := enc_iil) (ksIn := [0, 1, 5]) (ksOut := [1]) (ksRet := [4]) (k := k) (step := laws_markInt64S_w0 k) dec_enc_iil (fun p => by kernel_rfl) (fun s R K => by kernel_rfl) (laws_markInt64S_step0 k)
def laws_markInt64S_e (k : Nat) : Ent := (36, callOf [.slv 2, .int .i64] dec_li fun (p : (List Int) × Int) R K => (laws_markInt64S k p.1 p.2).bind fun (b : (Int) × List Int) => K ((fV (.int .i64) (enc_i b.1)).1, some b.2))
theorem laws_markInt64S_run (k : Nat) (p : (List Int) × Int) : runF (laws_markInt64S_C k) Try.f36 true (fL [.slv 2, .int .i64] (enc_li p)).1 (resB (.int .i64) dec_i) = laws_markInt64S k p.1 p.2 := by
  kernel_rfl
theorem laws_markInt64S_ok (k : Nat) : EntOK Try.prog tab mvs (laws_markInt64S_e k) :=
  fnb_ok (C := laws_markInt64S_C k) tabOK eqTabOK (laws_markInt64S_es k) rfl follows Try.func36 (by kernel_rfl) (by kernel_rfl) rfl (forall_getD _ 1 (0, Code.skip) (by kernel_rfl) fun i hi => by
      match i, hi with
      | 0, _ => exact laws_markInt64S_lok0 k
      | n + 1, h => omega)
    dec_enc_li dec_enc_i (laws_markInt64S_run k)

def laws_heldInt64S_t0 : StTm := ⟨21, [(0, .slv 2), (1, .int .i64), (5, .int .i64)], []⟩
def laws_heldInt64S_t0_1 : StTm := ⟨21, [(4, .int .i64)], []⟩
def laws_heldInt64S_t0_2 : StTm := ⟨21, [(1, .int .i64)], []⟩
def laws_heldInt64S_w0 (k : Nat) (R : Type) (K : Ex → St → Option R) (rec : (List Int) × Int × Int → Option R) (p : (List Int) × Int × Int) : Option R := laws_heldInt64S_s0 k (fun y1 => K .ret (fSt laws_heldInt64S_t0_1 [.i y1])) (fun y1 => K (.exit 0) (fSt laws_heldInt64S_t0_2 [.i y1])) (fun h1 h2 h3 => rec (h1, h2, h3)) p.1 p.2.1 p.2.2
def laws_heldInt64S_c0 (k : Nat) : Lcall := lcallOf tab laws_heldInt64S_t0 dec_lii [0, 1, 5] k (laws_heldInt64S_w0 k)
def laws_heldInt64S_C (k : Nat) : Cfg := ⟨tab, mvs, oraOf [], loOf [(0, laws_heldInt64S_c0 k)]⟩
theorem laws_heldInt64S_es (k : Nat) : ∀ e ∈ ([] : List Ent), EntOK Try.prog tab mvs e := by
  intro e he
  simp at he
theorem laws_heldInt64S_step0 (k : Nat) (R : Type) (K : Ex → St → Option R) (g : St → Option R) (p : (List Int) × Int × Int) : evCode (laws_heldInt64S_C k) (loopP [0] (0, codeOf Try.f37)).2 (loopP [0] (0, codeOf Try.f37)).1 (fSt laws_heldInt64S_t0 (enc_lii p)) (loopK tab [0, 1, 5] [1] [4] g K) = laws_heldInt64S_w0 k R K (fun p => g (fSt laws_heldInt64S_t0 (enc_lii p))) p := by
  kernel_rfl
theorem laws_heldInt64S_lok0 (k : Nat) : LoopOK Try.prog tab (laws_heldInt64S_C k).lo (loopP [0] (0, codeOf Try.f37)).1 (loopP [0] (0, codeOf Try.f37)).2 :=
  loopOK_of (C := laws_heldInt64S_C k) tabOK eqTabOK (oraOf_ok (laws_heldInt64S_es k)) (oraOf_nat (laws_heldInt64S_es k)) follows (forall_getD _ 0 (0, Code.skip) (by kernel_rfl) fun i hi => by
      omega)
    (tm := laws_heldInt64S_t0) (dec := dec_lii) (enc := enc_lii) (ksIn := [0, 1, 5]) (ksOut := [1]) (ksRet := [4]) (k := k) (step := laws_heldInt64S_w0 k) dec_enc_lii (fun p => by kernel_rfl) (fun s R K => by kernel_rfl) (laws_heldInt64S_step0 k)
def laws_heldInt64S_e (k : Nat) : Ent := (37, callOf [.slv 2, .int .i64] dec_li fun (p : (List Int) × Int) R K => (laws_heldInt64S k p.1 p.2).bind fun (b : Int) => K ((fV (.int .i64) (enc_i b)).1, none))
theorem laws_heldInt64S_run (k : Nat) (p : (List Int) × Int) : runF (laws_heldInt64S_C k) Try.f37 false (fL [.slv 2, .int .i64] (enc_li p)).1 (resK (.int .i64) dec_i) = laws_heldInt64S k p.1 p.2 := by
  kernel_rfl
theorem laws_heldInt64S_ok (k : Nat) : EntOK Try.prog tab mvs (laws_heldInt64S_e k) :=
  fn_ok (C := laws_heldInt64S_C k) tabOK eqTabOK (laws_heldInt64S_es k) rfl follows Try.func37 (by kernel_rfl) (by kernel_rfl) rfl (forall_getD _ 1 (0, Code.skip) (by kernel_rfl) fun i hi => by
      match i, hi with
      | 0, _ => exact laws_heldInt64S_lok0 k
      | n + 1, h => omega)
    dec_enc_li dec_enc_i (laws_heldInt64S_run k)

def laws_FnExactStepsFrom_C (k : Nat) : Cfg := ⟨tab, mvs, oraOf [laws_toLawn_e k, laws_toCell_e k, spec_StepsFrom_e k, impl_StepsFrom_e k, laws_eqInt64S_e k, laws_markInt64S_e k, laws_heldInt64S_e k], loOf []⟩
theorem laws_FnExactStepsFrom_es (k : Nat) : ∀ e ∈ ([laws_toLawn_e k, laws_toCell_e k, spec_StepsFrom_e k, impl_StepsFrom_e k, laws_eqInt64S_e k, laws_markInt64S_e k, laws_heldInt64S_e k] : List Ent), EntOK Try.prog tab mvs e := by
  intro e he
  simp only [List.mem_cons, List.not_mem_nil, or_false] at he
  rcases he with rfl | rfl | rfl | rfl | rfl | rfl | rfl
  · exact laws_toLawn_ok k
  · exact laws_toCell_ok k
  · exact spec_StepsFrom_ok k
  · exact impl_StepsFrom_ok k
  · exact laws_eqInt64S_ok k
  · exact laws_markInt64S_ok k
  · exact laws_heldInt64S_ok k
def laws_FnExactStepsFrom_e (k : Nat) : Ent := (8, callOf [.agg 26, .agg 28] dec_ll fun (p : (List Int) × (List Int)) R K => (laws_FnExactStepsFrom k p.1 p.2).bind fun (b : Bool) => K ((fV (.bool) (enc_b b)).1, none))
theorem laws_FnExactStepsFrom_run (k : Nat) (p : (List Int) × (List Int)) : runF (laws_FnExactStepsFrom_C k) Try.f8 false (fL [.agg 26, .agg 28] (enc_ll p)).1 (resK (.bool) dec_b) = laws_FnExactStepsFrom k p.1 p.2 := by
  kernel_rfl
theorem laws_FnExactStepsFrom_ok (k : Nat) : EntOK Try.prog tab mvs (laws_FnExactStepsFrom_e k) :=
  fn_ok (C := laws_FnExactStepsFrom_C k) tabOK eqTabOK (laws_FnExactStepsFrom_es k) rfl follows Try.func8 (by kernel_rfl) (by kernel_rfl) rfl (forall_getD _ 0 (0, Code.skip) (by kernel_rfl) fun i hi => by
      omega)
    dec_enc_ll dec_enc_b (laws_FnExactStepsFrom_run k)

def dec_sillll (ps : List Pay) : Option (ByteArray × Int × (List Int) × (List Int) × (List Int) × (List Int)) := match ps with
  | [.s x1, .i x2, .l x3, .l x4, .l x5, .l x6] => some (x1, x2, x3, x4, x5, x6)
  | _ => none
def enc_sillll (p : ByteArray × Int × (List Int) × (List Int) × (List Int) × (List Int)) : List Pay := [.s p.1, .i p.2.1, .l p.2.2.1, .l p.2.2.2.1, .l p.2.2.2.2.1, .l p.2.2.2.2.2]
theorem dec_enc_sillll : ∀ (ps : List Pay) (p : ByteArray × Int × (List Int) × (List Int) × (List Int) × (List Int)), dec_sillll ps = some p → ps = enc_sillll p := by
  intro ps p h
  unfold dec_sillll at h
  split at h
  · injection h with h
    subst h
    rfl
  · cases h

def dec_sllll (ps : List Pay) : Option (ByteArray × (List Int) × (List Int) × (List Int) × (List Int)) := match ps with
  | [.s x1, .l x2, .l x3, .l x4, .l x5] => some (x1, x2, x3, x4, x5)
  | _ => none
def enc_sllll (p : ByteArray × (List Int) × (List Int) × (List Int) × (List Int)) : List Pay := [.s p.1, .l p.2.1, .l p.2.2.1, .l p.2.2.2.1, .l p.2.2.2.2]
theorem dec_enc_sllll : ∀ (ps : List Pay) (p : ByteArray × (List Int) × (List Int) × (List Int) × (List Int)), dec_sllll ps = some p → ps = enc_sllll p := by
  intro ps p h
  unfold dec_sllll at h
  split at h
  · injection h with h
    subst h
    rfl
  · cases h

def spec_HomeFrom_t0 : StTm := ⟨79, [(3, .ptr 3 0 32), (4, .ptr 4 0 29), (5, .ptr 5 0 29), (9, .ptr 9 0 123), (10, .str), (11, .int .i64)], [(3, 32, true, .ints), (4, 29, true, .ints), (5, 29, true, .ints), (9, 123, true, .ints)]⟩
def spec_HomeFrom_t0_1 : StTm := ⟨79, [(3, .ptr 3 0 32), (4, .ptr 4 0 29), (5, .ptr 5 0 29), (9, .ptr 9 0 123), (10, .str)], [(3, 32, true, .ints), (4, 29, true, .ints), (5, 29, true, .ints), (9, 123, true, .ints)]⟩
def spec_HomeFrom_w0 (k : Nat) (R : Type) (K : Ex → St → Option R) (rec : ByteArray × Int × (List Int) × (List Int) × (List Int) × (List Int) → Option R) (p : ByteArray × Int × (List Int) × (List Int) × (List Int) × (List Int)) : Option R := spec_HomeFrom_s0 k (fun y1 y2 y3 y4 y5 => K (.exit 2) (fSt spec_HomeFrom_t0_1 [.s y1, .l y2, .l y3, .l y4, .l y5])) (fun h1 h2 h3 h4 h5 h6 => rec (h1, h2, h3, h4, h5, h6)) p.1 p.2.1 p.2.2.1 p.2.2.2.1 p.2.2.2.2.1 p.2.2.2.2.2
def spec_HomeFrom_c0 (k : Nat) : Lcall := lcallOf tab spec_HomeFrom_t0 dec_sillll [3, 4, 5, 9, 10, 11] k (spec_HomeFrom_w0 k)
def spec_HomeFrom_t1 : StTm := ⟨79, [(3, .ptr 3 0 32), (4, .ptr 4 0 29), (5, .ptr 5 0 29), (9, .ptr 9 0 123), (10, .str)], [(3, 32, true, .ints), (4, 29, true, .ints), (5, 29, true, .ints), (9, 123, true, .ints)]⟩
def spec_HomeFrom_t1_1 : StTm := ⟨79, [(10, .str)], []⟩
def spec_HomeFrom_w1 (k : Nat) (R : Type) (K : Ex → St → Option R) (rec : ByteArray × (List Int) × (List Int) × (List Int) × (List Int) → Option R) (p : ByteArray × (List Int) × (List Int) × (List Int) × (List Int)) : Option R := spec_HomeFrom_s1 k (fun y1 => K (.exit 0) (fSt spec_HomeFrom_t1_1 [.s y1])) (fun h1 h2 h3 h4 h5 => rec (h1, h2, h3, h4, h5)) p.1 p.2.1 p.2.2.1 p.2.2.2.1 p.2.2.2.2
def spec_HomeFrom_c1 (k : Nat) : Lcall := lcallOf tab spec_HomeFrom_t1 dec_sllll [3, 4, 5, 9, 10] k (spec_HomeFrom_w1 k)
def spec_HomeFrom_C (k : Nat) : Cfg := ⟨tab, mvs, oraOf [spec_l01Is_e k, spec_l01Told_e k, spec_l01Open_e k, spec_l01Reach_e k, spec_l02Next_e k, spec_l02Free_e k], loOf [(2, spec_HomeFrom_c0 k), (0, spec_HomeFrom_c1 k)]⟩
theorem spec_HomeFrom_es (k : Nat) : ∀ e ∈ ([spec_l01Is_e k, spec_l01Told_e k, spec_l01Open_e k, spec_l01Reach_e k, spec_l02Next_e k, spec_l02Free_e k] : List Ent), EntOK Try.prog tab mvs e := by
  intro e he
  simp only [List.mem_cons, List.not_mem_nil, or_false] at he
  rcases he with rfl | rfl | rfl | rfl | rfl | rfl
  · exact spec_l01Is_ok k
  · exact spec_l01Told_ok k
  · exact spec_l01Open_ok k
  · exact spec_l01Reach_ok k
  · exact spec_l02Next_ok k
  · exact spec_l02Free_ok k
theorem spec_HomeFrom_step0 (k : Nat) (R : Type) (K : Ex → St → Option R) (g : St → Option R) (p : ByteArray × Int × (List Int) × (List Int) × (List Int) × (List Int)) : evCode (spec_HomeFrom_C k) (loopP [0, 0] (0, codeOf Try.f44)).2 (loopP [0, 0] (0, codeOf Try.f44)).1 (fSt spec_HomeFrom_t0 (enc_sillll p)) (loopK tab [3, 4, 5, 9, 10, 11] [3, 4, 5, 9, 10] [6, 7] g K) = spec_HomeFrom_w0 k R K (fun p => g (fSt spec_HomeFrom_t0 (enc_sillll p))) p := by
  kernel_rfl
theorem spec_HomeFrom_lok0 (k : Nat) : LoopOK Try.prog tab (spec_HomeFrom_C k).lo (loopP [0, 0] (0, codeOf Try.f44)).1 (loopP [0, 0] (0, codeOf Try.f44)).2 :=
  loopOK_of (C := spec_HomeFrom_C k) tabOK eqTabOK (oraOf_ok (spec_HomeFrom_es k)) (oraOf_nat (spec_HomeFrom_es k)) follows (forall_getD _ 0 (0, Code.skip) (by kernel_rfl) fun i hi => by
      omega)
    (tm := spec_HomeFrom_t0) (dec := dec_sillll) (enc := enc_sillll) (ksIn := [3, 4, 5, 9, 10, 11]) (ksOut := [3, 4, 5, 9, 10]) (ksRet := [6, 7]) (k := k) (step := spec_HomeFrom_w0 k) dec_enc_sillll (fun p => by kernel_rfl) (fun s R K => by kernel_rfl) (spec_HomeFrom_step0 k)
theorem spec_HomeFrom_step1 (k : Nat) (R : Type) (K : Ex → St → Option R) (g : St → Option R) (p : ByteArray × (List Int) × (List Int) × (List Int) × (List Int)) : evCode (spec_HomeFrom_C k) (loopP [0] (0, codeOf Try.f44)).2 (loopP [0] (0, codeOf Try.f44)).1 (fSt spec_HomeFrom_t1 (enc_sllll p)) (loopK tab [3, 4, 5, 9, 10] [10] [6, 7] g K) = spec_HomeFrom_w1 k R K (fun p => g (fSt spec_HomeFrom_t1 (enc_sllll p))) p := by
  kernel_rfl
theorem spec_HomeFrom_lok1 (k : Nat) : LoopOK Try.prog tab (spec_HomeFrom_C k).lo (loopP [0] (0, codeOf Try.f44)).1 (loopP [0] (0, codeOf Try.f44)).2 :=
  loopOK_of (C := spec_HomeFrom_C k) tabOK eqTabOK (oraOf_ok (spec_HomeFrom_es k)) (oraOf_nat (spec_HomeFrom_es k)) follows (forall_getD _ 1 (0, Code.skip) (by kernel_rfl) fun i hi => by
      match i, hi with
      | 0, _ => exact spec_HomeFrom_lok0 k
      | n + 1, h => omega)
    (tm := spec_HomeFrom_t1) (dec := dec_sllll) (enc := enc_sllll) (ksIn := [3, 4, 5, 9, 10]) (ksOut := [10]) (ksRet := [6, 7]) (k := k) (step := spec_HomeFrom_w1 k) dec_enc_sllll (fun p => by kernel_rfl) (fun s R K => by kernel_rfl) (spec_HomeFrom_step1 k)
def spec_HomeFrom_e (k : Nat) : Ent := (44, callOf [.agg 32, .agg 29, .agg 29] dec_lll fun (p : (List Int) × (List Int) × (List Int)) R K => (spec_HomeFrom k p.1 p.2.1 p.2.2).bind fun (b : ByteArray × Int) => K ((fV (.tup [.str, .int .i64]) (enc_si b)).1, none))
theorem spec_HomeFrom_run (k : Nat) (p : (List Int) × (List Int) × (List Int)) : runF (spec_HomeFrom_C k) Try.f44 false (fL [.agg 32, .agg 29, .agg 29] (enc_lll p)).1 (resK (.tup [.str, .int .i64]) dec_si) = spec_HomeFrom k p.1 p.2.1 p.2.2 := by
  kernel_rfl
theorem spec_HomeFrom_ok (k : Nat) : EntOK Try.prog tab mvs (spec_HomeFrom_e k) :=
  fn_ok (C := spec_HomeFrom_C k) tabOK eqTabOK (spec_HomeFrom_es k) rfl follows Try.func44 (by kernel_rfl) (by kernel_rfl) rfl (forall_getD _ 1 (0, Code.skip) (by kernel_rfl) fun i hi => by
      match i, hi with
      | 0, _ => exact spec_HomeFrom_lok1 k
      | n + 1, h => omega)
    dec_enc_lll dec_enc_si (spec_HomeFrom_run k)

def dec_iillllll (ps : List Pay) : Option (Int × Int × (List Int) × (List Int) × (List Int) × (List Int) × (List Int) × (List Int)) := match ps with
  | [.i x1, .i x2, .l x3, .l x4, .l x5, .l x6, .l x7, .l x8] => some (x1, x2, x3, x4, x5, x6, x7, x8)
  | _ => none
def enc_iillllll (p : Int × Int × (List Int) × (List Int) × (List Int) × (List Int) × (List Int) × (List Int)) : List Pay := [.i p.1, .i p.2.1, .l p.2.2.1, .l p.2.2.2.1, .l p.2.2.2.2.1, .l p.2.2.2.2.2.1, .l p.2.2.2.2.2.2.1, .l p.2.2.2.2.2.2.2]
theorem dec_enc_iillllll : ∀ (ps : List Pay) (p : Int × Int × (List Int) × (List Int) × (List Int) × (List Int) × (List Int) × (List Int)), dec_iillllll ps = some p → ps = enc_iillllll p := by
  intro ps p h
  unfold dec_iillllll at h
  split at h
  · injection h with h
    subst h
    rfl
  · cases h

def dec_lllll (ps : List Pay) : Option ((List Int) × (List Int) × (List Int) × (List Int) × (List Int)) := match ps with
  | [.l x1, .l x2, .l x3, .l x4, .l x5] => some (x1, x2, x3, x4, x5)
  | _ => none
def enc_lllll (p : (List Int) × (List Int) × (List Int) × (List Int) × (List Int)) : List Pay := [.l p.1, .l p.2.1, .l p.2.2.1, .l p.2.2.2.1, .l p.2.2.2.2]
theorem dec_enc_lllll : ∀ (ps : List Pay) (p : (List Int) × (List Int) × (List Int) × (List Int) × (List Int)), dec_lllll ps = some p → ps = enc_lllll p := by
  intro ps p h
  unfold dec_lllll at h
  split at h
  · injection h with h
    subst h
    rfl
  · cases h

def impl_Lawn_homeward_t0 : StTm := ⟨65, [(3, .ptr 3 0 32), (5, .ptr 5 0 29), (8, .slw 8 2), (9, .slw 9 29), (10, .ptr 10 0 29), (32, .slw 32 29), (33, .int .i64), (34, .int .i64)], [(3, 32, true, .ints), (5, 29, true, .ints), (8, 2, false, .ints), (9, 29, false, .ints), (10, 29, true, .ints), (32, 29, false, .ints)]⟩
def impl_Lawn_homeward_t0_1 : StTm := ⟨65, [(3, .ptr 3 0 32), (5, .ptr 5 0 29), (8, .slw 8 2), (9, .slw 9 29), (10, .ptr 10 0 29)], [(3, 32, true, .ints), (5, 29, true, .ints), (8, 2, false, .ints), (9, 29, false, .ints), (10, 29, true, .ints)]⟩
def impl_Lawn_homeward_w0 (k : Nat) (R : Type) (K : Ex → St → Option R) (rec : Int × Int × (List Int) × (List Int) × (List Int) × (List Int) × (List Int) × (List Int) → Option R) (p : Int × Int × (List Int) × (List Int) × (List Int) × (List Int) × (List Int) × (List Int)) : Option R := impl_Lawn_homeward_s0 k (fun y1 y2 y3 y4 y5 => K (.exit 2) (fSt impl_Lawn_homeward_t0_1 [.l y1, .l y2, .l y3, .l y4, .l y5])) (fun h1 h2 h3 h4 h5 h6 h7 h8 => rec (h1, h2, h3, h4, h5, h6, h7, h8)) p.1 p.2.1 p.2.2.1 p.2.2.2.1 p.2.2.2.2.1 p.2.2.2.2.2.1 p.2.2.2.2.2.2.1 p.2.2.2.2.2.2.2
def impl_Lawn_homeward_c0 (k : Nat) : Lcall := lcallOf tab impl_Lawn_homeward_t0 dec_iillllll [3, 5, 8, 9, 10, 32, 33, 34] k (impl_Lawn_homeward_w0 k)
def impl_Lawn_homeward_t1 : StTm := ⟨65, [(3, .ptr 3 0 32), (5, .ptr 5 0 29), (8, .slw 8 2), (9, .slw 9 29), (10, .ptr 10 0 29)], [(3, 32, true, .ints), (5, 29, true, .ints), (8, 2, false, .ints), (9, 29, false, .ints), (10, 29, true, .ints)]⟩
def impl_Lawn_homeward_t1_1 : StTm := ⟨65, [(9, .slw 9 29)], [(9, 29, false, .ints)]⟩
def impl_Lawn_homeward_w1 (k : Nat) (R : Type) (K : Ex → St → Option R) (rec : (List Int) × (List Int) × (List Int) × (List Int) × (List Int) → Option R) (p : (List Int) × (List Int) × (List Int) × (List Int) × (List Int)) : Option R := impl_Lawn_homeward_s1 k (fun y1 => K (.exit 0) (fSt impl_Lawn_homeward_t1_1 [.l y1])) (fun h1 h2 h3 h4 h5 => rec (h1, h2, h3, h4, h5)) p.1 p.2.1 p.2.2.1 p.2.2.2.1 p.2.2.2.2
def impl_Lawn_homeward_c1 (k : Nat) : Lcall := lcallOf tab impl_Lawn_homeward_t1 dec_lllll [3, 5, 8, 9, 10] k (impl_Lawn_homeward_w1 k)
def impl_Lawn_homeward_C (k : Nat) : Cfg := ⟨tab, mvs, oraOf [impl_Lawn_open_e k, impl_Lawn_steps_e k, impl_Lawn_index_e k, impl_beside_e k], loOf [(2, impl_Lawn_homeward_c0 k), (0, impl_Lawn_homeward_c1 k)]⟩
theorem impl_Lawn_homeward_es (k : Nat) : ∀ e ∈ ([impl_Lawn_open_e k, impl_Lawn_steps_e k, impl_Lawn_index_e k, impl_beside_e k] : List Ent), EntOK Try.prog tab mvs e := by
  intro e he
  simp only [List.mem_cons, List.not_mem_nil, or_false] at he
  rcases he with rfl | rfl | rfl | rfl
  · exact impl_Lawn_open_ok k
  · exact impl_Lawn_steps_ok k
  · exact impl_Lawn_index_ok k
  · exact impl_beside_ok k
theorem impl_Lawn_homeward_step0 (k : Nat) (R : Type) (K : Ex → St → Option R) (g : St → Option R) (p : Int × Int × (List Int) × (List Int) × (List Int) × (List Int) × (List Int) × (List Int)) : evCode (impl_Lawn_homeward_C k) (loopP [0, 0] (0, codeOf Try.f107)).2 (loopP [0, 0] (0, codeOf Try.f107)).1 (fSt impl_Lawn_homeward_t0 (enc_iillllll p)) (loopK tab [3, 5, 8, 9, 10, 32, 33, 34] [3, 5, 8, 9, 10] [6, 7] g K) = impl_Lawn_homeward_w0 k R K (fun p => g (fSt impl_Lawn_homeward_t0 (enc_iillllll p))) p := by
  kernel_rfl
theorem impl_Lawn_homeward_lok0 (k : Nat) : LoopOK Try.prog tab (impl_Lawn_homeward_C k).lo (loopP [0, 0] (0, codeOf Try.f107)).1 (loopP [0, 0] (0, codeOf Try.f107)).2 :=
  loopOK_of (C := impl_Lawn_homeward_C k) tabOK eqTabOK (oraOf_ok (impl_Lawn_homeward_es k)) (oraOf_nat (impl_Lawn_homeward_es k)) follows (forall_getD _ 0 (0, Code.skip) (by kernel_rfl) fun i hi => by
      omega)
    (tm := impl_Lawn_homeward_t0) (dec := dec_iillllll) (enc := enc_iillllll) (ksIn := [3, 5, 8, 9, 10, 32, 33, 34]) (ksOut := [3, 5, 8, 9, 10]) (ksRet := [6, 7]) (k := k) (step := impl_Lawn_homeward_w0 k) dec_enc_iillllll (fun p => by kernel_rfl) (fun s R K => by kernel_rfl) (impl_Lawn_homeward_step0 k)
theorem impl_Lawn_homeward_step1 (k : Nat) (R : Type) (K : Ex → St → Option R) (g : St → Option R) (p : (List Int) × (List Int) × (List Int) × (List Int) × (List Int)) : evCode (impl_Lawn_homeward_C k) (loopP [0] (0, codeOf Try.f107)).2 (loopP [0] (0, codeOf Try.f107)).1 (fSt impl_Lawn_homeward_t1 (enc_lllll p)) (loopK tab [3, 5, 8, 9, 10] [9] [6, 7] g K) = impl_Lawn_homeward_w1 k R K (fun p => g (fSt impl_Lawn_homeward_t1 (enc_lllll p))) p := by
  kernel_rfl
theorem impl_Lawn_homeward_lok1 (k : Nat) : LoopOK Try.prog tab (impl_Lawn_homeward_C k).lo (loopP [0] (0, codeOf Try.f107)).1 (loopP [0] (0, codeOf Try.f107)).2 :=
  loopOK_of (C := impl_Lawn_homeward_C k) tabOK eqTabOK (oraOf_ok (impl_Lawn_homeward_es k)) (oraOf_nat (impl_Lawn_homeward_es k)) follows (forall_getD _ 1 (0, Code.skip) (by kernel_rfl) fun i hi => by
      match i, hi with
      | 0, _ => exact impl_Lawn_homeward_lok0 k
      | n + 1, h => omega)
    (tm := impl_Lawn_homeward_t1) (dec := dec_lllll) (enc := enc_lllll) (ksIn := [3, 5, 8, 9, 10]) (ksOut := [9]) (ksRet := [6, 7]) (k := k) (step := impl_Lawn_homeward_w1 k) dec_enc_lllll (fun p => by kernel_rfl) (fun s R K => by kernel_rfl) (impl_Lawn_homeward_step1 k)
def impl_Lawn_homeward_e (k : Nat) : Ent := (107, callOf [.agg 32, .agg 29, .agg 29] dec_lll fun (p : (List Int) × (List Int) × (List Int)) R K => (impl_Lawn_homeward k p.1 p.2.1 p.2.2).bind fun (b : (List Int) × Bool) => K ((fV (.tup [.slv 29, .bool]) (enc_lb b)).1, none))
theorem impl_Lawn_homeward_run (k : Nat) (p : (List Int) × (List Int) × (List Int)) : runF (impl_Lawn_homeward_C k) Try.f107 false (fL [.agg 32, .agg 29, .agg 29] (enc_lll p)).1 (resK (.tup [.slv 29, .bool]) dec_lb) = impl_Lawn_homeward k p.1 p.2.1 p.2.2 := by
  kernel_rfl
theorem impl_Lawn_homeward_ok (k : Nat) : EntOK Try.prog tab mvs (impl_Lawn_homeward_e k) :=
  fn_ok (C := impl_Lawn_homeward_C k) tabOK eqTabOK (impl_Lawn_homeward_es k) rfl follows Try.func107 (by kernel_rfl) (by kernel_rfl) rfl (forall_getD _ 1 (0, Code.skip) (by kernel_rfl) fun i hi => by
      match i, hi with
      | 0, _ => exact impl_Lawn_homeward_lok1 k
      | n + 1, h => omega)
    dec_enc_lll dec_enc_lb (impl_Lawn_homeward_run k)

def dec_siil (ps : List Pay) : Option (ByteArray × Int × Int × (List Int)) := match ps with
  | [.s x1, .i x2, .i x3, .l x4] => some (x1, x2, x3, x4)
  | _ => none
def enc_siil (p : ByteArray × Int × Int × (List Int)) : List Pay := [.s p.1, .i p.2.1, .i p.2.2.1, .l p.2.2.2]
theorem dec_enc_siil : ∀ (ps : List Pay) (p : ByteArray × Int × Int × (List Int)), dec_siil ps = some p → ps = enc_siil p := by
  intro ps p h
  unfold dec_siil at h
  split at h
  · injection h with h
    subst h
    rfl
  · cases h

def impl_HomeFrom_t0 : StTm := ⟨56, [(9, .slw 9 29), (11, .str), (33, .int .i64), (34, .int .i64)], [(9, 29, false, .ints)]⟩
def impl_HomeFrom_t0_1 : StTm := ⟨56, [(11, .str)], []⟩
def impl_HomeFrom_w0 (k : Nat) (R : Type) (K : Ex → St → Option R) (rec : ByteArray × Int × Int × (List Int) → Option R) (p : ByteArray × Int × Int × (List Int)) : Option R := impl_HomeFrom_s0 k (fun y1 => K (.exit 0) (fSt impl_HomeFrom_t0_1 [.s y1])) (fun h1 h2 h3 h4 => rec (h1, h2, h3, h4)) p.1 p.2.1 p.2.2.1 p.2.2.2
def impl_HomeFrom_c0 (k : Nat) : Lcall := lcallOf tab impl_HomeFrom_t0 dec_siil [9, 11, 33, 34] k (impl_HomeFrom_w0 k)
def impl_HomeFrom_C (k : Nat) : Cfg := ⟨tab, mvs, oraOf [impl_openCode_e k, impl_Lawn_homeward_e k, impl_beside_e k, slices_Index_impl_Cell_e k], loOf [(0, impl_HomeFrom_c0 k)]⟩
theorem impl_HomeFrom_es (k : Nat) : ∀ e ∈ ([impl_openCode_e k, impl_Lawn_homeward_e k, impl_beside_e k, slices_Index_impl_Cell_e k] : List Ent), EntOK Try.prog tab mvs e := by
  intro e he
  simp only [List.mem_cons, List.not_mem_nil, or_false] at he
  rcases he with rfl | rfl | rfl | rfl
  · exact impl_openCode_ok k
  · exact impl_Lawn_homeward_ok k
  · exact impl_beside_ok k
  · exact slices_Index_impl_Cell_ok k
theorem impl_HomeFrom_step0 (k : Nat) (R : Type) (K : Ex → St → Option R) (g : St → Option R) (p : ByteArray × Int × Int × (List Int)) : evCode (impl_HomeFrom_C k) (loopP [0] (0, codeOf Try.f45)).2 (loopP [0] (0, codeOf Try.f45)).1 (fSt impl_HomeFrom_t0 (enc_siil p)) (loopK tab [9, 11, 33, 34] [11] [6, 7] g K) = impl_HomeFrom_w0 k R K (fun p => g (fSt impl_HomeFrom_t0 (enc_siil p))) p := by
  kernel_rfl
theorem impl_HomeFrom_lok0 (k : Nat) : LoopOK Try.prog tab (impl_HomeFrom_C k).lo (loopP [0] (0, codeOf Try.f45)).1 (loopP [0] (0, codeOf Try.f45)).2 :=
  loopOK_of (C := impl_HomeFrom_C k) tabOK eqTabOK (oraOf_ok (impl_HomeFrom_es k)) (oraOf_nat (impl_HomeFrom_es k)) follows (forall_getD _ 0 (0, Code.skip) (by kernel_rfl) fun i hi => by
      omega)
    (tm := impl_HomeFrom_t0) (dec := dec_siil) (enc := enc_siil) (ksIn := [9, 11, 33, 34]) (ksOut := [11]) (ksRet := [6, 7]) (k := k) (step := impl_HomeFrom_w0 k) dec_enc_siil (fun p => by kernel_rfl) (fun s R K => by kernel_rfl) (impl_HomeFrom_step0 k)
def impl_HomeFrom_e (k : Nat) : Ent := (45, callOf [.agg 32, .agg 29, .agg 29] dec_lll fun (p : (List Int) × (List Int) × (List Int)) R K => (impl_HomeFrom k p.1 p.2.1 p.2.2).bind fun (b : ByteArray × Int) => K ((fV (.tup [.str, .int .i64]) (enc_si b)).1, none))
theorem impl_HomeFrom_run (k : Nat) (p : (List Int) × (List Int) × (List Int)) : runF (impl_HomeFrom_C k) Try.f45 false (fL [.agg 32, .agg 29, .agg 29] (enc_lll p)).1 (resK (.tup [.str, .int .i64]) dec_si) = impl_HomeFrom k p.1 p.2.1 p.2.2 := by
  kernel_rfl
theorem impl_HomeFrom_ok (k : Nat) : EntOK Try.prog tab mvs (impl_HomeFrom_e k) :=
  fn_ok (C := impl_HomeFrom_C k) tabOK eqTabOK (impl_HomeFrom_es k) rfl follows Try.func45 (by kernel_rfl) (by kernel_rfl) rfl (forall_getD _ 1 (0, Code.skip) (by kernel_rfl) fun i hi => by
      match i, hi with
      | 0, _ => exact impl_HomeFrom_lok0 k
      | n + 1, h => omega)
    dec_enc_lll dec_enc_si (impl_HomeFrom_run k)

def laws_FnExactHomeFrom_C (k : Nat) : Cfg := ⟨tab, mvs, oraOf [laws_toLawn_e k, laws_toCell_e k, spec_HomeFrom_e k, impl_HomeFrom_e k], loOf []⟩
theorem laws_FnExactHomeFrom_es (k : Nat) : ∀ e ∈ ([laws_toLawn_e k, laws_toCell_e k, spec_HomeFrom_e k, impl_HomeFrom_e k] : List Ent), EntOK Try.prog tab mvs e := by
  intro e he
  simp only [List.mem_cons, List.not_mem_nil, or_false] at he
  rcases he with rfl | rfl | rfl | rfl
  · exact laws_toLawn_ok k
  · exact laws_toCell_ok k
  · exact spec_HomeFrom_ok k
  · exact impl_HomeFrom_ok k
def laws_FnExactHomeFrom_e (k : Nat) : Ent := (10, callOf [.agg 26, .agg 28, .agg 28] dec_lll fun (p : (List Int) × (List Int) × (List Int)) R K => (laws_FnExactHomeFrom k p.1 p.2.1 p.2.2).bind fun (b : Bool) => K ((fV (.bool) (enc_b b)).1, none))
theorem laws_FnExactHomeFrom_run (k : Nat) (p : (List Int) × (List Int) × (List Int)) : runF (laws_FnExactHomeFrom_C k) Try.f10 false (fL [.agg 26, .agg 28, .agg 28] (enc_lll p)).1 (resK (.bool) dec_b) = laws_FnExactHomeFrom k p.1 p.2.1 p.2.2 := by
  kernel_rfl
theorem laws_FnExactHomeFrom_ok (k : Nat) : EntOK Try.prog tab mvs (laws_FnExactHomeFrom_e k) :=
  fn_ok (C := laws_FnExactHomeFrom_C k) tabOK eqTabOK (laws_FnExactHomeFrom_es k) rfl follows Try.func10 (by kernel_rfl) (by kernel_rfl) rfl (forall_getD _ 0 (0, Code.skip) (by kernel_rfl) fun i hi => by
      omega)
    dec_enc_lll dec_enc_b (laws_FnExactHomeFrom_run k)

def laws_szHaulS_C (k : Nat) : Cfg := ⟨tab, mvs, oraOf [], loOf []⟩
theorem laws_szHaulS_es (k : Nat) : ∀ e ∈ ([] : List Ent), EntOK Try.prog tab mvs e := by
  intro e he
  simp at he
def laws_szHaulS_e (k : Nat) : Ent := (38, callOf [.slv 134, .int .i64] dec_li fun (p : (List Int) × Int) R K => (laws_szHaulS k p.1 p.2).bind fun (b : Int) => K ((fV (.int .i64) (enc_i b)).1, none))
theorem laws_szHaulS_run (k : Nat) (p : (List Int) × Int) : runF (laws_szHaulS_C k) Try.f38 false (fL [.slv 134, .int .i64] (enc_li p)).1 (resK (.int .i64) dec_i) = laws_szHaulS k p.1 p.2 := by
  kernel_rfl
theorem laws_szHaulS_ok (k : Nat) : EntOK Try.prog tab mvs (laws_szHaulS_e k) :=
  fn_ok (C := laws_szHaulS_C k) tabOK eqTabOK (laws_szHaulS_es k) rfl follows Try.func38 (by kernel_rfl) (by kernel_rfl) rfl (forall_getD _ 0 (0, Code.skip) (by kernel_rfl) fun i hi => by
      omega)
    dec_enc_li dec_enc_i (laws_szHaulS_run k)

def laws_toHaul_C (k : Nat) : Cfg := ⟨tab, mvs, oraOf [laws_toCell_e k], loOf []⟩
theorem laws_toHaul_es (k : Nat) : ∀ e ∈ ([laws_toCell_e k] : List Ent), EntOK Try.prog tab mvs e := by
  intro e he
  simp only [List.mem_cons, List.not_mem_nil, or_false] at he
  rcases he with rfl
  · exact laws_toCell_ok k
def laws_toHaul_e (k : Nat) : Ent := (101, callOf [.agg 134] dec_l fun (p : (List Int)) R K => (laws_toHaul k p).bind fun (b : (List Int)) => K ((fV (.agg 131) (enc_l b)).1, none))
theorem laws_toHaul_run (k : Nat) (p : (List Int)) : runF (laws_toHaul_C k) Try.f101 false (fL [.agg 134] (enc_l p)).1 (resK (.agg 131) dec_l) = laws_toHaul k p := by
  kernel_rfl
theorem laws_toHaul_ok (k : Nat) : EntOK Try.prog tab mvs (laws_toHaul_e k) :=
  fn_ok (C := laws_toHaul_C k) tabOK eqTabOK (laws_toHaul_es k) rfl follows Try.func101 (by kernel_rfl) (by kernel_rfl) rfl (forall_getD _ 0 (0, Code.skip) (by kernel_rfl) fun i hi => by
      omega)
    dec_enc_l dec_enc_l (laws_toHaul_run k)

def laws_toHaulS_t0 : StTm := ⟨23, [(0, .slv 134), (3, .slw 3 131), (4, .int .i64)], [(3, 131, false, .ints)]⟩
def laws_toHaulS_t0_1 : StTm := ⟨23, [(3, .slw 3 131)], [(3, 131, false, .ints)]⟩
def laws_toHaulS_w0 (k : Nat) (R : Type) (K : Ex → St → Option R) (rec : (List Int) × Int × (List Int) → Option R) (p : (List Int) × Int × (List Int)) : Option R := laws_toHaulS_s0 k (fun y1 => K (.exit 0) (fSt laws_toHaulS_t0_1 [.l y1])) (fun h1 h2 h3 => rec (h1, h2, h3)) p.1 p.2.1 p.2.2
def laws_toHaulS_c0 (k : Nat) : Lcall := lcallOf tab laws_toHaulS_t0 dec_lil [0, 3, 4] k (laws_toHaulS_w0 k)
def laws_toHaulS_C (k : Nat) : Cfg := ⟨tab, mvs, oraOf [laws_toHaul_e k], loOf [(0, laws_toHaulS_c0 k)]⟩
theorem laws_toHaulS_es (k : Nat) : ∀ e ∈ ([laws_toHaul_e k] : List Ent), EntOK Try.prog tab mvs e := by
  intro e he
  simp only [List.mem_cons, List.not_mem_nil, or_false] at he
  rcases he with rfl
  · exact laws_toHaul_ok k
theorem laws_toHaulS_step0 (k : Nat) (R : Type) (K : Ex → St → Option R) (g : St → Option R) (p : (List Int) × Int × (List Int)) : evCode (laws_toHaulS_C k) (loopP [0] (0, codeOf Try.f40)).2 (loopP [0] (0, codeOf Try.f40)).1 (fSt laws_toHaulS_t0 (enc_lil p)) (loopK tab [0, 3, 4] [3] [2] g K) = laws_toHaulS_w0 k R K (fun p => g (fSt laws_toHaulS_t0 (enc_lil p))) p := by
  kernel_rfl
theorem laws_toHaulS_lok0 (k : Nat) : LoopOK Try.prog tab (laws_toHaulS_C k).lo (loopP [0] (0, codeOf Try.f40)).1 (loopP [0] (0, codeOf Try.f40)).2 :=
  loopOK_of (C := laws_toHaulS_C k) tabOK eqTabOK (oraOf_ok (laws_toHaulS_es k)) (oraOf_nat (laws_toHaulS_es k)) follows (forall_getD _ 0 (0, Code.skip) (by kernel_rfl) fun i hi => by
      omega)
    (tm := laws_toHaulS_t0) (dec := dec_lil) (enc := enc_lil) (ksIn := [0, 3, 4]) (ksOut := [3]) (ksRet := [2]) (k := k) (step := laws_toHaulS_w0 k) dec_enc_lil (fun p => by kernel_rfl) (fun s R K => by kernel_rfl) (laws_toHaulS_step0 k)
def laws_toHaulS_e (k : Nat) : Ent := (40, callOf [.slv 134] dec_l fun (p : (List Int)) R K => (laws_toHaulS k p).bind fun (b : (List Int)) => K ((fV (.slv 131) (enc_l b)).1, none))
theorem laws_toHaulS_run (k : Nat) (p : (List Int)) : runF (laws_toHaulS_C k) Try.f40 false (fL [.slv 134] (enc_l p)).1 (resK (.slv 131) dec_l) = laws_toHaulS k p := by
  kernel_rfl
theorem laws_toHaulS_ok (k : Nat) : EntOK Try.prog tab mvs (laws_toHaulS_e k) :=
  fn_ok (C := laws_toHaulS_C k) tabOK eqTabOK (laws_toHaulS_es k) rfl follows Try.func40 (by kernel_rfl) (by kernel_rfl) rfl (forall_getD _ 1 (0, Code.skip) (by kernel_rfl) fun i hi => by
      match i, hi with
      | 0, _ => exact laws_toHaulS_lok0 k
      | n + 1, h => omega)
    dec_enc_l dec_enc_l (laws_toHaulS_run k)

def spec_l06Move_C (k : Nat) : Cfg := ⟨tab, mvs, oraOf [spec_l01Is_e k, spec_l00In_e k, spec_l01Grass_e k, spec_l06At_e k, spec_l06Level_e k], loOf []⟩
theorem spec_l06Move_es (k : Nat) : ∀ e ∈ ([spec_l01Is_e k, spec_l00In_e k, spec_l01Grass_e k, spec_l06At_e k, spec_l06Level_e k] : List Ent), EntOK Try.prog tab mvs e := by
  intro e he
  simp only [List.mem_cons, List.not_mem_nil, or_false] at he
  rcases he with rfl | rfl | rfl | rfl | rfl
  · exact spec_l01Is_ok k
  · exact spec_l00In_ok k
  · exact spec_l01Grass_ok k
  · exact spec_l06At_ok k
  · exact spec_l06Level_ok k
def spec_l06Move_e (k : Nat) : Ent := (100, callOf [.pvi (some 32) 0 32, .tup [.agg 41], .agg 131] dec_lll fun (p : (List Int) × (List Int) × (List Int)) R K => (spec_l06Move k p.1 p.2.1 p.2.2).bind fun (b : (Int) × List Int) => K ((fV (.int .i64) (enc_i b.1)).1, some b.2))
theorem spec_l06Move_run (k : Nat) (p : (List Int) × (List Int) × (List Int)) : runF (spec_l06Move_C k) Try.f100 true (fL [.pvi (some 32) 0 32, .tup [.agg 41], .agg 131] (enc_lll p)).1 (resB (.int .i64) dec_i) = spec_l06Move k p.1 p.2.1 p.2.2 := by
  kernel_rfl
theorem spec_l06Move_ok (k : Nat) : EntOK Try.prog tab mvs (spec_l06Move_e k) :=
  fnb_ok (C := spec_l06Move_C k) tabOK eqTabOK (spec_l06Move_es k) rfl follows Try.func100 (by kernel_rfl) (by kernel_rfl) rfl (forall_getD _ 0 (0, Code.skip) (by kernel_rfl) fun i hi => by
      omega)
    dec_enc_lll dec_enc_i (spec_l06Move_run k)

def spec_MoveAll_t0 : StTm := ⟨33, [(2, .slv 131), (3, .ptr 3 0 32), (4, .ptr 4 0 41), (6, .ptr 6 0 41), (8, .int .i64)], [(3, 32, true, .ints), (4, 41, true, .ints), (6, 41, true, .ints)]⟩
def spec_MoveAll_t0_1 : StTm := ⟨33, [(6, .ptr 6 0 41), (7, .int .i64)], [(6, 41, true, .ints)]⟩
def spec_MoveAll_t0_2 : StTm := ⟨33, [(4, .ptr 4 0 41), (6, .ptr 6 0 41)], [(4, 41, true, .ints), (6, 41, true, .ints)]⟩
def spec_MoveAll_w0 (k : Nat) (R : Type) (K : Ex → St → Option R) (rec : (List Int) × Int × (List Int) × (List Int) × (List Int) → Option R) (p : (List Int) × Int × (List Int) × (List Int) × (List Int)) : Option R := spec_MoveAll_s0 k (fun y1 y2 => K .ret (fSt spec_MoveAll_t0_1 [.i y1, .l y2])) (fun y1 y2 => K (.exit 0) (fSt spec_MoveAll_t0_2 [.l y1, .l y2])) (fun h1 h2 h3 h4 h5 => rec (h1, h2, h3, h4, h5)) p.1 p.2.1 p.2.2.1 p.2.2.2.1 p.2.2.2.2
def spec_MoveAll_c0 (k : Nat) : Lcall := lcallOf tab spec_MoveAll_t0 dec_lilll [2, 3, 4, 6, 8] k (spec_MoveAll_w0 k)
def spec_MoveAll_C (k : Nat) : Cfg := ⟨tab, mvs, oraOf [spec_l06Ok_e k, spec_l06Move_e k], loOf [(0, spec_MoveAll_c0 k)]⟩
theorem spec_MoveAll_es (k : Nat) : ∀ e ∈ ([spec_l06Ok_e k, spec_l06Move_e k] : List Ent), EntOK Try.prog tab mvs e := by
  intro e he
  simp only [List.mem_cons, List.not_mem_nil, or_false] at he
  rcases he with rfl | rfl
  · exact spec_l06Ok_ok k
  · exact spec_l06Move_ok k
theorem spec_MoveAll_step0 (k : Nat) (R : Type) (K : Ex → St → Option R) (g : St → Option R) (p : (List Int) × Int × (List Int) × (List Int) × (List Int)) : evCode (spec_MoveAll_C k) (loopP [0] (0, codeOf Try.f39)).2 (loopP [0] (0, codeOf Try.f39)).1 (fSt spec_MoveAll_t0 (enc_lilll p)) (loopK tab [2, 3, 4, 6, 8] [4, 6] [6, 7] g K) = spec_MoveAll_w0 k R K (fun p => g (fSt spec_MoveAll_t0 (enc_lilll p))) p := by
  kernel_rfl
theorem spec_MoveAll_lok0 (k : Nat) : LoopOK Try.prog tab (spec_MoveAll_C k).lo (loopP [0] (0, codeOf Try.f39)).1 (loopP [0] (0, codeOf Try.f39)).2 :=
  loopOK_of (C := spec_MoveAll_C k) tabOK eqTabOK (oraOf_ok (spec_MoveAll_es k)) (oraOf_nat (spec_MoveAll_es k)) follows (forall_getD _ 0 (0, Code.skip) (by kernel_rfl) fun i hi => by
      omega)
    (tm := spec_MoveAll_t0) (dec := dec_lilll) (enc := enc_lilll) (ksIn := [2, 3, 4, 6, 8]) (ksOut := [4, 6]) (ksRet := [6, 7]) (k := k) (step := spec_MoveAll_w0 k) dec_enc_lilll (fun p => by kernel_rfl) (fun s R K => by kernel_rfl) (spec_MoveAll_step0 k)
def spec_MoveAll_e (k : Nat) : Ent := (39, callOf [.agg 32, .agg 41, .slv 131] dec_lll fun (p : (List Int) × (List Int) × (List Int)) R K => (spec_MoveAll k p.1 p.2.1 p.2.2).bind fun (b : (List Int) × Int) => K ((fV (.tup [.agg 41, .int .i64]) (enc_li b)).1, none))
theorem spec_MoveAll_run (k : Nat) (p : (List Int) × (List Int) × (List Int)) : runF (spec_MoveAll_C k) Try.f39 false (fL [.agg 32, .agg 41, .slv 131] (enc_lll p)).1 (resK (.tup [.agg 41, .int .i64]) dec_li) = spec_MoveAll k p.1 p.2.1 p.2.2 := by
  kernel_rfl
theorem spec_MoveAll_ok (k : Nat) : EntOK Try.prog tab mvs (spec_MoveAll_e k) :=
  fn_ok (C := spec_MoveAll_C k) tabOK eqTabOK (spec_MoveAll_es k) rfl follows Try.func39 (by kernel_rfl) (by kernel_rfl) rfl (forall_getD _ 1 (0, Code.skip) (by kernel_rfl) fun i hi => by
      match i, hi with
      | 0, _ => exact spec_MoveAll_lok0 k
      | n + 1, h => omega)
    dec_enc_lll dec_enc_li (spec_MoveAll_run k)

def impl_Levels_more_C (k : Nat) : Cfg := ⟨tab, mvs, oraOf [], loOf []⟩
theorem impl_Levels_more_es (k : Nat) : ∀ e ∈ ([] : List Ent), EntOK Try.prog tab mvs e := by
  intro e he
  simp at he
def impl_Levels_more_e (k : Nat) : Ent := (148, callOf [.agg 41, .agg 29, .int .i64] dec_lli fun (p : (List Int) × (List Int) × Int) R K => (impl_Levels_more k p.1 p.2.1 p.2.2).bind fun (b : (List Int)) => K ((fV (.agg 41) (enc_l b)).1, none))
theorem impl_Levels_more_run (k : Nat) (p : (List Int) × (List Int) × Int) : runF (impl_Levels_more_C k) Try.f148 false (fL [.agg 41, .agg 29, .int .i64] (enc_lli p)).1 (resK (.agg 41) dec_l) = impl_Levels_more k p.1 p.2.1 p.2.2 := by
  kernel_rfl
theorem impl_Levels_more_ok (k : Nat) : EntOK Try.prog tab mvs (impl_Levels_more_e k) :=
  fn_ok (C := impl_Levels_more_C k) tabOK eqTabOK (impl_Levels_more_es k) rfl follows Try.func148 (by kernel_rfl) (by kernel_rfl) rfl (forall_getD _ 0 (0, Code.skip) (by kernel_rfl) fun i hi => by
      omega)
    dec_enc_lli dec_enc_l (impl_Levels_more_run k)

def impl_Lawn_move_C (k : Nat) : Cfg := ⟨tab, mvs, oraOf [impl_Lawn_has_e k, impl_within_e k, impl_Lawn_grass_e k, impl_Levels_more_e k, impl_ValidLevels_e k], loOf []⟩
theorem impl_Lawn_move_es (k : Nat) : ∀ e ∈ ([impl_Lawn_has_e k, impl_within_e k, impl_Lawn_grass_e k, impl_Levels_more_e k, impl_ValidLevels_e k] : List Ent), EntOK Try.prog tab mvs e := by
  intro e he
  simp only [List.mem_cons, List.not_mem_nil, or_false] at he
  rcases he with rfl | rfl | rfl | rfl | rfl
  · exact impl_Lawn_has_ok k
  · exact impl_within_ok k
  · exact impl_Lawn_grass_ok k
  · exact impl_Levels_more_ok k
  · exact impl_ValidLevels_ok k
def impl_Lawn_move_e (k : Nat) : Ent := (102, callOf [.agg 32, .agg 41, .agg 131] dec_lll fun (p : (List Int) × (List Int) × (List Int)) R K => (impl_Lawn_move k p.1 p.2.1 p.2.2).bind fun (b : (List Int) × Int) => K ((fV (.tup [.agg 41, .int .i64]) (enc_li b)).1, none))
theorem impl_Lawn_move_run (k : Nat) (p : (List Int) × (List Int) × (List Int)) : runF (impl_Lawn_move_C k) Try.f102 false (fL [.agg 32, .agg 41, .agg 131] (enc_lll p)).1 (resK (.tup [.agg 41, .int .i64]) dec_li) = impl_Lawn_move k p.1 p.2.1 p.2.2 := by
  kernel_rfl
theorem impl_Lawn_move_ok (k : Nat) : EntOK Try.prog tab mvs (impl_Lawn_move_e k) :=
  fn_ok (C := impl_Lawn_move_C k) tabOK eqTabOK (impl_Lawn_move_es k) rfl follows Try.func102 (by kernel_rfl) (by kernel_rfl) rfl (forall_getD _ 0 (0, Code.skip) (by kernel_rfl) fun i hi => by
      omega)
    dec_enc_lll dec_enc_li (impl_Lawn_move_run k)

def dec_iliilll (ps : List Pay) : Option (Int × (List Int) × Int × Int × (List Int) × (List Int) × (List Int)) := match ps with
  | [.i x1, .l x2, .i x3, .i x4, .l x5, .l x6, .l x7] => some (x1, x2, x3, x4, x5, x6, x7)
  | _ => none
def enc_iliilll (p : Int × (List Int) × Int × Int × (List Int) × (List Int) × (List Int)) : List Pay := [.i p.1, .l p.2.1, .i p.2.2.1, .i p.2.2.2.1, .l p.2.2.2.2.1, .l p.2.2.2.2.2.1, .l p.2.2.2.2.2.2]
theorem dec_enc_iliilll : ∀ (ps : List Pay) (p : Int × (List Int) × Int × Int × (List Int) × (List Int) × (List Int)), dec_iliilll ps = some p → ps = enc_iliilll p := by
  intro ps p h
  unfold dec_iliilll at h
  split at h
  · injection h with h
    subst h
    rfl
  · cases h

def impl_MoveAll_t0 : StTm := ⟨42, [(3, .ptr 3 0 32), (4, .ptr 4 0 41), (6, .ptr 6 0 41), (8, .int .i64), (21, .slv 131), (22, .int .i64), (23, .int .i64)], [(3, 32, true, .ints), (4, 41, true, .ints), (6, 41, true, .ints)]⟩
def impl_MoveAll_t0_1 : StTm := ⟨42, [(4, .ptr 4 0 41), (6, .ptr 6 0 41), (8, .int .i64)], [(4, 41, true, .ints), (6, 41, true, .ints)]⟩
def impl_MoveAll_w0 (k : Nat) (R : Type) (K : Ex → St → Option R) (rec : Int × (List Int) × Int × Int × (List Int) × (List Int) × (List Int) → Option R) (p : Int × (List Int) × Int × Int × (List Int) × (List Int) × (List Int)) : Option R := impl_MoveAll_s0 k (fun y1 y2 y3 => K (.exit 0) (fSt impl_MoveAll_t0_1 [.i y1, .l y2, .l y3])) (fun h1 h2 h3 h4 h5 h6 h7 => rec (h1, h2, h3, h4, h5, h6, h7)) p.1 p.2.1 p.2.2.1 p.2.2.2.1 p.2.2.2.2.1 p.2.2.2.2.2.1 p.2.2.2.2.2.2
def impl_MoveAll_c0 (k : Nat) : Lcall := lcallOf tab impl_MoveAll_t0 dec_iliilll [3, 4, 6, 8, 21, 22, 23] k (impl_MoveAll_w0 k)
def impl_MoveAll_C (k : Nat) : Cfg := ⟨tab, mvs, oraOf [impl_soilCode_e k, impl_Lawn_move_e k], loOf [(0, impl_MoveAll_c0 k)]⟩
theorem impl_MoveAll_es (k : Nat) : ∀ e ∈ ([impl_soilCode_e k, impl_Lawn_move_e k] : List Ent), EntOK Try.prog tab mvs e := by
  intro e he
  simp only [List.mem_cons, List.not_mem_nil, or_false] at he
  rcases he with rfl | rfl
  · exact impl_soilCode_ok k
  · exact impl_Lawn_move_ok k
theorem impl_MoveAll_step0 (k : Nat) (R : Type) (K : Ex → St → Option R) (g : St → Option R) (p : Int × (List Int) × Int × Int × (List Int) × (List Int) × (List Int)) : evCode (impl_MoveAll_C k) (loopP [0] (0, codeOf Try.f41)).2 (loopP [0] (0, codeOf Try.f41)).1 (fSt impl_MoveAll_t0 (enc_iliilll p)) (loopK tab [3, 4, 6, 8, 21, 22, 23] [4, 6, 8] [6, 7] g K) = impl_MoveAll_w0 k R K (fun p => g (fSt impl_MoveAll_t0 (enc_iliilll p))) p := by
  kernel_rfl
theorem impl_MoveAll_lok0 (k : Nat) : LoopOK Try.prog tab (impl_MoveAll_C k).lo (loopP [0] (0, codeOf Try.f41)).1 (loopP [0] (0, codeOf Try.f41)).2 :=
  loopOK_of (C := impl_MoveAll_C k) tabOK eqTabOK (oraOf_ok (impl_MoveAll_es k)) (oraOf_nat (impl_MoveAll_es k)) follows (forall_getD _ 0 (0, Code.skip) (by kernel_rfl) fun i hi => by
      omega)
    (tm := impl_MoveAll_t0) (dec := dec_iliilll) (enc := enc_iliilll) (ksIn := [3, 4, 6, 8, 21, 22, 23]) (ksOut := [4, 6, 8]) (ksRet := [6, 7]) (k := k) (step := impl_MoveAll_w0 k) dec_enc_iliilll (fun p => by kernel_rfl) (fun s R K => by kernel_rfl) (impl_MoveAll_step0 k)
def impl_MoveAll_e (k : Nat) : Ent := (41, callOf [.agg 32, .agg 41, .slv 131] dec_lll fun (p : (List Int) × (List Int) × (List Int)) R K => (impl_MoveAll k p.1 p.2.1 p.2.2).bind fun (b : (List Int) × Int) => K ((fV (.tup [.agg 41, .int .i64]) (enc_li b)).1, none))
theorem impl_MoveAll_run (k : Nat) (p : (List Int) × (List Int) × (List Int)) : runF (impl_MoveAll_C k) Try.f41 false (fL [.agg 32, .agg 41, .slv 131] (enc_lll p)).1 (resK (.tup [.agg 41, .int .i64]) dec_li) = impl_MoveAll k p.1 p.2.1 p.2.2 := by
  kernel_rfl
theorem impl_MoveAll_ok (k : Nat) : EntOK Try.prog tab mvs (impl_MoveAll_e k) :=
  fn_ok (C := impl_MoveAll_C k) tabOK eqTabOK (impl_MoveAll_es k) rfl follows Try.func41 (by kernel_rfl) (by kernel_rfl) rfl (forall_getD _ 1 (0, Code.skip) (by kernel_rfl) fun i hi => by
      match i, hi with
      | 0, _ => exact impl_MoveAll_lok0 k
      | n + 1, h => omega)
    dec_enc_lll dec_enc_li (impl_MoveAll_run k)

def laws_eqInt8A10_t0 : StTm := ⟨17, [(2, .ptr 2 0 37), (3, .ptr 3 0 37), (5, .int .i64)], [(2, 37, true, .ints), (3, 37, true, .ints)]⟩
def laws_eqInt8A10_t0_1 : StTm := ⟨17, [(4, .bool)], []⟩
def laws_eqInt8A10_t0_2 : StTm := ⟨17, [], []⟩
def laws_eqInt8A10_w0 (k : Nat) (R : Type) (K : Ex → St → Option R) (rec : Int × (List Int) × (List Int) → Option R) (p : Int × (List Int) × (List Int)) : Option R := laws_eqInt8A10_s0 k (fun y1 => K .ret (fSt laws_eqInt8A10_t0_1 [.b y1])) (K (.exit 0) (fSt laws_eqInt8A10_t0_2 [])) (fun h1 h2 h3 => rec (h1, h2, h3)) p.1 p.2.1 p.2.2
def laws_eqInt8A10_c0 (k : Nat) : Lcall := lcallOf tab laws_eqInt8A10_t0 dec_ill [2, 3, 5] k (laws_eqInt8A10_w0 k)
def laws_eqInt8A10_C (k : Nat) : Cfg := ⟨tab, mvs, oraOf [], loOf [(0, laws_eqInt8A10_c0 k)]⟩
theorem laws_eqInt8A10_es (k : Nat) : ∀ e ∈ ([] : List Ent), EntOK Try.prog tab mvs e := by
  intro e he
  simp at he
theorem laws_eqInt8A10_step0 (k : Nat) (R : Type) (K : Ex → St → Option R) (g : St → Option R) (p : Int × (List Int) × (List Int)) : evCode (laws_eqInt8A10_C k) (loopP [0] (0, codeOf Try.f103)).2 (loopP [0] (0, codeOf Try.f103)).1 (fSt laws_eqInt8A10_t0 (enc_ill p)) (loopK tab [2, 3, 5] [] [4] g K) = laws_eqInt8A10_w0 k R K (fun p => g (fSt laws_eqInt8A10_t0 (enc_ill p))) p := by
  kernel_rfl
theorem laws_eqInt8A10_lok0 (k : Nat) : LoopOK Try.prog tab (laws_eqInt8A10_C k).lo (loopP [0] (0, codeOf Try.f103)).1 (loopP [0] (0, codeOf Try.f103)).2 :=
  loopOK_of (C := laws_eqInt8A10_C k) tabOK eqTabOK (oraOf_ok (laws_eqInt8A10_es k)) (oraOf_nat (laws_eqInt8A10_es k)) follows (forall_getD _ 0 (0, Code.skip) (by kernel_rfl) fun i hi => by
      omega)
    (tm := laws_eqInt8A10_t0) (dec := dec_ill) (enc := enc_ill) (ksIn := [2, 3, 5]) (ksOut := []) (ksRet := [4]) (k := k) (step := laws_eqInt8A10_w0 k) dec_enc_ill (fun p => by kernel_rfl) (fun s R K => by kernel_rfl) (laws_eqInt8A10_step0 k)
def laws_eqInt8A10_e (k : Nat) : Ent := (103, callOf [.agg 37, .agg 37] dec_ll fun (p : (List Int) × (List Int)) R K => (laws_eqInt8A10 k p.1 p.2).bind fun (b : Bool) => K ((fV (.bool) (enc_b b)).1, none))
theorem laws_eqInt8A10_run (k : Nat) (p : (List Int) × (List Int)) : runF (laws_eqInt8A10_C k) Try.f103 false (fL [.agg 37, .agg 37] (enc_ll p)).1 (resK (.bool) dec_b) = laws_eqInt8A10 k p.1 p.2 := by
  kernel_rfl
theorem laws_eqInt8A10_ok (k : Nat) : EntOK Try.prog tab mvs (laws_eqInt8A10_e k) :=
  fn_ok (C := laws_eqInt8A10_C k) tabOK eqTabOK (laws_eqInt8A10_es k) rfl follows Try.func103 (by kernel_rfl) (by kernel_rfl) rfl (forall_getD _ 1 (0, Code.skip) (by kernel_rfl) fun i hi => by
      match i, hi with
      | 0, _ => exact laws_eqInt8A10_lok0 k
      | n + 1, h => omega)
    dec_enc_ll dec_enc_b (laws_eqInt8A10_run k)

def laws_eqLevels_t0 : StTm := ⟨18, [(2, .ptr 2 0 41), (3, .ptr 3 0 41), (5, .int .i64)], [(2, 41, true, .ints), (3, 41, true, .ints)]⟩
def laws_eqLevels_t0_1 : StTm := ⟨18, [(4, .bool)], []⟩
def laws_eqLevels_t0_2 : StTm := ⟨18, [], []⟩
def laws_eqLevels_w0 (k : Nat) (R : Type) (K : Ex → St → Option R) (rec : Int × (List Int) × (List Int) → Option R) (p : Int × (List Int) × (List Int)) : Option R := laws_eqLevels_s0 k (fun y1 => K .ret (fSt laws_eqLevels_t0_1 [.b y1])) (K (.exit 0) (fSt laws_eqLevels_t0_2 [])) (fun h1 h2 h3 => rec (h1, h2, h3)) p.1 p.2.1 p.2.2
def laws_eqLevels_c0 (k : Nat) : Lcall := lcallOf tab laws_eqLevels_t0 dec_ill [2, 3, 5] k (laws_eqLevels_w0 k)
def laws_eqLevels_C (k : Nat) : Cfg := ⟨tab, mvs, oraOf [laws_eqInt8A10_e k], loOf [(0, laws_eqLevels_c0 k)]⟩
theorem laws_eqLevels_es (k : Nat) : ∀ e ∈ ([laws_eqInt8A10_e k] : List Ent), EntOK Try.prog tab mvs e := by
  intro e he
  simp only [List.mem_cons, List.not_mem_nil, or_false] at he
  rcases he with rfl
  · exact laws_eqInt8A10_ok k
theorem laws_eqLevels_step0 (k : Nat) (R : Type) (K : Ex → St → Option R) (g : St → Option R) (p : Int × (List Int) × (List Int)) : evCode (laws_eqLevels_C k) (loopP [0] (0, codeOf Try.f42)).2 (loopP [0] (0, codeOf Try.f42)).1 (fSt laws_eqLevels_t0 (enc_ill p)) (loopK tab [2, 3, 5] [] [4] g K) = laws_eqLevels_w0 k R K (fun p => g (fSt laws_eqLevels_t0 (enc_ill p))) p := by
  kernel_rfl
theorem laws_eqLevels_lok0 (k : Nat) : LoopOK Try.prog tab (laws_eqLevels_C k).lo (loopP [0] (0, codeOf Try.f42)).1 (loopP [0] (0, codeOf Try.f42)).2 :=
  loopOK_of (C := laws_eqLevels_C k) tabOK eqTabOK (oraOf_ok (laws_eqLevels_es k)) (oraOf_nat (laws_eqLevels_es k)) follows (forall_getD _ 0 (0, Code.skip) (by kernel_rfl) fun i hi => by
      omega)
    (tm := laws_eqLevels_t0) (dec := dec_ill) (enc := enc_ill) (ksIn := [2, 3, 5]) (ksOut := []) (ksRet := [4]) (k := k) (step := laws_eqLevels_w0 k) dec_enc_ill (fun p => by kernel_rfl) (fun s R K => by kernel_rfl) (laws_eqLevels_step0 k)
def laws_eqLevels_e (k : Nat) : Ent := (42, callOf [.agg 41, .agg 41] dec_ll fun (p : (List Int) × (List Int)) R K => (laws_eqLevels k p.1 p.2).bind fun (b : Bool) => K ((fV (.bool) (enc_b b)).1, none))
theorem laws_eqLevels_run (k : Nat) (p : (List Int) × (List Int)) : runF (laws_eqLevels_C k) Try.f42 false (fL [.agg 41, .agg 41] (enc_ll p)).1 (resK (.bool) dec_b) = laws_eqLevels k p.1 p.2 := by
  kernel_rfl
theorem laws_eqLevels_ok (k : Nat) : EntOK Try.prog tab mvs (laws_eqLevels_e k) :=
  fn_ok (C := laws_eqLevels_C k) tabOK eqTabOK (laws_eqLevels_es k) rfl follows Try.func42 (by kernel_rfl) (by kernel_rfl) rfl (forall_getD _ 1 (0, Code.skip) (by kernel_rfl) fun i hi => by
      match i, hi with
      | 0, _ => exact laws_eqLevels_lok0 k
      | n + 1, h => omega)
    dec_enc_ll dec_enc_b (laws_eqLevels_run k)

def laws_eqHaul_C (k : Nat) : Cfg := ⟨tab, mvs, oraOf [laws_eqCell_e k], loOf []⟩
theorem laws_eqHaul_es (k : Nat) : ∀ e ∈ ([laws_eqCell_e k] : List Ent), EntOK Try.prog tab mvs e := by
  intro e he
  simp only [List.mem_cons, List.not_mem_nil, or_false] at he
  rcases he with rfl
  · exact laws_eqCell_ok k
def laws_eqHaul_e (k : Nat) : Ent := (104, callOf [.agg 131, .agg 131] dec_ll fun (p : (List Int) × (List Int)) R K => (laws_eqHaul k p.1 p.2).bind fun (b : Bool) => K ((fV (.bool) (enc_b b)).1, none))
theorem laws_eqHaul_run (k : Nat) (p : (List Int) × (List Int)) : runF (laws_eqHaul_C k) Try.f104 false (fL [.agg 131, .agg 131] (enc_ll p)).1 (resK (.bool) dec_b) = laws_eqHaul k p.1 p.2 := by
  kernel_rfl
theorem laws_eqHaul_ok (k : Nat) : EntOK Try.prog tab mvs (laws_eqHaul_e k) :=
  fn_ok (C := laws_eqHaul_C k) tabOK eqTabOK (laws_eqHaul_es k) rfl follows Try.func104 (by kernel_rfl) (by kernel_rfl) rfl (forall_getD _ 0 (0, Code.skip) (by kernel_rfl) fun i hi => by
      omega)
    dec_enc_ll dec_enc_b (laws_eqHaul_run k)

def laws_eqHaulS_t0 : StTm := ⟨27, [(0, .slv 131), (1, .slv 131), (5, .int .i64)], []⟩
def laws_eqHaulS_t0_1 : StTm := ⟨27, [(4, .bool)], []⟩
def laws_eqHaulS_t0_2 : StTm := ⟨27, [], []⟩
def laws_eqHaulS_w0 (k : Nat) (R : Type) (K : Ex → St → Option R) (rec : (List Int) × (List Int) × Int → Option R) (p : (List Int) × (List Int) × Int) : Option R := laws_eqHaulS_s0 k (fun y1 => K .ret (fSt laws_eqHaulS_t0_1 [.b y1])) (K (.exit 0) (fSt laws_eqHaulS_t0_2 [])) (fun h1 h2 h3 => rec (h1, h2, h3)) p.1 p.2.1 p.2.2
def laws_eqHaulS_c0 (k : Nat) : Lcall := lcallOf tab laws_eqHaulS_t0 dec_lli [0, 1, 5] k (laws_eqHaulS_w0 k)
def laws_eqHaulS_C (k : Nat) : Cfg := ⟨tab, mvs, oraOf [laws_eqHaul_e k], loOf [(0, laws_eqHaulS_c0 k)]⟩
theorem laws_eqHaulS_es (k : Nat) : ∀ e ∈ ([laws_eqHaul_e k] : List Ent), EntOK Try.prog tab mvs e := by
  intro e he
  simp only [List.mem_cons, List.not_mem_nil, or_false] at he
  rcases he with rfl
  · exact laws_eqHaul_ok k
theorem laws_eqHaulS_step0 (k : Nat) (R : Type) (K : Ex → St → Option R) (g : St → Option R) (p : (List Int) × (List Int) × Int) : evCode (laws_eqHaulS_C k) (loopP [0] (0, codeOf Try.f43)).2 (loopP [0] (0, codeOf Try.f43)).1 (fSt laws_eqHaulS_t0 (enc_lli p)) (loopK tab [0, 1, 5] [] [4] g K) = laws_eqHaulS_w0 k R K (fun p => g (fSt laws_eqHaulS_t0 (enc_lli p))) p := by
  kernel_rfl
theorem laws_eqHaulS_lok0 (k : Nat) : LoopOK Try.prog tab (laws_eqHaulS_C k).lo (loopP [0] (0, codeOf Try.f43)).1 (loopP [0] (0, codeOf Try.f43)).2 :=
  loopOK_of (C := laws_eqHaulS_C k) tabOK eqTabOK (oraOf_ok (laws_eqHaulS_es k)) (oraOf_nat (laws_eqHaulS_es k)) follows (forall_getD _ 0 (0, Code.skip) (by kernel_rfl) fun i hi => by
      omega)
    (tm := laws_eqHaulS_t0) (dec := dec_lli) (enc := enc_lli) (ksIn := [0, 1, 5]) (ksOut := []) (ksRet := [4]) (k := k) (step := laws_eqHaulS_w0 k) dec_enc_lli (fun p => by kernel_rfl) (fun s R K => by kernel_rfl) (laws_eqHaulS_step0 k)
def laws_eqHaulS_e (k : Nat) : Ent := (43, callOf [.slv 131, .slv 131] dec_ll fun (p : (List Int) × (List Int)) R K => (laws_eqHaulS k p.1 p.2).bind fun (b : Bool) => K ((fV (.bool) (enc_b b)).1, none))
theorem laws_eqHaulS_run (k : Nat) (p : (List Int) × (List Int)) : runF (laws_eqHaulS_C k) Try.f43 false (fL [.slv 131, .slv 131] (enc_ll p)).1 (resK (.bool) dec_b) = laws_eqHaulS k p.1 p.2 := by
  kernel_rfl
theorem laws_eqHaulS_ok (k : Nat) : EntOK Try.prog tab mvs (laws_eqHaulS_e k) :=
  fn_ok (C := laws_eqHaulS_C k) tabOK eqTabOK (laws_eqHaulS_es k) rfl follows Try.func43 (by kernel_rfl) (by kernel_rfl) rfl (forall_getD _ 1 (0, Code.skip) (by kernel_rfl) fun i hi => by
      match i, hi with
      | 0, _ => exact laws_eqHaulS_lok0 k
      | n + 1, h => omega)
    dec_enc_ll dec_enc_b (laws_eqHaulS_run k)

def laws_FnExactMoveAll_C (k : Nat) : Cfg := ⟨tab, mvs, oraOf [laws_szHaulS_e k, laws_toLawn_e k, laws_toLevels_e k, laws_toHaulS_e k, spec_MoveAll_e k, impl_MoveAll_e k, laws_eqLevels_e k, laws_eqHaulS_e k], loOf []⟩
theorem laws_FnExactMoveAll_es (k : Nat) : ∀ e ∈ ([laws_szHaulS_e k, laws_toLawn_e k, laws_toLevels_e k, laws_toHaulS_e k, spec_MoveAll_e k, impl_MoveAll_e k, laws_eqLevels_e k, laws_eqHaulS_e k] : List Ent), EntOK Try.prog tab mvs e := by
  intro e he
  simp only [List.mem_cons, List.not_mem_nil, or_false] at he
  rcases he with rfl | rfl | rfl | rfl | rfl | rfl | rfl | rfl
  · exact laws_szHaulS_ok k
  · exact laws_toLawn_ok k
  · exact laws_toLevels_ok k
  · exact laws_toHaulS_ok k
  · exact spec_MoveAll_ok k
  · exact impl_MoveAll_ok k
  · exact laws_eqLevels_ok k
  · exact laws_eqHaulS_ok k
def laws_FnExactMoveAll_e (k : Nat) : Ent := (9, callOf [.agg 26, .agg 38, .slv 134] dec_lll fun (p : (List Int) × (List Int) × (List Int)) R K => (laws_FnExactMoveAll k p.1 p.2.1 p.2.2).bind fun (b : Bool) => K ((fV (.bool) (enc_b b)).1, none))
theorem laws_FnExactMoveAll_run (k : Nat) (p : (List Int) × (List Int) × (List Int)) : runF (laws_FnExactMoveAll_C k) Try.f9 false (fL [.agg 26, .agg 38, .slv 134] (enc_lll p)).1 (resK (.bool) dec_b) = laws_FnExactMoveAll k p.1 p.2.1 p.2.2 := by
  kernel_rfl
theorem laws_FnExactMoveAll_ok (k : Nat) : EntOK Try.prog tab mvs (laws_FnExactMoveAll_e k) :=
  fn_ok (C := laws_FnExactMoveAll_C k) tabOK eqTabOK (laws_FnExactMoveAll_es k) rfl follows Try.func9 (by kernel_rfl) (by kernel_rfl) rfl (forall_getD _ 0 (0, Code.skip) (by kernel_rfl) fun i hi => by
      omega)
    dec_enc_lll dec_enc_b (laws_FnExactMoveAll_run k)




end Go.Proofs.Ytkblhnedillknaa.Tt
