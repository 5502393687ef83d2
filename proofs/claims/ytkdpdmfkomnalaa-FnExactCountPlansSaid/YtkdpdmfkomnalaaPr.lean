/- The code is what the functions in plain Lean say. -/
import Derived.Test.YtkdpdmfkomnalaaTab
import Derived.Test.YtkdpdmfkomnalaaSh
set_option linter.unusedVariables false
set_option linter.unusedSimpArgs false
set_option linter.unusedVariables false
namespace Go.Proofs.Ytkdpdmfkomnalaa.Tt
open Go.Ev Go
set_option maxRecDepth 100000


def mvs : List Nat := [136, 40, 91, 51, 1000051, 53, 1000053, 99, 1000099, 101, 1000101, 134, 1000134]

def dec_li (ps : List Pay) : Option ((List Int) × Int) := match ps with
  | [.l x1, .i x2] => some (x1, x2)
  | _ => none
def enc_li (p : (List Int) × Int) : List Pay := [.l p.1, .i p.2]
theorem dec_enc_li : ∀ (ps : List Pay) (p : (List Int) × Int), dec_li ps = some p → ps = enc_li p := by
  intro ps p h
  unfold dec_li at h
  split at h
  · injection h with h
    subst h
    rfl
  · cases h

def dec_i (ps : List Pay) : Option (Int) := match ps with
  | [.i x1] => some x1
  | _ => none
def enc_i (p : Int) : List Pay := [.i p]
theorem dec_enc_i : ∀ (ps : List Pay) (p : Int), dec_i ps = some p → ps = enc_i p := by
  intro ps p h
  unfold dec_i at h
  split at h
  · injection h with h
    subst h
    rfl
  · cases h

def laws_szWeatherS_C (k : Nat) : Cfg := ⟨tab, mvs, oraOf [], loOf []⟩
theorem laws_szWeatherS_es (k : Nat) : ∀ e ∈ ([] : List Ent), EntOK Try.prog tab mvs e := by
  intro e he
  simp at he
def laws_szWeatherS_e (k : Nat) : Ent := (9, callOf [.slv 87, .int .i64] dec_li fun (p : (List Int) × Int) R K => (laws_szWeatherS k p.1 p.2).bind fun (b : Int) => K ((fV (.int .i64) (enc_i b)).1, none))
theorem laws_szWeatherS_run (k : Nat) (p : (List Int) × Int) : runF (laws_szWeatherS_C k) Try.f9 false (fL [.slv 87, .int .i64] (enc_li p)).1 (resK (.int .i64) dec_i) = laws_szWeatherS k p.1 p.2 := by
  kernel_rfl
theorem laws_szWeatherS_ok (k : Nat) : EntOK Try.prog tab mvs (laws_szWeatherS_e k) :=
  fn_ok (C := laws_szWeatherS_C k) tabOK eqTabOK (laws_szWeatherS_es k) rfl follows Try.func9 (by kernel_rfl) (by kernel_rfl) rfl (forall_getD _ 0 (0, Code.skip) (by kernel_rfl) fun i hi => by
      omega)
    dec_enc_li dec_enc_i (laws_szWeatherS_run k)

def dec_l (ps : List Pay) : Option ((List Int)) := match ps with
  | [.l x1] => some x1
  | _ => none
def enc_l (p : (List Int)) : List Pay := [.l p]
theorem dec_enc_l : ∀ (ps : List Pay) (p : (List Int)), dec_l ps = some p → ps = enc_l p := by
  intro ps p h
  unfold dec_l at h
  split at h
  · injection h with h
    subst h
    rfl
  · cases h

def laws_toWeather_C (k : Nat) : Cfg := ⟨tab, mvs, oraOf [], loOf []⟩
theorem laws_toWeather_es (k : Nat) : ∀ e ∈ ([] : List Ent), EntOK Try.prog tab mvs e := by
  intro e he
  simp at he
def laws_toWeather_e (k : Nat) : Ent := (47, callOf [.agg 87] dec_l fun (p : (List Int)) R K => (laws_toWeather k p).bind fun (b : (List Int)) => K ((fV (.agg 84) (enc_l b)).1, none))
theorem laws_toWeather_run (k : Nat) (p : (List Int)) : runF (laws_toWeather_C k) Try.f47 false (fL [.agg 87] (enc_l p)).1 (resK (.agg 84) dec_l) = laws_toWeather k p := by
  kernel_rfl
theorem laws_toWeather_ok (k : Nat) : EntOK Try.prog tab mvs (laws_toWeather_e k) :=
  fn_ok (C := laws_toWeather_C k) tabOK eqTabOK (laws_toWeather_es k) rfl follows Try.func47 (by kernel_rfl) (by kernel_rfl) rfl (forall_getD _ 0 (0, Code.skip) (by kernel_rfl) fun i hi => by
      omega)
    dec_enc_l dec_enc_l (laws_toWeather_run k)

def dec_lil (ps : List Pay) : Option ((List Int) × Int × (List Int)) := match ps with
  | [.l x1, .i x2, .l x3] => some (x1, x2, x3)
  | _ => none
def enc_lil (p : (List Int) × Int × (List Int)) : List Pay := [.l p.1, .i p.2.1, .l p.2.2]
theorem dec_enc_lil : ∀ (ps : List Pay) (p : (List Int) × Int × (List Int)), dec_lil ps = some p → ps = enc_lil p := by
  intro ps p h
  unfold dec_lil at h
  split at h
  · injection h with h
    subst h
    rfl
  · cases h

def laws_toWeatherS_t0 : StTm := ⟨23, [(0, .slv 87), (3, .slw 3 84), (4, .int .i64)], [(3, 84, false, .ints)]⟩
def laws_toWeatherS_t0_1 : StTm := ⟨23, [(3, .slw 3 84)], [(3, 84, false, .ints)]⟩
def laws_toWeatherS_w0 (k : Nat) (R : Type) (K : Ex → St → Option R) (rec : (List Int) × Int × (List Int) → Option R) (p : (List Int) × Int × (List Int)) : Option R := laws_toWeatherS_s0 k (fun y1 => K (.exit 0) (fSt laws_toWeatherS_t0_1 [.l y1])) (fun h1 h2 h3 => rec (h1, h2, h3)) p.1 p.2.1 p.2.2
def laws_toWeatherS_c0 (k : Nat) : Lcall := lcallOf tab laws_toWeatherS_t0 dec_lil [0, 3, 4] k (laws_toWeatherS_w0 k)
def laws_toWeatherS_C (k : Nat) : Cfg := ⟨tab, mvs, oraOf [laws_toWeather_e k], loOf [(0, laws_toWeatherS_c0 k)]⟩
theorem laws_toWeatherS_es (k : Nat) : ∀ e ∈ ([laws_toWeather_e k] : List Ent), EntOK Try.prog tab mvs e := by
  intro e he
  simp only [List.mem_cons, List.not_mem_nil, or_false] at he
  rcases he with rfl
  · exact laws_toWeather_ok k
theorem laws_toWeatherS_step0 (k : Nat) (R : Type) (K : Ex → St → Option R) (g : St → Option R) (p : (List Int) × Int × (List Int)) : evCode (laws_toWeatherS_C k) (loopP [0] (0, codeOf Try.f11)).2 (loopP [0] (0, codeOf Try.f11)).1 (fSt laws_toWeatherS_t0 (enc_lil p)) (loopK tab [0, 3, 4] [3] [2] g K) = laws_toWeatherS_w0 k R K (fun p => g (fSt laws_toWeatherS_t0 (enc_lil p))) p := by
  kernel_rfl
theorem laws_toWeatherS_lok0 (k : Nat) : LoopOK Try.prog tab (laws_toWeatherS_C k).lo (loopP [0] (0, codeOf Try.f11)).1 (loopP [0] (0, codeOf Try.f11)).2 :=
  loopOK_of (C := laws_toWeatherS_C k) tabOK eqTabOK (oraOf_ok (laws_toWeatherS_es k)) (oraOf_nat (laws_toWeatherS_es k)) follows (forall_getD _ 0 (0, Code.skip) (by kernel_rfl) fun i hi => by
      omega)
    (tm := laws_toWeatherS_t0) (dec := dec_lil) (enc := enc_lil) (ksIn := [0, 3, 4]) (ksOut := [3]) (ksRet := [2]) (k := k) (step := laws_toWeatherS_w0 k) dec_enc_lil (fun p => by kernel_rfl) (fun s R K => by kernel_rfl) (laws_toWeatherS_step0 k)
def laws_toWeatherS_e (k : Nat) : Ent := (11, callOf [.slv 87] dec_l fun (p : (List Int)) R K => (laws_toWeatherS k p).bind fun (b : (List Int)) => K ((fV (.slv 84) (enc_l b)).1, none))
theorem laws_toWeatherS_run (k : Nat) (p : (List Int)) : runF (laws_toWeatherS_C k) Try.f11 false (fL [.slv 87] (enc_l p)).1 (resK (.slv 84) dec_l) = laws_toWeatherS k p := by
  kernel_rfl
theorem laws_toWeatherS_ok (k : Nat) : EntOK Try.prog tab mvs (laws_toWeatherS_e k) :=
  fn_ok (C := laws_toWeatherS_C k) tabOK eqTabOK (laws_toWeatherS_es k) rfl follows Try.func11 (by kernel_rfl) (by kernel_rfl) rfl (forall_getD _ 1 (0, Code.skip) (by kernel_rfl) fun i hi => by
      match i, hi with
      | 0, _ => exact laws_toWeatherS_lok0 k
      | n + 1, h => omega)
    dec_enc_l dec_enc_l (laws_toWeatherS_run k)

def dec_iii (ps : List Pay) : Option (Int × Int × Int) := match ps with
  | [.i x1, .i x2, .i x3] => some (x1, x2, x3)
  | _ => none
def enc_iii (p : Int × Int × Int) : List Pay := [.i p.1, .i p.2.1, .i p.2.2]
theorem dec_enc_iii : ∀ (ps : List Pay) (p : Int × Int × Int), dec_iii ps = some p → ps = enc_iii p := by
  intro ps p h
  unfold dec_iii at h
  split at h
  · injection h with h
    subst h
    rfl
  · cases h

def dec_b (ps : List Pay) : Option (Bool) := match ps with
  | [.b x1] => some x1
  | _ => none
def enc_b (p : Bool) : List Pay := [.b p]
theorem dec_enc_b : ∀ (ps : List Pay) (p : Bool), dec_b ps = some p → ps = enc_b p := by
  intro ps p h
  unfold dec_b at h
  split at h
  · injection h with h
    subst h
    rfl
  · cases h

def spec_l00In_C (k : Nat) : Cfg := ⟨tab, mvs, oraOf [], loOf []⟩
theorem spec_l00In_es (k : Nat) : ∀ e ∈ ([] : List Ent), EntOK Try.prog tab mvs e := by
  intro e he
  simp at he
def spec_l00In_e (k : Nat) : Ent := (94, callOf [.int .i64, .int .i64, .int .i64] dec_iii fun (p : Int × Int × Int) R K => (spec_l00In k p.1 p.2.1 p.2.2).bind fun (b : Bool) => K ((fV (.bool) (enc_b b)).1, none))
theorem spec_l00In_run (k : Nat) (p : Int × Int × Int) : runF (spec_l00In_C k) Try.f94 false (fL [.int .i64, .int .i64, .int .i64] (enc_iii p)).1 (resK (.bool) dec_b) = spec_l00In k p.1 p.2.1 p.2.2 := by
  kernel_rfl
theorem spec_l00In_ok (k : Nat) : EntOK Try.prog tab mvs (spec_l00In_e k) :=
  fn_ok (C := spec_l00In_C k) tabOK eqTabOK (spec_l00In_es k) rfl follows Try.func94 (by kernel_rfl) (by kernel_rfl) rfl (forall_getD _ 0 (0, Code.skip) (by kernel_rfl) fun i hi => by
      omega)
    dec_enc_iii dec_enc_b (spec_l00In_run k)

def spec_l03High_C (k : Nat) : Cfg := ⟨tab, mvs, oraOf [spec_l00In_e k], loOf []⟩
theorem spec_l03High_es (k : Nat) : ∀ e ∈ ([spec_l00In_e k] : List Ent), EntOK Try.prog tab mvs e := by
  intro e he
  simp only [List.mem_cons, List.not_mem_nil, or_false] at he
  rcases he with rfl
  · exact spec_l00In_ok k
def spec_l03High_e (k : Nat) : Ent := (43, callOf [.int .i64] dec_i fun (p : Int) R K => (spec_l03High k p).bind fun (b : Bool) => K ((fV (.bool) (enc_b b)).1, none))
theorem spec_l03High_run (k : Nat) (p : Int) : runF (spec_l03High_C k) Try.f43 false (fL [.int .i64] (enc_i p)).1 (resK (.bool) dec_b) = spec_l03High k p := by
  kernel_rfl
theorem spec_l03High_ok (k : Nat) : EntOK Try.prog tab mvs (spec_l03High_e k) :=
  fn_ok (C := spec_l03High_C k) tabOK eqTabOK (spec_l03High_es k) rfl follows Try.func43 (by kernel_rfl) (by kernel_rfl) rfl (forall_getD _ 0 (0, Code.skip) (by kernel_rfl) fun i hi => by
      omega)
    dec_enc_i dec_enc_b (spec_l03High_run k)

def spec_l03Mows_C (k : Nat) : Cfg := ⟨tab, mvs, oraOf [spec_l00In_e k], loOf []⟩
theorem spec_l03Mows_es (k : Nat) : ∀ e ∈ ([spec_l00In_e k] : List Ent), EntOK Try.prog tab mvs e := by
  intro e he
  simp only [List.mem_cons, List.not_mem_nil, or_false] at he
  rcases he with rfl
  · exact spec_l00In_ok k
def spec_l03Mows_e (k : Nat) : Ent := (44, callOf [.int .i64] dec_i fun (p : Int) R K => (spec_l03Mows k p).bind fun (b : Bool) => K ((fV (.bool) (enc_b b)).1, none))
theorem spec_l03Mows_run (k : Nat) (p : Int) : runF (spec_l03Mows_C k) Try.f44 false (fL [.int .i64] (enc_i p)).1 (resK (.bool) dec_b) = spec_l03Mows k p := by
  kernel_rfl
theorem spec_l03Mows_ok (k : Nat) : EntOK Try.prog tab mvs (spec_l03Mows_e k) :=
  fn_ok (C := spec_l03Mows_C k) tabOK eqTabOK (spec_l03Mows_es k) rfl follows Try.func44 (by kernel_rfl) (by kernel_rfl) rfl (forall_getD _ 0 (0, Code.skip) (by kernel_rfl) fun i hi => by
      omega)
    dec_enc_i dec_enc_b (spec_l03Mows_run k)

def spec_l03Day_C (k : Nat) : Cfg := ⟨tab, mvs, oraOf [spec_l00In_e k], loOf []⟩
theorem spec_l03Day_es (k : Nat) : ∀ e ∈ ([spec_l00In_e k] : List Ent), EntOK Try.prog tab mvs e := by
  intro e he
  simp only [List.mem_cons, List.not_mem_nil, or_false] at he
  rcases he with rfl
  · exact spec_l00In_ok k
def spec_l03Day_e (k : Nat) : Ent := (129, callOf [.agg 84] dec_l fun (p : (List Int)) R K => (spec_l03Day k p).bind fun (b : Bool) => K ((fV (.bool) (enc_b b)).1, none))
theorem spec_l03Day_run (k : Nat) (p : (List Int)) : runF (spec_l03Day_C k) Try.f129 false (fL [.agg 84] (enc_l p)).1 (resK (.bool) dec_b) = spec_l03Day k p := by
  kernel_rfl
theorem spec_l03Day_ok (k : Nat) : EntOK Try.prog tab mvs (spec_l03Day_e k) :=
  fn_ok (C := spec_l03Day_C k) tabOK eqTabOK (spec_l03Day_es k) rfl follows Try.func129 (by kernel_rfl) (by kernel_rfl) rfl (forall_getD _ 0 (0, Code.skip) (by kernel_rfl) fun i hi => by
      omega)
    dec_enc_l dec_enc_b (spec_l03Day_run k)

def spec_l03Ok_t0 : StTm := ⟨19, [(0, .slv 84), (3, .int .i64)], []⟩
def spec_l03Ok_t0_1 : StTm := ⟨19, [(2, .bool)], []⟩
def spec_l03Ok_t0_2 : StTm := ⟨19, [(0, .slv 84)], []⟩
def spec_l03Ok_w0 (k : Nat) (R : Type) (K : Ex → St → Option R) (rec : (List Int) × Int → Option R) (p : (List Int) × Int) : Option R := spec_l03Ok_s0 k (fun y1 => K .ret (fSt spec_l03Ok_t0_1 [.b y1])) (fun y1 => K (.exit 0) (fSt spec_l03Ok_t0_2 [.l y1])) (fun h1 h2 => rec (h1, h2)) p.1 p.2
def spec_l03Ok_c0 (k : Nat) : Lcall := lcallOf tab spec_l03Ok_t0 dec_li [0, 3] k (spec_l03Ok_w0 k)
def spec_l03Ok_C (k : Nat) : Cfg := ⟨tab, mvs, oraOf [spec_l03Day_e k], loOf [(0, spec_l03Ok_c0 k)]⟩
theorem spec_l03Ok_es (k : Nat) : ∀ e ∈ ([spec_l03Day_e k] : List Ent), EntOK Try.prog tab mvs e := by
  intro e he
  simp only [List.mem_cons, List.not_mem_nil, or_false] at he
  rcases he with rfl
  · exact spec_l03Day_ok k
theorem spec_l03Ok_step0 (k : Nat) (R : Type) (K : Ex → St → Option R) (g : St → Option R) (p : (List Int) × Int) : evCode (spec_l03Ok_C k) (loopP [0] (0, codeOf Try.f93)).2 (loopP [0] (0, codeOf Try.f93)).1 (fSt spec_l03Ok_t0 (enc_li p)) (loopK tab [0, 3] [0] [2] g K) = spec_l03Ok_w0 k R K (fun p => g (fSt spec_l03Ok_t0 (enc_li p))) p := by
  kernel_rfl
theorem spec_l03Ok_lok0 (k : Nat) : LoopOK Try.prog tab (spec_l03Ok_C k).lo (loopP [0] (0, codeOf Try.f93)).1 (loopP [0] (0, codeOf Try.f93)).2 :=
  loopOK_of (C := spec_l03Ok_C k) tabOK eqTabOK (oraOf_ok (spec_l03Ok_es k)) (oraOf_nat (spec_l03Ok_es k)) follows (forall_getD _ 0 (0, Code.skip) (by kernel_rfl) fun i hi => by
      omega)
    (tm := spec_l03Ok_t0) (dec := dec_li) (enc := enc_li) (ksIn := [0, 3]) (ksOut := [0]) (ksRet := [2]) (k := k) (step := spec_l03Ok_w0 k) dec_enc_li (fun p => by kernel_rfl) (fun s R K => by kernel_rfl) (spec_l03Ok_step0 k)
def spec_l03Ok_e (k : Nat) : Ent := (93, callOf [.slv 84] dec_l fun (p : (List Int)) R K => (spec_l03Ok k p).bind fun (b : Bool) => K ((fV (.bool) (enc_b b)).1, none))
theorem spec_l03Ok_run (k : Nat) (p : (List Int)) : runF (spec_l03Ok_C k) Try.f93 false (fL [.slv 84] (enc_l p)).1 (resK (.bool) dec_b) = spec_l03Ok k p := by
  kernel_rfl
theorem spec_l03Ok_ok (k : Nat) : EntOK Try.prog tab mvs (spec_l03Ok_e k) :=
  fn_ok (C := spec_l03Ok_C k) tabOK eqTabOK (spec_l03Ok_es k) rfl follows Try.func93 (by kernel_rfl) (by kernel_rfl) rfl (forall_getD _ 1 (0, Code.skip) (by kernel_rfl) fun i hi => by
      match i, hi with
      | 0, _ => exact spec_l03Ok_lok0 k
      | n + 1, h => omega)
    dec_enc_l dec_enc_b (spec_l03Ok_run k)

def dec_lb (ps : List Pay) : Option ((List Int) × Bool) := match ps with
  | [.l x1, .b x2] => some (x1, x2)
  | _ => none
def enc_lb (p : (List Int) × Bool) : List Pay := [.l p.1, .b p.2]
theorem dec_enc_lb : ∀ (ps : List Pay) (p : (List Int) × Bool), dec_lb ps = some p → ps = enc_lb p := by
  intro ps p h
  unfold dec_lb at h
  split at h
  · injection h with h
    subst h
    rfl
  · cases h

def spec_l03Asked_C (k : Nat) : Cfg := ⟨tab, mvs, oraOf [spec_l03Ok_e k], loOf []⟩
theorem spec_l03Asked_es (k : Nat) : ∀ e ∈ ([spec_l03Ok_e k] : List Ent), EntOK Try.prog tab mvs e := by
  intro e he
  simp only [List.mem_cons, List.not_mem_nil, or_false] at he
  rcases he with rfl
  · exact spec_l03Ok_ok k
def spec_l03Asked_e (k : Nat) : Ent := (42, callOf [.slv 84, .bool] dec_lb fun (p : (List Int) × Bool) R K => (spec_l03Asked k p.1 p.2).bind fun (b : Int) => K ((fV (.int .i64) (enc_i b)).1, none))
theorem spec_l03Asked_run (k : Nat) (p : (List Int) × Bool) : runF (spec_l03Asked_C k) Try.f42 false (fL [.slv 84, .bool] (enc_lb p)).1 (resK (.int .i64) dec_i) = spec_l03Asked k p.1 p.2 := by
  kernel_rfl
theorem spec_l03Asked_ok (k : Nat) : EntOK Try.prog tab mvs (spec_l03Asked_e k) :=
  fn_ok (C := spec_l03Asked_C k) tabOK eqTabOK (spec_l03Asked_es k) rfl follows Try.func42 (by kernel_rfl) (by kernel_rfl) rfl (forall_getD _ 0 (0, Code.skip) (by kernel_rfl) fun i hi => by
      omega)
    dec_enc_lb dec_enc_i (spec_l03Asked_run k)

def spec_l03Growth_C (k : Nat) : Cfg := ⟨tab, mvs, oraOf [], loOf []⟩
theorem spec_l03Growth_es (k : Nat) : ∀ e ∈ ([] : List Ent), EntOK Try.prog tab mvs e := by
  intro e he
  simp at he
def spec_l03Growth_e (k : Nat) : Ent := (45, callOf [.agg 84] dec_l fun (p : (List Int)) R K => (spec_l03Growth k p).bind fun (b : Int) => K ((fV (.int .i64) (enc_i b)).1, none))
theorem spec_l03Growth_run (k : Nat) (p : (List Int)) : runF (spec_l03Growth_C k) Try.f45 false (fL [.agg 84] (enc_l p)).1 (resK (.int .i64) dec_i) = spec_l03Growth k p := by
  kernel_rfl
theorem spec_l03Growth_ok (k : Nat) : EntOK Try.prog tab mvs (spec_l03Growth_e k) :=
  fn_ok (C := spec_l03Growth_C k) tabOK eqTabOK (spec_l03Growth_es k) rfl follows Try.func45 (by kernel_rfl) (by kernel_rfl) rfl (forall_getD _ 0 (0, Code.skip) (by kernel_rfl) fun i hi => by
      omega)
    dec_enc_l dec_enc_i (spec_l03Growth_run k)

def dec_ii (ps : List Pay) : Option (Int × Int) := match ps with
  | [.i x1, .i x2] => some (x1, x2)
  | _ => none
def enc_ii (p : Int × Int) : List Pay := [.i p.1, .i p.2]
theorem dec_enc_ii : ∀ (ps : List Pay) (p : Int × Int), dec_ii ps = some p → ps = enc_ii p := by
  intro ps p h
  unfold dec_ii at h
  split at h
  · injection h with h
    subst h
    rfl
  · cases h

def spec_l00Min_C (k : Nat) : Cfg := ⟨tab, mvs, oraOf [], loOf []⟩
theorem spec_l00Min_es (k : Nat) : ∀ e ∈ ([] : List Ent), EntOK Try.prog tab mvs e := by
  intro e he
  simp at he
def spec_l00Min_e (k : Nat) : Ent := (46, callOf [.int .i64, .int .i64] dec_ii fun (p : Int × Int) R K => (spec_l00Min k p.1 p.2).bind fun (b : Int) => K ((fV (.int .i64) (enc_i b)).1, none))
theorem spec_l00Min_run (k : Nat) (p : Int × Int) : runF (spec_l00Min_C k) Try.f46 false (fL [.int .i64, .int .i64] (enc_ii p)).1 (resK (.int .i64) dec_i) = spec_l00Min k p.1 p.2 := by
  kernel_rfl
theorem spec_l00Min_ok (k : Nat) : EntOK Try.prog tab mvs (spec_l00Min_e k) :=
  fn_ok (C := spec_l00Min_C k) tabOK eqTabOK (spec_l00Min_es k) rfl follows Try.func46 (by kernel_rfl) (by kernel_rfl) rfl (forall_getD _ 0 (0, Code.skip) (by kernel_rfl) fun i hi => by
      omega)
    dec_enc_ii dec_enc_i (spec_l00Min_run k)

def dec_iiiliir (ps : List Pay) : Option (Int × Int × Int × (List Int) × Int × Int × (List (List Int))) := match ps with
  | [.i x1, .i x2, .i x3, .l x4, .i x5, .i x6, .r x7] => some (x1, x2, x3, x4, x5, x6, x7)
  | _ => none
def enc_iiiliir (p : Int × Int × Int × (List Int) × Int × Int × (List (List Int))) : List Pay := [.i p.1, .i p.2.1, .i p.2.2.1, .l p.2.2.2.1, .i p.2.2.2.2.1, .i p.2.2.2.2.2.1, .r p.2.2.2.2.2.2]
theorem dec_enc_iiiliir : ∀ (ps : List Pay) (p : Int × Int × Int × (List Int) × Int × Int × (List (List Int))), dec_iiiliir ps = some p → ps = enc_iiiliir p := by
  intro ps p h
  unfold dec_iiiliir at h
  split at h
  · injection h with h
    subst h
    rfl
  · cases h

def dec_iiliiiirr (ps : List Pay) : Option (Int × Int × (List Int) × Int × Int × Int × Int × (List (List Int)) × (List (List Int))) := match ps with
  | [.i x1, .i x2, .l x3, .i x4, .i x5, .i x6, .i x7, .r x8, .r x9] => some (x1, x2, x3, x4, x5, x6, x7, x8, x9)
  | _ => none
def enc_iiliiiirr (p : Int × Int × (List Int) × Int × Int × Int × Int × (List (List Int)) × (List (List Int))) : List Pay := [.i p.1, .i p.2.1, .l p.2.2.1, .i p.2.2.2.1, .i p.2.2.2.2.1, .i p.2.2.2.2.2.1, .i p.2.2.2.2.2.2.1, .r p.2.2.2.2.2.2.2.1, .r p.2.2.2.2.2.2.2.2]
theorem dec_enc_iiliiiirr : ∀ (ps : List Pay) (p : Int × Int × (List Int) × Int × Int × Int × Int × (List (List Int)) × (List (List Int))), dec_iiliiiirr ps = some p → ps = enc_iiliiiirr p := by
  intro ps p h
  unfold dec_iiliiiirr at h
  split at h
  · injection h with h
    subst h
    rfl
  · cases h

def dec_iiliiiiirr (ps : List Pay) : Option (Int × Int × (List Int) × Int × Int × Int × Int × Int × (List (List Int)) × (List (List Int))) := match ps with
  | [.i x1, .i x2, .l x3, .i x4, .i x5, .i x6, .i x7, .i x8, .r x9, .r x10] => some (x1, x2, x3, x4, x5, x6, x7, x8, x9, x10)
  | _ => none
def enc_iiliiiiirr (p : Int × Int × (List Int) × Int × Int × Int × Int × Int × (List (List Int)) × (List (List Int))) : List Pay := [.i p.1, .i p.2.1, .l p.2.2.1, .i p.2.2.2.1, .i p.2.2.2.2.1, .i p.2.2.2.2.2.1, .i p.2.2.2.2.2.2.1, .i p.2.2.2.2.2.2.2.1, .r p.2.2.2.2.2.2.2.2.1, .r p.2.2.2.2.2.2.2.2.2]
theorem dec_enc_iiliiiiirr : ∀ (ps : List Pay) (p : Int × Int × (List Int) × Int × Int × Int × Int × Int × (List (List Int)) × (List (List Int))), dec_iiliiiiirr ps = some p → ps = enc_iiliiiiirr p := by
  intro ps p h
  unfold dec_iiliiiiirr at h
  split at h
  · injection h with h
    subst h
    rfl
  · cases h

def dec_iiliir (ps : List Pay) : Option (Int × Int × (List Int) × Int × Int × (List (List Int))) := match ps with
  | [.i x1, .i x2, .l x3, .i x4, .i x5, .r x6] => some (x1, x2, x3, x4, x5, x6)
  | _ => none
def enc_iiliir (p : Int × Int × (List Int) × Int × Int × (List (List Int))) : List Pay := [.i p.1, .i p.2.1, .l p.2.2.1, .i p.2.2.2.1, .i p.2.2.2.2.1, .r p.2.2.2.2.2]
theorem dec_enc_iiliir : ∀ (ps : List Pay) (p : Int × Int × (List Int) × Int × Int × (List (List Int))), dec_iiliir ps = some p → ps = enc_iiliir p := by
  intro ps p h
  unfold dec_iiliir at h
  split at h
  · injection h with h
    subst h
    rfl
  · cases h

def dec_iiir (ps : List Pay) : Option (Int × Int × Int × (List (List Int))) := match ps with
  | [.i x1, .i x2, .i x3, .r x4] => some (x1, x2, x3, x4)
  | _ => none
def enc_iiir (p : Int × Int × Int × (List (List Int))) : List Pay := [.i p.1, .i p.2.1, .i p.2.2.1, .r p.2.2.2]
theorem dec_enc_iiir : ∀ (ps : List Pay) (p : Int × Int × Int × (List (List Int))), dec_iiir ps = some p → ps = enc_iiir p := by
  intro ps p h
  unfold dec_iiir at h
  split at h
  · injection h with h
    subst h
    rfl
  · cases h

def dec_iiili (ps : List Pay) : Option (Int × Int × Int × (List Int) × Int) := match ps with
  | [.i x1, .i x2, .i x3, .l x4, .i x5] => some (x1, x2, x3, x4, x5)
  | _ => none
def enc_iiili (p : Int × Int × Int × (List Int) × Int) : List Pay := [.i p.1, .i p.2.1, .i p.2.2.1, .l p.2.2.2.1, .i p.2.2.2.2]
theorem dec_enc_iiili : ∀ (ps : List Pay) (p : Int × Int × Int × (List Int) × Int), dec_iiili ps = some p → ps = enc_iiili p := by
  intro ps p h
  unfold dec_iiili at h
  split at h
  · injection h with h
    subst h
    rfl
  · cases h

def spec_CountPlans_t0 : StTm := ⟨158, [(0, .int .i64), (1, .int .i64), (2, .int .i64), (3, .slv 84), (4, .int .i64), (13, .slw 13 81), (14, .int .i64)], [(13, 81, false, .orows 2)]⟩
def spec_CountPlans_t0_1 : StTm := ⟨158, [(0, .int .i64), (1, .int .i64), (2, .int .i64), (3, .slv 84), (4, .int .i64), (13, .slw 13 81)], [(13, 81, false, .orows 2)]⟩
def spec_CountPlans_w0 (k : Nat) (R : Type) (K : Ex → St → Option R) (rec : Int × Int × Int × (List Int) × Int × Int × (List (List Int)) → Option R) (p : Int × Int × Int × (List Int) × Int × Int × (List (List Int))) : Option R := spec_CountPlans_s0 k (fun y1 y2 y3 y4 y5 y6 => K (.exit 0) (fSt spec_CountPlans_t0_1 [.i y1, .i y2, .i y3, .l y4, .i y5, .r y6])) (fun h1 h2 h3 h4 h5 h6 h7 => rec (h1, h2, h3, h4, h5, h6, h7)) p.1 p.2.1 p.2.2.1 p.2.2.2.1 p.2.2.2.2.1 p.2.2.2.2.2.1 p.2.2.2.2.2.2
def spec_CountPlans_c0 (k : Nat) : Lcall := lcallOf tab spec_CountPlans_t0 dec_iiiliir [0, 1, 2, 3, 4, 13, 14] k (spec_CountPlans_w0 k)
def spec_CountPlans_t1 : StTm := ⟨158, [(1, .int .i64), (2, .int .i64), (3, .slv 84), (4, .int .i64), (13, .slw 13 81), (15, .int .i64), (16, .int .i64), (17, .slw 17 81), (18, .int .i64)], [(13, 81, false, .orows 2), (17, 81, false, .orows 2)]⟩
def spec_CountPlans_t1_1 : StTm := ⟨158, [(1, .int .i64), (2, .int .i64), (3, .slv 84), (4, .int .i64), (13, .slw 13 81), (15, .int .i64), (16, .int .i64), (17, .slw 17 81)], [(13, 81, false, .orows 2), (17, 81, false, .orows 2)]⟩
def spec_CountPlans_w1 (k : Nat) (R : Type) (K : Ex → St → Option R) (rec : Int × Int × (List Int) × Int × Int × Int × Int × (List (List Int)) × (List (List Int)) → Option R) (p : Int × Int × (List Int) × Int × Int × Int × Int × (List (List Int)) × (List (List Int))) : Option R := spec_CountPlans_s1 k (fun y1 y2 y3 y4 y5 y6 y7 y8 => K (.exit 4) (fSt spec_CountPlans_t1_1 [.i y1, .i y2, .l y3, .i y4, .i y5, .i y6, .r y7, .r y8])) (fun h1 h2 h3 h4 h5 h6 h7 h8 h9 => rec (h1, h2, h3, h4, h5, h6, h7, h8, h9)) p.1 p.2.1 p.2.2.1 p.2.2.2.1 p.2.2.2.2.1 p.2.2.2.2.2.1 p.2.2.2.2.2.2.1 p.2.2.2.2.2.2.2.1 p.2.2.2.2.2.2.2.2
def spec_CountPlans_c1 (k : Nat) : Lcall := lcallOf tab spec_CountPlans_t1 dec_iiliiiirr [1, 2, 3, 4, 13, 15, 16, 17, 18] k (spec_CountPlans_w1 k)
def spec_CountPlans_t2 : StTm := ⟨158, [(1, .int .i64), (2, .int .i64), (3, .slv 84), (4, .int .i64), (13, .slw 13 81), (15, .int .i64), (16, .int .i64), (17, .slw 17 81), (19, .int .i64), (20, .int .i64)], [(13, 81, false, .orows 2), (17, 81, false, .orows 2)]⟩
def spec_CountPlans_t2_1 : StTm := ⟨158, [(1, .int .i64), (2, .int .i64), (3, .slv 84), (4, .int .i64), (13, .slw 13 81), (15, .int .i64), (16, .int .i64), (17, .slw 17 81), (19, .int .i64)], [(13, 81, false, .orows 2), (17, 81, false, .orows 2)]⟩
def spec_CountPlans_w2 (k : Nat) (R : Type) (K : Ex → St → Option R) (rec : Int × Int × (List Int) × Int × Int × Int × Int × Int × (List (List Int)) × (List (List Int)) → Option R) (p : Int × Int × (List Int) × Int × Int × Int × Int × Int × (List (List Int)) × (List (List Int))) : Option R := spec_CountPlans_s2 k (fun y1 y2 y3 y4 y5 y6 y7 y8 y9 => K (.exit 8) (fSt spec_CountPlans_t2_1 [.i y1, .i y2, .l y3, .i y4, .i y5, .i y6, .i y7, .r y8, .r y9])) (fun h1 h2 h3 h4 h5 h6 h7 h8 h9 h10 => rec (h1, h2, h3, h4, h5, h6, h7, h8, h9, h10)) p.1 p.2.1 p.2.2.1 p.2.2.2.1 p.2.2.2.2.1 p.2.2.2.2.2.1 p.2.2.2.2.2.2.1 p.2.2.2.2.2.2.2.1 p.2.2.2.2.2.2.2.2.1 p.2.2.2.2.2.2.2.2.2
def spec_CountPlans_c2 (k : Nat) : Lcall := lcallOf tab spec_CountPlans_t2 dec_iiliiiiirr [1, 2, 3, 4, 13, 15, 16, 17, 19, 20] k (spec_CountPlans_w2 k)
def spec_CountPlans_t3 : StTm := ⟨158, [(1, .int .i64), (2, .int .i64), (3, .slv 84), (4, .int .i64), (13, .slw 13 81), (15, .int .i64), (16, .int .i64), (17, .slw 17 81), (19, .int .i64)], [(13, 81, false, .orows 2), (17, 81, false, .orows 2)]⟩
def spec_CountPlans_t3_1 : StTm := ⟨158, [(1, .int .i64), (2, .int .i64), (3, .slv 84), (4, .int .i64), (13, .slw 13 81), (15, .int .i64), (17, .slw 17 81)], [(13, 81, false, .orows 2), (17, 81, false, .orows 2)]⟩
def spec_CountPlans_w3 (k : Nat) (R : Type) (K : Ex → St → Option R) (rec : Int × Int × (List Int) × Int × Int × Int × Int × (List (List Int)) × (List (List Int)) → Option R) (p : Int × Int × (List Int) × Int × Int × Int × Int × (List (List Int)) × (List (List Int))) : Option R := spec_CountPlans_s3 k (fun y1 y2 y3 y4 y5 y6 y7 => K (.exit 6) (fSt spec_CountPlans_t3_1 [.i y1, .i y2, .l y3, .i y4, .i y5, .r y6, .r y7])) (fun h1 h2 h3 h4 h5 h6 h7 h8 h9 => rec (h1, h2, h3, h4, h5, h6, h7, h8, h9)) p.1 p.2.1 p.2.2.1 p.2.2.2.1 p.2.2.2.2.1 p.2.2.2.2.2.1 p.2.2.2.2.2.2.1 p.2.2.2.2.2.2.2.1 p.2.2.2.2.2.2.2.2
def spec_CountPlans_c3 (k : Nat) : Lcall := lcallOf tab spec_CountPlans_t3 dec_iiliiiirr [1, 2, 3, 4, 13, 15, 16, 17, 19] k (spec_CountPlans_w3 k)
def spec_CountPlans_t4 : StTm := ⟨158, [(1, .int .i64), (2, .int .i64), (3, .slv 84), (4, .int .i64), (13, .slw 13 81), (15, .int .i64)], [(13, 81, false, .orows 2)]⟩
def spec_CountPlans_t4_1 : StTm := ⟨158, [(4, .int .i64), (13, .slw 13 81)], [(13, 81, false, .orows 2)]⟩
def spec_CountPlans_w4 (k : Nat) (R : Type) (K : Ex → St → Option R) (rec : Int × Int × (List Int) × Int × Int × (List (List Int)) → Option R) (p : Int × Int × (List Int) × Int × Int × (List (List Int))) : Option R := spec_CountPlans_s4 k (fun y1 y2 => K (.exit 2) (fSt spec_CountPlans_t4_1 [.i y1, .r y2])) (fun h1 h2 h3 h4 h5 h6 => rec (h1, h2, h3, h4, h5, h6)) p.1 p.2.1 p.2.2.1 p.2.2.2.1 p.2.2.2.2.1 p.2.2.2.2.2
def spec_CountPlans_c4 (k : Nat) : Lcall := lcallOf tab spec_CountPlans_t4 dec_iiliir [1, 2, 3, 4, 13, 15] k (spec_CountPlans_w4 k)
def spec_CountPlans_t5 : StTm := ⟨158, [(4, .int .i64), (13, .slw 13 81), (23, .int .i64), (24, .int .i64)], [(13, 81, false, .orows 2)]⟩
def spec_CountPlans_t5_1 : StTm := ⟨158, [(23, .int .i64)], []⟩
def spec_CountPlans_w5 (k : Nat) (R : Type) (K : Ex → St → Option R) (rec : Int × Int × Int × (List (List Int)) → Option R) (p : Int × Int × Int × (List (List Int))) : Option R := spec_CountPlans_s5 k (fun y1 => K (.exit 10) (fSt spec_CountPlans_t5_1 [.i y1])) (fun h1 h2 h3 h4 => rec (h1, h2, h3, h4)) p.1 p.2.1 p.2.2.1 p.2.2.2
def spec_CountPlans_c5 (k : Nat) : Lcall := lcallOf tab spec_CountPlans_t5 dec_iiir [4, 13, 23, 24] k (spec_CountPlans_w5 k)
def spec_CountPlans_C (k : Nat) : Cfg := ⟨tab, mvs, oraOf [spec_l03High_e k, spec_l03Mows_e k, spec_l03Asked_e k, spec_l03Growth_e k, spec_l00Min_e k], loOf [(0, spec_CountPlans_c0 k), (4, spec_CountPlans_c1 k), (8, spec_CountPlans_c2 k), (6, spec_CountPlans_c3 k), (2, spec_CountPlans_c4 k), (10, spec_CountPlans_c5 k)]⟩
theorem spec_CountPlans_es (k : Nat) : ∀ e ∈ ([spec_l03High_e k, spec_l03Mows_e k, spec_l03Asked_e k, spec_l03Growth_e k, spec_l00Min_e k] : List Ent), EntOK Try.prog tab mvs e := by
  intro e he
  simp only [List.mem_cons, List.not_mem_nil, or_false] at he
  rcases he with rfl | rfl | rfl | rfl | rfl
  · exact spec_l03High_ok k
  · exact spec_l03Mows_ok k
  · exact spec_l03Asked_ok k
  · exact spec_l03Growth_ok k
  · exact spec_l00Min_ok k
theorem spec_CountPlans_step0 (k : Nat) (R : Type) (K : Ex → St → Option R) (g : St → Option R) (p : Int × Int × Int × (List Int) × Int × Int × (List (List Int))) : evCode (spec_CountPlans_C k) (loopP [0] (0, codeOf Try.f10)).2 (loopP [0] (0, codeOf Try.f10)).1 (fSt spec_CountPlans_t0 (enc_iiiliir p)) (loopK tab [0, 1, 2, 3, 4, 13, 14] [0, 1, 2, 3, 4, 13] [10, 11] g K) = spec_CountPlans_w0 k R K (fun p => g (fSt spec_CountPlans_t0 (enc_iiiliir p))) p := by
  kernel_rfl
theorem spec_CountPlans_lok0 (k : Nat) : LoopOK Try.prog tab (spec_CountPlans_C k).lo (loopP [0] (0, codeOf Try.f10)).1 (loopP [0] (0, codeOf Try.f10)).2 :=
  loopOK_of (C := spec_CountPlans_C k) tabOK eqTabOK (oraOf_ok (spec_CountPlans_es k)) (oraOf_nat (spec_CountPlans_es k)) follows (forall_getD _ 0 (0, Code.skip) (by kernel_rfl) fun i hi => by
      omega)
    (tm := spec_CountPlans_t0) (dec := dec_iiiliir) (enc := enc_iiiliir) (ksIn := [0, 1, 2, 3, 4, 13, 14]) (ksOut := [0, 1, 2, 3, 4, 13]) (ksRet := [10, 11]) (k := k) (step := spec_CountPlans_w0 k) dec_enc_iiiliir (fun p => by kernel_rfl) (fun s R K => by kernel_rfl) (spec_CountPlans_step0 k)
theorem spec_CountPlans_step1 (k : Nat) (R : Type) (K : Ex → St → Option R) (g : St → Option R) (p : Int × Int × (List Int) × Int × Int × Int × Int × (List (List Int)) × (List (List Int))) : evCode (spec_CountPlans_C k) (loopP [1, 0] (0, codeOf Try.f10)).2 (loopP [1, 0] (0, codeOf Try.f10)).1 (fSt spec_CountPlans_t1 (enc_iiliiiirr p)) (loopK tab [1, 2, 3, 4, 13, 15, 16, 17, 18] [1, 2, 3, 4, 13, 15, 16, 17] [10, 11] g K) = spec_CountPlans_w1 k R K (fun p => g (fSt spec_CountPlans_t1 (enc_iiliiiirr p))) p := by
  kernel_rfl
theorem spec_CountPlans_lok1 (k : Nat) : LoopOK Try.prog tab (spec_CountPlans_C k).lo (loopP [1, 0] (0, codeOf Try.f10)).1 (loopP [1, 0] (0, codeOf Try.f10)).2 :=
  loopOK_of (C := spec_CountPlans_C k) tabOK eqTabOK (oraOf_ok (spec_CountPlans_es k)) (oraOf_nat (spec_CountPlans_es k)) follows (forall_getD _ 0 (0, Code.skip) (by kernel_rfl) fun i hi => by
      omega)
    (tm := spec_CountPlans_t1) (dec := dec_iiliiiirr) (enc := enc_iiliiiirr) (ksIn := [1, 2, 3, 4, 13, 15, 16, 17, 18]) (ksOut := [1, 2, 3, 4, 13, 15, 16, 17]) (ksRet := [10, 11]) (k := k) (step := spec_CountPlans_w1 k) dec_enc_iiliiiirr (fun p => by kernel_rfl) (fun s R K => by kernel_rfl) (spec_CountPlans_step1 k)
theorem spec_CountPlans_step2 (k : Nat) (R : Type) (K : Ex → St → Option R) (g : St → Option R) (p : Int × Int × (List Int) × Int × Int × Int × Int × Int × (List (List Int)) × (List (List Int))) : evCode (spec_CountPlans_C k) (loopP [1, 1, 0] (0, codeOf Try.f10)).2 (loopP [1, 1, 0] (0, codeOf Try.f10)).1 (fSt spec_CountPlans_t2 (enc_iiliiiiirr p)) (loopK tab [1, 2, 3, 4, 13, 15, 16, 17, 19, 20] [1, 2, 3, 4, 13, 15, 16, 17, 19] [10, 11] g K) = spec_CountPlans_w2 k R K (fun p => g (fSt spec_CountPlans_t2 (enc_iiliiiiirr p))) p := by
  kernel_rfl
theorem spec_CountPlans_lok2 (k : Nat) : LoopOK Try.prog tab (spec_CountPlans_C k).lo (loopP [1, 1, 0] (0, codeOf Try.f10)).1 (loopP [1, 1, 0] (0, codeOf Try.f10)).2 :=
  loopOK_of (C := spec_CountPlans_C k) tabOK eqTabOK (oraOf_ok (spec_CountPlans_es k)) (oraOf_nat (spec_CountPlans_es k)) follows (forall_getD _ 0 (0, Code.skip) (by kernel_rfl) fun i hi => by
      omega)
    (tm := spec_CountPlans_t2) (dec := dec_iiliiiiirr) (enc := enc_iiliiiiirr) (ksIn := [1, 2, 3, 4, 13, 15, 16, 17, 19, 20]) (ksOut := [1, 2, 3, 4, 13, 15, 16, 17, 19]) (ksRet := [10, 11]) (k := k) (step := spec_CountPlans_w2 k) dec_enc_iiliiiiirr (fun p => by kernel_rfl) (fun s R K => by kernel_rfl) (spec_CountPlans_step2 k)
theorem spec_CountPlans_step3 (k : Nat) (R : Type) (K : Ex → St → Option R) (g : St → Option R) (p : Int × Int × (List Int) × Int × Int × Int × Int × (List (List Int)) × (List (List Int))) : evCode (spec_CountPlans_C k) (loopP [1, 1] (0, codeOf Try.f10)).2 (loopP [1, 1] (0, codeOf Try.f10)).1 (fSt spec_CountPlans_t3 (enc_iiliiiirr p)) (loopK tab [1, 2, 3, 4, 13, 15, 16, 17, 19] [1, 2, 3, 4, 13, 15, 17] [10, 11] g K) = spec_CountPlans_w3 k R K (fun p => g (fSt spec_CountPlans_t3 (enc_iiliiiirr p))) p := by
  kernel_rfl
theorem spec_CountPlans_lok3 (k : Nat) : LoopOK Try.prog tab (spec_CountPlans_C k).lo (loopP [1, 1] (0, codeOf Try.f10)).1 (loopP [1, 1] (0, codeOf Try.f10)).2 :=
  loopOK_of (C := spec_CountPlans_C k) tabOK eqTabOK (oraOf_ok (spec_CountPlans_es k)) (oraOf_nat (spec_CountPlans_es k)) follows (forall_getD _ 1 (0, Code.skip) (by kernel_rfl) fun i hi => by
      match i, hi with
      | 0, _ => exact spec_CountPlans_lok2 k
      | n + 1, h => omega)
    (tm := spec_CountPlans_t3) (dec := dec_iiliiiirr) (enc := enc_iiliiiirr) (ksIn := [1, 2, 3, 4, 13, 15, 16, 17, 19]) (ksOut := [1, 2, 3, 4, 13, 15, 17]) (ksRet := [10, 11]) (k := k) (step := spec_CountPlans_w3 k) dec_enc_iiliiiirr (fun p => by kernel_rfl) (fun s R K => by kernel_rfl) (spec_CountPlans_step3 k)
theorem spec_CountPlans_step4 (k : Nat) (R : Type) (K : Ex → St → Option R) (g : St → Option R) (p : Int × Int × (List Int) × Int × Int × (List (List Int))) : evCode (spec_CountPlans_C k) (loopP [1] (0, codeOf Try.f10)).2 (loopP [1] (0, codeOf Try.f10)).1 (fSt spec_CountPlans_t4 (enc_iiliir p)) (loopK tab [1, 2, 3, 4, 13, 15] [4, 13] [10, 11] g K) = spec_CountPlans_w4 k R K (fun p => g (fSt spec_CountPlans_t4 (enc_iiliir p))) p := by
  kernel_rfl
theorem spec_CountPlans_lok4 (k : Nat) : LoopOK Try.prog tab (spec_CountPlans_C k).lo (loopP [1] (0, codeOf Try.f10)).1 (loopP [1] (0, codeOf Try.f10)).2 :=
  loopOK_of (C := spec_CountPlans_C k) tabOK eqTabOK (oraOf_ok (spec_CountPlans_es k)) (oraOf_nat (spec_CountPlans_es k)) follows (forall_getD _ 2 (0, Code.skip) (by kernel_rfl) fun i hi => by
      match i, hi with
      | 0, _ => exact spec_CountPlans_lok1 k
      | 1, _ => exact spec_CountPlans_lok3 k
      | n + 2, h => omega)
    (tm := spec_CountPlans_t4) (dec := dec_iiliir) (enc := enc_iiliir) (ksIn := [1, 2, 3, 4, 13, 15]) (ksOut := [4, 13]) (ksRet := [10, 11]) (k := k) (step := spec_CountPlans_w4 k) dec_enc_iiliir (fun p => by kernel_rfl) (fun s R K => by kernel_rfl) (spec_CountPlans_step4 k)
theorem spec_CountPlans_step5 (k : Nat) (R : Type) (K : Ex → St → Option R) (g : St → Option R) (p : Int × Int × Int × (List (List Int))) : evCode (spec_CountPlans_C k) (loopP [2] (0, codeOf Try.f10)).2 (loopP [2] (0, codeOf Try.f10)).1 (fSt spec_CountPlans_t5 (enc_iiir p)) (loopK tab [4, 13, 23, 24] [23] [10, 11] g K) = spec_CountPlans_w5 k R K (fun p => g (fSt spec_CountPlans_t5 (enc_iiir p))) p := by
  kernel_rfl
theorem spec_CountPlans_lok5 (k : Nat) : LoopOK Try.prog tab (spec_CountPlans_C k).lo (loopP [2] (0, codeOf Try.f10)).1 (loopP [2] (0, codeOf Try.f10)).2 :=
  loopOK_of (C := spec_CountPlans_C k) tabOK eqTabOK (oraOf_ok (spec_CountPlans_es k)) (oraOf_nat (spec_CountPlans_es k)) follows (forall_getD _ 0 (0, Code.skip) (by kernel_rfl) fun i hi => by
      omega)
    (tm := spec_CountPlans_t5) (dec := dec_iiir) (enc := enc_iiir) (ksIn := [4, 13, 23, 24]) (ksOut := [23]) (ksRet := [10, 11]) (k := k) (step := spec_CountPlans_w5 k) dec_enc_iiir (fun p => by kernel_rfl) (fun s R K => by kernel_rfl) (spec_CountPlans_step5 k)
def spec_CountPlans_e (k : Nat) : Ent := (10, callOf [.int .i64, .int .i64, .int .i64, .slv 84, .int .i64] dec_iiili fun (p : Int × Int × Int × (List Int) × Int) R K => (spec_CountPlans k p.1 p.2.1 p.2.2.1 p.2.2.2.1 p.2.2.2.2).bind fun (b : Int × Int) => K ((fV (.tup [.int .i64, .int .i64]) (enc_ii b)).1, none))
theorem spec_CountPlans_run (k : Nat) (p : Int × Int × Int × (List Int) × Int) : runF (spec_CountPlans_C k) Try.f10 false (fL [.int .i64, .int .i64, .int .i64, .slv 84, .int .i64] (enc_iiili p)).1 (resK (.tup [.int .i64, .int .i64]) dec_ii) = spec_CountPlans k p.1 p.2.1 p.2.2.1 p.2.2.2.1 p.2.2.2.2 := by
  kernel_rfl
theorem spec_CountPlans_ok (k : Nat) : EntOK Try.prog tab mvs (spec_CountPlans_e k) :=
  fn_ok (C := spec_CountPlans_C k) tabOK eqTabOK (spec_CountPlans_es k) rfl follows Try.func10 (by kernel_rfl) (by kernel_rfl) rfl (forall_getD _ 3 (0, Code.skip) (by kernel_rfl) fun i hi => by
      match i, hi with
      | 0, _ => exact spec_CountPlans_lok0 k
      | 1, _ => exact spec_CountPlans_lok4 k
      | 2, _ => exact spec_CountPlans_lok5 k
      | n + 3, h => omega)
    dec_enc_iiili dec_enc_ii (spec_CountPlans_run k)

def impl_within_C (k : Nat) : Cfg := ⟨tab, mvs, oraOf [], loOf []⟩
theorem impl_within_es (k : Nat) : ∀ e ∈ ([] : List Ent), EntOK Try.prog tab mvs e := by
  intro e he
  simp at he
def impl_within_e (k : Nat) : Ent := (49, callOf [.int .i64, .int .i64, .int .i64] dec_iii fun (p : Int × Int × Int) R K => (impl_within k p.1 p.2.1 p.2.2).bind fun (b : Bool) => K ((fV (.bool) (enc_b b)).1, none))
theorem impl_within_run (k : Nat) (p : Int × Int × Int) : runF (impl_within_C k) Try.f49 false (fL [.int .i64, .int .i64, .int .i64] (enc_iii p)).1 (resK (.bool) dec_b) = impl_within k p.1 p.2.1 p.2.2 := by
  kernel_rfl
theorem impl_within_ok (k : Nat) : EntOK Try.prog tab mvs (impl_within_e k) :=
  fn_ok (C := impl_within_C k) tabOK eqTabOK (impl_within_es k) rfl follows Try.func49 (by kernel_rfl) (by kernel_rfl) rfl (forall_getD _ 0 (0, Code.skip) (by kernel_rfl) fun i hi => by
      omega)
    dec_enc_iii dec_enc_b (impl_within_run k)

def impl_isDay_C (k : Nat) : Cfg := ⟨tab, mvs, oraOf [impl_within_e k], loOf []⟩
theorem impl_isDay_es (k : Nat) : ∀ e ∈ ([impl_within_e k] : List Ent), EntOK Try.prog tab mvs e := by
  intro e he
  simp only [List.mem_cons, List.not_mem_nil, or_false] at he
  rcases he with rfl
  · exact impl_within_ok k
def impl_isDay_e (k : Nat) : Ent := (132, callOf [.agg 84] dec_l fun (p : (List Int)) R K => (impl_isDay k p).bind fun (b : Bool) => K ((fV (.bool) (enc_b b)).1, none))
theorem impl_isDay_run (k : Nat) (p : (List Int)) : runF (impl_isDay_C k) Try.f132 false (fL [.agg 84] (enc_l p)).1 (resK (.bool) dec_b) = impl_isDay k p := by
  kernel_rfl
theorem impl_isDay_ok (k : Nat) : EntOK Try.prog tab mvs (impl_isDay_e k) :=
  fn_ok (C := impl_isDay_C k) tabOK eqTabOK (impl_isDay_es k) rfl follows Try.func132 (by kernel_rfl) (by kernel_rfl) rfl (forall_getD _ 0 (0, Code.skip) (by kernel_rfl) fun i hi => by
      omega)
    dec_enc_l dec_enc_b (impl_isDay_run k)

def impl_ValidWeather_1_C (k : Nat) : Cfg := ⟨tab, mvs, oraOf [impl_isDay_e k], loOf []⟩
theorem impl_ValidWeather_1_es (k : Nat) : ∀ e ∈ ([impl_isDay_e k] : List Ent), EntOK Try.prog tab mvs e := by
  intro e he
  simp only [List.mem_cons, List.not_mem_nil, or_false] at he
  rcases he with rfl
  · exact impl_isDay_ok k
def impl_ValidWeather_1_e (k : Nat) : Ent := (131, callOf [.agg 84] dec_l fun (p : (List Int)) R K => (impl_ValidWeather_1 k p).bind fun (b : Bool) => K ((fV (.bool) (enc_b b)).1, none))
theorem impl_ValidWeather_1_run (k : Nat) (p : (List Int)) : runF (impl_ValidWeather_1_C k) Try.f131 false (fL [.agg 84] (enc_l p)).1 (resK (.bool) dec_b) = impl_ValidWeather_1 k p := by
  kernel_rfl
theorem impl_ValidWeather_1_ok (k : Nat) : EntOK Try.prog tab mvs (impl_ValidWeather_1_e k) :=
  fn_ok (C := impl_ValidWeather_1_C k) tabOK eqTabOK (impl_ValidWeather_1_es k) rfl follows Try.func131 (by kernel_rfl) (by kernel_rfl) rfl (forall_getD _ 0 (0, Code.skip) (by kernel_rfl) fun i hi => by
      omega)
    dec_enc_l dec_enc_b (impl_ValidWeather_1_run k)

def dec_lgii (ps : List Pay) : Option ((List Int) × (List Int → Option Bool) × Int × Int) := match ps with
  | [.l x1, .g x2, .i x3, .i x4] => some (x1, x2, x3, x4)
  | _ => none
def enc_lgii (p : (List Int) × (List Int → Option Bool) × Int × Int) : List Pay := [.l p.1, .g p.2.1, .i p.2.2.1, .i p.2.2.2]
theorem dec_enc_lgii : ∀ (ps : List Pay) (p : (List Int) × (List Int → Option Bool) × Int × Int), dec_lgii ps = some p → ps = enc_lgii p := by
  intro ps p h
  unfold dec_lgii at h
  split at h
  · injection h with h
    subst h
    rfl
  · cases h

def dec_lg (ps : List Pay) : Option ((List Int) × (List Int → Option Bool)) := match ps with
  | [.l x1, .g x2] => some (x1, x2)
  | _ => none
def enc_lg (p : (List Int) × (List Int → Option Bool)) : List Pay := [.l p.1, .g p.2]
theorem dec_enc_lg : ∀ (ps : List Pay) (p : (List Int) × (List Int → Option Bool)), dec_lg ps = some p → ps = enc_lg p := by
  intro ps p h
  unfold dec_lg at h
  split at h
  · injection h with h
    subst h
    rfl
  · cases h

def slices_IndexFunc_impl_Weather_t0 : StTm := ⟨19, [(0, .slv 84), (1, .cloB 84), (7, .int .i64), (8, .int .i64)], []⟩
def slices_IndexFunc_impl_Weather_t0_1 : StTm := ⟨19, [(4, .int .i64)], []⟩
def slices_IndexFunc_impl_Weather_t0_2 : StTm := ⟨19, [], []⟩
def slices_IndexFunc_impl_Weather_w0 (k : Nat) (R : Type) (K : Ex → St → Option R) (rec : (List Int) × (List Int → Option Bool) × Int × Int → Option R) (p : (List Int) × (List Int → Option Bool) × Int × Int) : Option R := slices_IndexFunc_impl_Weather_s0 k (fun y1 => K .ret (fSt slices_IndexFunc_impl_Weather_t0_1 [.i y1])) (K (.exit 0) (fSt slices_IndexFunc_impl_Weather_t0_2 [])) (fun h1 h2 h3 h4 => rec (h1, h2, h3, h4)) p.1 p.2.1 p.2.2.1 p.2.2.2
def slices_IndexFunc_impl_Weather_c0 (k : Nat) : Lcall := lcallOf tab slices_IndexFunc_impl_Weather_t0 dec_lgii [0, 1, 7, 8] k (slices_IndexFunc_impl_Weather_w0 k)
def slices_IndexFunc_impl_Weather_C (k : Nat) : Cfg := ⟨tab, mvs, oraOf [], loOf [(0, slices_IndexFunc_impl_Weather_c0 k)]⟩
theorem slices_IndexFunc_impl_Weather_es (k : Nat) : ∀ e ∈ ([] : List Ent), EntOK Try.prog tab mvs e := by
  intro e he
  simp at he
theorem slices_IndexFunc_impl_Weather_step0 (k : Nat) (R : Type) (K : Ex → St → Option R) (g : St → Option R) (p : (List Int) × (List Int → Option Bool) × Int × Int) : evCode (slices_IndexFunc_impl_Weather_C k) (loopP [0] (0, codeOf Try.f145)).2 (loopP [0] (0, codeOf Try.f145)).1 (fSt slices_IndexFunc_impl_Weather_t0 (enc_lgii p)) (loopK tab [0, 1, 7, 8] [] [4] g K) = slices_IndexFunc_impl_Weather_w0 k R K (fun p => g (fSt slices_IndexFunc_impl_Weather_t0 (enc_lgii p))) p := by
  kernel_rfl
theorem slices_IndexFunc_impl_Weather_lok0 (k : Nat) : LoopOK Try.prog tab (slices_IndexFunc_impl_Weather_C k).lo (loopP [0] (0, codeOf Try.f145)).1 (loopP [0] (0, codeOf Try.f145)).2 :=
  loopOK_of (C := slices_IndexFunc_impl_Weather_C k) tabOK eqTabOK (oraOf_ok (slices_IndexFunc_impl_Weather_es k)) (oraOf_nat (slices_IndexFunc_impl_Weather_es k)) follows (forall_getD _ 0 (0, Code.skip) (by kernel_rfl) fun i hi => by
      omega)
    (tm := slices_IndexFunc_impl_Weather_t0) (dec := dec_lgii) (enc := enc_lgii) (ksIn := [0, 1, 7, 8]) (ksOut := []) (ksRet := [4]) (k := k) (step := slices_IndexFunc_impl_Weather_w0 k) dec_enc_lgii (fun p => by kernel_rfl) (fun s R K => by kernel_rfl) (slices_IndexFunc_impl_Weather_step0 k)
def slices_IndexFunc_impl_Weather_e (k : Nat) : Ent := (145, callOf [.slv 84, .cloB 84] dec_lg fun (p : (List Int) × (List Int → Option Bool)) R K => (slices_IndexFunc_impl_Weather k p.1 p.2).bind fun (b : Int) => K ((fV (.int .i64) (enc_i b)).1, none))
theorem slices_IndexFunc_impl_Weather_run (k : Nat) (p : (List Int) × (List Int → Option Bool)) : runF (slices_IndexFunc_impl_Weather_C k) Try.f145 false (fL [.slv 84, .cloB 84] (enc_lg p)).1 (resK (.int .i64) dec_i) = slices_IndexFunc_impl_Weather k p.1 p.2 := by
  kernel_rfl
theorem slices_IndexFunc_impl_Weather_ok (k : Nat) : EntOK Try.prog tab mvs (slices_IndexFunc_impl_Weather_e k) :=
  fn_ok (C := slices_IndexFunc_impl_Weather_C k) tabOK eqTabOK (slices_IndexFunc_impl_Weather_es k) rfl follows Try.func145 (by kernel_rfl) (by kernel_rfl) rfl (forall_getD _ 1 (0, Code.skip) (by kernel_rfl) fun i hi => by
      match i, hi with
      | 0, _ => exact slices_IndexFunc_impl_Weather_lok0 k
      | n + 1, h => omega)
    dec_enc_lg dec_enc_i (slices_IndexFunc_impl_Weather_run k)

def slices_ContainsFunc_impl_Weather_C (k : Nat) : Cfg := ⟨tab, mvs, oraOf [slices_IndexFunc_impl_Weather_e k], loOf []⟩
theorem slices_ContainsFunc_impl_Weather_es (k : Nat) : ∀ e ∈ ([slices_IndexFunc_impl_Weather_e k] : List Ent), EntOK Try.prog tab mvs e := by
  intro e he
  simp only [List.mem_cons, List.not_mem_nil, or_false] at he
  rcases he with rfl
  · exact slices_IndexFunc_impl_Weather_ok k
def slices_ContainsFunc_impl_Weather_e (k : Nat) : Ent := (130, callOf [.slv 84, .cloB 84] dec_lg fun (p : (List Int) × (List Int → Option Bool)) R K => (slices_ContainsFunc_impl_Weather k p.1 p.2).bind fun (b : Bool) => K ((fV (.bool) (enc_b b)).1, none))
theorem slices_ContainsFunc_impl_Weather_run (k : Nat) (p : (List Int) × (List Int → Option Bool)) : runF (slices_ContainsFunc_impl_Weather_C k) Try.f130 false (fL [.slv 84, .cloB 84] (enc_lg p)).1 (resK (.bool) dec_b) = slices_ContainsFunc_impl_Weather k p.1 p.2 := by
  kernel_rfl
theorem slices_ContainsFunc_impl_Weather_ok (k : Nat) : EntOK Try.prog tab mvs (slices_ContainsFunc_impl_Weather_e k) :=
  fn_ok (C := slices_ContainsFunc_impl_Weather_C k) tabOK eqTabOK (slices_ContainsFunc_impl_Weather_es k) rfl follows Try.func130 (by kernel_rfl) (by kernel_rfl) rfl (forall_getD _ 0 (0, Code.skip) (by kernel_rfl) fun i hi => by
      omega)
    dec_enc_lg dec_enc_b (slices_ContainsFunc_impl_Weather_run k)

def impl_ValidWeather_C (k : Nat) : Cfg := ⟨tab, mvs, oraOf [impl_ValidWeather_1_e k, slices_ContainsFunc_impl_Weather_e k], loOf []⟩
theorem impl_ValidWeather_es (k : Nat) : ∀ e ∈ ([impl_ValidWeather_1_e k, slices_ContainsFunc_impl_Weather_e k] : List Ent), EntOK Try.prog tab mvs e := by
  intro e he
  simp only [List.mem_cons, List.not_mem_nil, or_false] at he
  rcases he with rfl | rfl
  · exact impl_ValidWeather_1_ok k
  · exact slices_ContainsFunc_impl_Weather_ok k
def impl_ValidWeather_e (k : Nat) : Ent := (95, callOf [.slv 84] dec_l fun (p : (List Int)) R K => (impl_ValidWeather k p).bind fun (b : Bool) => K ((fV (.bool) (enc_b b)).1, none))
theorem impl_ValidWeather_run (k : Nat) (p : (List Int)) : runF (impl_ValidWeather_C k) Try.f95 false (fL [.slv 84] (enc_l p)).1 (resK (.bool) dec_b) = impl_ValidWeather k p := by
  kernel_rfl
theorem impl_ValidWeather_ok (k : Nat) : EntOK Try.prog tab mvs (impl_ValidWeather_e k) :=
  fn_ok (C := impl_ValidWeather_C k) tabOK eqTabOK (impl_ValidWeather_es k) rfl follows Try.func95 (by kernel_rfl) (by kernel_rfl) rfl (forall_getD _ 0 (0, Code.skip) (by kernel_rfl) fun i hi => by
      omega)
    dec_enc_l dec_enc_b (impl_ValidWeather_run k)

def impl_lengthsCode_1_C (k : Nat) : Cfg := ⟨tab, mvs, oraOf [impl_within_e k], loOf []⟩
theorem impl_lengthsCode_1_es (k : Nat) : ∀ e ∈ ([impl_within_e k] : List Ent), EntOK Try.prog tab mvs e := by
  intro e he
  simp only [List.mem_cons, List.not_mem_nil, or_false] at he
  rcases he with rfl
  · exact impl_within_ok k
def impl_lengthsCode_1_e (k : Nat) : Ent := (97, callOf [.int .i64] dec_i fun (p : Int) R K => (impl_lengthsCode_1 k p).bind fun (b : Bool) => K ((fV (.bool) (enc_b b)).1, none))
theorem impl_lengthsCode_1_run (k : Nat) (p : Int) : runF (impl_lengthsCode_1_C k) Try.f97 false (fL [.int .i64] (enc_i p)).1 (resK (.bool) dec_b) = impl_lengthsCode_1 k p := by
  kernel_rfl
theorem impl_lengthsCode_1_ok (k : Nat) : EntOK Try.prog tab mvs (impl_lengthsCode_1_e k) :=
  fn_ok (C := impl_lengthsCode_1_C k) tabOK eqTabOK (impl_lengthsCode_1_es k) rfl follows Try.func97 (by kernel_rfl) (by kernel_rfl) rfl (forall_getD _ 0 (0, Code.skip) (by kernel_rfl) fun i hi => by
      omega)
    dec_enc_i dec_enc_b (impl_lengthsCode_1_run k)

def slices_IndexFunc_int64_t0 : StTm := ⟨19, [(0, .slv 2), (1, .cloB 2), (7, .int .i64), (8, .int .i64)], []⟩
def slices_IndexFunc_int64_t0_1 : StTm := ⟨19, [(4, .int .i64)], []⟩
def slices_IndexFunc_int64_t0_2 : StTm := ⟨19, [], []⟩
def slices_IndexFunc_int64_w0 (k : Nat) (R : Type) (K : Ex → St → Option R) (rec : (List Int) × (List Int → Option Bool) × Int × Int → Option R) (p : (List Int) × (List Int → Option Bool) × Int × Int) : Option R := slices_IndexFunc_int64_s0 k (fun y1 => K .ret (fSt slices_IndexFunc_int64_t0_1 [.i y1])) (K (.exit 0) (fSt slices_IndexFunc_int64_t0_2 [])) (fun h1 h2 h3 h4 => rec (h1, h2, h3, h4)) p.1 p.2.1 p.2.2.1 p.2.2.2
def slices_IndexFunc_int64_c0 (k : Nat) : Lcall := lcallOf tab slices_IndexFunc_int64_t0 dec_lgii [0, 1, 7, 8] k (slices_IndexFunc_int64_w0 k)
def slices_IndexFunc_int64_C (k : Nat) : Cfg := ⟨tab, mvs, oraOf [], loOf [(0, slices_IndexFunc_int64_c0 k)]⟩
theorem slices_IndexFunc_int64_es (k : Nat) : ∀ e ∈ ([] : List Ent), EntOK Try.prog tab mvs e := by
  intro e he
  simp at he
theorem slices_IndexFunc_int64_step0 (k : Nat) (R : Type) (K : Ex → St → Option R) (g : St → Option R) (p : (List Int) × (List Int → Option Bool) × Int × Int) : evCode (slices_IndexFunc_int64_C k) (loopP [0] (0, codeOf Try.f133)).2 (loopP [0] (0, codeOf Try.f133)).1 (fSt slices_IndexFunc_int64_t0 (enc_lgii p)) (loopK tab [0, 1, 7, 8] [] [4] g K) = slices_IndexFunc_int64_w0 k R K (fun p => g (fSt slices_IndexFunc_int64_t0 (enc_lgii p))) p := by
  kernel_rfl
theorem slices_IndexFunc_int64_lok0 (k : Nat) : LoopOK Try.prog tab (slices_IndexFunc_int64_C k).lo (loopP [0] (0, codeOf Try.f133)).1 (loopP [0] (0, codeOf Try.f133)).2 :=
  loopOK_of (C := slices_IndexFunc_int64_C k) tabOK eqTabOK (oraOf_ok (slices_IndexFunc_int64_es k)) (oraOf_nat (slices_IndexFunc_int64_es k)) follows (forall_getD _ 0 (0, Code.skip) (by kernel_rfl) fun i hi => by
      omega)
    (tm := slices_IndexFunc_int64_t0) (dec := dec_lgii) (enc := enc_lgii) (ksIn := [0, 1, 7, 8]) (ksOut := []) (ksRet := [4]) (k := k) (step := slices_IndexFunc_int64_w0 k) dec_enc_lgii (fun p => by kernel_rfl) (fun s R K => by kernel_rfl) (slices_IndexFunc_int64_step0 k)
def slices_IndexFunc_int64_e (k : Nat) : Ent := (133, callOf [.slv 2, .cloB 2] dec_lg fun (p : (List Int) × (List Int → Option Bool)) R K => (slices_IndexFunc_int64 k p.1 p.2).bind fun (b : Int) => K ((fV (.int .i64) (enc_i b)).1, none))
theorem slices_IndexFunc_int64_run (k : Nat) (p : (List Int) × (List Int → Option Bool)) : runF (slices_IndexFunc_int64_C k) Try.f133 false (fL [.slv 2, .cloB 2] (enc_lg p)).1 (resK (.int .i64) dec_i) = slices_IndexFunc_int64 k p.1 p.2 := by
  kernel_rfl
theorem slices_IndexFunc_int64_ok (k : Nat) : EntOK Try.prog tab mvs (slices_IndexFunc_int64_e k) :=
  fn_ok (C := slices_IndexFunc_int64_C k) tabOK eqTabOK (slices_IndexFunc_int64_es k) rfl follows Try.func133 (by kernel_rfl) (by kernel_rfl) rfl (forall_getD _ 1 (0, Code.skip) (by kernel_rfl) fun i hi => by
      match i, hi with
      | 0, _ => exact slices_IndexFunc_int64_lok0 k
      | n + 1, h => omega)
    dec_enc_lg dec_enc_i (slices_IndexFunc_int64_run k)

def slices_ContainsFunc_int64_C (k : Nat) : Cfg := ⟨tab, mvs, oraOf [slices_IndexFunc_int64_e k], loOf []⟩
theorem slices_ContainsFunc_int64_es (k : Nat) : ∀ e ∈ ([slices_IndexFunc_int64_e k] : List Ent), EntOK Try.prog tab mvs e := by
  intro e he
  simp only [List.mem_cons, List.not_mem_nil, or_false] at he
  rcases he with rfl
  · exact slices_IndexFunc_int64_ok k
def slices_ContainsFunc_int64_e (k : Nat) : Ent := (96, callOf [.slv 2, .cloB 2] dec_lg fun (p : (List Int) × (List Int → Option Bool)) R K => (slices_ContainsFunc_int64 k p.1 p.2).bind fun (b : Bool) => K ((fV (.bool) (enc_b b)).1, none))
theorem slices_ContainsFunc_int64_run (k : Nat) (p : (List Int) × (List Int → Option Bool)) : runF (slices_ContainsFunc_int64_C k) Try.f96 false (fL [.slv 2, .cloB 2] (enc_lg p)).1 (resK (.bool) dec_b) = slices_ContainsFunc_int64 k p.1 p.2 := by
  kernel_rfl
theorem slices_ContainsFunc_int64_ok (k : Nat) : EntOK Try.prog tab mvs (slices_ContainsFunc_int64_e k) :=
  fn_ok (C := slices_ContainsFunc_int64_C k) tabOK eqTabOK (slices_ContainsFunc_int64_es k) rfl follows Try.func96 (by kernel_rfl) (by kernel_rfl) rfl (forall_getD _ 0 (0, Code.skip) (by kernel_rfl) fun i hi => by
      omega)
    dec_enc_lg dec_enc_b (slices_ContainsFunc_int64_run k)

def dec_ll (ps : List Pay) : Option ((List Int) × (List Int)) := match ps with
  | [.l x1, .l x2] => some (x1, x2)
  | _ => none
def enc_ll (p : (List Int) × (List Int)) : List Pay := [.l p.1, .l p.2]
theorem dec_enc_ll : ∀ (ps : List Pay) (p : (List Int) × (List Int)), dec_ll ps = some p → ps = enc_ll p := by
  intro ps p h
  unfold dec_ll at h
  split at h
  · injection h with h
    subst h
    rfl
  · cases h

def impl_lengthsCode_C (k : Nat) : Cfg := ⟨tab, mvs, oraOf [impl_ValidWeather_e k, impl_lengthsCode_1_e k, slices_ContainsFunc_int64_e k], loOf []⟩
theorem impl_lengthsCode_es (k : Nat) : ∀ e ∈ ([impl_ValidWeather_e k, impl_lengthsCode_1_e k, slices_ContainsFunc_int64_e k] : List Ent), EntOK Try.prog tab mvs e := by
  intro e he
  simp only [List.mem_cons, List.not_mem_nil, or_false] at he
  rcases he with rfl | rfl | rfl
  · exact impl_ValidWeather_ok k
  · exact impl_lengthsCode_1_ok k
  · exact slices_ContainsFunc_int64_ok k
def impl_lengthsCode_e (k : Nat) : Ent := (48, callOf [.slv 84, .slv 2] dec_ll fun (p : (List Int) × (List Int)) R K => (impl_lengthsCode k p.1 p.2).bind fun (b : Int) => K ((fV (.int .i64) (enc_i b)).1, none))
theorem impl_lengthsCode_run (k : Nat) (p : (List Int) × (List Int)) : runF (impl_lengthsCode_C k) Try.f48 false (fL [.slv 84, .slv 2] (enc_ll p)).1 (resK (.int .i64) dec_i) = impl_lengthsCode k p.1 p.2 := by
  kernel_rfl
theorem impl_lengthsCode_ok (k : Nat) : EntOK Try.prog tab mvs (impl_lengthsCode_e k) :=
  fn_ok (C := impl_lengthsCode_C k) tabOK eqTabOK (impl_lengthsCode_es k) rfl follows Try.func48 (by kernel_rfl) (by kernel_rfl) rfl (forall_getD _ 0 (0, Code.skip) (by kernel_rfl) fun i hi => by
      omega)
    dec_enc_ll dec_enc_i (impl_lengthsCode_run k)

def dec_iil (ps : List Pay) : Option (Int × Int × (List Int)) := match ps with
  | [.i x1, .i x2, .l x3] => some (x1, x2, x3)
  | _ => none
def enc_iil (p : Int × Int × (List Int)) : List Pay := [.i p.1, .i p.2.1, .l p.2.2]
theorem dec_enc_iil : ∀ (ps : List Pay) (p : Int × Int × (List Int)), dec_iil ps = some p → ps = enc_iil p := by
  intro ps p h
  unfold dec_iil at h
  split at h
  · injection h with h
    subst h
    rfl
  · cases h

def dec_iilmm (ps : List Pay) : Option (Int × Int × (List Int) × (List (List Int × Int)) × (List (List Int × Int))) := match ps with
  | [.i x1, .i x2, .l x3, .m x4, .m x5] => some (x1, x2, x3, x4, x5)
  | _ => none
def enc_iilmm (p : Int × Int × (List Int) × (List (List Int × Int)) × (List (List Int × Int))) : List Pay := [.i p.1, .i p.2.1, .l p.2.2.1, .m p.2.2.2.1, .m p.2.2.2.2]
theorem dec_enc_iilmm : ∀ (ps : List Pay) (p : Int × Int × (List Int) × (List (List Int × Int)) × (List (List Int × Int))), dec_iilmm ps = some p → ps = enc_iilmm p := by
  intro ps p h
  unfold dec_iilmm at h
  split at h
  · injection h with h
    subst h
    rfl
  · cases h

def impl_plannerOf_C (k : Nat) : Cfg := ⟨tab, mvs, oraOf [], loOf []⟩
theorem impl_plannerOf_es (k : Nat) : ∀ e ∈ ([] : List Ent), EntOK Try.prog tab mvs e := by
  intro e he
  simp at he
def impl_plannerOf_e (k : Nat) : Ent := (50, callOf [.int .i64, .int .i64, .slv 84] dec_iil fun (p : Int × Int × (List Int)) R K => (impl_plannerOf k p.1 p.2.1 p.2.2).bind fun (b : Int × Int × (List Int) × (List (List Int × Int)) × (List (List Int × Int))) => K ((fV (.ownO 152 [.i .i64, .i .i64, .sl 84, .m 149, .m 150]) (enc_iilmm b)).1, none))
theorem impl_plannerOf_run (k : Nat) (p : Int × Int × (List Int)) : runF (impl_plannerOf_C k) Try.f50 false (fL [.int .i64, .int .i64, .slv 84] (enc_iil p)).1 (resK (.ownO 152 [.i .i64, .i .i64, .sl 84, .m 149, .m 150]) dec_iilmm) = impl_plannerOf k p.1 p.2.1 p.2.2 := by
  kernel_rfl
theorem impl_plannerOf_ok (k : Nat) : EntOK Try.prog tab mvs (impl_plannerOf_e k) :=
  fn_ok (C := impl_plannerOf_C k) tabOK eqTabOK (impl_plannerOf_es k) rfl follows Try.func50 (by kernel_rfl) (by kernel_rfl) rfl (forall_getD _ 0 (0, Code.skip) (by kernel_rfl) fun i hi => by
      omega)
    dec_enc_iil dec_enc_iilmm (impl_plannerOf_run k)

def impl_Weather_grows_C (k : Nat) : Cfg := ⟨tab, mvs, oraOf [], loOf []⟩
theorem impl_Weather_grows_es (k : Nat) : ∀ e ∈ ([] : List Ent), EntOK Try.prog tab mvs e := by
  intro e he
  simp at he
def impl_Weather_grows_e (k : Nat) : Ent := (98, callOf [.agg 84] dec_l fun (p : (List Int)) R K => (impl_Weather_grows k p).bind fun (b : Int) => K ((fV (.int .i64) (enc_i b)).1, none))
theorem impl_Weather_grows_run (k : Nat) (p : (List Int)) : runF (impl_Weather_grows_C k) Try.f98 false (fL [.agg 84] (enc_l p)).1 (resK (.int .i64) dec_i) = impl_Weather_grows k p := by
  kernel_rfl
theorem impl_Weather_grows_ok (k : Nat) : EntOK Try.prog tab mvs (impl_Weather_grows_e k) :=
  fn_ok (C := impl_Weather_grows_C k) tabOK eqTabOK (impl_Weather_grows_es k) rfl follows Try.func98 (by kernel_rfl) (by kernel_rfl) rfl (forall_getD _ 0 (0, Code.skip) (by kernel_rfl) fun i hi => by
      omega)
    dec_enc_l dec_enc_i (impl_Weather_grows_run k)

def dec_iilmmiii (ps : List Pay) : Option (Int × Int × (List Int) × (List (List Int × Int)) × (List (List Int × Int)) × Int × Int × Int) := match ps with
  | [.i x1, .i x2, .l x3, .m x4, .m x5, .i x6, .i x7, .i x8] => some (x1, x2, x3, x4, x5, x6, x7, x8)
  | _ => none
def enc_iilmmiii (p : Int × Int × (List Int) × (List (List Int × Int)) × (List (List Int × Int)) × Int × Int × Int) : List Pay := [.i p.1, .i p.2.1, .l p.2.2.1, .m p.2.2.2.1, .m p.2.2.2.2.1, .i p.2.2.2.2.2.1, .i p.2.2.2.2.2.2.1, .i p.2.2.2.2.2.2.2]
theorem dec_enc_iilmmiii : ∀ (ps : List Pay) (p : Int × Int × (List Int) × (List (List Int × Int)) × (List (List Int × Int)) × Int × Int × Int), dec_iilmmiii ps = some p → ps = enc_iilmmiii p := by
  intro ps p h
  unfold dec_iilmmiii at h
  split at h
  · injection h with h
    subst h
    rfl
  · cases h

def impl_planner_count_e (k : Nat) : Ent := (51, callOf [.ownO 152 [.i .i64, .i .i64, .sl 84, .m 149, .m 150], .int .i64, .int .i64, .int .i64] dec_iilmmiii fun (p : Int × Int × (List Int) × (List (List Int × Int)) × (List (List Int × Int)) × Int × Int × Int) R K => (impl_planner_count k p.1 p.2.1 p.2.2.1 p.2.2.2.1 p.2.2.2.2.1 p.2.2.2.2.2.1 p.2.2.2.2.2.2.1 p.2.2.2.2.2.2.2).bind fun (b : (Int) × (Int × Int × (List Int) × (List (List Int × Int)) × (List (List Int × Int)))) => K ((fV (.int .i64) (enc_i b.1)).1, some (fDs [.obj [.i .i64, .i .i64, .sl 84, .m 149, .m 150]] (enc_iilmm b.2))))
def impl_planner_count_C (k : Nat) : Cfg := ⟨tab, mvs, oraOf [impl_Weather_grows_e k, impl_planner_count_e k], loOf []⟩
theorem impl_planner_count_es (k : Nat) (ih : EntOK Try.prog tab mvs (impl_planner_count_e k)) : ∀ e ∈ ([impl_Weather_grows_e k, impl_planner_count_e k] : List Ent), EntOK Try.prog tab mvs e := by
  intro e he
  simp only [List.mem_cons, List.not_mem_nil, or_false] at he
  rcases he with rfl | rfl
  · exact impl_Weather_grows_ok k
  · exact ih
theorem impl_planner_count_run (k : Nat) (p : Int × Int × (List Int) × (List (List Int × Int)) × (List (List Int × Int)) × Int × Int × Int) : runF (impl_planner_count_C k) Try.f51 true (fL [.ownO 152 [.i .i64, .i .i64, .sl 84, .m 149, .m 150], .int .i64, .int .i64, .int .i64] (enc_iilmmiii p)).1 (resB (.int .i64) dec_i [.obj [.i .i64, .i .i64, .sl 84, .m 149, .m 150]] dec_iilmm) = impl_planner_count (k + 1) p.1 p.2.1 p.2.2.1 p.2.2.2.1 p.2.2.2.2.1 p.2.2.2.2.2.1 p.2.2.2.2.2.2.1 p.2.2.2.2.2.2.2 := by
  kernel_rfl
theorem impl_planner_count_ok : ∀ (k : Nat), EntOK Try.prog tab mvs (impl_planner_count_e k)
  | 0 => ent_none Try.func51 (by kernel_rfl) (by kernel_rfl) (fun _ => rfl)
  | k + 1 => fnb_ok (C := impl_planner_count_C k) tabOK eqTabOK (impl_planner_count_es k (impl_planner_count_ok k)) rfl follows Try.func51 (by kernel_rfl) (by kernel_rfl) rfl (forall_getD _ 0 (0, Code.skip) (by kernel_rfl) fun i hi => by
      omega)
    dec_enc_iilmmiii dec_enc_i dec_enc_iilmm (impl_planner_count_run k)

def impl_CountPlans_C (k : Nat) : Cfg := ⟨tab, mvs, oraOf [impl_lengthsCode_e k, impl_within_e k, impl_plannerOf_e k, impl_planner_count_e k], loOf []⟩
theorem impl_CountPlans_es (k : Nat) : ∀ e ∈ ([impl_lengthsCode_e k, impl_within_e k, impl_plannerOf_e k, impl_planner_count_e k] : List Ent), EntOK Try.prog tab mvs e := by
  intro e he
  simp only [List.mem_cons, List.not_mem_nil, or_false] at he
  rcases he with rfl | rfl | rfl | rfl
  · exact impl_lengthsCode_ok k
  · exact impl_within_ok k
  · exact impl_plannerOf_ok k
  · exact impl_planner_count_ok k
def impl_CountPlans_e (k : Nat) : Ent := (12, callOf [.int .i64, .int .i64, .int .i64, .slv 84, .int .i64] dec_iiili fun (p : Int × Int × Int × (List Int) × Int) R K => (impl_CountPlans k p.1 p.2.1 p.2.2.1 p.2.2.2.1 p.2.2.2.2).bind fun (b : Int × Int) => K ((fV (.tup [.int .i64, .int .i64]) (enc_ii b)).1, none))
theorem impl_CountPlans_run (k : Nat) (p : Int × Int × Int × (List Int) × Int) : runF (impl_CountPlans_C k) Try.f12 false (fL [.int .i64, .int .i64, .int .i64, .slv 84, .int .i64] (enc_iiili p)).1 (resK (.tup [.int .i64, .int .i64]) dec_ii) = impl_CountPlans k p.1 p.2.1 p.2.2.1 p.2.2.2.1 p.2.2.2.2 := by
  kernel_rfl
theorem impl_CountPlans_ok (k : Nat) : EntOK Try.prog tab mvs (impl_CountPlans_e k) :=
  fn_ok (C := impl_CountPlans_C k) tabOK eqTabOK (impl_CountPlans_es k) rfl follows Try.func12 (by kernel_rfl) (by kernel_rfl) rfl (forall_getD _ 0 (0, Code.skip) (by kernel_rfl) fun i hi => by
      omega)
    dec_enc_iiili dec_enc_ii (impl_CountPlans_run k)

def laws_eqWeather_C (k : Nat) : Cfg := ⟨tab, mvs, oraOf [], loOf []⟩
theorem laws_eqWeather_es (k : Nat) : ∀ e ∈ ([] : List Ent), EntOK Try.prog tab mvs e := by
  intro e he
  simp at he
def laws_eqWeather_e (k : Nat) : Ent := (52, callOf [.agg 84, .agg 84] dec_ll fun (p : (List Int) × (List Int)) R K => (laws_eqWeather k p.1 p.2).bind fun (b : Bool) => K ((fV (.bool) (enc_b b)).1, none))
theorem laws_eqWeather_run (k : Nat) (p : (List Int) × (List Int)) : runF (laws_eqWeather_C k) Try.f52 false (fL [.agg 84, .agg 84] (enc_ll p)).1 (resK (.bool) dec_b) = laws_eqWeather k p.1 p.2 := by
  kernel_rfl
theorem laws_eqWeather_ok (k : Nat) : EntOK Try.prog tab mvs (laws_eqWeather_e k) :=
  fn_ok (C := laws_eqWeather_C k) tabOK eqTabOK (laws_eqWeather_es k) rfl follows Try.func52 (by kernel_rfl) (by kernel_rfl) rfl (forall_getD _ 0 (0, Code.skip) (by kernel_rfl) fun i hi => by
      omega)
    dec_enc_ll dec_enc_b (laws_eqWeather_run k)

def dec_lli (ps : List Pay) : Option ((List Int) × (List Int) × Int) := match ps with
  | [.l x1, .l x2, .i x3] => some (x1, x2, x3)
  | _ => none
def enc_lli (p : (List Int) × (List Int) × Int) : List Pay := [.l p.1, .l p.2.1, .i p.2.2]
theorem dec_enc_lli : ∀ (ps : List Pay) (p : (List Int) × (List Int) × Int), dec_lli ps = some p → ps = enc_lli p := by
  intro ps p h
  unfold dec_lli at h
  split at h
  · injection h with h
    subst h
    rfl
  · cases h

def laws_eqWeatherS_t0 : StTm := ⟨27, [(0, .slv 84), (1, .slv 84), (5, .int .i64)], []⟩
def laws_eqWeatherS_t0_1 : StTm := ⟨27, [(4, .bool)], []⟩
def laws_eqWeatherS_t0_2 : StTm := ⟨27, [], []⟩
def laws_eqWeatherS_w0 (k : Nat) (R : Type) (K : Ex → St → Option R) (rec : (List Int) × (List Int) × Int → Option R) (p : (List Int) × (List Int) × Int) : Option R := laws_eqWeatherS_s0 k (fun y1 => K .ret (fSt laws_eqWeatherS_t0_1 [.b y1])) (K (.exit 0) (fSt laws_eqWeatherS_t0_2 [])) (fun h1 h2 h3 => rec (h1, h2, h3)) p.1 p.2.1 p.2.2
def laws_eqWeatherS_c0 (k : Nat) : Lcall := lcallOf tab laws_eqWeatherS_t0 dec_lli [0, 1, 5] k (laws_eqWeatherS_w0 k)
def laws_eqWeatherS_C (k : Nat) : Cfg := ⟨tab, mvs, oraOf [laws_eqWeather_e k], loOf [(0, laws_eqWeatherS_c0 k)]⟩
theorem laws_eqWeatherS_es (k : Nat) : ∀ e ∈ ([laws_eqWeather_e k] : List Ent), EntOK Try.prog tab mvs e := by
  intro e he
  simp only [List.mem_cons, List.not_mem_nil, or_false] at he
  rcases he with rfl
  · exact laws_eqWeather_ok k
theorem laws_eqWeatherS_step0 (k : Nat) (R : Type) (K : Ex → St → Option R) (g : St → Option R) (p : (List Int) × (List Int) × Int) : evCode (laws_eqWeatherS_C k) (loopP [0] (0, codeOf Try.f13)).2 (loopP [0] (0, codeOf Try.f13)).1 (fSt laws_eqWeatherS_t0 (enc_lli p)) (loopK tab [0, 1, 5] [] [4] g K) = laws_eqWeatherS_w0 k R K (fun p => g (fSt laws_eqWeatherS_t0 (enc_lli p))) p := by
  kernel_rfl
theorem laws_eqWeatherS_lok0 (k : Nat) : LoopOK Try.prog tab (laws_eqWeatherS_C k).lo (loopP [0] (0, codeOf Try.f13)).1 (loopP [0] (0, codeOf Try.f13)).2 :=
  loopOK_of (C := laws_eqWeatherS_C k) tabOK eqTabOK (oraOf_ok (laws_eqWeatherS_es k)) (oraOf_nat (laws_eqWeatherS_es k)) follows (forall_getD _ 0 (0, Code.skip) (by kernel_rfl) fun i hi => by
      omega)
    (tm := laws_eqWeatherS_t0) (dec := dec_lli) (enc := enc_lli) (ksIn := [0, 1, 5]) (ksOut := []) (ksRet := [4]) (k := k) (step := laws_eqWeatherS_w0 k) dec_enc_lli (fun p => by kernel_rfl) (fun s R K => by kernel_rfl) (laws_eqWeatherS_step0 k)
def laws_eqWeatherS_e (k : Nat) : Ent := (13, callOf [.slv 84, .slv 84] dec_ll fun (p : (List Int) × (List Int)) R K => (laws_eqWeatherS k p.1 p.2).bind fun (b : Bool) => K ((fV (.bool) (enc_b b)).1, none))
theorem laws_eqWeatherS_run (k : Nat) (p : (List Int) × (List Int)) : runF (laws_eqWeatherS_C k) Try.f13 false (fL [.slv 84, .slv 84] (enc_ll p)).1 (resK (.bool) dec_b) = laws_eqWeatherS k p.1 p.2 := by
  kernel_rfl
theorem laws_eqWeatherS_ok (k : Nat) : EntOK Try.prog tab mvs (laws_eqWeatherS_e k) :=
  fn_ok (C := laws_eqWeatherS_C k) tabOK eqTabOK (laws_eqWeatherS_es k) rfl follows Try.func13 (by kernel_rfl) (by kernel_rfl) rfl (forall_getD _ 1 (0, Code.skip) (by kernel_rfl) fun i hi => by
      match i, hi with
      | 0, _ => exact laws_eqWeatherS_lok0 k
      | n + 1, h => omega)
    dec_enc_ll dec_enc_b (laws_eqWeatherS_run k)

def laws_FnExactCountPlans_C (k : Nat) : Cfg := ⟨tab, mvs, oraOf [laws_szWeatherS_e k, laws_toWeatherS_e k, spec_CountPlans_e k, impl_CountPlans_e k, laws_eqWeatherS_e k], loOf []⟩
theorem laws_FnExactCountPlans_es (k : Nat) : ∀ e ∈ ([laws_szWeatherS_e k, laws_toWeatherS_e k, spec_CountPlans_e k, impl_CountPlans_e k, laws_eqWeatherS_e k] : List Ent), EntOK Try.prog tab mvs e := by
  intro e he
  simp only [List.mem_cons, List.not_mem_nil, or_false] at he
  rcases he with rfl | rfl | rfl | rfl | rfl
  · exact laws_szWeatherS_ok k
  · exact laws_toWeatherS_ok k
  · exact spec_CountPlans_ok k
  · exact impl_CountPlans_ok k
  · exact laws_eqWeatherS_ok k
def laws_FnExactCountPlans_e (k : Nat) : Ent := (3, callOf [.int .i64, .int .i64, .int .i64, .slv 87, .int .i64] dec_iiili fun (p : Int × Int × Int × (List Int) × Int) R K => (laws_FnExactCountPlans k p.1 p.2.1 p.2.2.1 p.2.2.2.1 p.2.2.2.2).bind fun (b : Bool) => K ((fV (.bool) (enc_b b)).1, none))
theorem laws_FnExactCountPlans_run (k : Nat) (p : Int × Int × Int × (List Int) × Int) : runF (laws_FnExactCountPlans_C k) Try.f3 false (fL [.int .i64, .int .i64, .int .i64, .slv 87, .int .i64] (enc_iiili p)).1 (resK (.bool) dec_b) = laws_FnExactCountPlans k p.1 p.2.1 p.2.2.1 p.2.2.2.1 p.2.2.2.2 := by
  kernel_rfl
theorem laws_FnExactCountPlans_ok (k : Nat) : EntOK Try.prog tab mvs (laws_FnExactCountPlans_e k) :=
  fn_ok (C := laws_FnExactCountPlans_C k) tabOK eqTabOK (laws_FnExactCountPlans_es k) rfl follows Try.func3 (by kernel_rfl) (by kernel_rfl) rfl (forall_getD _ 0 (0, Code.skip) (by kernel_rfl) fun i hi => by
      omega)
    dec_enc_iiili dec_enc_b (laws_FnExactCountPlans_run k)




end Go.Proofs.Ytkdpdmfkomnalaa.Tt
